/-
  Part ZO of what Lawru stands on: printed by program, names and spaces cut.
-/
import Derived.Test.YtedbmmfebjfibaaGreatZN
open Nat renaming reduceEqDiff→AI,reduceLT→AT,reduceAdd→By,le_refl→IN,zero_add→sh,succ→vD,lt_or_ge→vd,zero_le→vi,mul→vr,le_trans→vw,eq_zero_or_pos→vy,mul_comm→wj,add_zero→xM,min_le_right→xS,mul_one→xd,zero_mul→yd,succ_mul→zM,min_le_left→zW,mul_zero→ABw,one_pos→AC1,le_min→ADF
open Go renaming Value→BY,World→vt
open List renaming length_append→IT,length_map→If,getElem?_eq_getElem→No,getD_eq_getElem?_getD→OF,mem_cons_self→vG,mem_cons_of_mem→vH,length_cons→vI,replicate→vL,mem_singleton→vM,mem_of_getElem?→vN,getElem?_append_left→vP,append_nil→vR,mem_cons→vS,mem_append_right→vV,getElem?_eq_some_iff→vW,append_assoc→vX,mem_append→va,getElem?_append_right→ve,mem_append_left→vk,length_take→vp,mem_map→vu,eq_nil_of_length_eq_zero→vz,map_append→v8,length_nil→wB,length_drop→wG,getElem?_map→wN,drop_eq_getElem_cons→wY,mem_range→w9,take_append_drop→xA,reverse_append→xY,filter_cons_of_pos→xZ,filter_cons_of_neg→xa,reverse_perm→xh,nodup_cons→xn,length_filter_le→yJ,nodup_append→yL,drop_length_add_append→yM,reverse_reverse→yP,map_cons→yZ,flatten_cons→yh,find?_eq_none→yk,perm_middle→yw,getElem_mem→zJ,length→zY,length_reverse→zm,map_set→zt,reverse_cons→AAK,foldl_append→AAM,getElem?_replicate→AAm,perm_append_comm→AA9,mem_nil_iff→ABj,mem_flatMap→ABk,filter_nil→AB0,take_left→AB9
open Bool renaming and_eq_true→vT
open Int renaming sub→wA,ofNat→wC,toNat_of_nonneg→zZ
open Go.Value renaming int→wb,slice→AAD
open Go.MemPlace renaming cell→yW
open List.Pairwise renaming sublist→AAx
open Go.DataW renaming trod→AAz
open List.Perm renaming trans→ABC
set_option linter.unusedVariables false
set_option linter.unusedSimpArgs false
namespace Go.Proofs.YtedbmmfebjfibaaGreat
noncomputable section
open Go
set_option maxRecDepth 100000
def Og(x:Nat):List Nat→List Nat
 |[]=>[x]
 |y::r=>if x<y then y::Og x r else x::y::r
def M9(A:List Nat)(x:Nat):List Nat:=(Og x A.reverse).reverse
def aV:List Nat→List Nat→List Nat
 |A,[]=>A
 |A,x::B=>aV (M9 A x) B
def EN(l:List Nat):List Nat:=aV (l.take 1) (l.drop 1)
theorem KD(x y:Nat)(r:List Nat):Og x (y::r)=if x<y then y::Og x r else x::y::r:=rfl
theorem Ng(x:Nat):∀ l:List Nat,(Og x l).Perm (x::l)
 |[]=>.refl _
 |y::r=>by
  rw[KD];split
  ·exact((Ng x r).cons y).trans (.swap x y r)
  ·exact .refl _
theorem Nb(A:List Nat)(x:Nat):(M9 A x).Perm (x::A):=by
 unfold M9;exact(xh _).trans ((Ng x _).trans ((xh A).cons x))
theorem N5:∀ (B A:List Nat),(aV A B).Perm (A++B)
 |[],A=>by
  rw[vR];exact .refl _
 |x::B,A=>by
  show(aV (M9 A x) B).Perm _;exact(N5 B _).trans (((Nb A x).append_right B).trans yw.symm)
theorem Gm(l:List Nat):(EN l).Perm l:=by
 unfold EN;have:=N5 (l.drop 1) (l.take 1)
 rwa [xA]at this
theorem Nf{x:Nat}:∀ {R Q:List Nat},(∀ y∈R,x<y)→Og x (R++Q)=R++Og x Q
 |[],Q,_=>rfl
 |y::R,Q,h=>by
  rw[List.cons_append,KD,if_pos (h y vG),Nf fun z hz=>h z (vH _ hz)];rfl
theorem UW{x:Nat}{P Q:List Nat}(hQ:∀ y∈Q,x<y)(hP:P=[]∨∃ P' y,P=P'++[y]∧¬ x<y):M9 (P++Q) x=P++x::Q:=by
 unfold M9;rw[xY,Nf fun y hy=>hQ y (List.mem_reverse.1 hy)];have e:Og x P.reverse=x::P.reverse:=by
  rcases hP with rfl|⟨P',y,rfl,hy⟩
  ·rfl
  ·rw[xY]
   show Og x (y::P'.reverse)=_;rw[KD,if_neg hy];rfl
 rw[e,xY,AAK,yP,yP,vX];rfl
def iv(l:List Nat):List BY:=ints .i64 (l.map wC)
theorem DW(l:List Nat):(iv l).length=l.length:=by unfold iv ints;rw[If,If]
theorem hJ{l:List Nat}{j x:Nat}(h:l[j]? =some x):(iv l)[j]? =some (.int .i64 (x:Int)):=by
 unfold iv ints;rw[wN,wN,h];rfl
theorem fU{L:List BY}{j:Nat}{v:BY}(hj:j<L.length):over L j [v]=L.set j v:=by
 unfold over;rw[List.set_eq_take_append_cons_drop,if_pos hj,vX];rfl
theorem mc{l:List Nat}{j x:Nat}:(iv l).set j (.int .i64 (x:Int))=iv (l.set j x):=by
 unfold iv ints;rw[zt,zt];rfl
section
variable {F:ADS}{e:Env}{h h':Hp}{S:Nat→Prop}{bl el n c m:Nat}{l:List Nat}{Z:List BY}
theorem LL(R:h.Row bl el (iv l++Z)){j x:Nat}(hj:l[j]? =some x):ADW ⟨bl,j,none⟩ h=.ok (.int .i64 (x:Int)) h:=by
 have hl:=(vW.1 hj).1;rw[R.ADW (off:=j) (by rw[IT,DW];omega),OF,vP (by rw[DW];exact hl),hJ hj];rfl
theorem Oj{j:Nat}(hj:j<n):AEP 1 (.slice (some ⟨bl,0,none⟩) n c) (.int .i64 (j:Int)) h=.ok (.pointer (some ⟨bl,j,none⟩)) h:=by
 have:=DD (h:=h) (n:=n) (c:=c) (es:=1) (b:=bl) (off:=0) (i:=j) (k:=.i64) hj
 rwa [sh,xd]at this
theorem Yv(W:h.Wf)(R:h.Row bl el (iv l++Z))(ADg:256≤bl){j:Nat}(hj:j<l.length)(x:Nat):
  ∃ h',(∀ (F:ADS) (e:Env) (g g':O),g e=.pointer (some ⟨bl,j,none⟩)→g' e=.int .i64 (x:Int)→Al .free (Au 1 g g') F e h=.ok ADV h')∧Fx (fun b=>b=bl) h h'∧h'.Row bl el (iv (l.set j x)++Z)∧h'.next=h.next∧h'.mark=h.mark:=by
 have Rq:h.quiet.Row bl el (iv l++Z):=R.same rfl;have AHX:j+[wb .i64 (x:Int)].length≤(iv l).length:=by rw[DW];exact hj
 have hoo:j+[wb .i64 (x:Int)].length≤(iv l++Z).length:=by rw[IT];omega
 have st:=Rq.ADl (n:=1) (off:=j) (v:=.int .i64 (x:Int)) W.quiet ADg rfl (by rw[Dc];exact hoo) rfl;rw[Dc]at st;have wr:=Rq.ADm W.quiet hoo;rw[Nt AHX,fU (by rw[DW];exact hj),mc]at wr;have fx:=Fx.wr (S:=fun b=>b=bl) W.quiet Rq hoo rfl;have wn:=Rq.AD9 hoo;generalize h.quiet.wr bl j [wb .i64 (x:Int)]=q at st wr fx wn;exact⟨h.back q,fun F e g g' e1 e2=>BQ (by rw[Aa,e1,e2];exact st),(fx.from (h:=h) rfl rfl).same rfl rfl,wr.same rfl,wn,rfl⟩
theorem dp{x y:Nat}:call AD (m+2) 125 [.int .i64 (x:Int),.int .i64 (y:Int)] h=.ok (.bool (decide (x<y))) h:=by
 have n1:∀ z:Int,call AD (m+1) 107 [.int .i64 z] h=.ok (.bool false) h:=fun z=>by
  have c1:iNe z z=false:=CV rfl;rw[Tm rfl];unfold X6;simp only[iN,By,sT,AT,AI,reduceIte,AM,AK,c1,lV0]
 have c2:iLt (x:Int) (y:Int)=decide (x<y):=by
  rw[Cs];by_cases hxy:x<y
  ·rw[decide_eq_true hxy,decide_eq_true (by omega)]
  ·rw[decide_eq_false hxy,decide_eq_false (by omega)]
 rw[cB rfl];unfold cY;simp only[iN,By,sT,AT,AI,reduceIte,gD,cA0,n1,AM,AK,c2,lV0]
theorem Sw:nnB=ZG:=rfl
theorem ZH:noB=eC:=rfl
theorem cX:cW=X8:=rfl
theorem TR{i:Nat}{g:Hp}(hi:i≤1000000):Fc wA .i64 (.int .i64 ((i+1:Nat):Int)) (.int .i64 1) g=.ok (.int .i64 (i:Int)) g:=by
 have:wA ((i+1:Nat):Int) 1=(i:Int):=by
  show((i+1:Nat):Int) - 1=_;omega
 rw[CZ,this,BW (by omega)]
theorem aZ(W:h.Wf){P R:List Nat}{x y:Nat}(hl0:l=P++y::x::R)(Rw:h.Row bl el (iv l++Z))(ADg:256≤bl)(hn:n=l.length)(hl:l.length≤100000)
  (s0:AB 0 e=.slice (some ⟨bl,0,none⟩) n c)(s7:AB 7 e=.int .i64 ((P.length+1:Nat):Int)):
  ∃ e' h',nwB F e h=.norm e' h'∧Fx (fun b=>b=bl) h h'∧h'.Row bl el (iv (P++x::y::R)++Z)∧∀ j,j=0∨j=1∨j=2∨j=6∨j=7→AB j e'=AB j e:=by
 have lk:l.length=P.length+1+1+R.length:=by rw[hl0,IT,vI,vI];omega
 have Rm:h.marked.Row bl el (iv l++Z):=Rw.same rfl;have ld:=LL Rm (j:=P.length+1) (x:=x) (by rw[hl0];exact JQ);have ldy:=LL Rm (j:=P.length) (x:=y) (by rw[hl0];exact Fs);have ix:=fun g:Hp=>Oj (h:=g) (bl:=bl) (n:=n) (c:=c) (j:=P.length+1) (by omega)
 have iy:=fun g:Hp=>Oj (h:=g) (bl:=bl) (n:=n) (c:=c) (j:=P.length) (by omega)
 have a1:=fun g:Hp=>TR (g:=g) (i:=P.length) (by omega)
 obtain⟨h1,q1,f1,R1,n1,mk1⟩:=Yv (j:=P.length+1) W.marked Rm ADg (by omega) y;have e1:l.set (P.length+1) y=P++y::y::R:=by
  rw[hl0,show P++y::x::R=(P++[y])++x::R by simp,show P.length+1=(P++[y]).length by simp,Jd];simp
 rw[e1]at R1;obtain⟨h2,q2,f2,R2,n2,mk2⟩:=Yv (j:=P.length) f1.wf R1 ADg (by rw[IT];simp) x;rw[Jd]at R2;have fm:Fx (fun b=>b=bl) h h1:=f1.from (h:=h) rfl rfl;have q1':∀ (F:ADS) (e:Env),AB 47 e=.pointer (some ⟨bl,P.length+1,none⟩)→AB 42 e=.int .i64 (y:Int)→Al .free (Au 1 (AB 47) (AB 42)) F e h.marked=.ok ADV h1:=fun F e a b=>q1 F e _ _ a b
 have q2':∀ (F:ADS) (e:Env),AB 48 e=.pointer (some ⟨bl,P.length,none⟩)→AB 46 e=.int .i64 (x:Int)→Al .free (Au 1 (AB 48) (AB 46)) F e h1=.ok ADV h2:=fun F e a b=>q2 F e _ _ a b
 have hrun:∃ e',nwB F e h=.norm e' h2∧∀ j,j=0∨j=1∨j=2∨j=6∨j=7→AB j e'=AB j e:=by
  unfold nwB;simp only[sT,AT,AI,reduceIte,A3,Br,s7,a1,A1,s0,iy,AN,AQ,ldy,ix,ld,q1',q2'];refine⟨_,rfl,fun j hj=>?_⟩;rcases hj with rfl|rfl|rfl|rfl|rfl<;>simp only[AF,AT,AI,reduceIte]
 obtain⟨e',r1,r2⟩:=hrun;exact⟨e',h2,r1,fm.trans f2,R2,r2⟩
theorem V8(W:h.Wf){A B:List Nat}{x:Nat}(Rw:h.Row bl el (iv (A++x::B)++Z))(ADg:256≤bl)(hn:n=(A++x::B).length)(hl:n≤1000)
  (s0:AB 0 e=.slice (some ⟨bl,0,none⟩) n c)(s1:AB 1 e=.int .i64 0)(s7:AB 7 e=.int .i64 (A.length:Int)):
  ∃ e' h',Ay nnB (call AD (m+3)) e h=.exit 2 e' h'∧Fx (fun b=>b=bl) h h'∧h'.Row bl el (iv (M9 A x++B)++Z)∧∀ j,j=0∨j=1∨j=2∨j=6→AB j e'=AB j e:=by
 have hln:(A++x::B).length=A.length+1+B.length:=by rw[IT,vI];omega
 refine BU (I:=fun i e' g=>∃ P Q,A=P++Q∧P.length+i=A.length∧Fx (fun b=>b=bl) h g∧g.Row bl el (iv (P++x::(Q++B))++Z)∧(∀ y∈Q,x<y)∧AB 7 e'=.int .i64 (P.length:Int)∧∀ j,j=0∨j=1∨j=2∨j=6→AB j e'=AB j e)
  (Q:=fun r=>∃ e' h',r=.exit 2 e' h'∧Fx (fun b=>b=bl) h h'∧h'.Row bl el (iv (M9 A x++B)++Z)∧∀ j,j=0∨j=1∨j=2∨j=6→AB j e'=AB j e) (A.length+1) (by omega) (fun i e' g ⟨P,Q,hA,hP,fx,R,hQ,t7,ts⟩=>?_) ⟨A,[],by rw[vR],rfl,.refl W,Rw,fun y hy=>(by cases hy),s7,fun _ _=>rfl⟩
 have W':=fx.wf;have t0:=(ts 0 (by omega)).trans s0;have t1:=(ts 1 (by omega)).trans s1;rcases VC P with rfl|⟨P',y,rfl⟩
 ·right
  have c1:iGt ((([]:List Nat).length:Nat):Int) 0=false:=Eq (by decide);have hrun:∃ e2,nnB (call AD (m+3)) e' g=.exit 2 e2 g.marked∧∀ j,j=0∨j=1∨j=2∨j=6→AB j e2=AB j e':=by
   rw[Sw];unfold ZG;simp only[sT,AT,AI,reduceIte,gD,A3,AM,AK,t7,t1,c1];refine⟨_,rfl,fun j hj=>?_⟩;rcases hj with rfl|rfl|rfl|rfl<;>simp only[AF,AT,AI,reduceIte]
  obtain⟨e2,r1,r2⟩:=hrun;rw[r1];refine⟨rfl,e2,_,rfl,fx.same rfl rfl,?_,fun j hj=>(r2 j hj).trans (ts j hj)⟩;have:=UW (x:=x) (P:=[]) (Q:=Q) hQ (.inl rfl);rw[hA,this];have e5:([]++x::Q)++B=[]++x::(Q++B):=rfl;rw[e5];exact R.same rfl
 ·have lP:(P'++[y]).length=P'.length+1:=by simp
  rw[lP]at hP t7;have lA:A.length=P'.length+1+Q.length:=by rw[hA,IT,lP]
  have eR:(P'++[y])++x::(Q++B)=P'++y::x::(Q++B):=by simp
  rw[eR]at R;have lL:(P'++y::x::(Q++B)).length=n:=by
   rw[hn,hln,lA];simp only[IT,vI];omega
  have Rm:g.marked.Row bl el (iv (P'++y::x::(Q++B))++Z):=R.same rfl;have ld:=LL Rm (j:=P'.length+1) (x:=x) JQ;have ldy:=LL Rm (j:=P'.length) (x:=y) Fs;have ix:=fun g:Hp=>Oj (h:=g) (bl:=bl) (n:=n) (c:=c) (j:=P'.length+1) (by omega)
  have iy:=fun g:Hp=>Oj (h:=g) (bl:=bl) (n:=n) (c:=c) (j:=P'.length) (by omega)
  have c1:iGt ((P'.length+1:Nat):Int) 0=true:=FM (by omega);have a1:=fun g:Hp=>TR (g:=g) (i:=P'.length) (by omega)
  have k2:=dp (m:=m+1) (h:=g.marked.quiet) (x:=x) (y:=y);have q2:∀ e:Env,AB 23 e=.int .i64 (x:Int)→AB 28 e=.int .i64 (y:Int)→Al .free (AU 125 [AB 23,AB 28]) (call AD (m+3)) e g.marked=.ok (.bool (decide (x<y))) (g.marked.back g.marked.quiet):=fun e e1 e2=>by
   refine BQ ?_;rw[BV,AW,AW,Az,e1,e2];exact k2
  have y2:g.Ext (g.marked.back g.marked.quiet):=(Hp.Ext.refl W').marked.trans (.back (.refl W'.marked.quiet));generalize g.marked.back g.marked.quiet=h3 at q2 y2;have R3:=R.ext W' y2;by_cases hc:x<y
  ·left
   rw[decide_eq_true hc]at q2;have sw:∀ e2:Env,AB 0 e2=.slice (some ⟨bl,0,none⟩) n c→AB 7 e2=.int .i64 ((P'.length+1:Nat):Int)→∃ e3 h4,nwB (call AD (m+3)) e2 h3=.norm e3 h4∧Fx (fun b=>b=bl) h3 h4∧h4.Row bl el (iv (P'++x::y::(Q++B))++Z)∧∀ j,j=0∨j=1∨j=2∨j=6∨j=7→AB j e3=AB j e2:=fun e2 a b=>aZ y2.wf rfl R3 ADg lL.symm (by omega) a b
   have hrun:∃ e3 h4,nnB (call AD (m+3)) e' g=.norm e3 h4∧Fx (fun b=>b=bl) h3 h4∧h4.Row bl el (iv (P'++x::y::(Q++B))++Z)∧AB 7 e3=.int .i64 (P'.length:Int)∧∀ j,j=0∨j=1∨j=2∨j=6→AB j e3=AB j e':=by
    rw[Sw];unfold ZG;simp only[sT,AT,AI,reduceIte,gD,A3,AM,AK,t7,t1,c1,t0,A1,ix,AN,AQ,ld,Br,a1,iy,ldy,q2,BE,Ax];obtain⟨e3,h4,r1,f4,R4,r2⟩:=sw (Env.set 30 (.bool true) (Env.set 29 (.bool true) (Env.set 28 (.int .i64 (y:Int)) (Env.set 27 (.pointer (some ⟨bl,P'.length,none⟩)) (Env.set 26 (.int .i64 (P'.length:Int)) (Env.set 25 (.int .i64 ((P'.length+1:Nat):Int)) (Env.set 24 (.slice (some ⟨bl,0,none⟩) n c) (Env.set 23 (.int .i64 (x:Int)) (Env.set 22 (.pointer (some ⟨bl,P'.length+1,none⟩)) (Env.set 21 (.int .i64 ((P'.length+1:Nat):Int)) (Env.set 20 (.slice (some ⟨bl,0,none⟩) n c) (Env.set 18 (.bool true) e')))))))))))) (by simp[AF,t0]) (by simp[AF,t7]);have u7:AB 7 e3=.int .i64 ((P'.length+1:Nat):Int):=(r2 7 (by omega)).trans (by simp[AF,t7]);rw[r1];simp only[DR,BA,sT,AT,AI,reduceIte,Br,u7,a1];refine⟨_,_,rfl,f4,R4,by simp[AF],fun j hj=>?_⟩;have:=r2 j (by omega);rcases hj with rfl|rfl|rfl|rfl<;>simp only[AF,AT,AI,reduceIte]at this ⊢<;>exact this
   obtain⟨e3,h4,r1,f4,R4,r7,r2⟩:=hrun;refine⟨by omega,e3,h4,r1,P',y::Q,by rw[hA];simp,by omega,(fx.trans (.of y2)).trans f4,R4,fun z hz=>?_,r7,fun j hj=>(r2 j hj).trans (ts j hj)⟩;rcases vS.1 hz with rfl|hz
   ·exact hc
   ·exact hQ z hz
  ·right
   rw[decide_eq_false hc]at q2;have hrun:∃ e3,nnB (call AD (m+3)) e' g=.exit 2 e3 h3∧∀ j,j=0∨j=1∨j=2∨j=6→AB j e3=AB j e':=by
    rw[Sw];unfold ZG;simp only[sT,AT,AI,reduceIte,gD,A3,AM,AK,t7,t1,c1,t0,A1,ix,AN,AQ,ld,Br,a1,iy,ldy,q2];refine⟨_,rfl,fun j hj=>?_⟩;rcases hj with rfl|rfl|rfl|rfl<;>simp only[AF,AT,AI,reduceIte]
   obtain⟨e3,r1,r2⟩:=hrun;rw[r1];refine⟨rfl,e3,h3,rfl,fx.trans (.of y2),?_,fun j hj=>(r2 j hj).trans (ts j hj)⟩;rw[hA,UW hQ (.inr ⟨P',y,rfl,hc⟩),vX,vX];exact R3
theorem Wn(W:h.Wf){l:List Nat}(Rw:h.Row bl el (iv l++Z))(ADg:256≤bl)(hn:n=l.length)(hl:n≤1000):
  ∃ h',call AD (m+4) 119 [.slice (some ⟨bl,0,none⟩) n c,.int .i64 0,.int .i64 (n:Int)] h=.ok ADV h'∧Fx (fun b=>b=bl) h h'∧h'.Row bl el (iv (EN l)++Z):=by
 have run:∀ e1:Env,AB 0 e1=.slice (some ⟨bl,0,none⟩) n c→AB 1 e1=.int .i64 0→AB 2 e1=.int .i64 (n:Int)→AB 6 e1=.int .i64 ((1:Nat):Int)→∃ e' h',Ay noB (call AD (m+3)) e1 h=.exit 0 e' h'∧Fx (fun b=>b=bl) h h'∧h'.Row bl el (iv (EN l)++Z):=fun e1 s0 s1 s2 s6=>by
  refine BU (I:=fun i e' g=>∃ A B,A.length+B.length=l.length∧(A.length=i+1∨(B=[]∧A.length≤i+1))∧aV A B=EN l∧Fx (fun b=>b=bl) h g∧g.Row bl el (iv (A++B)++Z)∧AB 0 e'=.slice (some ⟨bl,0,none⟩) n c∧AB 1 e'=.int .i64 0∧AB 2 e'=.int .i64 (n:Int)∧AB 6 e'=.int .i64 ((i+1:Nat):Int))
   (Q:=fun x=>∃ e' h',x=.exit 0 e' h'∧Fx (fun b=>b=bl) h h'∧h'.Row bl el (iv (EN l)++Z)) n (by omega) (fun i e' g ⟨A,B,hAB,hAi,hsr,fx,R,t0,t1,t2,t6⟩=>?_) ⟨l.take 1,l.drop 1,by rw[vp,wG];omega,?_,rfl,.refl W,by rw[xA];exact Rw,s0,s1,s2,s6⟩
  ·have W':=fx.wf
   cases B with
   |nil=>
    right;have hA:A.length=n:=by simp only[wB]at hAB;omega
    have c1:iLt ((i+1:Nat):Int) (n:Int)=false:=DE (by omega);have hrun:∃ e3,noB (call AD (m+3)) e' g=.exit 0 e3 g:=by
     rw[ZH];unfold eC;simp only[sT,AT,AI,reduceIte,AM,AK,t6,t2,c1];exact⟨_,rfl⟩
    obtain⟨e3,r1⟩:=hrun;rw[r1];refine⟨rfl,e3,g,rfl,fx,?_⟩;rw[← hsr];rw[vR]at R;exact R
   |cons x B=>
    left;rw[vI]at hAB;have hA:A.length=i+1:=by
     rcases hAi with h1|⟨h1,_⟩
     ·exact h1
     ·cases h1
    have c1:iLt ((i+1:Nat):Int) (n:Int)=true:=Es (by omega);obtain⟨e2,h2,i1,f2,R2,i2⟩:=V8 (m:=m) (e:=Env.set 7 (.int .i64 ((i+1:Nat):Int)) (Env.set 12 (.bool true) e')) W' R ADg (by rw[IT,vI];omega) hl (by simp only[AF,AT,AI,reduceIte];exact t0) (by simp only[AF,AT,AI,reduceIte];exact t1) (by simp only[AF,AT,AI,reduceIte,hA]);have g0:=i2 0 (by omega);have g1:=i2 1 (by omega);have g2:=i2 2 (by omega);have g6:=i2 6 (by omega);simp only[AF,AT,AI,reduceIte,t0]at g0;simp only[AF,AT,AI,reduceIte,t1]at g1;simp only[AF,AT,AI,reduceIte,t2]at g2;simp only[AF,AT,AI,reduceIte,t6]at g6;have a3:FH .i64 (.int .i64 ((i+1:Nat):Int)) (.int .i64 1) h2=.ok (.int .i64 ((i+1+1:Nat):Int)) h2:=CH (by omega);have hrun:∃ e3,noB (call AD (m+3)) e' g=.norm e3 h2∧AB 0 e3=.slice (some ⟨bl,0,none⟩) n c∧AB 1 e3=.int .i64 0∧AB 2 e3=.int .i64 (n:Int)∧AB 6 e3=.int .i64 ((i+1+1:Nat):Int):=by
     rw[ZH];unfold eC;simp only[sT,AT,AI,reduceIte,AM,AK,t6,t2,c1,i1,g6,BF,a3];exact⟨_,rfl,by simp only[AF,AT,AI,reduceIte];exact g0,by simp only[AF,AT,AI,reduceIte];exact g1,by simp only[AF,AT,AI,reduceIte];exact g2,by simp[AF]⟩
    obtain⟨e3,r1,r2,r3,r4,r5⟩:=hrun;have il:(M9 A x).length=A.length+1:=(Nb A x).length_eq;exact⟨by omega,e3,h2,r1,M9 A x,B,by omega,.inl (by omega),hsr,fx.trans f2,R2,r2,r3,r4,r5⟩
  ·cases l with
   |nil=>exact .inr ⟨rfl,vi _⟩
   |cons k l=>exact .inl rfl
 have a1:FH .i64 (.int .i64 0) (.int .i64 1) h=.ok (.int .i64 ((1:Nat):Int)) h:=CH (i:=0) (by omega);obtain⟨e2,h2,r1,x2⟩:=run (Env.set 6 (.int .i64 ((1:Nat):Int)) (Env.set 9 (.int .i64 ((1:Nat):Int)) (AS e0 0 [.slice (some ⟨bl,0,none⟩) n c,.int .i64 0,.int .i64 (n:Int)]))) (by simp only[iN,By,AF,AT,AI,reduceIte]) (by simp only[iN,By,AF,AT,AI,reduceIte]) (by simp only[iN,By,AF,AT,AI,reduceIte]) (by simp[AF]);simp only[iN,By]at r1;refine⟨h2,?_,x2⟩;rw[cA rfl,cX];unfold X8;simp only[iN,By,sT,AT,AI,reduceIte,BF,a1,r1,DX,DV]
theorem cR:cQ=X7:=rfl
theorem mr:npB=mu:=rfl
theorem aT(W:h.Wf){l:List Nat}(Rw:h.Row bl el (iv l++Z))(ADg:256≤bl)(hn:n=l.length)(hl:n≤12):
  ∃ h',call AD (m+6) 82 [.slice (some ⟨bl,0,none⟩) n c] h=.ok ADV h'∧Fx (fun b=>b=bl) h h'∧h'.Row bl el (iv (EN l)++Z):=by
 obtain⟨h2,k2,x2,R2⟩:=Wn (m:=m) (c:=c) W Rw ADg hn (by omega);obtain⟨k,kb⟩:=OL (m:=m+3) (h:=h) (n:=n) (by omega);have cv:DH .u64 (.int .i64 (n:Int)) h=.ok (.int .u64 (n:Int)) h:=by rw[CU,EI (by omega)]
 have a1:Fc wA .i64 (.int .i64 (n:Int)) (.int .i64 0) h=.ok (.int .i64 (n:Int)) h:=by
  have:wA (n:Int) 0=(n:Int):=Int.sub_zero _;rw[CZ,this,BW (by omega)]
 have c1:iLe (n:Int) 12=true:=Kk (by omega);have pd:call AD (m+5) 108 [.slice (some ⟨bl,0,none⟩) n c,.int .i64 0,.int .i64 (n:Int),.int .i64 (k:Int)] h=.ok ADV h2:=by
  have hb:∃ e2,npB (call AD (m+4)) (Env.set 9 (.bool true) (Env.set 8 (.bool true) (AS e0 0 [.slice (some ⟨bl,0,none⟩) n c,.int .i64 0,.int .i64 (n:Int),.int .i64 (k:Int)]))) h=.ret e2 h2:=by
   rw[mr];unfold mu;simp only[iN,By,sT,AT,AI,reduceIte,Br,a1,AM,AK,c1,cA0,k2];exact⟨_,rfl⟩
  obtain⟨e2,r1⟩:=hb;have r1:=MS r1;simp only[iN,By]at r1;rw[bu rfl,cR];unfold X7;simp only[iN,By,sT,AT,AI,reduceIte,r1,Be,DV]
 refine⟨h2,?_,x2,R2⟩;rw[lG rfl];unfold d82;simp only[iN,By,sT,AT,AI,reduceIte,Af,FO,B8,cv,cA0,kb,pd,DX,DV]
end
end
noncomputable section
open Go
set_option maxRecDepth 100000
theorem XH{b n:Nat}:Ey ⟨b,0,none⟩ n=⟨b,n,none⟩:=by
 cases n with
 |zero=>rfl
 |succ m=>
  show(⟨b,0+(m+1),none⟩:Addr)=_;rw[sh]
theorem SR(x:Kt):(AV x).length=6:=rfl
theorem dM{ks:List Kt}(hu:∀ k∈ks,oneCell k.u=true):Bd (flK ks)=true:=by
 induction ks with
 |nil=>rfl
 |cons k l ih=>
  refine O4 fun x hx=>?_
  obtain⟨y,hy,hxy⟩:=ABk.1 hx;have huy:=hu y hy;have hxy:x∈[wb .i64 y.a,.int .i64 y.b,.int .i64 y.c,.int .u8 (y.s:Int),y.u,.int .i64 (y.p:Int)]:=hxy;simp only[vS,ABj,or_false]at hxy;rcases hxy with rfl|rfl|rfl|rfl|rfl|rfl
  all_goals first|exact huy|rfl
section
variable {F:ADS}{e:Env}{h h':Hp}{S:Nat→Prop}{m k n bl:Nat}{v:BY}
theorem FJ{x:O}{d N i:Nat}{K:Nat→R}(hx:x e=.int .i64 (i:Int))(hi:i≤N):Cd e (some x) d N K=K i:=by
 show(match Cz (x e)with|.ok n=>(bif Nat.ble n N then K n else .no)|.no=>.no)=_;rw[hx,Cu];simp only;rw[Ab.2 hi];rfl
theorem Hd{b lo hi c:Nat}(hc:lo<c):Bg (some ⟨b,0,none⟩) 6 lo hi c h=.ok (.slice (some ⟨b,6*lo,none⟩) (hi - lo) (c - lo)) h:=by
 unfold Bg;simp only[AZ];have e1:Nat.beq c lo=false:=by
  cases hb:Nat.beq c lo
  ·rfl
  ·have:=Nat.eq_of_beq_eq_true hb;omega
 rw[e1];simp only;cases lo with
 |zero=>rfl
 |succ i=>
  have e2:vr (i+1) 6=vD (6*i+5):=by
   show(i+1)*6=_;omega
  rw[e2];have e3:Nat.add 0 (vD (6*i+5))=6*(i+1):=by
   show 0+(6*i+5+1)=_;omega
  simp only[e3];rfl
theorem UE{L:List BY}(R:h.Row bl 84 L):En 83 (some ⟨bl,0,none⟩) h=true:=by
 obtain⟨cc,hcc,_⟩:=R.rowOf;unfold En;simp only[hcc];rfl
theorem cM{lo hi c:Nat}{L:List BY}(R:h.Row bl 84 L)(hc:lo<c):D7 83 6 (some ⟨bl,0,none⟩) false lo hi c h=.ok (.slice (some ⟨bl,6*lo,none⟩) (hi - lo) (c - lo)) h:=by
 cases lo with
 |zero=>exact Hd hc
 |succ l=>
  show(bif En 83 (some ⟨bl,0,none⟩) h then Bg (some ⟨bl,0,none⟩) 6 (l+1) hi c h else .no)=_;rw[UE R];exact Hd hc
theorem Vr{P Q:List Kt}{x:Kt}(W:h.Wf)(R:h.Row bl 84 (flK (P++x::Q)))(ADg:256≤bl)(hn:n=(P++x::Q).length)(hl:n≤100000)(hu:∀ k∈P++x::Q,oneCell k.u=true):
  ∃ h',call AD (m+1) 81 [.slice (some ⟨bl,0,none⟩) n n,.int .i64 (P.length:Int),.int .i64 ((P.length+1:Nat):Int)] h=.ok (.slice (some ⟨bl,0,none⟩) (n - 1) n) h'∧Fx (fun b=>b=bl) h h'∧h'.Row bl 84 (flK (P++Q)++AV K0):=by
 have hn':n=P.length+1+Q.length:=by rw[hn,IT,vI];omega
 have lf:(flK (P++x::Q)).length=6*n:=by rw[CI,hn]
 have AJC:∀ (F:ADS) (e:Env),AB 0 e=.slice (some ⟨bl,0,none⟩) n n→AB 1 e=.int .i64 (P.length:Int)→AB 2 e=.int .i64 ((P.length+1:Nat):Int)→AB 12 e=.int .i64 (n:Int)→∃ v,Dp 83 6 (AB 0) (some (AB 1)) (some (AB 2)) (some (AB 12)) F e h=.ok v h:=fun F e e0 e1 e2 e3=>by
  show ∃ v,(match AB 0 e with|.slice a n c=>DG e n c (some (AB 1)) (some (AB 2)) (some (AB 12)) (fun l hh m=>D7 83 6 a true l hh m h)|_=>.no)=.ok v h;rw[e0];show ∃ v,Cd e (some (AB 12)) n n (fun m=>Cd e (some (AB 2)) n m fun hh=>Cd e (some (AB 1)) 0 hh fun l=>D7 83 6 (some ⟨bl,0,none⟩) true l hh m h)=.ok v h;rw[FJ e3 (IN _),FJ e2 (by omega),FJ e1 (by omega)];exact⟨_,Hd (by omega)⟩
 have AJD:∀ (F:ADS) (e:Env) (h:Hp),AB 0 e=.slice (some ⟨bl,0,none⟩) n n→AB 1 e=.int .i64 (P.length:Int)→Dp 83 6 (AB 0) none (some (AB 1)) none F e h=.ok (.slice (some ⟨bl,0,none⟩) P.length n) h:=fun F e h e0 e1=>by
  show(match AB 0 e with|.slice a n c=>DG e n c none (some (AB 1)) none (fun l hh m=>D7 83 6 a false l hh m h)|_=>.no)=_;rw[e0];show Cd e (some (AB 1)) n n (fun hh=>D7 83 6 (some ⟨bl,0,none⟩) false 0 hh n h)=_;rw[FJ e1 (by omega)];exact Hd (lo:=0) (by omega)
 have xm:=(Hp.Ext.refl W).marked;have Rm:h.marked.Row bl 84 (flK (P++x::Q)):=R.same rfl;have Rq:h.marked.quiet.Row bl 84 (flK (P++x::Q)):=R.same rfl;have AFY:((flK (P++x::Q)).drop (6*(P.length+1))).take (Q.length*6)=flK Q:=by
  have e1:flK (P++x::Q)=flK (P++[x])++flK Q:=by rw[← JE];simp
  have e2:6*(P.length+1)=(flK (P++[x])).length:=by rw[CI,IT];rfl
  rw[e1,e2,List.drop_left,List.take_of_length_le (by rw[CI];omega)]
 obtain⟨src,AJE,hsrc,hlen⟩:∃ src,(∀ (F:ADS) (e:Env),AB 0 e=.slice (some ⟨bl,0,none⟩) n n→AB 2 e=.int .i64 ((P.length+1:Nat):Int)→Dp 83 6 (AB 0) (some (AB 2)) none none F e h.marked=.ok src h.marked)∧(∀ K:List BY→Go.Proofs.YtedbmmfebjfibaaGreat.R,BH h.marked.quiet 6 src Q.length K=K (flK Q))∧lenV src=.ok Q.length:=by
  have key:∀ (F:ADS) (e:Env),AB 0 e=.slice (some ⟨bl,0,none⟩) n n→AB 2 e=.int .i64 ((P.length+1:Nat):Int)→Dp 83 6 (AB 0) (some (AB 2)) none none F e h.marked=Bg (some ⟨bl,0,none⟩) 6 (P.length+1) n n h.marked:=fun F e e0 e2=>by
   show(match AB 0 e with|.slice a n c=>DG e n c (some (AB 2)) none none (fun l hh m=>D7 83 6 a false l hh m h.marked)|_=>.no)=_;rw[e0];show Cd e (some (AB 2)) 0 n (fun l=>D7 83 6 (some ⟨bl,0,none⟩) false l n n h.marked)=_;rw[FJ e2 (by omega)];show(bif En 83 (some ⟨bl,0,none⟩) h.marked then Bg (some ⟨bl,0,none⟩) 6 (P.length+1) n n h.marked else .no)=_;rw[UE Rm];rfl
  rcases vy Q.length with hq|hq
  ·obtain rfl:Q=[]:=vz hq
   have hnp:n=P.length+1:=by rw[hn'];rfl
   refine⟨.slice (some ⟨bl,0,none⟩) 0 0,fun F e e0 e2=>?_,fun K=>?_,rfl⟩
   ·rw[key F e e0 e2,hnp]
    unfold Bg;simp only[AZ,Nat.beq_refl];have:Nat.sub (P.length+1) (P.length+1)=0:=Nat.sub_self _;rw[this]
   ·have:=Rq.AFi (es:=6) (off:=0) (n:=0) (sl:=0) (c:=0) (k:=K) (by omega)
    exact this
  ·refine⟨.slice (some ⟨bl,6*(P.length+1),none⟩) Q.length Q.length,fun F e e0 e2=>?_,fun K=>?_,rfl⟩
   ·rw[key F e e0 e2,Hd (by omega),show n - (P.length+1)=Q.length by omega]
   ·have:=Rq.AFi (es:=6) (off:=6*(P.length+1)) (n:=Q.length) (sl:=Q.length) (c:=Q.length) (k:=K) (by rw[lf];omega)
    rw[this,AFY]
 have hoQ:Bd (flK Q)=true:=dM fun k hk=>hu k (vV _ (vH _ hk))
 have hoo:6*P.length+(flK Q).length≤(flK (P++x::Q)).length:=by rw[lf,CI];omega
 have ap:DQ 6 64 83 (.slice (some ⟨bl,0,none⟩) P.length n) src h.marked.quiet=.ok (.slice (some ⟨bl,0,none⟩) (n - 1) n) (h.marked.quiet.wr bl (6*P.length) (flK Q)):=by
  unfold DQ Db;simp only[hlen,hsrc,AZ,Nat.add_eq];rw[Ab.2 (show P.length+Q.length≤n by omega)];simp only;have e2:Ey ⟨bl,0,none⟩ (vr P.length 6)=⟨bl,6*P.length,none⟩:=by
   have:vr P.length 6=6*P.length:=wj _ _;rw[this,XH]
  rw[e2,Rq.store xm.wf.quiet ADg hoo hoQ,show P.length+Q.length=n - 1 by omega]
 have wr:=Rq.ADm xm.wf.quiet hoo;have fx:=Fx.wr (S:=fun b=>b=bl) xm.wf.quiet Rq hoo rfl;generalize h.marked.quiet.wr bl (6 * P.length) (flK Q)=q at ap wr fx;obtain⟨Z,hZ,hov⟩:∃ Z:List BY,Z.length=6∧over (flK (P++x::Q)) (6 * P.length) (flK Q)=flK (P++Q)++Z:=by
  refine⟨(flK (x::Q)).drop (6*Q.length),by rw[wG,CI,vI];omega,?_⟩;unfold over;have e1:flK (P++x::Q)=flK P++flK (x::Q):=JE _ _;have e2:6*P.length=(flK P).length:=(CI P).symm;have e3:(flK Q).length=6*Q.length:=CI Q;rw[e3,e1,e2,AB9,yM,JE]
 rw[hov]at wr;have q1:∀ (F:ADS) (e:Env),AB 22 e=.slice (some ⟨bl,0,none⟩) P.length n→AB 25 e=src→Al .free (Bi 6 64 83 (AB 22) (AB 25)) F e h.marked=.ok (.slice (some ⟨bl,0,none⟩) (n - 1) n) (h.marked.back q):=fun F e e1 e2=>by
  refine BQ ?_;rw[BG,e1,e2];exact ap
 have f1:Fx (fun b=>b=bl) h (h.marked.back q):=((fx.from (h:=h.marked) rfl rfl).same (h2:=h.marked.back q) rfl rfl).from (h:=h) rfl rfl;have R1:(h.marked.back q).Row bl 84 (flK (P++Q)++Z):=wr.same rfl;generalize h.marked.back q=h1 at q1 f1 R1;have lPQ:(flK (P++Q)).length=6 * (n - 1):=by rw[CI,IT];omega
 have AJF:∀ (F:ADS) (e:Env),AB 0 e=.slice (some ⟨bl,0,none⟩) (n - 1) n→AB 29 e=.int .i64 ((n - 1:Nat):Int)→AB 7 e=.int .i64 (n:Int)→Dp 83 6 (AB 0) (some (AB 29)) (some (AB 7)) none F e h1=.ok (.slice (some ⟨bl,6*(n - 1),none⟩) 1 1) h1:=fun F e e0 e1 e2=>by
  show(match AB 0 e with|.slice a n c=>DG e n c (some (AB 29)) (some (AB 7)) none (fun l hh m=>D7 83 6 a false l hh m h1)|_=>.no)=_;rw[e0];show Cd e (some (AB 7)) (n - 1) n (fun hh=>Cd e (some (AB 29)) 0 hh fun l=>D7 83 6 (some ⟨bl,0,none⟩) false l hh n h1)=_;rw[FJ e2 (IN _),FJ e1 (by omega),cM R1 (by omega),show n - (n - 1)=1 by omega]
 have AHY:6*(n - 1)+(AV K0).length≤(flK (P++Q)++Z).length:=by rw[IT,lPQ,hZ];exact IN _
 have cl:∀ (F:ADS) (e:Env),AB 31 e=.slice (some ⟨bl,6*(n - 1),none⟩) 1 1→Ma FZ.zero (AB 31) F e h1=.ok ADV (h1.wr bl (6*(n - 1)) (AV K0)):=fun F e e1=>by
  show(match AB 31 e with|.slice none _ _=>Dj h1|.slice (some a) n _=>(match n with| 0=>Dj h1|vD k=>Ci a (BO FZ.zero (vD k)) h1 Dj)|_=>.no)=_;rw[e1];show Ci ⟨bl,6*(n - 1),none⟩ (BO FZ.zero 1) h1 Dj=_;rw[VN,R1.store f1.wf ADg AHY rfl];rfl
 have wr2:=R1.ADm f1.wf AHY;have fx2:=Fx.wr (S:=fun b=>b=bl) f1.wf R1 AHY rfl;have AJG:over (flK (P++Q)++Z) (6*(n - 1)) (AV K0)=flK (P++Q)++AV K0:=by
  unfold over;rw[← lPQ,AB9,yM,SR,List.drop_of_length_le (by omega),vR]
 rw[AJG]at wr2;generalize h1.wr bl (6 * (n - 1)) (AV K0)=h2 at cl wr2 fx2;refine⟨h2,?_,f1.trans fx2,wr2⟩;have c1:iEq (P.length:Int) ((P.length+1:Nat):Int)=false:=DL (by omega);rw[lF rfl];unfold d81;simp only[iN,By,sT,AT,AI,reduceIte,Af,FO];obtain⟨v,hv⟩:=AJC (call AD m) (Env.set 12 (.int .i64 (n:Int)) (Env.set 6 (.slice none 0 0) (Env.set 2 (.int .i64 ((P.length+1:Nat):Int)) (Env.set 1 (.int .i64 (P.length:Int)) (Env.set 0 (.slice (some ⟨bl,0,none⟩) n n) e0))))) (by simp[AF]) (by simp[AF]) (by simp[AF]) (by simp[AF]);rw[hv];simp only[sT,AT,AI,reduceIte,AM,AK,c1,Af,FO,A3,AJD,AJE,q1,AJF,cl,lV0]
end
end
noncomputable section
open Go
set_option maxRecDepth 100000
theorem Fx.xt{S:Nat→Prop}{h h':Hp}(x:Fx S h h')(hs:∀ b,S b→h.next≤b):h.Ext h':=⟨x.next,fun i hi=>x.get i hi fun s=>by have:=hs i s;omega,x.low _ (zW _ _) (xS _ _) fun b hb=>vw (xS _ _) (hs b hb),x.wf⟩
theorem Fx.xtF{S:Nat→Prop}{h0 h h':Hp}(x0:h0.Ext h)(x:Fx S h h')(hs:∀ b,S b→h0.next≤b):h0.Ext h':=Fx.xt (S:=S) ((Fx.of x0).trans x) hs
theorem Yu(a b:List Nat):iv (a++b)=iv a++iv b:=by unfold iv ints;rw[v8,v8]
section
variable {F:ADS}{e:Env}{h h':Hp}{A:At}{T M:List Nat}{c0 bad m k p n bl:Nat}{arm:Int}{fr:List Nat}{v lv fv:BY}
theorem lR{n z:Nat}(W:h.Wf){u:BY}{xs:List Nat}(V:h.ADo u (iv xs))(hl:xs.length≤1000):
  ∃ h1 w h2 b,call AD (n+1) 48 [u] h=.ok w h1∧h.Ext h1∧DQ 1 8 3 w (.slice (some ⟨h1.next,0,none⟩) 1 1) (h1.ADR 0 [.int .i64 (z:Int)])=.ok (.slice (some ⟨b,0,none⟩) (xs.length+1) (xs.length+1)) h2∧h.Ext h2∧h2.Row b 4 (iv (xs++[z]))∧h.next≤b:=by
 have ha:Bd (iv xs)=true:=G7 .i64 _;have fin:∀ (h1:Hp) (w:BY),h.Ext h1→(h1.Own h.next 3 w (iv xs)∨(xs=[]∧∃ b,w=.slice (some ⟨b,0,none⟩) 0 0∧h1.Row b 0 []))→∃ h2 b,DQ 1 8 3 w (.slice (some ⟨h1.next,0,none⟩) 1 1) (h1.ADR 0 [.int .i64 (z:Int)])=.ok (.slice (some ⟨b,0,none⟩) (xs.length+1) (xs.length+1)) h2∧h.Ext h2∧h2.Row b 4 (iv (xs++[z]))∧h.next≤b:=fun h1 w x1 o=>by
  have y2:=(Hp.Ext.refl x1.wf).ADR 0 [wb .i64 (z:Int)];have Rw:=Hp.Row.new x1.wf 0 [wb .i64 (z:Int)];have hlt:h1.next<(h1.ADR 0 [wb .i64 (z:Int)]).next:=Nat.lt_succ_self _;generalize h1.ADR 0 [wb .i64 (z:Int)]=g at y2 Rw hlt;have x2:=x1.trans y2;have Vz:g.ADo (.slice (some ⟨h1.next,0,none⟩) 1 1) [.int .i64 (z:Int)]:=.inr ⟨h1.next,0,1,0,_,rfl,Rw,IN _,rfl⟩;rcases o with o|⟨rfl,b,rfl,r⟩
  ·obtain⟨h2,v',a1,a2,a3,a4,_⟩:=Ec (eb:=8) (en:=3) (k:=h.next) x2 (IN _) (by have:=x1.next;omega) (o.ext x1.wf y2) Vz (AC1) rfl (by rw[DW];show(xs.length+1+1)*9≤_;omega)
   rcases a3 with ⟨_,h2'⟩|⟨b,h1',h2',h3',h4'⟩
   ·have:=congrArg zY h2'
    simp at this
   ·have e1:(iv xs++[wb .i64 (z:Int)]).length=xs.length+1:=by rw[IT,DW];rfl
    rw[e1]at h1';subst h1';exact⟨h2,b,a1,a2,by rw[Yu];exact h2',h3'⟩
  ·have hs:∀ K:List BY→Go.Proofs.YtedbmmfebjfibaaGreat.R,BH g 1 (.slice (some ⟨h1.next,0,none⟩) 1 1) 1 K=K [.int .i64 (z:Int)]:=fun K=>Rw.AFi (es:=1) (off:=0) (n:=1) (IN _)
   obtain⟨h2,a1,a2,a3,a4,_⟩:=ET (eb:=8) (en:=3) x2 (r.ext x1.wf y2) hs rfl rfl (by omega) rfl (by omega);exact⟨h2,g.next,a1,a2,a3,by have:=x2.next;omega⟩
 rcases V with ⟨rfl,hx⟩|⟨b,off,c,el,L,h1,h2,h3,h4⟩
 ·have hx0:xs=[]:=by
   have:=congrArg zY hx;rw[DW]at this;exact vz this
  have ne:∀ e:Env,AB 0 e=.slice none 0 0→oEq TW.k false (AB 0) (kV (.slice none 0 0)) (call AD n) e h=.ok (.bool true) h:=fun e he=>JP (t:=0) VJ he
  have k1:call AD (n+1) 48 [.slice none 0 0] h=.ok ADj h:=by
   rw[Jx rfl];unfold d48;simp only[iN,By,sT,AT,AI,reduceIte,ne,lV0]
  obtain⟨h2,b,q1,q2,q3,q4⟩:=fin h ADj (.refl W) (.inl (.inl ⟨rfl,hx⟩));exact⟨h,ADj,h2,b,k1,.refl W,q1,q2,q3,q4⟩
 ·have V:h.ADo u (iv xs):=.inr ⟨b,off,c,el,L,h1,h2,h3,h4⟩
  have x1:=(Hp.Ext.refl W).ADR 0 [];have R:=Hp.Row.new W 0 [];have es:=fun (e:Env) (t:List BY)=>J3 (F:=call AD n) (e:=e) (t:=t) W
  have n1:(h.ADR 0 []).next=h.next+1:=rfl;generalize h.ADR 0 []=g at x1 R es n1;have ne:∀ e:Env,AB 0 e=u→oEq TW.k false (AB 0) (kV (.slice none 0 0)) (call AD n) e h=.ok (.bool false) h:=fun e he=>JO (t:=0) VJ (he.trans h1)
  have V1:=V.ext W x1;have big:=W.big;rcases vy xs.length with hz|hz
  ·obtain rfl:xs=[]:=vz hz
   have ap:DQ 1 8 3 (.slice (some ⟨h.next,0,none⟩) 0 0) u g=.ok (.slice (some ⟨h.next,0,none⟩) 0 0) (g.wr h.next 0 []):=HU x1.wf big R (fun k=>V1.src rfl k) V1.lenV;have R2:=R.ADm x1.wf (off:=0) (vs:=[]) (IN _);have x2:=R.AD5 x1 (IN _) (off:=0) (vs:=[]) (IN _);have k1:call AD (n+1) 48 [u] h=.ok (.slice (some ⟨h.next,0,none⟩) 0 0) (g.wr h.next 0 []):=by
    rw[Jx rfl];unfold d48;simp only[iN,By,sT,AT,AI,reduceIte,ne,es,BG,ap,lV0]
   obtain⟨h2,b,q1,q2,q3,q4⟩:=fin _ (.slice (some ⟨h.next,0,none⟩) 0 0) x2 (.inr ⟨rfl,h.next,rfl,R2⟩);exact⟨_,_,h2,b,k1,x2,q1,q2,q3,q4⟩
  ·have hlv:=V1.lenV
   rw[DW]at hlv;obtain⟨h2,a1,a2,a3,a4,a5⟩:=ET (eb:=8) (en:=3) (n:=xs.length) x1 R (es:=1) (fun k=>by have:=V1.src rfl k;rwa [DW]at this) hlv (by rw[DW];omega) hz ha (by omega);have k1:call AD (n+1) 48 [u] h=.ok (.slice (some ⟨g.next,0,none⟩) xs.length xs.length) h2:=by
    rw[Jx rfl];unfold d48;simp only[iN,By,sT,AT,AI,reduceIte,ne,es,BG,a1,lV0]
   obtain⟨h3,b,q1,q2,q3,q4⟩:=fin h2 (.slice (some ⟨g.next,0,none⟩) xs.length xs.length) a2 (.inl (.inr ⟨g.next,by rw[DW],a3,by omega,by omega⟩));exact⟨h2,_,h3,b,k1,a2,q1,q2,q3,q4⟩
theorem UN{P Q:List Kt}{x:Kt}(W:h.Wf)(s:Sl h A T M c0 arm (P++x::Q) fr lv fv bad false)(hkl:(P++x::Q).length≤100)(hfl:fr.length≤11)(hp3:3*x.p+3≤A.n):
  ∃ h' lv' fv',call AD (m+7) 52 [pt A.bs,.int .i64 (P.length:Int)] h=.ok (.int .i64 (x.p:Int)) h'∧Fx (fun b=>b=A.bs) h h'∧Sl h' A T M c0 arm (P++Q) (EN (fr++[x.p])) lv' fv' bad false∧∀ b,ADv fv' b→h.next≤b:=by
 have hD:=s.AF5 W;have hu:∀ k∈P++x::Q,oneCell k.u=true:=fun k hk=>(s.ko k hk).1.vs.one.2.1
 obtain⟨_,_,_,l3,_⟩:=A7 s.row;obtain⟨b0,_,ix,_,lde⟩:=s.ls.at (i:=P.length) (k:=x) Fs;have lp:=lde 5 (.int .i64 (x.p:Int)) rfl;obtain⟨h1,w,k1,x1,ko⟩:=To (m:=m+5) W s.ls hu (by omega);obtain⟨bl,hw,Rb,hbl,ADg⟩:∃ bl,w=.slice (some ⟨bl,0,none⟩) (P++x::Q).length (P++x::Q).length∧h1.Row bl 84 (flK (P++x::Q))∧h.next≤bl∧256≤bl:=by
  rcases ko with (⟨_,h2⟩|h2)|⟨h2,_⟩
  ·have:=congrArg zY h2
   simp at this
  ·exact h2
  ·have:=congrArg zY h2
   simp at this
 subst hw;obtain⟨h2,k2,f2,R2⟩:=Vr (m:=m+5) x1.wf Rb ADg rfl (by omega) hu;have x2:h.Ext h2:=Fx.xtF x1 f2 fun b hb=>by rw[hb];exact hbl
 have s2:=s.ext W x2;have nD:∀ b,h.next≤b→¬ A.D b:=fun b hb hd=>by have:=hD b hd;omega
 have nbs:∀ b,¬ A.D b→b≠A.bs:=fun b hb h=>hb (.inl h)
 have lPQ:(P++x::Q).length=(P++Q).length+1:=by simp only[IT,vI];omega
 generalize AHZ:(AAD (some ⟨bl,0,none⟩) ((P++x::Q).length - 1) (P++x::Q).length)=lv' at k2;obtain⟨h3,st3,AGa,n3,f3,_⟩:=DK (v:=lv') x2.wf s2.row (off:=3) (show 3<7 by omega) s.ne.2.2.2.2 (by rw[← AHZ];rfl) (by rw[← AHZ];rfl);have AGa:h3.Row A.bs 0 (slL A.bd A.tb lv' fv bad false):=AGa;have s3:Sl h3 A T M c0 arm (P++Q) fr lv' fv bad false:=s2.bsx x2.wf f3 AGa (by
   rw[← AHZ];exact(PC (n:=(P++x::Q).length - 1) (c:=(P++x::Q).length) (f3.row x2.wf R2 (nbs _ (nD _ hbl))) (by omega) (by omega)).mono fun b hb=>by rw[show b=bl from hb];exact nD _ hbl)
  (fun k hk=>by
   have hk':k∈P++x::Q:=by
    rcases va.1 hk with h1|h1
    ·exact vk _ h1
    ·exact vV _ (vH _ h1)
   exact⟨(s2.ko k hk').1.keep fun b el L hb _ r=>f3.row x2.wf r (nbs b hb),(s2.ko k hk').2⟩)
  (s2.fs.keep fun b el L hb r=>f3.row x2.wf r (nbs b hb)) ⟨by have:=s.le.1;omega,s.le.2⟩
 obtain⟨_,_,_,_,l4,_⟩:=A7 s3.row;obtain⟨h4,w4,h5,b5,k4,x4,a5,x5,R5,hb5⟩:=lR (n:=m+5) (z:=x.p) f3.wf (xs:=fr) s3.fs.vals (by omega);have bs:=fun (F:ADS) (e:Env) (he:AB 5 e=.int .i64 (x.p:Int))=>EV (F:=F) x4.wf he
 have s5:=s3.ext f3.wf x5;generalize AGF:(AAD (some ⟨b5,0,none⟩) (fr.length+1) (fr.length+1))=fv' at a5;obtain⟨h6,st6,AHa,n6,f6,_⟩:=DK (v:=fv') x5.wf s5.row (off:=4) (show 4<7 by omega) s.ne.2.2.2.2 (by rw[← AGF];rfl) (by rw[← AGF];rfl);have AHa:h6.Row A.bs 0 (slL A.bd A.tb lv' fv' bad false):=AHa;have AIE:h.next≤b5:=by have:=x2.next;have:=f3.next;omega
 have nb5:=nD _ AIE;have R6:=f6.row x5.wf R5 (nbs _ nb5);have AHb:256≤b5:=by have:=W.big;omega
 have lfa:(iv (fr++[x.p])).length=fr.length+1:=by rw[DW,IT];rfl
 have hfree:∀ q∈fr++[x.p],3*q+3≤A.n:=fun q hq=>by
  rcases va.1 hq with h1|h1
  ·exact s.le.2.2.2 q h1
  ·rw[vM.1 h1];exact hp3
 have s6:Sl h6 A T M c0 arm (P++Q) (fr++[x.p]) lv' fv' bad false:=s5.bsx x5.wf f6 AHa (s5.ls.keep fun b el L hb r=>f6.row x5.wf r (nbs b hb)) (fun k hk=>⟨(s5.ko k hk).1.keep fun b el L hb _ r=>f6.row x5.wf r (nbs b hb),(s5.ko k hk).2⟩)
  (by
   rw[← AGF];refine .inr ⟨b5,4,?_,R6,.inl rfl,nb5⟩;show _=AAD _ (iv (fr++[x.p])).length (iv (fr++[x.p])).length;rw[lfa]) ⟨s5.le.1,by rw[IT];show fr.length+1≤1000;omega,s5.le.2.2.1,hfree⟩
 obtain⟨_,_,_,_,l46,_⟩:=A7 s6.row;obtain⟨h7,k7,f7,R7⟩:=aT (m:=m) (Z:=[]) (n:=fr.length+1) (c:=fr.length+1) f6.wf (by rw[vR];exact R6) AHb (by rw[IT];rfl) (by omega);rw[vR]at R7;rw[AGF]at k7;have pm:=Gm (fr++[x.p]);have kp:∀ b el L,b≠b5→h6.Row b el L→h7.Row b el L:=fun b el L hb r=>f7.row f6.wf r hb
 have nbb:∀ b el L,(el=0∨el=6∨el=84)→h6.Row b el L→b≠b5:=fun b el L he r=>Dn r R6 (by omega)
 have s7:Sl h7 A T M c0 arm (P++Q) (EN (fr++[x.p])) lv' fv' bad false:=by
  refine⟨kp _ _ _ (nbb _ _ _ (.inl rfl) s6.row) s6.row,s6.dk.fr f6.wf f7 (nbb _ _ _ (.inl rfl) s6.dk.disk) (nbb _ _ _ (.inl rfl) s6.dk.med) (fun h=>(JZ R6 s6.dk.map) h.symm),kp _ _ _ (nbb _ _ _ (.inl rfl) s6.tab) s6.tab,s.tok,?_,fun y hy=>⟨(s6.ko y hy).1.keep fun b el L hb he r=>kp b el L (nbb b el L (by omega) r) r,(s6.ko y hy).2⟩,?_,s.ne,?_⟩
  ·rcases s6.ls with h1|⟨b,c,el,L,q1,q2,q3,q4,q5,q6,q7⟩
   ·exact .inl h1
   ·exact .inr ⟨b,c,el,L,q1,q2,kp _ _ _ (nbb b el _ (by omega) q3) q3,q4,q5,q6,q7⟩
  ·rw[← AGF]
   refine .inr ⟨b5,4,?_,R7,.inl rfl,nb5⟩;show _=AAD _ (iv (EN (fr++[x.p]))).length (iv (EN (fr++[x.p]))).length;rw[DW,pm.length_eq,IT];rfl
  ·exact⟨s6.le.1,by rw[pm.length_eq];exact s6.le.2.1,s6.le.2.2.1,fun q hq=>hfree q (pm.mem_iff.1 hq)⟩
 have fx:Fx (fun b=>b=A.bs) h h7:=by
  have e1:Fx (fun b=>b=A.bs) h h2:=.of x2;have e2:=((e1.trans f3).trans (.of x5)).trans f6;exact e2.fresh f7 AIE
 refine⟨h7,lv',fv',?_,fx,s7,fun b hb=>by
  obtain⟨off,n,c,e1⟩:=hb;rw[← AGF]at e1;injection e1 with e1 _ _
  injection e1 with e1
  injection e1 with e1 _ _
  omega⟩
 have a1:=CH (i:=P.length) (h:=h1) (by have:=lPQ;simp only[IT]at hkl;omega);have k1':call AD (m+6) 49 [lv] h=.ok (.slice (some ⟨bl,0,none⟩) (P++x::Q).length (P++x::Q).length) h1:=k1;have k2':call AD (m+6) 81 [.slice (some ⟨bl,0,none⟩) (P++x::Q).length (P++x::Q).length,.int .i64 (P.length:Int),.int .i64 ((P.length+1:Nat):Int)] h1=.ok lv' h2:=k2;have k4':call AD (m+6) 48 [fv] h3=.ok w4 h4:=k4;have k7':call AD (m+6) 82 [fv'] h6=.ok ADV h7:=k7;rw[kO rfl];unfold d52;simp only[iN,By,sT,AT,AI,reduceIte,Ao,Ae,AJ,AO,sh,AN,AQ,l3,A1,ix,lp,cA0,k1',BF,a1,k2',Aa,st3,l4,k4',bs,BG,a5,st6,l46,k7',lV0]
end
end
noncomputable section
open Go
set_option maxRecDepth 100000
def Iz(ks:List Kt)(a b c:Int):Option Int:=match ks.find? (CN a b c)with
 |some k=>if k.s=2 then some 0 else if Bp a b c ks=true then some 61 else none
 |none=>if Bp a b c ks=true then some 61 else some 60
def elB(a b c:Int)(k:Kt):Bool:=decide (k.a=a) && decide (k.b=b) && decide (k.c<c)
def frE(fr:List Nat)(out:List Kt):List Nat:=out.foldl (fun f x=>EN (f++[x.p])) fr
theorem QC(fr:List Nat)(out:List Kt)(x:Kt):frE fr (out++[x])=EN (frE fr out++[x.p]):=by unfold frE;rw[AAM];rfl
theorem JG:∀ (out:List Kt) (fr:List Nat),(frE fr out).Perm (fr++out.map (·.p))
 |[],fr=>by rw[List.map_nil,vR];exact .refl _
 |x::out,fr=>by
  show(frE (EN (fr++[x.p])) out).Perm _;have:=JG out (EN (fr++[x.p]));refine this.trans (((Gm _).append_right _).trans ?_);rw[vX];exact .refl _
theorem UJ(fr:List Nat)(out:List Kt):(frE fr out).length=fr.length+out.length:=by rw[(JG out fr).length_eq,IT,If]
theorem L3{α:Type}(P:α→Bool)(l:List α)(x:α):(l++[x]).filter P=if P x=true then l.filter P++[x]else l.filter P:=by
 rw[List.filter_append];cases h:P x
 ·rw[if_neg (by decide),xa (by rw[h];decide),AB0,vR]
 ·rw[if_pos rfl,xZ h,AB0]
theorem Fx.drop{S:Nat→Prop}{h h':Hp}(x:Fx (fun b=>S b∨h.next≤b) h h'):Fx S h h':=⟨x.next,fun i hi hs=>x.get i hi (fun h1=>h1.elim hs (fun h2=>by omega)),x.wf,fun L q1 q2 q3=>x.low L q1 q2 fun b hb=>hb.elim (q3 b) (fun h2=>by omega)⟩
theorem Hp.WI.blk{h:Hp}{S:Nat→Prop}{v:BY}{xs:List BY}(o:h.WI S v xs){b:Nat}(hb:ADv v b):∃ el L,h.Row b el L:=by
 obtain⟨_,_,_,e⟩:=hb;rcases o with ⟨h1,_⟩|⟨b',el,h1,h2,_⟩
 ·rw[h1]at e;cases e
 ·rw[h1]at e
  injection e with e _ _
  injection e with e
  injection e with e _ _
  exact⟨el,_,e ▸ h2⟩
section
variable {F:ADS}{e:Env}{h h':Hp}{S:Nat→Prop}{A:At}{T M:List Nat}{c0 bad m k p n bl:Nat}{arm:Int}{ks:List Kt}{fr:List Nat}{v lv fv:BY}{ov:Bool}
theorem Hp.Own.fx{en:Nat}{xs:List BY}(o:h.Own k en v xs)(W:h.Wf)(x:Fx S h h')(hs:∀ b,k≤b→¬ S b):h'.Own k en v xs:=by
 rcases o with h1|⟨b,h1,h2,h3,h4⟩
 ·exact .inl h1
 ·exact .inr ⟨b,h1,x.row W h2 (hs b h3),h3,h4⟩
theorem Hp.Own.AJH{en:Nat}{xs:List BY}(o:h.Own k en v xs)(W:h.Wf){b:Nat}(hb:ADv v b):b<h.next:=by
 obtain⟨_,_,_,e⟩:=hb;rcases o with ⟨h1,_⟩|⟨b',h1,h2,_⟩
 ·rw[h1]at e;cases e
 ·rw[h1]at e
  injection e with e _ _
  injection e with e
  injection e with e _ _
  exact e ▸ h2.lt W
theorem Sl.app{w:BY}{xs:List BY}(s:Sl h A T M c0 arm ks fr lv fv bad ov)(o:h.Own k 3 w xs)(hr:∀ b el L,¬ ADv w b→h.Row b el L→h'.Row b el L)(hm:h'.bl.get A.bc=h.bl.get A.bc)(hf:∀ b,ADv fv b→¬ ADv w b):Sl h' A T M c0 arm ks fr lv fv bad ov:=by
 have nb:∀ b el L,(el=0∨el=6∨el=84)→h.Row b el L→¬ ADv w b:=fun b el L he r hb=>by
  obtain⟨_,_,_,e⟩:=hb;rcases o with ⟨h1,_⟩|⟨b',h1,h2,_⟩
  ·rw[h1]at e;cases e
  ·rw[h1]at e
   injection e with e _ _
   injection e with e
   injection e with e _ _
   exact Dn r h2 (by omega) e.symm
 refine⟨hr _ _ _ (nb _ _ _ (.inl rfl) s.row) s.row,⟨hr _ _ _ (nb _ _ _ (.inl rfl) s.dk.disk) s.dk.disk,hr _ _ _ (nb _ _ _ (.inl rfl) s.dk.med) s.dk.med,s.dk.len,s.dk.byt,hm.trans s.dk.map,s.dk.big,s.dk.n1⟩,hr _ _ _ (nb _ _ _ (.inl rfl) s.tab) s.tab,s.tok,?_,fun y hy=>⟨(s.ko y hy).1.keep fun b el L hb he r=>hr b el L (nb b el L (by omega) r) r,(s.ko y hy).2⟩,?_,s.ne,s.le⟩
 ·rcases s.ls with h1|⟨b,c,el,L,q1,q2,q3,q4,q5,q6,q7⟩
  ·exact .inl h1
  ·exact .inr ⟨b,c,el,L,q1,q2,hr _ _ _ (nb b el _ (by omega) q3) q3,q4,q5,q6,q7⟩
 ·rcases s.fs with h1|⟨b,el,h1,h2,h3,h4⟩
  ·exact .inl h1
  ·exact .inr ⟨b,el,h1,hr _ _ _ (hf b ⟨_,_,_,h1⟩) h2,h3,h4⟩
theorem fX(W:h.Wf){z:Nat}{xs:List Nat}(hk:k≤h.next)(o:h.Own k 3 v (iv xs))(hl:xs.length≤1000):
  ∃ h2 v',DQ 1 8 3 v (.slice (some ⟨h.next,0,none⟩) 1 1) (h.ADR 0 [.int .i64 (z:Int)])=.ok v' h2∧Fx (fun b=>k≤b) h h2∧h2.Own k 3 v' (iv (xs++[z]))∧∀ b el L,¬ ADv v b→h.Row b el L→h2.Row b el L∧¬ ADv v' b:=by
 have y2:=(Hp.Ext.refl W).ADR 0 [wb .i64 (z:Int)];have Rw:=Hp.Row.new W 0 [wb .i64 (z:Int)];have n2:(h.ADR 0 [wb .i64 (z:Int)]).next=h.next+1:=rfl;generalize h.ADR 0 [wb .i64 (z:Int)]=g at y2 Rw n2;have Vz:g.ADo (.slice (some ⟨h.next,0,none⟩) 1 1) [.int .i64 (z:Int)]:=.inr ⟨h.next,0,1,0,_,rfl,Rw,IN _,rfl⟩;have x0:Hp.Ext {g with next:=k,low:=min g.low k} g:=⟨by show k≤g.next;omega,fun _ _=>rfl,by show min (min g.low k) k≤g.low;omega,y2.wf⟩;obtain⟨h2,v',a1,a2,a3,a4,a5⟩:=Ec (eb:=8) (en:=3) (k:=k) x0 (IN _) (by omega) (o.ext W y2) Vz AC1 rfl (by rw[DW];show(xs.length+1+1) * 9≤_;omega);have f2:Fx (fun b=>k≤b) g h2:=⟨by omega,fun i hi hs=>a2.get i (by show i<k;omega),a2.wf,fun L q1 q2 q3=>vw (ADF.2 ⟨ADF.2 ⟨q1,q3 k (IN _)⟩,q3 k (IN _)⟩) a2.low⟩;refine⟨h2,v',a1,(Fx.of y2).trans f2,by rw[Yu];exact a3,fun b el L hb r=>?_⟩;exact a5 b el L hb (r.ext W y2)
theorem Xx{a b c:Int}(W:h.Wf)(s:Sl h A T M c0 arm ks fr lv fv bad false)(hkl:fr.length+ks.length≤11)(hp3:∀ k∈ks,3*k.p+3≤A.n)(s0:AB 0 e=pt A.bs)(s1:AB 1 e=.int .i64 a)(s2:AB 2 e=.int .i64 b)(s3:AB 3 e=.int .i64 c)(s15:AB 15 e=ADj)(s16:AB 16 e=.int .i64 ((0:Nat):Int)):
  ∃ e' h' lv' fv' w,Ay cmL (call AD (m+7)) e h=.exit 1 e' h'∧Fx (fun b=>b=A.bs) h h'∧AB 0 e'=pt A.bs∧AB 15 e'=w∧h'.Own h.next 3 w (iv ((ks.filter (elB a b c)).map (·.p)))∧
   Sl h' A T M c0 arm (ks.filter fun k=> !elB a b c k) (frE fr (ks.filter (elB a b c))) lv' fv' bad false:=by
 have hD:=s.AF5 W;have hbs:=hD A.bs (.inl rfl);refine BU (I:=fun i e' h'=>∃ lv' fv' w,Fx (fun b=>b=A.bs∨h.next≤b) h h'∧AB 0 e'=pt A.bs∧AB 1 e'=.int .i64 a∧AB 2 e'=.int .i64 b∧AB 3 e'=.int .i64 c∧AB 15 e'=w∧AB 16 e'=.int .i64 ((((ks.take i).filter fun k=> !elB a b c k).length:Nat):Int)∧i≤ks.length∧h'.Own h.next 3 w (iv (((ks.take i).filter (elB a b c)).map (·.p)))∧
   Sl h' A T M c0 arm ((ks.take i).filter (fun k=> !elB a b c k)++ks.drop i) (frE fr ((ks.take i).filter (elB a b c))) lv' fv' bad false∧∀ b,ADv fv' b→¬ ADv w b)
  (Q:=fun x=>∃ e' h' lv' fv' w,x=.exit 1 e' h'∧Fx (fun b=>b=A.bs) h h'∧AB 0 e'=pt A.bs∧AB 15 e'=w∧h'.Own h.next 3 w (iv ((ks.filter (elB a b c)).map (·.p)))∧
   Sl h' A T M c0 arm (ks.filter fun k=> !elB a b c k) (frE fr (ks.filter (elB a b c))) lv' fv' bad false) ks.length (by omega) (fun i e' h' ⟨lv',fv',w,fx,t0,t1,t2,t3,t15,t16,hi,ow,sl,hf⟩=>?_) ⟨lv,fv,ADj,.refl W,s0,s1,s2,s3,s15,s16,vi _,.inl ⟨rfl,rfl⟩,s,fun b _ h=>F9 h⟩
 have W':=fx.wf;obtain⟨_,_,_,l3,_⟩:=A7 sl.row;have ln:=sl.ls.len h';have hfl:=UJ fr ((ks.take i).filter (elB a b c));have hf1:((ks.take i).filter (elB a b c)).length≤(ks.take i).length:=yJ _ _;have hf2:((ks.take i).filter (fun k=> !elB a b c k)).length≤(ks.take i).length:=yJ _ _;rw[vp,Nat.min_eq_left hi]at hf1 hf2;by_cases hlt:i<ks.length
 ·left
  obtain⟨x,hx⟩:∃ x,ks[i]? =some x:=⟨_,No hlt⟩;have hxm:=vN hx;have htk:ks.take (i+1)=ks.take i++[x]:=by rw[List.take_add_one,hx];rfl
  have hdr:ks.drop i=x::ks.drop (i+1):=by
   rw[wY hlt];rw[No hlt]at hx;injection hx with hx
   rw[hx]
  have hfN:=L3 (fun k=> !elB a b c k) (ks.take i) x;have hfY:=L3 (elB a b c) (ks.take i) x;rw[← htk]at hfN hfY;generalize hP:(ks.take i).filter (fun k=> !elB a b c k)=P at *;generalize hO:(ks.take i).filter (elB a b c)=O at *;rw[hdr]at sl ln;have hPl:(P++x::ks.drop (i+1)).length=P.length+1+(ks.length - (i+1)):=by rw[IT,vI,wG];omega
  have c1:iLt (P.length:Int) ((P++x::ks.drop (i+1)).length:Int)=true:=Es (by omega);obtain⟨b',_,ix,ld,_⟩:=sl.ls.at (i:=P.length) (k:=x) Fs;have al:=fun (F:ADS) (e:Env)=>Bm (F:=F) (e:=e) W' (n:=6) (t:=Dl)
  have Ra:=Hp.Row.alloc W' Gr (show(AV K0).length=6 from rfl);have y1:h'.Ext (h'.push (.cells Dl 6 0)):=(Hp.Ext.refl W').push _;generalize h'.push (.cells Dl 6 0)=h1 at al Ra y1;have hu:=(sl.ko x (vV _ vG)).1.vs.one.2.1;obtain⟨st,_,y2,R5,n2⟩:=Mp W' y1 (IN _) Ra rfl (k:=x) hu;generalize h1.wr h'.next 0 (AV x)=h2 at st y2 R5 n2;obtain⟨m0,m1,m2,_⟩:=Bq R5;have sl2:=sl.ext W' y2;cases hel:elB a b c x with
  |false=>
   have a3:=CH (i:=P.length) (h:=h2) (by omega);rw[if_pos (by rw[hel];rfl)]at hfN;rw[if_neg (by rw[hel];decide)]at hfY;have hrun:∃ e2,cmL (call AD (m+7)) e' h'=.norm e2 h2∧AB 0 e2=pt A.bs∧AB 1 e2=.int .i64 a∧AB 2 e2=.int .i64 b∧AB 3 e2=.int .i64 c∧AB 15 e2=w∧AB 16 e2=.int .i64 ((P.length+1:Nat):Int):=by
    unfold cmL;by_cases h1:x.a=a
    ·have d1:iEq x.a a=true:=DM h1
     by_cases h2:x.b=b
     ·have d2:iEq x.b b=true:=DM h2
      have d3:iLt x.c c=false:=HI (fun h3=>by
       unfold elB at hel;rw[decide_eq_true h1,decide_eq_true h2,decide_eq_true h3]at hel;cases hel)
      simp only[sT,AT,AI,reduceIte,gD,Ao,t0,Ae,AJ,AO,sh,AN,AQ,l3,Af,ln,AM,AK,t16,c1,A1,ix,Aw,Ar,ld,al,Aa,st,m0,m1,m2,t1,t2,t3,d1,d2,d3,BF,a3];exact⟨_,rfl,by simp[AF,t0,t1,t2,t3,t15]⟩
     ·have d2:iEq x.b b=false:=DL h2
      simp only[sT,AT,AI,reduceIte,gD,Ao,t0,Ae,AJ,AO,sh,AN,AQ,l3,Af,ln,AM,AK,t16,c1,A1,ix,Aw,Ar,ld,al,Aa,st,m0,m1,m2,t1,t2,t3,d1,d2,BF,a3];exact⟨_,rfl,by simp[AF,t0,t1,t2,t3,t15]⟩
    ·have d1:iEq x.a a=false:=DL h1
     simp only[sT,AT,AI,reduceIte,gD,Ao,t0,Ae,AJ,AO,sh,AN,AQ,l3,Af,ln,AM,AK,t16,c1,A1,ix,Aw,Ar,ld,al,Aa,st,m0,m1,m2,t1,t2,t3,d1,BF,a3];exact⟨_,rfl,by simp[AF,t0,t1,t2,t3,t15]⟩
   obtain⟨e2,r1,r2,r3,r4,r5,r6,r7⟩:=hrun;refine⟨hlt,e2,h2,r1,lv',fv',w,fx.trans (.of y2),r2,r3,r4,r5,r6,?_,hlt,?_,?_,hf⟩
   ·rw[hfN,r7,IT];rfl
   ·rw[hfY];exact ow.ext W' y2
   ·rw[hfN,hfY,vX];exact sl2
  |true=>
   rw[if_neg (by rw[hel];decide)]at hfN;rw[if_pos hel]at hfY;have hxx:x.a=a∧x.b=b∧x.c<c:=by
    unfold elB at hel;rw[vT,vT]at hel;exact⟨of_decide_eq_true hel.1.1,of_decide_eq_true hel.1.2,of_decide_eq_true hel.2⟩
   have d1:iEq x.a a=true:=DM hxx.1;have d2:iEq x.b b=true:=DM hxx.2.1;have d3:iLt x.c c=true:=MH hxx.2.2;obtain⟨h3,lv3,fv3,k3,f3,s3',hfr⟩:=UN (m:=m) y2.wf sl2 (by omega) (by omega) (hp3 x hxm);have ow3:h3.Own h.next 3 w (iv (O.map (·.p))):=(ow.ext W' y2).fx y2.wf f3 fun b hb h1=>by omega
   have n3:h.next≤h3.next:=by have:=fx.next;have:=y2.next;have:=f3.next;omega
   obtain⟨h5,w',k5,f5,ow5,kp5⟩:=fX (z:=x.p) f3.wf n3 ow3 (by rw[If];omega);have bs:=fun (F:ADS) (e:Env) (he:AB 134 e=.int .i64 (x.p:Int))=>EV (F:=F) f3.wf he
   have hm5:h5.bl.get A.bc=h3.bl.get A.bc:=f5.get _ ((s3'.dk.lt f3.wf).2.2) (fun h1=>by
    have:=hD A.bc (.inr (.inr (.inr rfl)));omega)
   have hf3:∀ b,ADv fv3 b→¬ ADv w b:=fun b hb h1=>by
    have:=hfr b hb;have:=ow.AJH W' h1;have:=y2.next;omega
   have s5:=s3'.app ow3 (fun b el L hb r=>(kp5 b el L hb r).1) hm5 hf3;have hf5:∀ b,ADv fv3 b→¬ ADv w' b:=fun b hb=>by
    obtain⟨el,L,r⟩:=s3'.fs.blk hb;exact(kp5 b el L (hf3 b hb) r).2
   have a3:=fun (g:Hp)=>CH (i:=P.length) (h:=g) (by omega)
   have k3':call AD (m+7) 52 [pt A.bs,.int .i64 (P.length:Int)] h2=.ok (.int .i64 (x.p:Int)) h3:=k3;have hrun:∃ e2,cmL (call AD (m+7)) e' h'=.norm e2 h5∧AB 0 e2=pt A.bs∧AB 1 e2=.int .i64 a∧AB 2 e2=.int .i64 b∧AB 3 e2=.int .i64 c∧AB 15 e2=w'∧AB 16 e2=.int .i64 (P.length:Int):=by
    unfold cmL;simp only[sT,AT,AI,reduceIte,gD,Ao,t0,Ae,AJ,AO,sh,AN,AQ,l3,Af,ln,AM,AK,t16,c1,A1,ix,Aw,Ar,ld,al,Aa,st,m0,m1,m2,t1,t2,t3,d1,d2,d3,cA0,k3',bs,BG,t15,k5];exact⟨_,rfl,by simp[AF,t0,t1,t2,t3,t16]⟩
   obtain⟨e2,r1,r2,r3,r4,r5,r6,r7⟩:=hrun;refine⟨hlt,e2,h5,r1,lv3,fv3,w',?_,r2,r3,r4,r5,r6,?_,hlt,?_,?_,hf5⟩
   ·exact((fx.trans (.of y2)).trans (f3.mono fun b hb=>.inl hb)).trans (f5.mono fun b hb=>.inr hb)
   ·rw[hfN];exact r7
   ·rw[hfY,v8];exact ow5
   ·rw[hfN,hfY,QC];exact s5
 ·right
  have hie:i=ks.length:=by omega
  subst hie;rw[List.take_length]at *;rw[List.drop_length,vR]at sl ln;have c1:iLt (((ks.filter fun k=> !elB a b c k).length:Nat):Int) (((ks.filter fun k=> !elB a b c k).length:Nat):Int)=false:=DE (IN _);have hrun:∃ e2,cmL (call AD (m+7)) e' h'=.exit 1 e2 h'∧AB 0 e2=pt A.bs∧AB 15 e2=w:=by
   unfold cmL;simp only[sT,AT,AI,reduceIte,Ao,t0,Ae,AJ,AO,sh,AN,AQ,l3,Af,ln,AM,AK,t16,c1];exact⟨_,rfl,by simp[AF,t0,t15]⟩
  obtain⟨e2,r1,r2,r3⟩:=hrun;rw[r1];exact⟨rfl,e2,h',lv',fv',w,rfl,fx.drop,r2,r3,ow,sl⟩
end
end
noncomputable section
open Go
set_option maxRecDepth 100000
theorem Mu{α:Type}{l:List α}{j:Nat}{x:α}(h:l[j]? =some x):l.set j x=l:=by
 obtain⟨hj,rfl⟩:=vW.1 h;exact List.set_getElem_self hj
theorem Ov{α:Type}{l:List α}{j:Nat}{x:α}(h:l[j]? =some x):l=l.take j++x::l.drop (j+1)∧(l.take j).length=j:=by
 obtain⟨hj,rfl⟩:=vW.1 h;refine⟨?_,by rw[vp];omega⟩;rw[← wY hj,xA]
theorem J5{a b c:Int}{k:Kt}(h:CN a b c k=true):k.a=a∧k.b=b∧k.c=c:=by
 unfold CN at h;rw[vT,vT]at h;exact⟨of_decide_eq_true h.1.1,of_decide_eq_true h.1.2,of_decide_eq_true h.2⟩
theorem qx{i:Nat}{g:Hp}(hi:i≤1000000):Fc wA .i64 (.int .i64 (i:Int)) (.int .i64 1) g=.ok (.int .i64 ((i:Int) - 1)) g:=by
 cases i with
 |zero=>rw[CZ];rfl
 |succ n=>rw[TR (by omega),show((n+1:Nat):Int) - 1=(n:Int)by omega]
theorem YX:dpS=BK (Ad 0 (Ay dpL)) dpE:=rfl
theorem SV:d30=YA:=rfl
section
variable {h h':Hp}{A:At}{T M:List Nat}{c0 bad m k p:Nat}{arm:Int}{ks:List Kt}{fr:List Nat}{lv fv:BY}
theorem Xz(W:h.Wf)(s:Sl h A T M c0 arm ks fr lv fv bad false){a b c z:Int}(hz:Iz ks a b c=some z):
  ∃ h',call AD (m+8) 12 [pt A.bs,.int .i64 a,.int .i64 b,.int .i64 c] h=.ok (.int .i64 z) h'∧h.Ext h':=by
 have hkl:=s.le.1;have c00:iNe 0 0=false:=CV rfl;have k0:=M1 (m:=m+6) s.row;obtain⟨h1,k1,x1⟩:=Hs (m:=m+4) W s.row s.ls.ks (by omega) a b c;have s1:=s.ext W x1;obtain⟨_,_,_,l3,_⟩:=A7 s1.row;obtain⟨h2,k2,x2⟩:=GN (m:=m+3) x1.wf s1.row s1.ls.ks (by omega) a b c;have x12:=x1.trans x2;unfold Iz at hz;rcases EU (CN a b c) ks 0 with ⟨e1,e2⟩|⟨j,kx,e1,e2,e3⟩
 ·rw[e1]at hz
  rw[e2]at k1;have c1:iGe (-1) 0=false:=FL (by omega);have c2:iLt (-1) 0=true:=MH (by omega);simp only at hz;cases hst:Bp a b c ks with
  |true=>
   rw[hst]at hz k2;rw[if_pos rfl]at hz;cases hz;refine⟨h2,?_,x12⟩;rw[IM rfl,IU];unfold M7;simp only[iN,By,sT,AT,AI,reduceIte,gD,cA0,k0,AM,AK,c00,k1,c1,k2,lV0]
  |false=>
   rw[hst]at hz k2;rw[if_neg (by decide)]at hz;cases hz;refine⟨h2,?_,x12⟩;rw[IM rfl,IU];unfold M7;simp only[iN,By,sT,AT,AI,reduceIte,gD,cA0,k0,AM,AK,c00,k1,c1,k2,c2,lV0]
 ·rw[e1]at hz
  rw[e3,sh]at k1;have hjl:=(vW.1 e2).1;have hkm:=vN e2;have c1:iGe (j:Int) 0=true:=HG (by omega);have c3:iLt (j:Int) 0=false:=HI (by omega);obtain⟨bb,_,ix,ld,lde⟩:=s1.ls.ks.at e2;have lst:=lde 3 (.int .u8 (kx.s:Int)) rfl;simp only at hz;by_cases hs2:kx.s=2
  ·rw[if_pos hs2]at hz
   cases hz;have c2:iEq (kx.s:Int) 2=true:=DM (by omega);refine⟨h1,?_,x1⟩;rw[IM rfl,IU];unfold M7;simp only[iN,By,sT,AT,AI,reduceIte,gD,cA0,k0,AM,AK,c00,k1,c1,Ao,Ae,AJ,AO,sh,xM,AN,AQ,l3,A1,ix,lst,c2,lV0]
  ·rw[if_neg hs2]at hz
   have c2:iEq (kx.s:Int) 2=false:=DL (by omega);cases hst:Bp a b c ks with
   |true=>
    rw[hst]at hz k2;rw[if_pos rfl]at hz;cases hz;refine⟨h2,?_,x12⟩;rw[IM rfl,IU];unfold M7;simp only[iN,By,sT,AT,AI,reduceIte,gD,cA0,k0,AM,AK,c00,k1,c1,Ao,Ae,AJ,AO,sh,xM,AN,AQ,l3,A1,ix,lst,c2,k2,lV0]
   |false=>
    rw[hst]at hz;rw[if_neg (by decide)]at hz;cases hz
def abE(ks:List Kt)(a b c:Int):Option Int:=if Bp a b c ks=true then some 61 else match ks.find? (CN a b c)with
 |some _=>none
 |none=>some 0
theorem iL(W:h.Wf)(s:Sl h A T M c0 arm ks fr lv fv bad false){a b c z:Int}(hz:abE ks a b c=some z):
  ∃ h',call AD (m+9) 29 [pt A.bs,.int .i64 a,.int .i64 b,.int .i64 c] h=.ok (.int .i64 z) h'∧h.Ext h':=by
 have AJI:=s.le.1;have c00:iNe 0 0=false:=CV rfl;have k0:=M1 (m:=m+7) s.row;obtain⟨h1,k1,x1⟩:=Hs (m:=m+5) W s.row s.ls.ks (by omega) a b c;have s1:=s.ext W x1;obtain⟨h2,k2,x2⟩:=GN (m:=m+4) x1.wf s1.row s1.ls.ks (by omega) a b c;have x12:=x1.trans x2;unfold abE at hz;cases hst:Bp a b c ks with
 |true=>
  rw[hst]at k2 hz;rw[if_pos rfl]at hz;cases hz;refine⟨h2,?_,x12⟩;rw[OO rfl];unfold d29;simp only[iN,By,sT,AT,AI,reduceIte,gD,cA0,k0,AM,AK,c00,k1,k2,lV0]
 |false=>
  rw[hst]at k2 hz;rw[if_neg (by decide)]at hz;rcases EU (CN a b c) ks 0 with ⟨e1,e2⟩|⟨j,kx,e1,e2,e3⟩
  ·rw[e2]at k1
   rw[e1]at hz;cases hz;have c2:iLt (-1) 0=true:=MH (by omega);refine⟨h2,?_,x12⟩;rw[OO rfl];unfold d29;simp only[iN,By,sT,AT,AI,reduceIte,gD,cA0,k0,AM,AK,c00,k1,k2,c2,lV0]
  ·rw[e1]at hz
   cases hz
def drB(a b c:Int)(k:Kt):Bool:=decide (k.a=a) && decide (k.b=b) && decide (k.c≤c)
def EJ(M:List Nat)(out:List Kt):List Nat:=out.foldl (fun M x=>GO M [x.p]) M
theorem SX(M:List Nat)(out:List Kt)(x:Kt):EJ M (out++[x])=GO (EJ M out) [x.p]:=by unfold EJ;rw[AAM];rfl
def drO(a b c:Int)(ks:List Kt):List Kt:=(ks.filter (drB a b c)).reverse
theorem YY(a b c:Int)(x:Kt)(ks:List Kt):drO a b c (x::ks)=if drB a b c x=true then drO a b c ks++[x]else drO a b c ks:=by
 unfold drO;cases h:drB a b c x
 ·rw[if_neg (by decide),xa (by rw[h];decide)]
 ·rw[if_pos rfl,xZ h,AAK]
theorem dB(a b c:Int)(x:Kt)(ks:List Kt):(drO a b c (ks++[x])).length=(drO a b c ks).length+if drB a b c x=true then 1 else 0:=by
 unfold drO;rw[zm,zm,L3];split
 ·rw[IT];rfl
 ·rfl
end
end
noncomputable section
open Go
set_option maxRecDepth 100000
theorem UG:∀ (ks:List Kt) (i:Nat) (k:Kt),ks[i]? =some k→((flS ks).drop (5*i)).take 5=Jz k
 |[],i,k,h=>by cases h
 |x::ks,0,k,h=>by
  have h:some x=some k:=h;cases h;show((Jz x++flS ks).drop 0).take 5=_;rw[List.drop_zero];exact List.take_left' rfl
 |x::ks,i+1,k,h=>by
  rw[List.getElem?_cons_succ]at h;show((Jz x++flS ks).drop (5*(i+1))).take 5=_;have:5*(i+1)=(Jz x).length+5*i:=by show _=5+_;omega
  rw[this,yM];exact UG ks i k h
section
variable {F:ADS}{e:Env}{h h':Hp}{A:At}{T M:List Nat}{c0 bad m k n:Nat}{arm:Int}{ks:List Kt}{fr:List Nat}{v lv fv:BY}{ov:Bool}
theorem Hp.AL.len(o:h.AL k v ks)(g:Hp):AEL v g=.ok (.int .i64 (ks.length:Int)) g:=by
 rcases o with ⟨rfl,rfl⟩|⟨b,L,rfl,_⟩<;>rfl
theorem Hp.AL.keep(o:h.AL k v ks)(hk:∀ b el L,k≤b→h.Row b el L→h'.Row b el L):h'.AL k v ks:=by
 rcases o with h1|⟨b,L,h1,h2,h3,h4,h5⟩
 ·exact .inl h1
 ·exact .inr ⟨b,L,h1,hk _ _ _ h4 h2,h3,h4,fun x hx=>(h5 x hx).keep fun b el L hb _ r=>hk b el L hb r⟩
theorem Hp.AL.ext(o:h.AL k v ks)(W:h.Wf)(x:h.Ext h'):h'.AL k v ks:=o.keep fun b el L _ r=>r.ext W x
theorem Hp.AL.at(o:h.AL k v ks){i:Nat}{x:Kt}(hi:ks[i]? =some x):∃ b u,AEP 5 v (.int .i64 (i:Int)) h=.ok (.pointer (some ⟨b,5*i,none⟩)) h∧loadN 5 ⟨b,5*i,none⟩ h=.ok (Bz x.a x.b x.c x.s u) h∧h.ADo u (x.l.map bv):=by
 have hil:=(vW.1 hi).1;rcases o with ⟨rfl,rfl⟩|⟨b,L,rfl,h2,h3,h4,h5⟩
 ·cases hi
 ·have hLl:L.length=ks.length:=by rw[← If (f:=Kt.core),h3,If]
  obtain⟨y,hy⟩:∃ y,L[i]? =some y:=⟨_,No (by omega)⟩;have hc:=UG L i y hy;have hyx:y.core=x.core:=by
   have h6:=congrArg (fun l=>l[i]?) h3;simp only[wN,hy,hi,Option.map_some]at h6;injection h6
  have e1:y.a=x.a:=congrArg Kc.a hyx;have e2:y.b=x.b:=congrArg Kc.b hyx;have e3:y.c=x.c:=congrArg Kc.c hyx;have e4:y.s=x.s:=congrArg Kc.s hyx;have e5:y.l=x.l:=congrArg Kc.l hyx;refine⟨b,y.u,?_,?_,?_⟩
  ·have:=DD (h:=h) (n:=ks.length) (c:=ks.length) (es:=5) (b:=b) (off:=0) (i:=i) (k:=.i64) hil
   rwa [sh,wj]at this
  ·rw[h2.loadN (by rw[OX,hLl];omega),hc,← e1,← e2,← e3,← e4];rfl
  ·rw[← e5];exact(h5 y (vN hy)).vs.vals
theorem aY(W:h.Wf){g:O}{a b c:Int}{s:Nat}{u:BY}(hg:g e=Bz a b c s u):C7 g F e h=.ok (pt h.next) (h.ADR 0 (Aq a b c s u)):=by rw[E6,hg,E3 W];rfl
theorem iR(W:h.Wf)(s:Sl h A T M c0 arm ks fr lv fv bad ov){z:Int}(hz:0≤z):
  ∃ h',call AD (m+2) 26 [pt A.bd,.int .i64 z] h=.ok ADV h'∧Fx A.K h h'∧Sl h' A T M c0 z ks fr lv fv bad ov:=by
 have d:=s.dk;have k1:=Hy (m:=m) d;obtain⟨_,_,_,l3⟩:=CL d.disk;have mx:=fun (F:ADS) (e:Env) (he:AB 1 e=.int .i64 z)=>ZA (F:=F) (h:=h) (y:=kV (.int .i64 0)) he rfl
 rw[show max z 0=z by omega]at mx;obtain⟨h1,st,R1,n1,f1,_⟩:=DK (v:=.int .i64 z) W d.disk (off:=2) (show 2<4 by omega) d.big.1 rfl rfl;have R1:h1.Row A.bd 0 (dkL A.bm A.bc A.n z false):=R1;have fK:Fx A.K h h1:=f1.mono fun b hb=>.inl hb
 have d1:Dk h1 A.bd A.bm A.bc A.n M c0 [] z false:=⟨R1,f1.row W d.med (fun h=>d.bdm h.symm),d.len,d.byt,by rw[f1.get _ (d.lt W).2.2 (fun h=>d.bdc h.symm)];exact d.map,d.big,d.n1⟩;refine⟨h1,?_,fK,(s.sc.fx W fK).sl d1⟩;rw[kD rfl];unfold d26;simp only[iN,By,sT,AT,AI,reduceIte,gD,cA0,k1,Bj,Bh,Bool.not_false,Ao,Ae,AJ,AO,sh,AN,AQ,l3,mx,Aa,st,DX,DV]
end
end
noncomputable section
open Go
set_option maxRecDepth 100000
def opL(kd a b c n:Int)(u w:BY):List BY:=[.int .i64 kd,.int .i64 a,.int .i64 b,.int .i64 c,.int .i64 n,u,w]
def opV(kd a b c n:Int)(u w:BY):BY:=.agg ⟨opL kd a b c n u w⟩
def EW(kd:Int):Prop:=kd=1∨kd=2∨kd=3∨kd=4
def oJ(ks:List Kt)(n:Nat)(kd a b c:Int)(l:List Nat)(z:Int):Prop:=
 (EW kd∧Ev ks n a b c l=some z)∨((kd=5∨kd=6)∧Iz ks a b c=some z)∨(kd=7∧abE ks a b c=some z)∨(kd=8∧drO a b c ks=[]∧z=0)∨(¬ EW kd∧kd≠5∧kd≠6∧kd≠7∧kd≠8∧z=0)
def SE(T M:List Nat)(ks:List Kt)(fr:List Nat)(kd a b c:Int)(l M':List Nat)(ks':List Kt)(fr':List Nat):Prop:=
 (EW kd∧Ev ks fr.length a b c l=none∧∃ p k',fr=p::fr'∧ks'=Ch (ks++[k'])∧k'.core=⟨a,b,c,1,l,p⟩∧M'=DI T M p l (ADa T a b c 1 l))∨
 ((kd=5∨kd=6)∧∃ j kx,ks[j]? =some kx∧(kx.a=a∧kx.b=b∧kx.c=c)∧Bp a b c ks=false∧ks'=((ks.set j {kx with s:=2}).filter fun k=> !elB a b c k)∧fr'=frE fr ((ks.set j {kx with s:=2}).filter (elB a b c))∧M'=GO (D6 M kx.p (ADa T a b c 2 kx.l)) (((ks.set j {kx with s:=2}).filter (elB a b c)).map (·.p)))∨
 (kd=7∧∃ j kx,ks[j]? =some kx∧(kx.a=a∧kx.b=b∧kx.c=c)∧Bp a b c ks=false∧ks'=ks.take j++ks.drop (j+1)∧fr'=EN (fr++[kx.p])∧M'=GO M [kx.p])∨
 (kd=8∧ks'=(ks.filter fun k=> !drB a b c k)∧fr'=frE fr (drO a b c ks)∧M'=EJ M (drO a b c ks))
section

end
end
noncomputable section
open Go
set_option maxRecDepth 100000
theorem V9:∀ (A:List Kt) (x:Kt),(Ib A x).Perm (x::A):=fun A x=>by
 unfold Ib;refine(xh _).trans ?_;have:∀ l:List Kt,(Ia x l).Perm (x::l):=fun l=>by
  induction l with
  |nil=>exact .refl _
  |cons y r ih=>
   rw[Nc];split
   ·exact(ih.cons y).trans (.swap x y r)
   ·exact .refl _
 exact(this _).trans ((xh A).cons x)
theorem Rj:∀ (B A:List Kt),(srt A B).Perm (A++B)
 |[],A=>by
  rw[vR];exact .refl _
 |x::B,A=>by
  show(srt (Ib A x) B).Perm _;exact(Rj B _).trans (((V9 A x).append_right B).trans yw.symm)
theorem Mx(l:List Kt):(Ch l).Perm l:=by
 unfold Ch;have:=Rj (l.drop 1) (l.take 1)
 rwa [xA]at this
def Kt.key(k:Kt):Int×Int×Int:=(k.a,k.b,k.c)
def Kt.plc(k:Kt):Nat:=k.p
structure AEH (np:Nat)(ks:List Kt)(fr:List Nat):Prop where
 key:(ks.map Kt.key).Nodup
 plc:(ks.map Kt.plc++fr).Perm (List.range np)
abbrev vC(ks:List Kt)(fr:List Nat):Prop:=AEH 8 ks fr
section
variable {T M M':List Nat}{ks ks':List Kt}{fr fr':List Nat}{kd a b c:Int}{l:List Nat}{np:Nat}
theorem AEH.len(i:AEH np ks fr):ks.length+fr.length=np:=by
 have:=i.plc.length_eq;rw[IT,If,List.length_range]at this;exact this
theorem AEH.lt(i:AEH np ks fr):∀ k∈ks,3*k.p+3≤3*np:=fun k hk=>by
 have h1:k.p∈ks.map Kt.plc++fr:=vk _ (vu.2 ⟨k,hk,rfl⟩);have h2:=w9.1 (i.plc.mem_iff.1 h1);omega
theorem AEH.nd(i:AEH np ks fr):(ks.map Kt.plc).Nodup:=(yL.1 (i.plc.nodup_iff.2 List.nodup_range)).1
theorem Dv{α β:Type}{f:α→β}:∀ {l:List α},(l.map f).Nodup→∀ {x y:α},x∈l→y∈l→f x=f y→x=y
 |[],_,x,y,hx,_,_=>by cases hx
 |w::l,h,x,y,hx,hy,hf=>by
  rw[yZ,xn]at h;rcases vS.1 hx with h1|h1
  ·rcases vS.1 hy with h2|h2
   ·rw[h1,h2]
   ·exact absurd (vu.2 ⟨y,h2,by rw[← hf,h1]⟩) h.1
  ·rcases vS.1 hy with h2|h2
   ·exact absurd (vu.2 ⟨x,h1,by rw[hf,h2]⟩) h.1
   ·exact Dv h.2 h1 h2 hf
theorem Px{x:Kt}(h:CN a b c x=true):x.key=(a,b,c):=by
 obtain⟨rfl,rfl,rfl⟩:=J5 h;rfl
theorem J6{x:Kt}(h:x.key=(a,b,c)):CN a b c x=true:=by
 unfold Kt.key at h;injection h with h1 h2
 injection h2 with h2 h3
 unfold CN;rw[decide_eq_true h1,decide_eq_true h2,decide_eq_true h3];rfl
theorem Py(hn:(ks.map Kt.key).Nodup){x:Kt}(hx:x∈ks)(hk:x.key=(a,b,c)):ks.find? (CN a b c)=some x:=by
 cases h:ks.find? (CN a b c)with
 |none=>exact absurd (J6 hk) (yk.1 h x hx)
 |some y=>rw[Dv hn (List.mem_of_find?_eq_some h) hx ((Px (List.find?_some h)).trans hk.symm)]
theorem Hr(P:Kt→Bool):∀ l:List Kt,(l.filter P++l.filter fun k=> !P k).Perm l
 |[]=>.refl _
 |x::l=>by
  cases h:P x
  ·rw[xa (by rw[h];decide),xZ (by rw[h];rfl)]
   exact yw.trans ((Hr P l).cons x)
  ·rw[xZ h,xa (by rw[h];decide)]
   exact(Hr P l).cons x
theorem AEH.cut(i:AEH np ks fr)(P:Kt→Bool){out:List Kt}(ho:out.Perm (ks.filter P)):AEH np (ks.filter fun k=> !P k) (frE fr out):=by
 refine⟨AAx (List.filter_sublist.map _) i.key,?_⟩;have h1:(frE fr out).Perm (fr++(ks.filter P).map Kt.plc):=(JG out fr).trans ((ho.map Kt.plc).append_left fr);have h2:((ks.filter fun k=> !P k).map Kt.plc++(fr++(ks.filter P).map Kt.plc)).Perm (ks.map Kt.plc++fr):=by
  rw[← vX];refine(AA9).trans ?_;rw[← vX,← v8];exact((Hr P ks).map Kt.plc).append_right fr
 exact(h1.append_left _).trans (h2.trans i.plc)
theorem AEH.set(i:AEH np ks fr){j:Nat}{x y:Kt}(hj:ks[j]? =some x)(h1:y.key=x.key)(h2:y.p=x.p):AEH np (ks.set j y) fr:=by
 have e1:(ks.set j y).map Kt.key=ks.map Kt.key:=by rw[zt,h1];exact Mu (by rw[wN,hj];rfl)
 have e2:(ks.set j y).map Kt.plc=ks.map Kt.plc:=by
  rw[zt,show y.plc=x.plc from h2];exact Mu (by rw[wN,hj];rfl)
 exact⟨e1 ▸ i.key,e2 ▸ i.plc⟩
theorem Yh{P Q:List Kt}(p:Kt→Bool):(P++Q).find? p=(P.find? p).or (Q.find? p):=List.find?_append
theorem Ji(i:AEH np ks fr)(t:SE T M ks fr kd a b c l M' ks' fr'):AEH np ks' fr'∧oJ ks' fr'.length kd a b c l 0:=by
 rcases t with ⟨hk,hz,p,k',rfl,rfl,hc,_⟩|⟨hk,j,kx,hj,AEi,_,rfl,rfl,_⟩|⟨rfl,j,kx,hj,AEi,hst,rfl,rfl,_⟩|⟨rfl,rfl,rfl,_⟩
 ·unfold Ev at hz
  split at hz
  ·cases hz
  rename_i hn;split at hz
  ·split at hz<;>cases hz
  rename_i hfd;have ek:k'.key=(a,b,c):=by
   show(k'.core.a,k'.core.b,k'.core.c)=_;rw[hc]
  have ep:k'.p=p:=congrArg Kc.p hc;have el:k'.l=l:=congrArg Kc.l hc;have pm:=Mx (ks++[k']);have kn:((ks++[k']).map Kt.key).Nodup:=by
   rw[v8,yL];refine⟨i.key,xn.2 ⟨List.not_mem_nil,List.nodup_nil⟩,fun x hx y hy hxy=>?_⟩;rw[vM.1 hy]at hxy;obtain⟨w,hw,rfl⟩:=vu.1 hx;exact absurd (J6 (hxy.trans ek)) (yk.1 hfd w hw)
  have kn':((Ch (ks++[k'])).map Kt.key).Nodup:=(pm.map Kt.key).nodup_iff.2 kn;refine⟨⟨kn',?_⟩,.inl ⟨hk,?_⟩⟩
  ·refine((pm.map Kt.plc).append_right fr').trans (ABC ?_ i.plc)
   rw[v8,vX];show(ks.map Kt.plc++([k'.p]++fr')).Perm _;rw[ep];exact .refl _
  ·unfold Ev
   rw[if_neg hn,Py kn' (pm.mem_iff.2 (vV _ (vM.2 rfl))) ek];simp only;rw[if_pos el]
 ·have kk:({kx with s:=2}:Kt).key=(a,b,c):=by obtain⟨rfl,rfl,rfl⟩:=AEi;rfl
  have i2:=i.set (y:={kx with s:=2}) hj rfl rfl;have hX:({kx with s:=2}:Kt)∈ks.set j {kx with s:=2}:=List.mem_set (vW.1 hj).1 _;generalize ks.set j {kx with s:=2}=ksX at i2 hX;have i3:=i2.cut (elB a b c) (out:=ksX.filter (elB a b c)) (.refl _);refine⟨i3,.inr (.inl ⟨hk,?_⟩)⟩;have hel:elB a b c {kx with s:=2}=false:=by
   obtain⟨rfl,rfl,rfl⟩:=AEi;unfold elB;rw[decide_eq_false (Int.lt_irrefl _),Bool.and_false]
  unfold Iz;rw[Py i3.key (List.mem_filter.2 ⟨hX,by rw[hel];rfl⟩) kk];exact if_pos rfl
 ·obtain⟨AE3,hPl⟩:=Ov hj
  have kk:kx.key=(a,b,c):=by obtain⟨rfl,rfl,rfl⟩:=AEi;rfl
  generalize ks.take j=P at *;generalize ks.drop (j+1)=Q at *;subst AE3;have pm:(P++kx::Q).Perm (kx::(P++Q)):=yw;have kn:((kx::(P++Q)).map Kt.key).Nodup:=(pm.map Kt.key).nodup_iff.1 i.key;rw[yZ,xn]at kn;refine⟨⟨kn.2,?_⟩,.inr (.inr (.inl ⟨rfl,?_⟩))⟩
  ·refine((Gm (fr++[kx.p])).append_left _).trans (ABC ?_ i.plc)
   rw[← vX];refine AA9.trans ?_;show(kx.plc::((P++Q).map Kt.plc++fr)).Perm _;exact((pm.map Kt.plc).symm).append_right fr
  ·have hne:(P++Q).find? (CN a b c)=none:=yk.2 fun x hx hf=>kn.1 (vu.2 ⟨x,hx,(Px hf).trans kk.symm⟩)
   have AFo:Bp a b c (P++Q)=false:=by
    unfold Bp at hst ⊢;rw[Yh]at hst ⊢;cases hP:P.find? (KH a b)with
    |some y=>
     rw[hP]at hst;exact hst
    |none=>
     rw[hP]at hst;rw[Option.none_or]at hst ⊢;cases hx:KH a b kx
     ·rw[List.find?_cons_of_neg (by rw[hx];decide)]at hst
      exact hst
     ·rw[List.find?_cons_of_pos hx]at hst
      simp only at hst;have:=of_decide_eq_false hst;exact absurd (Int.le_of_eq AEi.2.2.symm) this
   unfold abE;rw[AFo,hne,if_neg (by decide)]
 ·have i3:=i.cut (drB a b c) (out:=drO a b c ks) (xh _)
  refine⟨i3,.inr (.inr (.inr (.inl ⟨rfl,?_,rfl⟩)))⟩;unfold drO;rw[List.filter_filter,List.filter_eq_nil_iff.2 (fun x _=>by cases drB a b c x<;>decide)];rfl
end
end
noncomputable section
open Go
set_option maxRecDepth 100000
theorem I9{l l':List Nat}(hl:l.length=l'.length)(h:∀ i,i<l.length→l.getD i 0=l'.getD i 0):l=l':=by
 refine List.ext_getElem hl fun i h1 h2=>?_
 have:=h i h1;rw[OF,OF,No h1,No h2]at this;exact this
theorem KC{l:List Nat}{n i:Nat}(h:i<n):(l.take n).getD i 0=l.getD i 0:=by
 rw[OF,OF,List.getElem?_take,if_pos h]
theorem KA{l:List Nat}{n i:Nat}:(l.drop n).getD i 0=l.getD (n+i) 0:=by
 rw[OF,OF,List.getElem?_drop]
theorem U0:∀ (k:Nat) (l:List Nat) (p:Nat) (ns:List Nat) (q:Nat),rdN k l p=some (ns,q)→ns.length=k
 |0,l,p,ns,q,h=>by cases h;rfl
 |k+1,l,p,ns,q,h=>by
  rw[RI]at h;cases hu:Fg 0 0 (l.drop p)with
  |none=>rw[hu]at h;cases h
  |some vj=>
   obtain⟨v,j⟩:=vj;rw[hu]at h;simp only at h;by_cases hv:v≤1099511627776
   ·rw[if_pos hv]at h
    cases hr:rdN k l (p+j)with
    |none=>rw[hr]at h;cases h
    |some y=>
     obtain⟨vs,q'⟩:=y;rw[hr]at h;cases h;rw[vI,U0 k l (p+j) vs _ hr]
   ·rw[if_neg hv]at h;cases h
theorem Zu{T:List Nat}{a b c:Int}{s:Nat}{l:List Nat}(h:ADc a b c s l.length=true):K3 T (ADa T a b c s l) (B7 a.toNat b.toNat c.toNat s l.length (B5 T l)):=by
 obtain⟨h1,h2,h3,h4,h5,h6,h7,h8⟩:=Da h;have hst:=IC T l;refine(Q7 MF).2 ?_;have hle:∀ v∈B7 a.toNat b.toNat c.toNat s l.length (B5 T l),v≤1099511627776:=fun v hv=>by
  unfold B7 at hv;simp only[vS,ABj,or_false]at hv;omega
 have e0:at6 (B7 a.toNat b.toNat c.toNat s l.length (B5 T l)) 0=s:=rfl;have e1:at6 (B7 a.toNat b.toNat c.toNat s l.length (B5 T l)) 1=a.toNat:=rfl;have e2:at6 (B7 a.toNat b.toNat c.toNat s l.length (B5 T l)) 2=b.toNat:=rfl;have e3:at6 (B7 a.toNat b.toNat c.toNat s l.length (B5 T l)) 3=c.toNat:=rfl;have e4:at6 (B7 a.toNat b.toNat c.toNat s l.length (B5 T l)) 4=l.length:=rfl;have e5:at6 (B7 a.toNat b.toNat c.toNat s l.length (B5 T l)) 5=B5 T l:=rfl;have hr:=LT (B7 a.toNat b.toNat c.toNat s l.length (B5 T l)) [] (vL (60 - (Bt (B7 a.toNat b.toNat c.toNat s l.length (B5 T l))).length) 0++Gn (B5 T (K7 (B7 a.toNat b.toNat c.toNat s l.length (B5 T l))))) hle;refine⟨(Bt (B7 a.toNat b.toNat c.toNat s l.length (B5 T l))).length,?_,⟨by rw[e0];omega,by rw[e4];omega,by rw[e5];omega,?_⟩,rfl⟩
 ·have hx:ADa T a b c s l=Bt (B7 a.toNat b.toNat c.toNat s l.length (B5 T l))++(vL (60 - (Bt (B7 a.toNat b.toNat c.toNat s l.length (B5 T l))).length) 0++Gn (B5 T (K7 (B7 a.toNat b.toNat c.toNat s l.length (B5 T l))))):=by
   unfold ADa EM;rw[← vX];rfl
  rw[hx];simp only[List.nil_append,wB,sh]at hr;exact hr
 ·rw[e0,e1,e2,e3]
  exact decide_eq_true ⟨by omega,by omega,by omega,by omega,by omega,by omega,h7,by omega⟩
theorem Q8{T:List Nat}{ns:List Nat}{l:List Nat}(hl:l.length=64)(hz:∀ x∈l,x=0):¬ K3 T l ns:=fun h=>by
 have hlt:∀ x∈l,x<256:=fun x hx=>by rw[hz x hx];decide
 obtain⟨q,h1,h2,h3⟩:=(Q7 hlt).1 h;have hlen:=U0 _ _ _ _ _ h1;obtain⟨_,_,_,h4⟩:=h2;have hs:=(Da h4).2.2.2.2.2.2.1;cases ns with
 |nil=>cases hlen
 |cons n ns=>
  have hn:n=1∨n=2:=hs;have hu:B3 n=[n]:=by
   unfold B3;rw[dif_pos (by omega)]
  have:n∈l:=by
   rw[← h3];unfold EM K7 O6;refine vk _ (vk _ ?_);rw[Ex,hu];exact vk _ vG
  have:=hz n this;omega
end
noncomputable section
open Go
set_option maxRecDepth 100000
theorem IP{l:List Nat}{j r:Nat}(hr:r<64):(Cm l j).getD r 0=l.getD (64*j+r) 0:=by
 unfold Cm;have hl:((l.drop (64*j)).take 64).length=min 64 (l.length - 64*j):=by rw[vp,wG]
 rcases vd r ((l.drop (64*j)).take 64).length with h|h
 ·rw[OF,vP h,← OF,KC hr,KA]
 ·rw[OF,ve h,AAm]
  have:l.getD (64*j+r) 0=0:=by
   rw[OF,List.getElem?_eq_none (by omega)];rfl
  rw[this];split<;>rfl
theorem YS{T M l H:List Nat}{n p:Nat}(hM:M.length=64*n)(hp:3*p+3≤n)(hl:1≤l.length∧l.length≤100)(hH:H.length=64):
  (DI T M p l H).length=64*n∧∀ x,(DI T M p l H).getD x 0=if x/64=3*p then H.getD (x % 64) 0 else if x/64=3*p+1 then l.getD (x % 64) 0 else if x/64=3*p+2∧64<l.length then l.getD (64+x % 64) 0 else M.getD x 0:=by
 have hk:(l.length+63)/64=1∨(l.length+63)/64=2:=by omega
 rcases hk with hk|hk
 ·have e:DI T M p l H=FU (FU M (p*3+1+0) (Cm l 0)) (p*3) H:=by
   unfold DI F1 DP;rw[hk];rfl
  have l1:=Cg hM (show p*3+1+0<n by omega) (CO l 0);rw[e];refine⟨Cg l1 (by omega) hH,fun x=>?_⟩;rw[C9 l1 (by omega) hH,C9 hM (show p*3+1+0<n by omega) (CO l 0),IP (by omega),ABw,sh,wj p 3,xM];by_cases h1:x/64=3*p
  ·rw[if_pos h1,if_pos h1]
  ·rw[if_neg h1,if_neg h1]
   by_cases h2:x/64=3*p+1
   ·rw[if_pos h2,if_pos h2]
   ·rw[if_neg h2,if_neg h2,if_neg (by omega)]
 ·have e:DI T M p l H=FU (FU (FU M (p*3+1+0) (Cm l 0)) (p*3+1+1) (Cm l 1)) (p*3) H:=by
   unfold DI F1 DP;rw[hk];rfl
  have l1:=Cg hM (show p*3+1+0<n by omega) (CO l 0);have l2:=Cg l1 (show p*3+1+1<n by omega) (CO l 1);rw[e];refine⟨Cg l2 (by omega) hH,fun x=>?_⟩;rw[C9 l2 (by omega) hH,C9 l1 (show p*3+1+1<n by omega) (CO l 1),C9 hM (show p*3+1+0<n by omega) (CO l 0),IP (by omega),IP (by omega),ABw,sh,wj p 3,xM,xd];by_cases h1:x/64=3*p
  ·rw[if_pos h1,if_pos h1]
  ·rw[if_neg h1,if_neg h1]
   by_cases h2:x/64=3*p+1
   ·rw[if_neg (by omega),if_pos h2,if_pos h2]
   ·rw[if_neg h2]
    by_cases h3:x/64=3*p+2
    ·rw[if_pos (show x/64=3*p+1+1 by omega),if_neg h2,if_pos (show x/64=3*p+2∧64<l.length from⟨h3,by omega⟩)]
    ·rw[if_neg (show ¬ x/64=3*p+1+1 by omega),if_neg h2,if_neg (show ¬ (x/64=3*p+2∧64<l.length)by omega)]
theorem Lu{M H:List Nat}{n p:Nat}(hM:M.length=64*n)(hp:3*p+3≤n)(hH:H.length=64):(D6 M p H).length=64*n∧∀ x,(D6 M p H).getD x 0=if x/64=3*p then H.getD (x % 64) 0 else M.getD x 0:=by
 have e:D6 M p H=FU M (p*3) H:=rfl;rw[e];refine⟨Cg hM (by omega) hH,fun x=>?_⟩;rw[C9 hM (by omega) hH,wj p 3]
theorem JX{n x:Nat}:(vL n 0).getD x 0=0:=by
 rw[OF,AAm];split<;>rfl
section
variable {T b:List Nat}(hl:1≤b.length∧b.length≤100)
include hl
end
theorem Ja{M:List Nat}{i r:Nat}(hr:r<64):(sec M i).getD r 0=M.getD (64*i+r) 0:=by
 unfold sec;rw[KC hr,KA]
theorem Ly{M:List Nat}{p k r:Nat}(hr:r<k):(dat M p k).getD r 0=M.getD (64*(3*p+1)+r) 0:=by
 unfold dat;rw[KC hr,KA]
theorem Yo{T M:List Nat}{p:Nat}{a b c:Int}{s:Nat}{l:List Nat}(hr:ADc a b c s l.length=true)(hl:l.length≤100)(h1:sec M (3*p)=ADa T a b c s l)(h2:dat M p l.length=l):
  G3 T M p (B7 a.toNat b.toNat c.toNat s l.length (B5 T l))∧lkN T M p=some (B7 a.toNat b.toNat c.toNat s l.length (B5 T l))∧Yx M p (B7 a.toNat b.toNat c.toNat s l.length (B5 T l))=⟨a,b,c,s,l,p⟩∧EB T M p=false:=by
 obtain⟨g1,g2,g3,g4,g5,g6,_⟩:=Da hr;have hH:G3 T M p (B7 a.toNat b.toNat c.toNat s l.length (B5 T l)):=by
  refine⟨by rw[h1];exact Zu hr,hl,?_⟩;show B5 T (dat M p l.length)=B5 T l;rw[h2]
 refine⟨hH,Qb hH,?_,?_⟩
 ·show(⟨(a.toNat:Int),(b.toNat:Int),(c.toNat:Int),s,dat M p l.length,p⟩:Kc)=_
  rw[h2,zZ g1,zZ g3,zZ (by omega)]
 ·cases hb:EB T M p
  ·rfl
  ·exact absurd ⟨_,hH⟩ (HQ.1 hb).1
theorem Yd{T M:List Nat}{n p:Nat}(hM:M.length=64*n)(hp:3*p<n)(h:∀ r,r<64→M.getD (64*(3*p)+r) 0=0):lkN T M p=none∧EB T M p=false:=by
 have hl:=Jb hM hp;have hz:∀ x∈sec M (3*p),x=0:=fun x hx=>by
  obtain⟨i,hi⟩:=List.mem_iff_getElem?.1 hx;have hil:=(vW.1 hi).1;have:=Ja (M:=M) (i:=3*p) (r:=i) (by omega);rw[h i (by omega),OF,hi]at this;exact this
 have hno:¬ ∃ ns,G3 T M p ns:=fun⟨ns,h1,_⟩=>Q8 hl hz h1
 refine⟨Qa hno,?_⟩;cases hb:EB T M p
 ·rfl
 ·rcases (HQ.1 hb).2 with ⟨x,hx,h1⟩|⟨ns,h1,_⟩
  ·exact absurd (hz x hx) h1
  ·exact absurd h1 (Q8 hl hz)
end
noncomputable section
open Go
set_option maxRecDepth 100000
structure Trn (b:List Nat)(hd:Bool)(k:Nat)(ts:List Nat):Prop where
 lt:∀ t∈ts,t<256
 win:k+ts.length≤if hd=true then 60 else b.length
 four:ts.length≤4
def chg(ts:List Nat):Bool:=ts.any fun t=>decide (t≠0)
section
variable {b ts:List Nat}{hd:Bool}{k:Nat}
variable (hl:1≤b.length∧b.length≤100)(hb:∀ x∈b,x<256)(t:Trn b hd k ts)
include hl t
end
end
noncomputable section
open Go
set_option maxRecDepth 100000
theorem gY:Bx .mt 0 an.zero=some PN:=by kernel_rfl
theorem Fx.ext{S:Nat→Prop}{h h':Hp}(x:Fx S h h')(hs:∀ b,S b→h.next≤b):h.Ext h':=⟨x.next,fun i hi=>x.get i hi fun s=>by have:=hs i s;omega,x.low _ (zW _ _) (xS _ _) fun b hb=>vw (xS _ _) (hs b hb),x.wf⟩
theorem Fx.AJJ{S:Nat→Prop}{h0 h h':Hp}(x0:h0.Ext h)(x:Fx S h h')(hs:∀ b,S b→h0.next≤b):h0.Ext h':=Fx.ext (S:=S) ((Fx.of x0).trans x) hs
end
noncomputable section
open Go
set_option maxRecDepth 100000
structure AKA (h:Hp)(v:BY)(n cap:Nat):Prop where
 len:∀ g:Hp,AEL v g=.ok (.int .i64 (n:Int)) g
 get:∀ i,i<n→i<cap→∃ (r:Nat) (kd a b c no:Int) (u w:BY) (l:List Nat),(∀ g:Hp,h.Ext g→AEP 7 v (.int .i64 (i:Int)) g=.ok (.pointer (some ⟨r,i*7,none⟩)) g∧loadN 7 ⟨r,i*7,none⟩ g=.ok (opV kd a b c no u w) g∧ADW ⟨r,i*7+5,none⟩ g=.ok u g)∧h.VE u (l.map bv)∧(∀ x∈l,x<256)∧oneCell u=true∧oneCell w=true
section
variable {h:Hp}{A:At}{T M:List Nat}{c0 bad k:Nat}{arm:Int}{ks:List Kt}{fr:List Nat}{lv fv u:BY}{ov:Bool}{l:List Nat}
theorem Sl.all(s:Sl h A T M c0 arm ks fr lv fv bad ov):∀ k∈ks,h.ADo k.u (k.l.map bv)∧k.l.length≤1000∧oneCell k.u=true:=fun x hx=>⟨(s.ko x hx).1.vs.vals,by have:=(s.ko x hx).2.2.1;omega,(s.ko x hx).1.vs.one.2.1⟩
end
end
noncomputable section
open Go Go.RowKit Go.WideShapes Go.ChangeShapes
set_option maxRecDepth 100000
theorem XU{W:vt}{a:Addr}{v:BY}(h:W.cell? a=some v):a.spot=none∧∃ cs tt fr,W.heap[a.block]? =some (.cells cs tt fr)∧cs[a.off]? =some v:=by
 unfold World.cell? at h;split at h
 ·rename_i cs tt fr hb
  split at h
  ·cases h
  ·rename_i hs
   refine⟨?_,cs,tt,fr,hb,h⟩;cases hsp:a.spot with
   |none=>rfl
   |some s=>rw[hsp]at hs;exact(hs rfl).elim
 ·cases h
theorem aF{W:vt}{a:Addr}{L:List BY}{cs:Array BY}{tt:TypeId}{fr:Nat×Nat}(hb:W.heap[a.block]? =some (.cells cs tt fr))(hc:∀ j,j<L.length→cs[a.off+j]? =some (L.getD j ADV))(hf:∀ j,j<L.length→W.frozen? ⟨a.block,a.off+j,none⟩=false):Ka W a L:=by
 refine⟨cs,tt,fr,hb,hc,fun i hi hh=>?_⟩;have h6:=hf i hi;obtain⟨lo,hi'⟩:=fr;simp only[World.frozen?,hb]at h6;simp only at hh;simp only[Bool.and_eq_false_iff,decide_eq_false_iff_not]at h6;omega
theorem Uf{α:Type}{Q:Nat→α→Prop}:∀ n,(∀ i,i<n→∃ x,Q i x)→∃ xs:List α,xs.length=n∧∀ i x,xs[i]? =some x→Q i x
 |0,_=>⟨[],rfl,fun i x h=>by cases h⟩
 |n+1,h=>by
  obtain⟨xs,hl,hx⟩:=Uf n fun i hi=>h i (by omega)
  obtain⟨y,hy⟩:=h n (by omega);refine⟨xs++[y],by rw[IT,hl];rfl,fun i x hi=>?_⟩;rcases vd i xs.length with h1|h1
  ·rw[vP h1]at hi;exact hx i x hi
  ·rw[ve h1]at hi
   have h2:i - xs.length< [y].length:=(vW.1 hi).1;have h2:i - xs.length<1:=h2;have h3:i - xs.length=0:=by omega
   rw[h3]at hi;cases hi;rw[show i=n by omega];exact hy
theorem MA{s:Nat}:∀ {Ls:List (List BY)},(∀ l∈Ls,l.length=s)→Ls.flatten.length=Ls.length*s
 |[],_=>by simp
 |l::Ls,h=>by
  rw[yh,IT,h l vG,MA fun x hx=>h x (vH _ hx),vI,zM,Nat.add_comm]
theorem QA{s:Nat}:∀ {Ls:List (List BY)} {i r:Nat} {l:List BY},(∀ l∈Ls,l.length=s)→Ls[i]? =some l→r<s→Ls.flatten[i*s+r]? =l[r]?
 |[],i,_,_,_,h,_=>by cases h
 |x::Ls,0,r,l,h,hi,hr=>by
  cases hi;rw[yh,yd,sh,vP (by rw[h x vG];exact hr)]
 |x::Ls,i+1,r,l,h,hi,hr=>by
  have hx:=h x vG;rw[yh,ve (by rw[hx,zM];omega),hx];have:(i+1)*s+r - s=i*s+r:=by rw[zM];omega
  rw[this];exact QA (fun y hy=>h y (vH _ hy)) hi hr
def OE(W:vt)(Q:List BY→Prop)(s:Nat)(v:BY)(n:Nat)(Ls:List (List BY)):Prop:=(∀ l∈Ls,l.length=s∧Q l)∧n≤Ls.length∧
 ((v=ADj∧Ls=[])∨(∃ a,v=.slice (some a) 0 0∧Ls=[])∨∃ a,v=.slice (some a) n Ls.length∧0<Ls.length∧a.spot=none∧Ka W a Ls.flatten)
theorem fq{H:Type}{enc:TypeId×BY→H}{P:Program}{t e:TypeId}{s:Nat}(ht:P.underlying t=some (.slice e))(hs:P.cellsOf e=s)(h0:0<s){W:vt}{fuel:Nat}{v:BY}{x:DataW H×List MemPlace}{Q:List BY→Prop}
  (dec:∀ (m:Nat) (l:List BY) (y:DataW H×List MemPlace),l.length=s→AAz enc P W 0 (fun _=>true) true m e l=some y→(∀ b off,yW b off∈y.2→W.frozen? ⟨b,off,none⟩=false)→Q l)
  (hf:AAz enc P W 0 (fun _=>true) true fuel t [v]=some x)(hfz:∀ b off,yW b off∈x.2→W.frozen? ⟨b,off,none⟩=false):∃ n Ls,OE W Q s v n Ls:=by
 rcases DataW.trod_slice ht hf with ⟨hcs,_⟩|⟨a,n,c,elems,rest,m,_,hcs,hx,_,hl,hm,hlen,hel,hsp,_⟩
 ·have:v=ADj:=by simpa using hcs
  exact⟨0,[],(fun l hl=>by cases hl),IN _,.inl ⟨this,rfl⟩⟩
 ·have:v=.slice (some a) n c:=by simpa using hcs
  subst this;obtain⟨hrl,hr⟩:=hsp rfl;subst hx;rcases vy c with hc|hc
  ·subst hc
   have:n=0:=by omega
   subst this;exact⟨0,[],(fun l hl=>by cases hl),IN _,.inr (.inl ⟨a,rfl,rfl⟩)⟩
  ·have htot:(elems++rest).length=c:=by rw[IT];omega
   have each:∀ i,i<c→∃ l:List BY,(l.length=s∧Q l)∧∀ j,j<s→W.cell? ((a.add (i*s)).add j)=l[j]?:=fun i hi=>by
    have hi':i<(elems++rest).length:=by omega
    have hb:(W.cells? 0 (a.add (i*P.cellsOf e)) (P.cellsOf e)).bind (AAz enc P W 0 (fun _=>true) true m e)=some ((elems++rest)[i]'hi'):=by
     rcases vd i n with h4|h4
     ·have:=hel i h4
      rw[this,← No hi',vP (by omega)]
     ·have:=hr (i - n) (by omega)
      rw[show n+(i - n)=i by omega]at this;rw[this,← No hi',ve (by omega),hlen]
    rw[hs,Option.bind_eq_some_iff]at hb;obtain⟨l,h4,h5⟩:=hb;obtain⟨_,h6,h7⟩:=World.cells?_some h4;exact⟨l,⟨h6,dec m l _ h6 h5 fun b off hm=>hfz b off (vV _ (ABk.2 ⟨_,zJ hi',hm⟩))⟩,h7⟩
   obtain⟨Ls,hLl,hLs⟩:=Uf c each;have hall:∀ l∈Ls,l.length=s∧Q l:=fun l hl=>by
    obtain⟨i,hi,rfl⟩:=List.mem_iff_getElem.1 hl;exact(hLs i _ (No hi)).1
   have hls:∀ l∈Ls,l.length=s:=fun l hl=>(hall l hl).1
   have hz:0<Ls.length:=by omega
   have c0:=(hLs 0 _ (No hz)).2 0 h0;have hl0:0<(Ls[0]'hz).length:=by rw[hls _ (zJ hz)];exact h0
   rw[No hl0,yd]at c0;have c0:W.cell? a=some ((Ls[0]'hz)[0]'hl0):=c0;obtain⟨AIF,cs,tt,fr,hb,_⟩:=XU c0;obtain⟨ab,ao,spot⟩:=a;simp only at AIF;subst AIF;have hfl:=MA hls;refine⟨n,Ls,hall,by omega,.inr (.inr ⟨⟨ab,ao,none⟩,by rw[hLl],hz,rfl,aF hb (fun j hj=>?_) fun j hj=>hfz ab (ao+j) (vk _ ?_)⟩)⟩
   ·rw[hfl]at hj
    have hi:j/s<Ls.length:=Nat.div_lt_of_lt_mul (by rw[wj];exact hj);have hr:j % s<s:=Nat.mod_lt _ h0;have e:j/s*s+j % s=j:=by rw[wj];exact Nat.div_add_mod j s
    have hx:=No hi;have q:=(hLs _ _ hx).2 _ hr;have g:=QA hls hx hr;rw[e]at g;have hll:j % s<(Ls[j/s]'hi).length:=by rw[hls _ (zJ hi)];exact hr
    rw[No hll]at q g;rw[Addr.AET,Addr.AET,GU hb]at q;rw[OF,g];show cs[ao+j]? =some _;have:ao+j/s*s+j % s=ao+j:=by omega
    rw[← this];exact q
   ·simp only[MemPlace.row,vu,w9]
    exact⟨j,by rw[hfl]at hj;rw[hs,hlen,hrl,show n+(c - n)=c by omega,← hLl];exact hj,rfl⟩
theorem Y8{α:Type}{f:α→List BY}:∀ {Ls:List (List BY)},(∀ l∈Ls,∃ x,l=f x)→∃ xs:List α,Ls=xs.map f
 |[],_=>⟨[],rfl⟩
 |l::Ls,h=>by
  obtain⟨x,rfl⟩:=h l vG;obtain⟨xs,rfl⟩:=Y8 fun l hl=>h l (vH _ hl)
  exact⟨x::xs,rfl⟩
theorem gF{φ:Phi}{a:Addr}{n c i m:Nat}(hs:a.spot=none)(hn:n≤c)(hc:0<c)(hm:0<m)(hp:φ i=some (O7 a m)):ADU φ (.slice (some ⟨i,0,none⟩) n c) (.slice (some a) n c):=by
 refine .slice hn ⟨rfl,hs,_,hp,rfl,.inl ⟨hc,?_,.inl rfl⟩⟩;show a.off=(if m=0 then 0 else a.off)+0;rw[if_neg (by omega),xM]
theorem OE.rel{W:vt}{Q:List BY→Prop}{s n:Nat}{v:BY}{Ls:List (List BY)}(b:OE W Q s v n Ls)(h0:0<s)(rf:∀ l,Q l→∀ φ,ADp φ l l)(i:Nat):∃ (u:BY) (q:Option Pl),bO W Ls.flatten q∧(∀ φ,ADp φ Ls.flatten Ls.flatten)∧(∀ φ:Phi,φ i=q→ADU φ u v)∧
  ((u=ADj∧Ls=[])∨(u=.chan (some 0)∧Ls=[])∨u=.slice (some ⟨i,0,none⟩) n Ls.length):=by
 obtain⟨h1,h2,h3⟩:=b;have ADy:∀ φ,ADp φ Ls.flatten Ls.flatten:=fun φ=>by
  clear h2 h3
  induction Ls with
  |nil=>exact .nil
  |cons l Ls ih=>
   rw[yh];exact(rf l (h1 l vG).2 φ).append (ih fun l hl=>h1 l (vH _ hl))
 rcases h3 with ⟨rfl,rfl⟩|⟨a,rfl,rfl⟩|⟨a,rfl,h4,h5,h6⟩
 ·exact⟨ADj,none,.inl rfl,ADy,fun _ _=>.AEF,.inl ⟨rfl,rfl⟩⟩
 ·have:n=0:=by simpa using h2
  subst this;exact⟨.chan (some 0),none,.inl rfl,ADy,fun _ _=>.AFq,.inr (.inl ⟨rfl,rfl⟩)⟩
 ·have hfl:=MA fun l hl=>(h1 l hl).1
  refine⟨.slice (some ⟨i,0,none⟩) n Ls.length,some (O7 a Ls.flatten.length),.inr ⟨a,rfl,h6⟩,ADy,fun φ hφ=>gF h5 h2 h4 (by rw[hfl];exact Nat.mul_pos h4 h0) hφ,.inr (.inr rfl)⟩
def QL(l:List BY):Prop:=∃ b:Bool,l=[.bool b]
theorem iJ{l:List BY}(h:QL l)(φ:Phi):ADp φ l l:=by
 obtain⟨x,rfl⟩:=h;exact .cons (.bool _) .nil
structure OD where
 kd:Int
 a:Int
 b:Int
 c:Int
 no:Int
 u:BY
 w:BY
theorem nC{u:BY}{P Q:Prop}{i n m:Nat}(h:(u=ADj∧P)∨(u=.chan (some 0)∧Q)∨u=.slice (some ⟨i,0,none⟩) n m):oneCell u=true:=by
 rcases h with ⟨rfl,_⟩|⟨rfl,_⟩|rfl<;>rfl
def gd(W:vt)(φ:Phi)(L:List BY)(q:Option Pl):Prop:=q=none∨∃ a L',q=some (O7 a L.length)∧Ka W a L'∧ADp φ L L'
theorem bO.AHc{W:vt}{φ:Phi}{L:List BY}{q:Option Pl}(h:bO W L q)(r:ADp φ L L):gd W φ L q:=by
 rcases h with h|⟨a,ha,hr⟩
 ·exact .inl h
 ·exact .inr ⟨a,L,ha,hr,r⟩
theorem aH{W:vt}{ty:TTy}{ps:List (Option Pl)}{Ls:List (List BY)}(ADg:Ls.length≤256)(hlen:ps.length=Ls.length)
  (h:∀ (i:Nat) (q:Option Pl) (L:List BY),ps[i]? =some q→Ls[i]? =some L→gd W (Na ps) L q):ADX ty (Na ps) nil (inH Ls) W:=
 mY ADg fun i p e=>by
  have e:(ps[i]?).getD none=some p:=e;cases hq:ps[i]? with
  |none=>rw[hq]at e;cases e
  |some q=>
   rw[hq]at e;have e:q=some p:=e;subst e;have hi:=(vW.1 hq).1;have hL:=No (l:=Ls) (i:=i) (by omega);rcases h i _ _ hq hL with h|⟨a,L',ha,hr,hrl⟩
   ·cases h
   ·obtain rfl:=Option.some.inj ha
    exact⟨a,_,rfl,hL,hr.lt,Zz hr hrl⟩
end
noncomputable section
open Go
set_option maxRecDepth 100000
def Cnt(ks:List Kt):Prop:=(∀ x∈ks,∀ y∈ks,¬ dT x y)∧(ks.map Kt.key).Nodup
section
variable {h g g':Hp}{T M:List Nat}{bd tb n m k:Nat}{v:BY}{ks:List Kt}
structure O3 (h g:Hp)(T M:List Nat)(bs r9 k1 bd tb i:Nat)(v mv:BY)(ks:List Kt):Prop where
 x:h.Ext g
 row:g.Row bs 0 (slL bd tb ADj ADj (AEg T M i).length false)
 rb:g.Row r9 0 [pt bs]
 ko:g.KO k1 v ks
 ok:∀ k∈ks,AFm g (fun b=>r9<b) k
 ms:g.Own k1 3 mv (ints .i64 ((mrk T M i).map wC))
 le:k1≤g.next
theorem O3.ext{g g':Hp}{bs r9 k1 i:Nat}{mv:BY}(o:O3 h g T M bs r9 k1 bd tb i v mv ks)(x:g.Ext g'):O3 h g' T M bs r9 k1 bd tb i v mv ks:=
 have W:=o.x.wf
 ⟨o.x.trans x,o.row.ext W x,o.rb.ext W x,o.ko.ext W x,fun k hk=>⟨(o.ok k hk).1.ext W x,(o.ok k hk).2⟩,o.ms.ext W x,vw o.le x.next⟩
theorem gI{g:Hp}{r9 k1 i:Nat}{mv:BY}(W:h.Wf)(o:O1 h g T M h.next r9 k1 bd tb i v mv ks)(hl:ks.length≤12)(h1:h.next<r9)(h2:r9<k1):
  ∃ g',call AD (m+7) 50 [v,.func (.func 51) ⟨[]⟩ ⟨[]⟩] g=.ok ADV g'∧O3 h g' T M h.next r9 k1 bd tb i v mv (Ch ks):=by
 have Wg:=o.x.wf;rcases o.ko with ⟨rfl,rfl⟩|⟨b,rfl,R,hb,ADg⟩
 ·obtain⟨g3,k3,x3⟩:=gG (m:=m+1) Wg (S:=fun _=>True) (ks:=[]) (.inl ⟨rfl,rfl⟩) (vi _) fun i x y hx _=>by cases hx
  have o3:=o.ext x3;exact⟨g3,k3,⟨o3.x,o3.row,o3.rb,o3.ko,o3.ok,o3.ms,o3.le⟩⟩
 ·have hu:∀ k∈ks,oneCell k.u=true:=fun k hk=>(o.ok k hk).1.vs.one.2.1
  obtain⟨g3,k3,f3,R3⟩:=Rh (m:=m+1) (Z:=[]) (n:=ks.length) (c:=ks.length) Wg (by rw[vR];exact R) ADg rfl (IN _) hl hu;rw[vR]at R3;refine⟨g3,k3,⟨Fx.xtF o.x f3 fun i hi=>by rw[hi];omega,f3.row Wg o.row (by omega),f3.row Wg o.rb (by omega),.inr ⟨b,by rw[IA],R3,hb,ADg⟩,fun k hk=>?_,?_,vw o.le f3.next⟩⟩
  ·have hk:=FG.1 hk
   exact⟨(o.ok k hk).1.keep fun b' el L _ he r=>f3.row Wg r (Dn r R (by omega)),(o.ok k hk).2⟩
  ·rcases o.ms with h1|⟨b',h1,h2,h3,h4⟩
   ·exact .inl h1
   ·exact .inr ⟨b',h1,f3.row Wg h2 (Dn h2 R (by omega)),h3,h4⟩
end
end
end Go.Proofs.YtedbmmfebjfibaaGreat

/-
  Part ZO of what Lawke stands on: printed by program, names and spaces cut.
-/
import Derived.Test.YtedbmmfebjfibaaGreatZN
open Go.Value renaming int→AI
open Go.IntKind renaming i64→AT
open Nat renaming reduceEqDiff→BY,reduceLT→By,reduceAdd→IS,le_refl→IT,zero_add→vk,succ→vo,zero_le→wP,mul→wY,le_trans→wd,eq_zero_or_pos→wg,mul_comm→xr,min_le_right→yX,add_zero→yc,mul_one→yk,min_le_left→AAK,mul_zero→ACh,one_pos→ADj,le_min→ADy
open Go renaming Value→IN
open List renaming length_append→No,length_map→OF,getElem?_eq_getElem→sh,getD_eq_getElem?_getD→vm,mem_cons_self→vp,mem_cons_of_mem→vr,length_cons→vw,mem_of_getElem?→vy,mem_singleton→v7,replicate→v8,mem_cons→wA,getElem?_eq_some_iff→wC,getElem?_append_left→wD,append_nil→wF,append_assoc→wG,mem_append_right→wI,mem_append→wK,mem_map→wM,length_take→wT,mem_append_left→wU,map_append→wa,eq_nil_of_length_eq_zero→wh,length_nil→wl,length_drop→xC,getElem?_map→xH,filter_cons_of_pos→xN,filter_cons_of_neg→xO,map_cons→xV,drop_eq_getElem_cons→xW,nodup_cons→xx,take_append_drop→xz,nodup_append→yP,length_filter_le→yW,reverse_append→yh,reverse_perm→yp,drop_length_add_append→zL,reverse_reverse→zO,find?_eq_none→ze,perm_middle→zk,length→AAM,length_reverse→AAb,map_set→AAi,reverse_cons→AAz,foldl_append→AA1,getElem?_replicate→ABT,filter_nil→ABU,perm_append_comm→ABq,mem_nil_iff→ACT,take_left→ACr
open Bool renaming and_eq_true→wJ
open Int renaming sub→wi,toNat_of_nonneg→AAO
open Go.Value renaming int→xY,slice→AAr
open List.Pairwise renaming sublist→AAN
open List.Perm renaming trans→ABu
set_option linter.unusedVariables false
set_option linter.unusedSimpArgs false
namespace Go.Proofs.YtedbmmfebjfibaaGreat
noncomputable section
open Go
set_option maxRecDepth 100000
def Pk(x:Nat):List Nat->List Nat
 |[]=>[x]
 |y::r=>if x<y then y::Pk x r else x::y::r
def Nw(A:List Nat)(x:Nat):List Nat:=(Pk x A.reverse).reverse
def dZ:List Nat->List Nat->List Nat
 |A,[]=>A
 |A,x::B=>dZ (Nw A x) B
def ED(l:List Nat):List Nat:=dZ (l.take 1) (l.drop 1)
theorem Kn(x y:Nat)(r:List Nat):Pk x (y::r)=if x<y then y::Pk x r else x::y::r:=rfl
theorem OZ(x:Nat):∀ l:List Nat,(Pk x l).Perm (x::l)
 |[]=>.refl _
 |y::r=>by
  rw[Kn];split
  ·exact((OZ x r).cons y).trans (.swap x y r)
  ·exact .refl _
theorem OV(A:List Nat)(x:Nat):(Nw A x).Perm (x::A):=by
 unfold Nw;exact(yp _).trans ((OZ x _).trans ((yp A).cons x))
theorem O6:∀ (B A:List Nat),(dZ A B).Perm (A++B)
 |[],A=>by
  rw[wF];exact .refl _
 |x::B,A=>by
  show(dZ (Nw A x) B).Perm _;exact(O6 B _).trans (((OV A x).append_right B).trans zk.symm)
theorem HB(l:List Nat):(ED l).Perm l:=by
 unfold ED;have:=O6 (l.drop 1) (l.take 1)
 rwa [xz]at this
theorem OY{x:Nat}:∀ {R Q:List Nat},(∀ y∈R,x<y)->Pk x (R++Q)=R++Pk x Q
 |[],Q,_=>rfl
 |y::R,Q,h=>by
  rw[List.cons_append,Kn,if_pos (h y vp),OY fun z hz=>h z (vr _ hz)];rfl
theorem WL{x:Nat}{P Q:List Nat}(hQ:∀ y∈Q,x<y)(hP:P=[]\/∃ P' y,P=P'++[y]/\¬ x<y):Nw (P++Q) x=P++x::Q:=by
 unfold Nw;rw[yh,OY fun y hy=>hQ y (List.mem_reverse.1 hy)];have e:Pk x P.reverse=x::P.reverse:=by
  rcases hP with rfl|⟨P',y,rfl,hy⟩
  ·rfl
  ·rw[yh]
   show Pk x (y::P'.reverse)=_;rw[Kn,if_neg hy];rfl
 rw[e,yh,AAz,zO,zO,wG];rfl
def iv(l:List Nat):List IN:=ints .i64 (l.map Int.ofNat)
theorem Dd(l:List Nat):(iv l).length=l.length:=by unfold iv ints;rw[OF,OF]
theorem kR{l:List Nat}{j x:Nat}(h:l[j]? =some x):(iv l)[j]? =some (AI AT (x:Int)):=by
 unfold iv ints;rw[xH,xH,h];rfl
theorem jN{L:List IN}{j:Nat}{v:IN}(hj:j<L.length):over L j [v]=L.set j v:=by
 unfold over;rw[List.set_eq_take_append_cons_drop,if_pos hj,wG];rfl
theorem qI{l:List Nat}{j x:Nat}:(iv l).set j (AI AT (x:Int))=iv (l.set j x):=by
 unfold iv ints;rw[AAi,AAi];rfl
section
variable {F:AEB}{e:Env}{h h':Hp}{S:Nat->Prop}{bl el n c m:Nat}{l:List Nat}{Z:List IN}
theorem Lz(R:h.Row bl el (iv l++Z)){j x:Nat}(hj:l[j]? =some x):AEF ⟨bl,j,none⟩ h=.ok (AI AT (x:Int)) h:=by
 have hl:=(wC.1 hj).1;rw[R.AEF (off:=j) (by rw[No,Dd];omega),vm,wD (by rw[Dd];exact hl),kR hj];rfl
theorem Pp{j:Nat}(hj:j<n):AE0 1 (.slice (some ⟨bl,0,none⟩) n c) (AI AT (j:Int)) h=.ok (.pointer (some ⟨bl,j,none⟩)) h:=by
 have:=Cy (h:=h) (n:=n) (c:=c) (es:=1) (b:=bl) (off:=0) (i:=j) (k:=.i64) hj
 rwa [vk,yk]at this
theorem az(W:h.Wf)(R:h.Row bl el (iv l++Z))(AEO:256<=bl){j:Nat}(hj:j<l.length)(x:Nat):
  ∃ h',(∀ (F:AEB) (e:Env) (g g':O),g e=.pointer (some ⟨bl,j,none⟩)->g' e=AI AT (x:Int)->Al .free (Av 1 g g') F e h=.ok AEE h')/\Fx (fun b=>b=bl) h h'/\h'.Row bl el (iv (l.set j x)++Z)/\h'.next=h.next/\h'.mark=h.mark:=by
 have Rq:h.quiet.Row bl el (iv l++Z):=R.same rfl;have AIK:j+[xY .i64 (x:Int)].length<=(iv l).length:=by rw[Dd];exact hj
 have hoo:j+[xY .i64 (x:Int)].length<=(iv l++Z).length:=by rw[No];omega
 have st:=Rq.AER (n:=1) (off:=j) (v:=AI AT (x:Int)) W.quiet AEO rfl (by rw[Dl];exact hoo) rfl;rw[Dl]at st;have wr:=Rq.AET W.quiet hoo;rw[Oo AIK,jN (by rw[Dd];exact hj),qI]at wr;have fx:=Fx.wr (S:=fun b=>b=bl) W.quiet Rq hoo rfl;have wn:=Rq.AEt hoo;generalize h.quiet.wr bl j [xY .i64 (x:Int)]=q at st wr fx wn;exact⟨h.back q,fun F e g g' e1 e2=>BO (by rw[Ab,e1,e2];exact st),(fx.from (h:=h) rfl rfl).same rfl rfl,wr.same rfl,wn,rfl⟩
theorem iA{x y:Nat}:call AC (m+2) 125 [AI AT (x:Int),AI AT (y:Int)] h=.ok (.bool (decide (x<y))) h:=by
 have n1:∀ z:Int,call AC (m+1) 107 [AI AT z] h=.ok (.bool false) h:=fun z=>by
  have c1:iNe z z=false:=CY rfl;rw[VY rfl];unfold Zt;simp only[iN,IS,sT,By,BY,reduceIte,AJ,AH,c1,lV0]
 have c2:iLt (x:Int) (y:Int)=decide (x<y):=by
  rw[C4];by_cases hxy:x<y
  ·rw[decide_eq_true hxy,decide_eq_true (by omega)]
  ·rw[decide_eq_false hxy,decide_eq_false (by omega)]
 rw[fN rfl];unfold fq;simp only[iN,IS,sT,By,BY,reduceIte,gD,cA0,n1,AJ,AH,c2,lV0]
theorem Ub:nnB=bf:=rfl
theorem bg:noB=iL:=rfl
theorem fp:fl=Zv:=rfl
theorem U3{i:Nat}{g:Hp}(hi:i<=1000000):Ft wi .i64 (AI AT ((i+1:Nat):Int)) (AI AT 1) g=.ok (AI AT (i:Int)) g:=by
 have:wi ((i+1:Nat):Int) 1=(i:Int):=by
  show((i+1:Nat):Int) - 1=_;omega
 rw[CV,this,Bb (by omega)]
theorem df(W:h.Wf){P R:List Nat}{x y:Nat}(hl0:l=P++y::x::R)(Rw:h.Row bl el (iv l++Z))(AEO:256<=bl)(hn:n=l.length)(hl:l.length<=100000)
  (s0:J 0 e=.slice (some ⟨bl,0,none⟩) n c)(s7:J 7 e=AI AT ((P.length+1:Nat):Int)):
  ∃ e' h',nwB F e h=.norm e' h'/\Fx (fun b=>b=bl) h h'/\h'.Row bl el (iv (P++x::y::R)++Z)/\∀ j,j=0\/j=1\/j=2\/j=6\/j=7->J j e'=J j e:=by
 have lk:l.length=P.length+1+1+R.length:=by rw[hl0,No,vw,vw];omega
 have Rm:h.marked.Row bl el (iv l++Z):=Rw.same rfl;have ld:=Lz Rm (j:=P.length+1) (x:=x) (by rw[hl0];exact Jp);have ldy:=Lz Rm (j:=P.length) (x:=y) (by rw[hl0];exact F9);have ix:=fun g:Hp=>Pp (h:=g) (bl:=bl) (n:=n) (c:=c) (j:=P.length+1) (by omega)
 have iy:=fun g:Hp=>Pp (h:=g) (bl:=bl) (n:=n) (c:=c) (j:=P.length) (by omega)
 have a1:=fun g:Hp=>U3 (g:=g) (i:=P.length) (by omega)
 obtain⟨h1,q1,f1,R1,n1,mk1⟩:=az (j:=P.length+1) W.marked Rm AEO (by omega) y;have e1:l.set (P.length+1) y=P++y::y::R:=by
  rw[hl0,show P++y::x::R=(P++[y])++x::R by simp,show P.length+1=(P++[y]).length by simp,J5];simp
 rw[e1]at R1;obtain⟨h2,q2,f2,R2,n2,mk2⟩:=az (j:=P.length) f1.wf R1 AEO (by rw[No];simp) x;rw[J5]at R2;have fm:Fx (fun b=>b=bl) h h1:=f1.from (h:=h) rfl rfl;have q1':∀ (F:AEB) (e:Env),J 47 e=.pointer (some ⟨bl,P.length+1,none⟩)->J 42 e=AI AT (y:Int)->Al .free (Av 1 (J 47) (J 42)) F e h.marked=.ok AEE h1:=fun F e a b=>q1 F e _ _ a b
 have q2':∀ (F:AEB) (e:Env),J 48 e=.pointer (some ⟨bl,P.length,none⟩)->J 46 e=AI AT (x:Int)->Al .free (Av 1 (J 48) (J 46)) F e h1=.ok AEE h2:=fun F e a b=>q2 F e _ _ a b
 have hrun:∃ e',nwB F e h=.norm e' h2/\∀ j,j=0\/j=1\/j=2\/j=6\/j=7->J j e'=J j e:=by
  unfold nwB;simp only[sT,By,BY,reduceIte,A3,Bu,s7,a1,Ay,s0,iy,AK,AO,ldy,ix,ld,q1',q2'];refine⟨_,rfl,fun j hj=>?_⟩;rcases hj with rfl|rfl|rfl|rfl|rfl<;>simp only[AD,By,BY,reduceIte]
 obtain⟨e',r1,r2⟩:=hrun;exact⟨e',h2,r1,fm.trans f2,R2,r2⟩
theorem Xz(W:h.Wf){A B:List Nat}{x:Nat}(Rw:h.Row bl el (iv (A++x::B)++Z))(AEO:256<=bl)(hn:n=(A++x::B).length)(hl:n<=1000)
  (s0:J 0 e=.slice (some ⟨bl,0,none⟩) n c)(s1:J 1 e=AI AT 0)(s7:J 7 e=AI AT (A.length:Int)):
  ∃ e' h',Aw nnB (call AC (m+3)) e h=.exit 2 e' h'/\Fx (fun b=>b=bl) h h'/\h'.Row bl el (iv (Nw A x++B)++Z)/\∀ j,j=0\/j=1\/j=2\/j=6->J j e'=J j e:=by
 have hln:(A++x::B).length=A.length+1+B.length:=by rw[No,vw];omega
 refine BU (I:=fun i e' g=>∃ P Q,A=P++Q/\P.length+i=A.length/\Fx (fun b=>b=bl) h g/\g.Row bl el (iv (P++x::(Q++B))++Z)/\(∀ y∈Q,x<y)/\J 7 e'=AI AT (P.length:Int)/\∀ j,j=0\/j=1\/j=2\/j=6->J j e'=J j e)
  (Q:=fun r=>∃ e' h',r=.exit 2 e' h'/\Fx (fun b=>b=bl) h h'/\h'.Row bl el (iv (Nw A x++B)++Z)/\∀ j,j=0\/j=1\/j=2\/j=6->J j e'=J j e) (A.length+1) (by omega) (fun i e' g ⟨P,Q,hA,hP,fx,R,hQ,t7,ts⟩=>?_) ⟨A,[],by rw[wF],rfl,.refl W,Rw,fun y hy=>(by cases hy),s7,fun _ _=>rfl⟩
 have W':=fx.wf;have t0:=(ts 0 (by omega)).trans s0;have t1:=(ts 1 (by omega)).trans s1;rcases XA P with rfl|⟨P',y,rfl⟩
 ·right
  have c1:iGt ((([]:List Nat).length:Nat):Int) 0=false:=Fa (by decide);have hrun:∃ e2,nnB (call AC (m+3)) e' g=.exit 2 e2 g.marked/\∀ j,j=0\/j=1\/j=2\/j=6->J j e2=J j e':=by
   rw[Ub];unfold bf;simp only[sT,By,BY,reduceIte,gD,A3,AJ,AH,t7,t1,c1];refine⟨_,rfl,fun j hj=>?_⟩;rcases hj with rfl|rfl|rfl|rfl<;>simp only[AD,By,BY,reduceIte]
  obtain⟨e2,r1,r2⟩:=hrun;rw[r1];refine⟨rfl,e2,_,rfl,fx.same rfl rfl,?_,fun j hj=>(r2 j hj).trans (ts j hj)⟩;have:=WL (x:=x) (P:=[]) (Q:=Q) hQ (.inl rfl);rw[hA,this];have e5:([]++x::Q)++B=[]++x::(Q++B):=rfl;rw[e5];exact R.same rfl
 ·have lP:(P'++[y]).length=P'.length+1:=by simp
  rw[lP]at hP t7;have lA:A.length=P'.length+1+Q.length:=by rw[hA,No,lP]
  have eR:(P'++[y])++x::(Q++B)=P'++y::x::(Q++B):=by simp
  rw[eR]at R;have lL:(P'++y::x::(Q++B)).length=n:=by
   rw[hn,hln,lA];simp only[No,vw];omega
  have Rm:g.marked.Row bl el (iv (P'++y::x::(Q++B))++Z):=R.same rfl;have ld:=Lz Rm (j:=P'.length+1) (x:=x) Jp;have ldy:=Lz Rm (j:=P'.length) (x:=y) F9;have ix:=fun g:Hp=>Pp (h:=g) (bl:=bl) (n:=n) (c:=c) (j:=P'.length+1) (by omega)
  have iy:=fun g:Hp=>Pp (h:=g) (bl:=bl) (n:=n) (c:=c) (j:=P'.length) (by omega)
  have c1:iGt ((P'.length+1:Nat):Int) 0=true:=GV (by omega);have a1:=fun g:Hp=>U3 (g:=g) (i:=P'.length) (by omega)
  have k2:=iA (m:=m+1) (h:=g.marked.quiet) (x:=x) (y:=y);have q2:∀ e:Env,J 23 e=AI AT (x:Int)->J 28 e=AI AT (y:Int)->Al .free (AS 125 [J 23,J 28]) (call AC (m+3)) e g.marked=.ok (.bool (decide (x<y))) (g.marked.back g.marked.quiet):=fun e e1 e2=>by
   refine BO ?_;rw[Ba,AV,AV,A1,e1,e2];exact k2
  have y2:g.Ext (g.marked.back g.marked.quiet):=(Hp.Ext.refl W').marked.trans (.back (.refl W'.marked.quiet));generalize g.marked.back g.marked.quiet=h3 at q2 y2;have R3:=R.ext W' y2;by_cases hc:x<y
  ·left
   rw[decide_eq_true hc]at q2;have sw:∀ e2:Env,J 0 e2=.slice (some ⟨bl,0,none⟩) n c->J 7 e2=AI AT ((P'.length+1:Nat):Int)->∃ e3 h4,nwB (call AC (m+3)) e2 h3=.norm e3 h4/\Fx (fun b=>b=bl) h3 h4/\h4.Row bl el (iv (P'++x::y::(Q++B))++Z)/\∀ j,j=0\/j=1\/j=2\/j=6\/j=7->J j e3=J j e2:=fun e2 a b=>df y2.wf rfl R3 AEO lL.symm (by omega) a b
   have hrun:∃ e3 h4,nnB (call AC (m+3)) e' g=.norm e3 h4/\Fx (fun b=>b=bl) h3 h4/\h4.Row bl el (iv (P'++x::y::(Q++B))++Z)/\J 7 e3=AI AT (P'.length:Int)/\∀ j,j=0\/j=1\/j=2\/j=6->J j e3=J j e':=by
    rw[Ub];unfold bf;simp only[sT,By,BY,reduceIte,gD,A3,AJ,AH,t7,t1,c1,t0,Ay,ix,AK,AO,ld,Bu,a1,iy,ldy,q2,BB,Ap];obtain⟨e3,h4,r1,f4,R4,r2⟩:=sw (Env.set 30 (.bool true) (Env.set 29 (.bool true) (Env.set 28 (AI AT (y:Int)) (Env.set 27 (.pointer (some ⟨bl,P'.length,none⟩)) (Env.set 26 (AI AT (P'.length:Int)) (Env.set 25 (AI AT ((P'.length+1:Nat):Int)) (Env.set 24 (.slice (some ⟨bl,0,none⟩) n c) (Env.set 23 (AI AT (x:Int)) (Env.set 22 (.pointer (some ⟨bl,P'.length+1,none⟩)) (Env.set 21 (AI AT ((P'.length+1:Nat):Int)) (Env.set 20 (.slice (some ⟨bl,0,none⟩) n c) (Env.set 18 (.bool true) e')))))))))))) (by simp[AD,t0]) (by simp[AD,t7]);have u7:J 7 e3=AI AT ((P'.length+1:Nat):Int):=(r2 7 (by omega)).trans (by simp[AD,t7]);rw[r1];simp only[D9,A8,sT,By,BY,reduceIte,Bu,u7,a1];refine⟨_,_,rfl,f4,R4,by simp[AD],fun j hj=>?_⟩;have:=r2 j (by omega);rcases hj with rfl|rfl|rfl|rfl<;>simp only[AD,By,BY,reduceIte]at this ⊢<;>exact this
   obtain⟨e3,h4,r1,f4,R4,r7,r2⟩:=hrun;refine⟨by omega,e3,h4,r1,P',y::Q,by rw[hA];simp,by omega,(fx.trans (.of y2)).trans f4,R4,fun z hz=>?_,r7,fun j hj=>(r2 j hj).trans (ts j hj)⟩;rcases wA.1 hz with rfl|hz
   ·exact hc
   ·exact hQ z hz
  ·right
   rw[decide_eq_false hc]at q2;have hrun:∃ e3,nnB (call AC (m+3)) e' g=.exit 2 e3 h3/\∀ j,j=0\/j=1\/j=2\/j=6->J j e3=J j e':=by
    rw[Ub];unfold bf;simp only[sT,By,BY,reduceIte,gD,A3,AJ,AH,t7,t1,c1,t0,Ay,ix,AK,AO,ld,Bu,a1,iy,ldy,q2];refine⟨_,rfl,fun j hj=>?_⟩;rcases hj with rfl|rfl|rfl|rfl<;>simp only[AD,By,BY,reduceIte]
   obtain⟨e3,r1,r2⟩:=hrun;rw[r1];refine⟨rfl,e3,h3,rfl,fx.trans (.of y2),?_,fun j hj=>(r2 j hj).trans (ts j hj)⟩;rw[hA,WL hQ (.inr ⟨P',y,rfl,hc⟩),wG,wG];exact R3
theorem YZ(W:h.Wf){l:List Nat}(Rw:h.Row bl el (iv l++Z))(AEO:256<=bl)(hn:n=l.length)(hl:n<=1000):
  ∃ h',call AC (m+4) 119 [.slice (some ⟨bl,0,none⟩) n c,AI AT 0,AI AT (n:Int)] h=.ok AEE h'/\Fx (fun b=>b=bl) h h'/\h'.Row bl el (iv (ED l)++Z):=by
 have run:∀ e1:Env,J 0 e1=.slice (some ⟨bl,0,none⟩) n c->J 1 e1=AI AT 0->J 2 e1=AI AT (n:Int)->J 6 e1=AI AT ((1:Nat):Int)->∃ e' h',Aw noB (call AC (m+3)) e1 h=.exit 0 e' h'/\Fx (fun b=>b=bl) h h'/\h'.Row bl el (iv (ED l)++Z):=fun e1 s0 s1 s2 s6=>by
  refine BU (I:=fun i e' g=>∃ A B,A.length+B.length=l.length/\(A.length=i+1\/(B=[]/\A.length<=i+1))/\dZ A B=ED l/\Fx (fun b=>b=bl) h g/\g.Row bl el (iv (A++B)++Z)/\J 0 e'=.slice (some ⟨bl,0,none⟩) n c/\J 1 e'=AI AT 0/\J 2 e'=AI AT (n:Int)/\J 6 e'=AI AT ((i+1:Nat):Int))
   (Q:=fun x=>∃ e' h',x=.exit 0 e' h'/\Fx (fun b=>b=bl) h h'/\h'.Row bl el (iv (ED l)++Z)) n (by omega) (fun i e' g ⟨A,B,hAB,hAi,hsr,fx,R,t0,t1,t2,t6⟩=>?_) ⟨l.take 1,l.drop 1,by rw[wT,xC];omega,?_,rfl,.refl W,by rw[xz];exact Rw,s0,s1,s2,s6⟩
  ·have W':=fx.wf
   cases B with
   |nil=>
    right;have hA:A.length=n:=by simp only[wl]at hAB;omega
    have c1:iLt ((i+1:Nat):Int) (n:Int)=false:=Cz (by omega);have hrun:∃ e3,noB (call AC (m+3)) e' g=.exit 0 e3 g:=by
     rw[bg];unfold iL;simp only[sT,By,BY,reduceIte,AJ,AH,t6,t2,c1];exact⟨_,rfl⟩
    obtain⟨e3,r1⟩:=hrun;rw[r1];refine⟨rfl,e3,g,rfl,fx,?_⟩;rw[<- hsr];rw[wF]at R;exact R
   |cons x B=>
    left;rw[vw]at hAB;have hA:A.length=i+1:=by
     rcases hAi with h1|⟨h1,_⟩
     ·exact h1
     ·cases h1
    have c1:iLt ((i+1:Nat):Int) (n:Int)=true:=EF (by omega);obtain⟨e2,h2,i1,f2,R2,i2⟩:=Xz (m:=m) (e:=Env.set 7 (AI AT ((i+1:Nat):Int)) (Env.set 12 (.bool true) e')) W' R AEO (by rw[No,vw];omega) hl (by simp only[AD,By,BY,reduceIte];exact t0) (by simp only[AD,By,BY,reduceIte];exact t1) (by simp only[AD,By,BY,reduceIte,hA]);have g0:=i2 0 (by omega);have g1:=i2 1 (by omega);have g2:=i2 2 (by omega);have g6:=i2 6 (by omega);simp only[AD,By,BY,reduceIte,t0]at g0;simp only[AD,By,BY,reduceIte,t1]at g1;simp only[AD,By,BY,reduceIte,t2]at g2;simp only[AD,By,BY,reduceIte,t6]at g6;have a3:Fs .i64 (AI AT ((i+1:Nat):Int)) (AI AT 1) h2=.ok (AI AT ((i+1+1:Nat):Int)) h2:=CF (by omega);have hrun:∃ e3,noB (call AC (m+3)) e' g=.norm e3 h2/\J 0 e3=.slice (some ⟨bl,0,none⟩) n c/\J 1 e3=AI AT 0/\J 2 e3=AI AT (n:Int)/\J 6 e3=AI AT ((i+1+1:Nat):Int):=by
     rw[bg];unfold iL;simp only[sT,By,BY,reduceIte,AJ,AH,t6,t2,c1,i1,g6,BG,a3];exact⟨_,rfl,by simp only[AD,By,BY,reduceIte];exact g0,by simp only[AD,By,BY,reduceIte];exact g1,by simp only[AD,By,BY,reduceIte];exact g2,by simp[AD]⟩
    obtain⟨e3,r1,r2,r3,r4,r5⟩:=hrun;have il:(Nw A x).length=A.length+1:=(OV A x).length_eq;exact⟨by omega,e3,h2,r1,Nw A x,B,by omega,.inl (by omega),hsr,fx.trans f2,R2,r2,r3,r4,r5⟩
  ·cases l with
   |nil=>exact .inr ⟨rfl,wP _⟩
   |cons k l=>exact .inl rfl
 have a1:Fs .i64 (AI AT 0) (AI AT 1) h=.ok (AI AT ((1:Nat):Int)) h:=CF (i:=0) (by omega);obtain⟨e2,h2,r1,x2⟩:=run (Env.set 6 (AI AT ((1:Nat):Int)) (Env.set 9 (AI AT ((1:Nat):Int)) (AQ e0 0 [.slice (some ⟨bl,0,none⟩) n c,AI AT 0,AI AT (n:Int)]))) (by simp only[iN,IS,AD,By,BY,reduceIte]) (by simp only[iN,IS,AD,By,BY,reduceIte]) (by simp only[iN,IS,AD,By,BY,reduceIte]) (by simp[AD]);simp only[iN,IS]at r1;refine⟨h2,?_,x2⟩;rw[fM rfl,fp];unfold Zv;simp only[iN,IS,sT,By,BY,reduceIte,BG,a1,r1,De,Dc]
theorem fe:fd=Zu:=rfl
theorem qg:npB=qh:=rfl
theorem dX(W:h.Wf){l:List Nat}(Rw:h.Row bl el (iv l++Z))(AEO:256<=bl)(hn:n=l.length)(hl:n<=12):
  ∃ h',call AC (m+6) 82 [.slice (some ⟨bl,0,none⟩) n c] h=.ok AEE h'/\Fx (fun b=>b=bl) h h'/\h'.Row bl el (iv (ED l)++Z):=by
 obtain⟨h2,k2,x2,R2⟩:=YZ (m:=m) (c:=c) W Rw AEO hn (by omega);obtain⟨k,kb⟩:=PM (m:=m+3) (h:=h) (n:=n) (by omega);have cv:DS .u64 (AI AT (n:Int)) h=.ok (.int .u64 (n:Int)) h:=by rw[Cd,EV (by omega)]
 have a1:Ft wi .i64 (AI AT (n:Int)) (AI AT 0) h=.ok (AI AT (n:Int)) h:=by
  have:wi (n:Int) 0=(n:Int):=Int.sub_zero _;rw[CV,this,Bb (by omega)]
 have c1:iLe (n:Int) 12=true:=LP (by omega);have pd:call AC (m+5) 108 [.slice (some ⟨bl,0,none⟩) n c,AI AT 0,AI AT (n:Int),AI AT (k:Int)] h=.ok AEE h2:=by
  have hb:∃ e2,npB (call AC (m+4)) (Env.set 9 (.bool true) (Env.set 8 (.bool true) (AQ e0 0 [.slice (some ⟨bl,0,none⟩) n c,AI AT 0,AI AT (n:Int),AI AT (k:Int)]))) h=.ret e2 h2:=by
   rw[qg];unfold qh;simp only[iN,IS,sT,By,BY,reduceIte,Bu,a1,AJ,AH,c1,cA0,k2];exact⟨_,rfl⟩
  obtain⟨e2,r1⟩:=hb;have r1:=ND r1;simp only[iN,IS]at r1;rw[fJ rfl,fe];unfold Zu;simp only[iN,IS,sT,By,BY,reduceIte,r1,Bg,Dc]
 refine⟨h2,?_,x2,R2⟩;rw[oX rfl];unfold d82;simp only[iN,IS,sT,By,BY,reduceIte,AX,Dv,CH,cv,cA0,kb,pd,De,Dc]
end
end
noncomputable section
open Go
set_option maxRecDepth 100000
theorem Y4{b n:Nat}:FD ⟨b,0,none⟩ n=⟨b,n,none⟩:=by
 cases n with
 |zero=>rfl
 |succ m=>
  show(⟨b,0+(m+1),none⟩:Addr)=_;rw[vk]
theorem Ts(x:Kt):(AU x).length=6:=rfl
theorem gZ{ks:List Kt}(hu:∀ k∈ks,oneCell k.u=true):Bc (flK ks)=true:=by
 induction ks with
 |nil=>rfl
 |cons k l ih=>
  refine QA fun x hx=>?_
  obtain⟨y,hy,hxy⟩:=List.mem_flatMap.1 hx;have huy:=hu y hy;have hxy:x∈[xY .i64 y.a,AI AT y.b,AI AT y.c,.int .u8 (y.s:Int),y.u,AI AT (y.p:Int)]:=hxy;simp only[wA,ACT,or_false]at hxy;rcases hxy with rfl|rfl|rfl|rfl|rfl|rfl
  all_goals first|exact huy|rfl
section
variable {F:AEB}{e:Env}{h h':Hp}{S:Nat->Prop}{m k n bl:Nat}{v:IN}
theorem FW{x:O}{d N i:Nat}{K:Nat->R}(hx:x e=AI AT (i:Int))(hi:i<=N):Ck e (some x) d N K=K i:=by
 show(match DE (x e)with|.ok n=>(bif Nat.ble n N then K n else .no)|.no=>.no)=_;rw[hx,C9];simp only;rw[Ac.2 hi];rfl
theorem H6{b lo hi c:Nat}(hc:lo<c):Bn (some ⟨b,0,none⟩) 6 lo hi c h=.ok (.slice (some ⟨b,6*lo,none⟩) (hi - lo) (c - lo)) h:=by
 unfold Bn;simp only[AZ];have e1:Nat.beq c lo=false:=by
  cases hb:Nat.beq c lo
  ·rfl
  ·have:=Nat.eq_of_beq_eq_true hb;omega
 rw[e1];simp only;cases lo with
 |zero=>rfl
 |succ i=>
  have e2:wY (i+1) 6=vo (6*i+5):=by
   show(i+1)*6=_;omega
  rw[e2];have e3:Nat.add 0 (vo (6*i+5))=6*(i+1):=by
   show 0+(6*i+5+1)=_;omega
  simp only[e3];rfl
theorem Vt{L:List IN}(R:h.Row bl 84 L):E0 83 (some ⟨bl,0,none⟩) h=true:=by
 obtain⟨cc,hcc,_⟩:=R.rowOf;unfold E0;simp only[hcc];rfl
theorem fb{lo hi c:Nat}{L:List IN}(R:h.Row bl 84 L)(hc:lo<c):EL 83 6 (some ⟨bl,0,none⟩) false lo hi c h=.ok (.slice (some ⟨bl,6*lo,none⟩) (hi - lo) (c - lo)) h:=by
 cases lo with
 |zero=>exact H6 hc
 |succ l=>
  show(bif E0 83 (some ⟨bl,0,none⟩) h then Bn (some ⟨bl,0,none⟩) 6 (l+1) hi c h else .no)=_;rw[Vt R];exact H6 hc
theorem Xo{P Q:List Kt}{x:Kt}(W:h.Wf)(R:h.Row bl 84 (flK (P++x::Q)))(AEO:256<=bl)(hn:n=(P++x::Q).length)(hl:n<=100000)(hu:∀ k∈P++x::Q,oneCell k.u=true):
  ∃ h',call AC (m+1) 81 [.slice (some ⟨bl,0,none⟩) n n,AI AT (P.length:Int),AI AT ((P.length+1:Nat):Int)] h=.ok (.slice (some ⟨bl,0,none⟩) (n - 1) n) h'/\Fx (fun b=>b=bl) h h'/\h'.Row bl 84 (flK (P++Q)++AU K0):=by
 have hn':n=P.length+1+Q.length:=by rw[hn,No,vw];omega
 have lf:(flK (P++x::Q)).length=6*n:=by rw[CQ,hn]
 have AJ4:∀ (F:AEB) (e:Env),J 0 e=.slice (some ⟨bl,0,none⟩) n n->J 1 e=AI AT (P.length:Int)->J 2 e=AI AT ((P.length+1:Nat):Int)->J 12 e=AI AT (n:Int)->∃ v,D5 83 6 (J 0) (some (J 1)) (some (J 2)) (some (J 12)) F e h=.ok v h:=fun F e e0 e1 e2 e3=>by
  show ∃ v,(match J 0 e with|.slice a n c=>DR e n c (some (J 1)) (some (J 2)) (some (J 12)) (fun l hh m=>EL 83 6 a true l hh m h)|_=>.no)=.ok v h;rw[e0];show ∃ v,Ck e (some (J 12)) n n (fun m=>Ck e (some (J 2)) n m fun hh=>Ck e (some (J 1)) 0 hh fun l=>EL 83 6 (some ⟨bl,0,none⟩) true l hh m h)=.ok v h;rw[FW e3 (IT _),FW e2 (by omega),FW e1 (by omega)];exact⟨_,H6 (by omega)⟩
 have AJ5:∀ (F:AEB) (e:Env) (h:Hp),J 0 e=.slice (some ⟨bl,0,none⟩) n n->J 1 e=AI AT (P.length:Int)->D5 83 6 (J 0) none (some (J 1)) none F e h=.ok (.slice (some ⟨bl,0,none⟩) P.length n) h:=fun F e h e0 e1=>by
  show(match J 0 e with|.slice a n c=>DR e n c none (some (J 1)) none (fun l hh m=>EL 83 6 a false l hh m h)|_=>.no)=_;rw[e0];show Ck e (some (J 1)) n n (fun hh=>EL 83 6 (some ⟨bl,0,none⟩) false 0 hh n h)=_;rw[FW e1 (by omega)];exact H6 (lo:=0) (by omega)
 have xm:=(Hp.Ext.refl W).marked;have Rm:h.marked.Row bl 84 (flK (P++x::Q)):=R.same rfl;have Rq:h.marked.quiet.Row bl 84 (flK (P++x::Q)):=R.same rfl;have AGJ:((flK (P++x::Q)).drop (6*(P.length+1))).take (Q.length*6)=flK Q:=by
  have e1:flK (P++x::Q)=flK (P++[x])++flK Q:=by rw[<- Jc];simp
  have e2:6*(P.length+1)=(flK (P++[x])).length:=by rw[CQ,No];rfl
  rw[e1,e2,List.drop_left,List.take_of_length_le (by rw[CQ];omega)]
 obtain⟨src,AJ6,hsrc,hlen⟩:∃ src,(∀ (F:AEB) (e:Env),J 0 e=.slice (some ⟨bl,0,none⟩) n n->J 2 e=AI AT ((P.length+1:Nat):Int)->D5 83 6 (J 0) (some (J 2)) none none F e h.marked=.ok src h.marked)/\(∀ K:List IN->Go.Proofs.YtedbmmfebjfibaaGreat.R,BJ h.marked.quiet 6 src Q.length K=K (flK Q))/\lenV src=.ok Q.length:=by
  have key:∀ (F:AEB) (e:Env),J 0 e=.slice (some ⟨bl,0,none⟩) n n->J 2 e=AI AT ((P.length+1:Nat):Int)->D5 83 6 (J 0) (some (J 2)) none none F e h.marked=Bn (some ⟨bl,0,none⟩) 6 (P.length+1) n n h.marked:=fun F e e0 e2=>by
   show(match J 0 e with|.slice a n c=>DR e n c (some (J 2)) none none (fun l hh m=>EL 83 6 a false l hh m h.marked)|_=>.no)=_;rw[e0];show Ck e (some (J 2)) 0 n (fun l=>EL 83 6 (some ⟨bl,0,none⟩) false l n n h.marked)=_;rw[FW e2 (by omega)];show(bif E0 83 (some ⟨bl,0,none⟩) h.marked then Bn (some ⟨bl,0,none⟩) 6 (P.length+1) n n h.marked else .no)=_;rw[Vt Rm];rfl
  rcases wg Q.length with hq|hq
  ·obtain rfl:Q=[]:=wh hq
   have hnp:n=P.length+1:=by rw[hn'];rfl
   refine⟨.slice (some ⟨bl,0,none⟩) 0 0,fun F e e0 e2=>?_,fun K=>?_,rfl⟩
   ·rw[key F e e0 e2,hnp]
    unfold Bn;simp only[AZ,Nat.beq_refl];have:Nat.sub (P.length+1) (P.length+1)=0:=Nat.sub_self _;rw[this]
   ·have:=Rq.AGM (es:=6) (off:=0) (n:=0) (sl:=0) (c:=0) (k:=K) (by omega)
    exact this
  ·refine⟨.slice (some ⟨bl,6*(P.length+1),none⟩) Q.length Q.length,fun F e e0 e2=>?_,fun K=>?_,rfl⟩
   ·rw[key F e e0 e2,H6 (by omega),show n - (P.length+1)=Q.length by omega]
   ·have:=Rq.AGM (es:=6) (off:=6*(P.length+1)) (n:=Q.length) (sl:=Q.length) (c:=Q.length) (k:=K) (by rw[lf];omega)
    rw[this,AGJ]
 have hoQ:Bc (flK Q)=true:=gZ fun k hk=>hu k (wI _ (vr _ hk))
 have hoo:6*P.length+(flK Q).length<=(flK (P++x::Q)).length:=by rw[lf,CQ];omega
 have ap:DQ 6 64 83 (.slice (some ⟨bl,0,none⟩) P.length n) src h.marked.quiet=.ok (.slice (some ⟨bl,0,none⟩) (n - 1) n) (h.marked.quiet.wr bl (6*P.length) (flK Q)):=by
  unfold DQ Dj;simp only[hlen,hsrc,AZ,Nat.add_eq];rw[Ac.2 (show P.length+Q.length<=n by omega)];simp only;have e2:FD ⟨bl,0,none⟩ (wY P.length 6)=⟨bl,6*P.length,none⟩:=by
   have:wY P.length 6=6*P.length:=xr _ _;rw[this,Y4]
  rw[e2,Rq.store xm.wf.quiet AEO hoo hoQ,show P.length+Q.length=n - 1 by omega]
 have wr:=Rq.AET xm.wf.quiet hoo;have fx:=Fx.wr (S:=fun b=>b=bl) xm.wf.quiet Rq hoo rfl;generalize h.marked.quiet.wr bl (6 * P.length) (flK Q)=q at ap wr fx;obtain⟨Z,hZ,hov⟩:∃ Z:List IN,Z.length=6/\over (flK (P++x::Q)) (6 * P.length) (flK Q)=flK (P++Q)++Z:=by
  refine⟨(flK (x::Q)).drop (6*Q.length),by rw[xC,CQ,vw];omega,?_⟩;unfold over;have e1:flK (P++x::Q)=flK P++flK (x::Q):=Jc _ _;have e2:6*P.length=(flK P).length:=(CQ P).symm;have e3:(flK Q).length=6*Q.length:=CQ Q;rw[e3,e1,e2,ACr,zL,Jc]
 rw[hov]at wr;have q1:∀ (F:AEB) (e:Env),J 22 e=.slice (some ⟨bl,0,none⟩) P.length n->J 25 e=src->Al .free (Bk 6 64 83 (J 22) (J 25)) F e h.marked=.ok (.slice (some ⟨bl,0,none⟩) (n - 1) n) (h.marked.back q):=fun F e e1 e2=>by
  refine BO ?_;rw[BF,e1,e2];exact ap
 have f1:Fx (fun b=>b=bl) h (h.marked.back q):=((fx.from (h:=h.marked) rfl rfl).same (h2:=h.marked.back q) rfl rfl).from (h:=h) rfl rfl;have R1:(h.marked.back q).Row bl 84 (flK (P++Q)++Z):=wr.same rfl;generalize h.marked.back q=h1 at q1 f1 R1;have lPQ:(flK (P++Q)).length=6 * (n - 1):=by rw[CQ,No];omega
 have AJ7:∀ (F:AEB) (e:Env),J 0 e=.slice (some ⟨bl,0,none⟩) (n - 1) n->J 29 e=AI AT ((n - 1:Nat):Int)->J 7 e=AI AT (n:Int)->D5 83 6 (J 0) (some (J 29)) (some (J 7)) none F e h1=.ok (.slice (some ⟨bl,6*(n - 1),none⟩) 1 1) h1:=fun F e e0 e1 e2=>by
  show(match J 0 e with|.slice a n c=>DR e n c (some (J 29)) (some (J 7)) none (fun l hh m=>EL 83 6 a false l hh m h1)|_=>.no)=_;rw[e0];show Ck e (some (J 7)) (n - 1) n (fun hh=>Ck e (some (J 29)) 0 hh fun l=>EL 83 6 (some ⟨bl,0,none⟩) false l hh n h1)=_;rw[FW e2 (IT _),FW e1 (by omega),fb R1 (by omega),show n - (n - 1)=1 by omega]
 have AIL:6*(n - 1)+(AU K0).length<=(flK (P++Q)++Z).length:=by rw[No,lPQ,hZ];exact IT _
 have cl:∀ (F:AEB) (e:Env),J 31 e=.slice (some ⟨bl,6*(n - 1),none⟩) 1 1->NM Fm.zero (J 31) F e h1=.ok AEE (h1.wr bl (6*(n - 1)) (AU K0)):=fun F e e1=>by
  show(match J 31 e with|.slice none _ _=>Dt h1|.slice (some a) n _=>(match n with| 0=>Dt h1|vo k=>Co a (BQ Fm.zero (vo k)) h1 Dt)|_=>.no)=_;rw[e1];show Co ⟨bl,6*(n - 1),none⟩ (BQ Fm.zero 1) h1 Dt=_;rw[XO,R1.store f1.wf AEO AIL rfl];rfl
 have wr2:=R1.AET f1.wf AIL;have fx2:=Fx.wr (S:=fun b=>b=bl) f1.wf R1 AIL rfl;have AJ8:over (flK (P++Q)++Z) (6*(n - 1)) (AU K0)=flK (P++Q)++AU K0:=by
  unfold over;rw[<- lPQ,ACr,zL,Ts,List.drop_of_length_le (by omega),wF]
 rw[AJ8]at wr2;generalize h1.wr bl (6 * (n - 1)) (AU K0)=h2 at cl wr2 fx2;refine⟨h2,?_,f1.trans fx2,wr2⟩;have c1:iEq (P.length:Int) ((P.length+1:Nat):Int)=false:=Bj (by omega);rw[oW rfl];unfold d81;simp only[iN,IS,sT,By,BY,reduceIte,AX,Dv];obtain⟨v,hv⟩:=AJ4 (call AC m) (Env.set 12 (AI AT (n:Int)) (Env.set 6 (.slice none 0 0) (Env.set 2 (AI AT ((P.length+1:Nat):Int)) (Env.set 1 (AI AT (P.length:Int)) (Env.set 0 (.slice (some ⟨bl,0,none⟩) n n) e0))))) (by simp[AD]) (by simp[AD]) (by simp[AD]) (by simp[AD]);rw[hv];simp only[sT,By,BY,reduceIte,AJ,AH,c1,AX,Dv,A3,AJ5,AJ6,q1,AJ7,cl,lV0]
end
end
noncomputable section
open Go
set_option maxRecDepth 100000
theorem Fx.xt{S:Nat->Prop}{h h':Hp}(x:Fx S h h')(hs:∀ b,S b->h.next<=b):h.Ext h':=⟨x.next,fun i hi=>x.get i hi fun s=>by have:=hs i s;omega,x.low _ (AAK _ _) (yX _ _) fun b hb=>wd (yX _ _) (hs b hb),x.wf⟩
theorem Fx.xtF{S:Nat->Prop}{h0 h h':Hp}(x0:h0.Ext h)(x:Fx S h h')(hs:∀ b,S b->h0.next<=b):h0.Ext h':=Fx.xt (S:=S) ((Fx.of x0).trans x) hs
theorem ay(a b:List Nat):iv (a++b)=iv a++iv b:=by unfold iv ints;rw[wa,wa]
section
variable {F:AEB}{e:Env}{h h':Hp}{A:At}{T M:List Nat}{c0 bad m k p n bl:Nat}{arm:Int}{fr:List Nat}{v lv fv:IN}
theorem ot{n z:Nat}(W:h.Wf){u:IN}{xs:List Nat}(V:h.AEb u (iv xs))(hl:xs.length<=1000):
  ∃ h1 w h2 b,call AC (n+1) 48 [u] h=.ok w h1/\h.Ext h1/\DQ 1 8 3 w (.slice (some ⟨h1.next,0,none⟩) 1 1) (h1.AEA 0 [AI AT (z:Int)])=.ok (.slice (some ⟨b,0,none⟩) (xs.length+1) (xs.length+1)) h2/\h.Ext h2/\h2.Row b 4 (iv (xs++[z]))/\h.next<=b:=by
 have ha:Bc (iv xs)=true:=HU .i64 _;have fin:∀ (h1:Hp) (w:IN),h.Ext h1->(h1.Own h.next 3 w (iv xs)\/(xs=[]/\∃ b,w=.slice (some ⟨b,0,none⟩) 0 0/\h1.Row b 0 []))->∃ h2 b,DQ 1 8 3 w (.slice (some ⟨h1.next,0,none⟩) 1 1) (h1.AEA 0 [AI AT (z:Int)])=.ok (.slice (some ⟨b,0,none⟩) (xs.length+1) (xs.length+1)) h2/\h.Ext h2/\h2.Row b 4 (iv (xs++[z]))/\h.next<=b:=fun h1 w x1 o=>by
  have y2:=(Hp.Ext.refl x1.wf).AEA 0 [xY .i64 (z:Int)];have Rw:=Hp.Row.new x1.wf 0 [xY .i64 (z:Int)];have hlt:h1.next<(h1.AEA 0 [xY .i64 (z:Int)]).next:=Nat.lt_succ_self _;generalize h1.AEA 0 [xY .i64 (z:Int)]=g at y2 Rw hlt;have x2:=x1.trans y2;have Vz:g.AEb (.slice (some ⟨h1.next,0,none⟩) 1 1) [AI AT (z:Int)]:=.inr ⟨h1.next,0,1,0,_,rfl,Rw,IT _,rfl⟩;rcases o with o|⟨rfl,b,rfl,r⟩
  ·obtain⟨h2,v',a1,a2,a3,a4,_⟩:=En (eb:=8) (en:=3) (k:=h.next) x2 (IT _) (by have:=x1.next;omega) (o.ext x1.wf y2) Vz (ADj) rfl (by rw[Dd];show(xs.length+1+1)*9<=_;omega)
   rcases a3 with ⟨_,h2'⟩|⟨b,h1',h2',h3',h4'⟩
   ·have:=congrArg AAM h2'
    simp at this
   ·have e1:(iv xs++[xY .i64 (z:Int)]).length=xs.length+1:=by rw[No,Dd];rfl
    rw[e1]at h1';subst h1';exact⟨h2,b,a1,a2,by rw[ay];exact h2',h3'⟩
  ·have hs:∀ K:List IN->Go.Proofs.YtedbmmfebjfibaaGreat.R,BJ g 1 (.slice (some ⟨h1.next,0,none⟩) 1 1) 1 K=K [AI AT (z:Int)]:=fun K=>Rw.AGM (es:=1) (off:=0) (n:=1) (IT _)
   obtain⟨h2,a1,a2,a3,a4,_⟩:=Ee (eb:=8) (en:=3) x2 (r.ext x1.wf y2) hs rfl rfl (by omega) rfl (by omega);exact⟨h2,g.next,a1,a2,a3,by have:=x2.next;omega⟩
 rcases V with ⟨rfl,hx⟩|⟨b,off,c,el,L,h1,h2,h3,h4⟩
 ·have hx0:xs=[]:=by
   have:=congrArg AAM hx;rw[Dd]at this;exact wh this
  have ne:∀ e:Env,J 0 e=.slice none 0 0->oEq VA.k false (J 0) (kV (.slice none 0 0)) (call AC n) e h=.ok (.bool true) h:=fun e he=>Jo (t:=0) XJ he
  have k1:call AC (n+1) 48 [.slice none 0 0] h=.ok AEP h:=by
   rw[KT rfl];unfold d48;simp only[iN,IS,sT,By,BY,reduceIte,ne,lV0]
  obtain⟨h2,b,q1,q2,q3,q4⟩:=fin h AEP (.refl W) (.inl (.inl ⟨rfl,hx⟩));exact⟨h,AEP,h2,b,k1,.refl W,q1,q2,q3,q4⟩
 ·have V:h.AEb u (iv xs):=.inr ⟨b,off,c,el,L,h1,h2,h3,h4⟩
  have x1:=(Hp.Ext.refl W).AEA 0 [];have R:=Hp.Row.new W 0 [];have es:=fun (e:Env) (t:List IN)=>Kf (F:=call AC n) (e:=e) (t:=t) W
  have n1:(h.AEA 0 []).next=h.next+1:=rfl;generalize h.AEA 0 []=g at x1 R es n1;have ne:∀ e:Env,J 0 e=u->oEq VA.k false (J 0) (kV (.slice none 0 0)) (call AC n) e h=.ok (.bool false) h:=fun e he=>Jn (t:=0) XJ (he.trans h1)
  have V1:=V.ext W x1;have big:=W.big;rcases wg xs.length with hz|hz
  ·obtain rfl:xs=[]:=wh hz
   have ap:DQ 1 8 3 (.slice (some ⟨h.next,0,none⟩) 0 0) u g=.ok (.slice (some ⟨h.next,0,none⟩) 0 0) (g.wr h.next 0 []):=Hv x1.wf big R (fun k=>V1.src rfl k) V1.lenV;have R2:=R.AET x1.wf (off:=0) (vs:=[]) (IT _);have x2:=R.AEi x1 (IT _) (off:=0) (vs:=[]) (IT _);have k1:call AC (n+1) 48 [u] h=.ok (.slice (some ⟨h.next,0,none⟩) 0 0) (g.wr h.next 0 []):=by
    rw[KT rfl];unfold d48;simp only[iN,IS,sT,By,BY,reduceIte,ne,es,BF,ap,lV0]
   obtain⟨h2,b,q1,q2,q3,q4⟩:=fin _ (.slice (some ⟨h.next,0,none⟩) 0 0) x2 (.inr ⟨rfl,h.next,rfl,R2⟩);exact⟨_,_,h2,b,k1,x2,q1,q2,q3,q4⟩
  ·have hlv:=V1.lenV
   rw[Dd]at hlv;obtain⟨h2,a1,a2,a3,a4,a5⟩:=Ee (eb:=8) (en:=3) (n:=xs.length) x1 R (es:=1) (fun k=>by have:=V1.src rfl k;rwa [Dd]at this) hlv (by rw[Dd];omega) hz ha (by omega);have k1:call AC (n+1) 48 [u] h=.ok (.slice (some ⟨g.next,0,none⟩) xs.length xs.length) h2:=by
    rw[KT rfl];unfold d48;simp only[iN,IS,sT,By,BY,reduceIte,ne,es,BF,a1,lV0]
   obtain⟨h3,b,q1,q2,q3,q4⟩:=fin h2 (.slice (some ⟨g.next,0,none⟩) xs.length xs.length) a2 (.inl (.inr ⟨g.next,by rw[Dd],a3,by omega,by omega⟩));exact⟨h2,_,h3,b,k1,a2,q1,q2,q3,q4⟩
theorem WA{P Q:List Kt}{x:Kt}(W:h.Wf)(s:Sl h A T M c0 arm (P++x::Q) fr lv fv bad false)(hkl:(P++x::Q).length<=100)(hfl:fr.length<=11)(hp3:3*x.p+3<=A.n):
  ∃ h' lv' fv',call AC (m+7) 52 [pt A.bs,AI AT (P.length:Int)] h=.ok (AI AT (x.p:Int)) h'/\Fx (fun b=>b=A.bs) h h'/\Sl h' A T M c0 arm (P++Q) (ED (fr++[x.p])) lv' fv' bad false/\∀ b,AEe fv' b->h.next<=b:=by
 have hD:=s.AGs W;have hu:∀ k∈P++x::Q,oneCell k.u=true:=fun k hk=>(s.ko k hk).1.vs.one.2.1
 obtain⟨_,_,_,l3,_⟩:=A7 s.row;obtain⟨b0,_,ix,_,lde⟩:=s.ls.at (i:=P.length) (k:=x) F9;have lp:=lde 5 (AI AT (x.p:Int)) rfl;obtain⟨h1,w,k1,x1,ko⟩:=Va (m:=m+5) W s.ls hu (by omega);obtain⟨bl,hw,Rb,hbl,AEO⟩:∃ bl,w=.slice (some ⟨bl,0,none⟩) (P++x::Q).length (P++x::Q).length/\h1.Row bl 84 (flK (P++x::Q))/\h.next<=bl/\256<=bl:=by
  rcases ko with (⟨_,h2⟩|h2)|⟨h2,_⟩
  ·have:=congrArg AAM h2
   simp at this
  ·exact h2
  ·have:=congrArg AAM h2
   simp at this
 subst hw;obtain⟨h2,k2,f2,R2⟩:=Xo (m:=m+5) x1.wf Rb AEO rfl (by omega) hu;have x2:h.Ext h2:=Fx.xtF x1 f2 fun b hb=>by rw[hb];exact hbl
 have s2:=s.ext W x2;have nD:∀ b,h.next<=b->¬ A.D b:=fun b hb hd=>by have:=hD b hd;omega
 have nbs:∀ b,¬ A.D b->b≠A.bs:=fun b hb h=>hb (.inl h)
 have lPQ:(P++x::Q).length=(P++Q).length+1:=by simp only[No,vw];omega
 generalize AIM:(AAr (some ⟨bl,0,none⟩) ((P++x::Q).length - 1) (P++x::Q).length)=lv' at k2;obtain⟨h3,st3,AHO,n3,f3,_⟩:=D0 (v:=lv') x2.wf s2.row (off:=3) (show 3<7 by omega) s.ne.2.2.2.2 (by rw[<- AIM];rfl) (by rw[<- AIM];rfl);have AHO:h3.Row A.bs 0 (slL A.bd A.tb lv' fv bad false):=AHO;have s3:Sl h3 A T M c0 arm (P++Q) fr lv' fv bad false:=s2.bsx x2.wf f3 AHO (by
   rw[<- AIM];exact(QK (n:=(P++x::Q).length - 1) (c:=(P++x::Q).length) (f3.row x2.wf R2 (nbs _ (nD _ hbl))) (by omega) (by omega)).mono fun b hb=>by rw[show b=bl from hb];exact nD _ hbl)
  (fun k hk=>by
   have hk':k∈P++x::Q:=by
    rcases wK.1 hk with h1|h1
    ·exact wU _ h1
    ·exact wI _ (vr _ h1)
   exact⟨(s2.ko k hk').1.keep fun b el L hb _ r=>f3.row x2.wf r (nbs b hb),(s2.ko k hk').2⟩)
  (s2.fs.keep fun b el L hb r=>f3.row x2.wf r (nbs b hb)) ⟨by have:=s.le.1;omega,s.le.2⟩
 obtain⟨_,_,_,_,l4,_⟩:=A7 s3.row;obtain⟨h4,w4,h5,b5,k4,x4,a5,x5,R5,hb5⟩:=ot (n:=m+5) (z:=x.p) f3.wf (xs:=fr) s3.fs.vals (by omega);have bs:=fun (F:AEB) (e:Env) (he:J 5 e=AI AT (x.p:Int))=>Eg (F:=F) x4.wf he
 have s5:=s3.ext f3.wf x5;generalize AG2:(AAr (some ⟨b5,0,none⟩) (fr.length+1) (fr.length+1))=fv' at a5;obtain⟨h6,st6,AIN,n6,f6,_⟩:=D0 (v:=fv') x5.wf s5.row (off:=4) (show 4<7 by omega) s.ne.2.2.2.2 (by rw[<- AG2];rfl) (by rw[<- AG2];rfl);have AIN:h6.Row A.bs 0 (slL A.bd A.tb lv' fv' bad false):=AIN;have AI1:h.next<=b5:=by have:=x2.next;have:=f3.next;omega
 have nb5:=nD _ AI1;have R6:=f6.row x5.wf R5 (nbs _ nb5);have AIO:256<=b5:=by have:=W.big;omega
 have lfa:(iv (fr++[x.p])).length=fr.length+1:=by rw[Dd,No];rfl
 have hfree:∀ q∈fr++[x.p],3*q+3<=A.n:=fun q hq=>by
  rcases wK.1 hq with h1|h1
  ·exact s.le.2.2.2 q h1
  ·rw[v7.1 h1];exact hp3
 have s6:Sl h6 A T M c0 arm (P++Q) (fr++[x.p]) lv' fv' bad false:=s5.bsx x5.wf f6 AIN (s5.ls.keep fun b el L hb r=>f6.row x5.wf r (nbs b hb)) (fun k hk=>⟨(s5.ko k hk).1.keep fun b el L hb _ r=>f6.row x5.wf r (nbs b hb),(s5.ko k hk).2⟩)
  (by
   rw[<- AG2];refine .inr ⟨b5,4,?_,R6,.inl rfl,nb5⟩;show _=AAr _ (iv (fr++[x.p])).length (iv (fr++[x.p])).length;rw[lfa]) ⟨s5.le.1,by rw[No];show fr.length+1<=1000;omega,s5.le.2.2.1,hfree⟩
 obtain⟨_,_,_,_,l46,_⟩:=A7 s6.row;obtain⟨h7,k7,f7,R7⟩:=dX (m:=m) (Z:=[]) (n:=fr.length+1) (c:=fr.length+1) f6.wf (by rw[wF];exact R6) AIO (by rw[No];rfl) (by omega);rw[wF]at R7;rw[AG2]at k7;have pm:=HB (fr++[x.p]);have kp:∀ b el L,b≠b5->h6.Row b el L->h7.Row b el L:=fun b el L hb r=>f7.row f6.wf r hb
 have nbb:∀ b el L,(el=0\/el=6\/el=84)->h6.Row b el L->b≠b5:=fun b el L he r=>Cp r R6 (by omega)
 have s7:Sl h7 A T M c0 arm (P++Q) (ED (fr++[x.p])) lv' fv' bad false:=by
  refine⟨kp _ _ _ (nbb _ _ _ (.inl rfl) s6.row) s6.row,s6.dk.fr f6.wf f7 (nbb _ _ _ (.inl rfl) s6.dk.disk) (nbb _ _ _ (.inl rfl) s6.dk.med) (fun h=>(G6 R6 s6.dk.map) h.symm),kp _ _ _ (nbb _ _ _ (.inl rfl) s6.tab) s6.tab,s.tok,?_,fun y hy=>⟨(s6.ko y hy).1.keep fun b el L hb he r=>kp b el L (nbb b el L (by omega) r) r,(s6.ko y hy).2⟩,?_,s.ne,?_⟩
  ·rcases s6.ls with h1|⟨b,c,el,L,q1,q2,q3,q4,q5,q6,q7⟩
   ·exact .inl h1
   ·exact .inr ⟨b,c,el,L,q1,q2,kp _ _ _ (nbb b el _ (by omega) q3) q3,q4,q5,q6,q7⟩
  ·rw[<- AG2]
   refine .inr ⟨b5,4,?_,R7,.inl rfl,nb5⟩;show _=AAr _ (iv (ED (fr++[x.p]))).length (iv (ED (fr++[x.p]))).length;rw[Dd,pm.length_eq,No];rfl
  ·exact⟨s6.le.1,by rw[pm.length_eq];exact s6.le.2.1,s6.le.2.2.1,fun q hq=>hfree q (pm.mem_iff.1 hq)⟩
 have fx:Fx (fun b=>b=A.bs) h h7:=by
  have e1:Fx (fun b=>b=A.bs) h h2:=.of x2;have e2:=((e1.trans f3).trans (.of x5)).trans f6;exact e2.fresh f7 AI1
 refine⟨h7,lv',fv',?_,fx,s7,fun b hb=>by
  obtain⟨off,n,c,e1⟩:=hb;rw[<- AG2]at e1;injection e1 with e1 _ _
  injection e1 with e1
  injection e1 with e1 _ _
  omega⟩
 have a1:=CF (i:=P.length) (h:=h1) (by have:=lPQ;simp only[No]at hkl;omega);have k1':call AC (m+6) 49 [lv] h=.ok (.slice (some ⟨bl,0,none⟩) (P++x::Q).length (P++x::Q).length) h1:=k1;have k2':call AC (m+6) 81 [.slice (some ⟨bl,0,none⟩) (P++x::Q).length (P++x::Q).length,AI AT (P.length:Int),AI AT ((P.length+1:Nat):Int)] h1=.ok lv' h2:=k2;have k4':call AC (m+6) 48 [fv] h3=.ok w4 h4:=k4;have k7':call AC (m+6) 82 [fv'] h6=.ok AEE h7:=k7;rw[nz rfl];unfold d52;simp only[iN,IS,sT,By,BY,reduceIte,Ao,Ad,AG,AM,vk,AK,AO,l3,Ay,ix,lp,cA0,k1',BG,a1,k2',Ab,st3,l4,k4',bs,BF,a5,st6,l46,k7',lV0]
end
end
noncomputable section
open Go
set_option maxRecDepth 100000
def FG(ks:List Kt)(a b c:Int):Option Int:=match ks.find? (BN a b c)with
 |some k=>if k.s=2 then some 0 else if Bm a b c ks=true then some 61 else none
 |none=>if Bm a b c ks=true then some 61 else some 60
def elB(a b c:Int)(k:Kt):Bool:=decide (k.a=a) && decide (k.b=b) && decide (k.c<c)
def frE(fr:List Nat)(out:List Kt):List Nat:=out.foldl (fun f x=>ED (f++[x.p])) fr
theorem RG(fr:List Nat)(out:List Kt)(x:Kt):frE fr (out++[x])=ED (frE fr out++[x.p]):=by unfold frE;rw[AA1];rfl
theorem Je:∀ (out:List Kt) (fr:List Nat),(frE fr out).Perm (fr++out.map (·.p))
 |[],fr=>by rw[List.map_nil,wF];exact .refl _
 |x::out,fr=>by
  show(frE (ED (fr++[x.p])) out).Perm _;have:=Je out (ED (fr++[x.p]));refine this.trans (((HB _).append_right _).trans ?_);rw[wG];exact .refl _
theorem V5(fr:List Nat)(out:List Kt):(frE fr out).length=fr.length+out.length:=by rw[(Je out fr).length_eq,No,OF]
theorem Mn{α:Type}(P:α->Bool)(l:List α)(x:α):(l++[x]).filter P=if P x=true then l.filter P++[x]else l.filter P:=by
 rw[List.filter_append];cases h:P x
 ·rw[if_neg (by decide),xO (by rw[h];decide),ABU,wF]
 ·rw[if_pos rfl,xN h,ABU]
theorem Fx.drop{S:Nat->Prop}{h h':Hp}(x:Fx (fun b=>S b\/h.next<=b) h h'):Fx S h h':=⟨x.next,fun i hi hs=>x.get i hi (fun h1=>h1.elim hs (fun h2=>by omega)),x.wf,fun L q1 q2 q3=>x.low L q1 q2 fun b hb=>hb.elim (q3 b) (fun h2=>by omega)⟩
theorem Hp.WI.blk{h:Hp}{S:Nat->Prop}{v:IN}{xs:List IN}(o:h.WI S v xs){b:Nat}(hb:AEe v b):∃ el L,h.Row b el L:=by
 obtain⟨_,_,_,e⟩:=hb;rcases o with ⟨h1,_⟩|⟨b',el,h1,h2,_⟩
 ·rw[h1]at e;cases e
 ·rw[h1]at e
  injection e with e _ _
  injection e with e
  injection e with e _ _
  exact⟨el,_,e ▸ h2⟩
section
variable {F:AEB}{e:Env}{h h':Hp}{S:Nat->Prop}{A:At}{T M:List Nat}{c0 bad m k p n bl:Nat}{arm:Int}{ks:List Kt}{fr:List Nat}{v lv fv:IN}{ov:Bool}
theorem Hp.Own.fx{en:Nat}{xs:List IN}(o:h.Own k en v xs)(W:h.Wf)(x:Fx S h h')(hs:∀ b,k<=b->¬ S b):h'.Own k en v xs:=by
 rcases o with h1|⟨b,h1,h2,h3,h4⟩
 ·exact .inl h1
 ·exact .inr ⟨b,h1,x.row W h2 (hs b h3),h3,h4⟩
theorem Hp.Own.AJ9{en:Nat}{xs:List IN}(o:h.Own k en v xs)(W:h.Wf){b:Nat}(hb:AEe v b):b<h.next:=by
 obtain⟨_,_,_,e⟩:=hb;rcases o with ⟨h1,_⟩|⟨b',h1,h2,_⟩
 ·rw[h1]at e;cases e
 ·rw[h1]at e
  injection e with e _ _
  injection e with e
  injection e with e _ _
  exact e ▸ h2.lt W
theorem Sl.app{w:IN}{xs:List IN}(s:Sl h A T M c0 arm ks fr lv fv bad ov)(o:h.Own k 3 w xs)(hr:∀ b el L,¬ AEe w b->h.Row b el L->h'.Row b el L)(hm:h'.bl.get A.bc=h.bl.get A.bc)(hf:∀ b,AEe fv b->¬ AEe w b):Sl h' A T M c0 arm ks fr lv fv bad ov:=by
 have nb:∀ b el L,(el=0\/el=6\/el=84)->h.Row b el L->¬ AEe w b:=fun b el L he r hb=>by
  obtain⟨_,_,_,e⟩:=hb;rcases o with ⟨h1,_⟩|⟨b',h1,h2,_⟩
  ·rw[h1]at e;cases e
  ·rw[h1]at e
   injection e with e _ _
   injection e with e
   injection e with e _ _
   exact Cp r h2 (by omega) e.symm
 refine⟨hr _ _ _ (nb _ _ _ (.inl rfl) s.row) s.row,⟨hr _ _ _ (nb _ _ _ (.inl rfl) s.dk.disk) s.dk.disk,hr _ _ _ (nb _ _ _ (.inl rfl) s.dk.med) s.dk.med,s.dk.len,s.dk.byt,hm.trans s.dk.map,s.dk.big,s.dk.n1⟩,hr _ _ _ (nb _ _ _ (.inl rfl) s.tab) s.tab,s.tok,?_,fun y hy=>⟨(s.ko y hy).1.keep fun b el L hb he r=>hr b el L (nb b el L (by omega) r) r,(s.ko y hy).2⟩,?_,s.ne,s.le⟩
 ·rcases s.ls with h1|⟨b,c,el,L,q1,q2,q3,q4,q5,q6,q7⟩
  ·exact .inl h1
  ·exact .inr ⟨b,c,el,L,q1,q2,hr _ _ _ (nb b el _ (by omega) q3) q3,q4,q5,q6,q7⟩
 ·rcases s.fs with h1|⟨b,el,h1,h2,h3,h4⟩
  ·exact .inl h1
  ·exact .inr ⟨b,el,h1,hr _ _ _ (hf b ⟨_,_,_,h1⟩) h2,h3,h4⟩
theorem jP(W:h.Wf){z:Nat}{xs:List Nat}(hk:k<=h.next)(o:h.Own k 3 v (iv xs))(hl:xs.length<=1000):
  ∃ h2 v',DQ 1 8 3 v (.slice (some ⟨h.next,0,none⟩) 1 1) (h.AEA 0 [AI AT (z:Int)])=.ok v' h2/\Fx (fun b=>k<=b) h h2/\h2.Own k 3 v' (iv (xs++[z]))/\∀ b el L,¬ AEe v b->h.Row b el L->h2.Row b el L/\¬ AEe v' b:=by
 have y2:=(Hp.Ext.refl W).AEA 0 [xY .i64 (z:Int)];have Rw:=Hp.Row.new W 0 [xY .i64 (z:Int)];have n2:(h.AEA 0 [xY .i64 (z:Int)]).next=h.next+1:=rfl;generalize h.AEA 0 [xY .i64 (z:Int)]=g at y2 Rw n2;have Vz:g.AEb (.slice (some ⟨h.next,0,none⟩) 1 1) [AI AT (z:Int)]:=.inr ⟨h.next,0,1,0,_,rfl,Rw,IT _,rfl⟩;have x0:Hp.Ext {g with next:=k,low:=min g.low k} g:=⟨by show k<=g.next;omega,fun _ _=>rfl,by show min (min g.low k) k<=g.low;omega,y2.wf⟩;obtain⟨h2,v',a1,a2,a3,a4,a5⟩:=En (eb:=8) (en:=3) (k:=k) x0 (IT _) (by omega) (o.ext W y2) Vz ADj rfl (by rw[Dd];show(xs.length+1+1) * 9<=_;omega);have f2:Fx (fun b=>k<=b) g h2:=⟨by omega,fun i hi hs=>a2.get i (by show i<k;omega),a2.wf,fun L q1 q2 q3=>wd (ADy.2 ⟨ADy.2 ⟨q1,q3 k (IT _)⟩,q3 k (IT _)⟩) a2.low⟩;refine⟨h2,v',a1,(Fx.of y2).trans f2,by rw[ay];exact a3,fun b el L hb r=>?_⟩;exact a5 b el L hb (r.ext W y2)
theorem Zi{a b c:Int}(W:h.Wf)(s:Sl h A T M c0 arm ks fr lv fv bad false)(hkl:fr.length+ks.length<=11)(hp3:∀ k∈ks,3*k.p+3<=A.n)(s0:J 0 e=pt A.bs)(s1:J 1 e=AI AT a)(s2:J 2 e=AI AT b)(s3:J 3 e=AI AT c)(s15:J 15 e=AEP)(s16:J 16 e=AI AT ((0:Nat):Int)):
  ∃ e' h' lv' fv' w,Aw cmL (call AC (m+7)) e h=.exit 1 e' h'/\Fx (fun b=>b=A.bs) h h'/\J 0 e'=pt A.bs/\J 15 e'=w/\h'.Own h.next 3 w (iv ((ks.filter (elB a b c)).map (·.p)))/\
   Sl h' A T M c0 arm (ks.filter fun k=> !elB a b c k) (frE fr (ks.filter (elB a b c))) lv' fv' bad false:=by
 have hD:=s.AGs W;have hbs:=hD A.bs (.inl rfl);refine BU (I:=fun i e' h'=>∃ lv' fv' w,Fx (fun b=>b=A.bs\/h.next<=b) h h'/\J 0 e'=pt A.bs/\J 1 e'=AI AT a/\J 2 e'=AI AT b/\J 3 e'=AI AT c/\J 15 e'=w/\J 16 e'=AI AT ((((ks.take i).filter fun k=> !elB a b c k).length:Nat):Int)/\i<=ks.length/\h'.Own h.next 3 w (iv (((ks.take i).filter (elB a b c)).map (·.p)))/\
   Sl h' A T M c0 arm ((ks.take i).filter (fun k=> !elB a b c k)++ks.drop i) (frE fr ((ks.take i).filter (elB a b c))) lv' fv' bad false/\∀ b,AEe fv' b->¬ AEe w b)
  (Q:=fun x=>∃ e' h' lv' fv' w,x=.exit 1 e' h'/\Fx (fun b=>b=A.bs) h h'/\J 0 e'=pt A.bs/\J 15 e'=w/\h'.Own h.next 3 w (iv ((ks.filter (elB a b c)).map (·.p)))/\
   Sl h' A T M c0 arm (ks.filter fun k=> !elB a b c k) (frE fr (ks.filter (elB a b c))) lv' fv' bad false) ks.length (by omega) (fun i e' h' ⟨lv',fv',w,fx,t0,t1,t2,t3,t15,t16,hi,ow,sl,hf⟩=>?_) ⟨lv,fv,AEP,.refl W,s0,s1,s2,s3,s15,s16,wP _,.inl ⟨rfl,rfl⟩,s,fun b _ h=>GN h⟩
 have W':=fx.wf;obtain⟨_,_,_,l3,_⟩:=A7 sl.row;have ln:=sl.ls.len h';have hfl:=V5 fr ((ks.take i).filter (elB a b c));have hf1:((ks.take i).filter (elB a b c)).length<=(ks.take i).length:=yW _ _;have hf2:((ks.take i).filter (fun k=> !elB a b c k)).length<=(ks.take i).length:=yW _ _;rw[wT,Nat.min_eq_left hi]at hf1 hf2;by_cases hlt:i<ks.length
 ·left
  obtain⟨x,hx⟩:∃ x,ks[i]? =some x:=⟨_,sh hlt⟩;have hxm:=vy hx;have htk:ks.take (i+1)=ks.take i++[x]:=by rw[List.take_add_one,hx];rfl
  have hdr:ks.drop i=x::ks.drop (i+1):=by
   rw[xW hlt];rw[sh hlt]at hx;injection hx with hx
   rw[hx]
  have hfN:=Mn (fun k=> !elB a b c k) (ks.take i) x;have hfY:=Mn (elB a b c) (ks.take i) x;rw[<- htk]at hfN hfY;generalize hP:(ks.take i).filter (fun k=> !elB a b c k)=P at *;generalize hO:(ks.take i).filter (elB a b c)=O at *;rw[hdr]at sl ln;have hPl:(P++x::ks.drop (i+1)).length=P.length+1+(ks.length - (i+1)):=by rw[No,vw,xC];omega
  have c1:iLt (P.length:Int) ((P++x::ks.drop (i+1)).length:Int)=true:=EF (by omega);obtain⟨b',_,ix,ld,_⟩:=sl.ls.at (i:=P.length) (k:=x) F9;have al:=fun (F:AEB) (e:Env)=>Bx (F:=F) (e:=e) W' (n:=6) (t:=Du)
  have Ra:=Hp.Row.alloc W' HE (show(AU K0).length=6 from rfl);have y1:h'.Ext (h'.push (.cells Du 6 0)):=(Hp.Ext.refl W').push _;generalize h'.push (.cells Du 6 0)=h1 at al Ra y1;have hu:=(sl.ko x (wI _ vp)).1.vs.one.2.1;obtain⟨st,_,y2,R5,n2⟩:=Nf W' y1 (IT _) Ra rfl (k:=x) hu;generalize h1.wr h'.next 0 (AU x)=h2 at st y2 R5 n2;obtain⟨m0,m1,m2,_⟩:=Bt R5;have sl2:=sl.ext W' y2;cases hel:elB a b c x with
  |false=>
   have a3:=CF (i:=P.length) (h:=h2) (by omega);rw[if_pos (by rw[hel];rfl)]at hfN;rw[if_neg (by rw[hel];decide)]at hfY;have hrun:∃ e2,cmL (call AC (m+7)) e' h'=.norm e2 h2/\J 0 e2=pt A.bs/\J 1 e2=AI AT a/\J 2 e2=AI AT b/\J 3 e2=AI AT c/\J 15 e2=w/\J 16 e2=AI AT ((P.length+1:Nat):Int):=by
    unfold cmL;by_cases h1:x.a=a
    ·have d1:iEq x.a a=true:=Ci h1
     by_cases h2:x.b=b
     ·have d2:iEq x.b b=true:=Ci h2
      have d3:iLt x.c c=false:=HL (fun h3=>by
       unfold elB at hel;rw[decide_eq_true h1,decide_eq_true h2,decide_eq_true h3]at hel;cases hel)
      simp only[sT,By,BY,reduceIte,gD,Ao,t0,Ad,AG,AM,vk,AK,AO,l3,AX,ln,AJ,AH,t16,c1,Ay,ix,Aq,As,ld,al,Ab,st,m0,m1,m2,t1,t2,t3,d1,d2,d3,BG,a3];exact⟨_,rfl,by simp[AD,t0,t1,t2,t3,t15]⟩
     ·have d2:iEq x.b b=false:=Bj h2
      simp only[sT,By,BY,reduceIte,gD,Ao,t0,Ad,AG,AM,vk,AK,AO,l3,AX,ln,AJ,AH,t16,c1,Ay,ix,Aq,As,ld,al,Ab,st,m0,m1,m2,t1,t2,t3,d1,d2,BG,a3];exact⟨_,rfl,by simp[AD,t0,t1,t2,t3,t15]⟩
    ·have d1:iEq x.a a=false:=Bj h1
     simp only[sT,By,BY,reduceIte,gD,Ao,t0,Ad,AG,AM,vk,AK,AO,l3,AX,ln,AJ,AH,t16,c1,Ay,ix,Aq,As,ld,al,Ab,st,m0,m1,m2,t1,t2,t3,d1,BG,a3];exact⟨_,rfl,by simp[AD,t0,t1,t2,t3,t15]⟩
   obtain⟨e2,r1,r2,r3,r4,r5,r6,r7⟩:=hrun;refine⟨hlt,e2,h2,r1,lv',fv',w,fx.trans (.of y2),r2,r3,r4,r5,r6,?_,hlt,?_,?_,hf⟩
   ·rw[hfN,r7,No];rfl
   ·rw[hfY];exact ow.ext W' y2
   ·rw[hfN,hfY,wG];exact sl2
  |true=>
   rw[if_neg (by rw[hel];decide)]at hfN;rw[if_pos hel]at hfY;have hxx:x.a=a/\x.b=b/\x.c<c:=by
    unfold elB at hel;rw[wJ,wJ]at hel;exact⟨of_decide_eq_true hel.1.1,of_decide_eq_true hel.1.2,of_decide_eq_true hel.2⟩
   have d1:iEq x.a a=true:=Ci hxx.1;have d2:iEq x.b b=true:=Ci hxx.2.1;have d3:iLt x.c c=true:=LQ hxx.2.2;obtain⟨h3,lv3,fv3,k3,f3,s3',hfr⟩:=WA (m:=m) y2.wf sl2 (by omega) (by omega) (hp3 x hxm);have ow3:h3.Own h.next 3 w (iv (O.map (·.p))):=(ow.ext W' y2).fx y2.wf f3 fun b hb h1=>by omega
   have n3:h.next<=h3.next:=by have:=fx.next;have:=y2.next;have:=f3.next;omega
   obtain⟨h5,w',k5,f5,ow5,kp5⟩:=jP (z:=x.p) f3.wf n3 ow3 (by rw[OF];omega);have bs:=fun (F:AEB) (e:Env) (he:J 134 e=AI AT (x.p:Int))=>Eg (F:=F) f3.wf he
   have hm5:h5.bl.get A.bc=h3.bl.get A.bc:=f5.get _ ((s3'.dk.lt f3.wf).2.2) (fun h1=>by
    have:=hD A.bc (.inr (.inr (.inr rfl)));omega)
   have hf3:∀ b,AEe fv3 b->¬ AEe w b:=fun b hb h1=>by
    have:=hfr b hb;have:=ow.AJ9 W' h1;have:=y2.next;omega
   have s5:=s3'.app ow3 (fun b el L hb r=>(kp5 b el L hb r).1) hm5 hf3;have hf5:∀ b,AEe fv3 b->¬ AEe w' b:=fun b hb=>by
    obtain⟨el,L,r⟩:=s3'.fs.blk hb;exact(kp5 b el L (hf3 b hb) r).2
   have a3:=fun (g:Hp)=>CF (i:=P.length) (h:=g) (by omega)
   have k3':call AC (m+7) 52 [pt A.bs,AI AT (P.length:Int)] h2=.ok (AI AT (x.p:Int)) h3:=k3;have hrun:∃ e2,cmL (call AC (m+7)) e' h'=.norm e2 h5/\J 0 e2=pt A.bs/\J 1 e2=AI AT a/\J 2 e2=AI AT b/\J 3 e2=AI AT c/\J 15 e2=w'/\J 16 e2=AI AT (P.length:Int):=by
    unfold cmL;simp only[sT,By,BY,reduceIte,gD,Ao,t0,Ad,AG,AM,vk,AK,AO,l3,AX,ln,AJ,AH,t16,c1,Ay,ix,Aq,As,ld,al,Ab,st,m0,m1,m2,t1,t2,t3,d1,d2,d3,cA0,k3',bs,BF,t15,k5];exact⟨_,rfl,by simp[AD,t0,t1,t2,t3,t16]⟩
   obtain⟨e2,r1,r2,r3,r4,r5,r6,r7⟩:=hrun;refine⟨hlt,e2,h5,r1,lv3,fv3,w',?_,r2,r3,r4,r5,r6,?_,hlt,?_,?_,hf5⟩
   ·exact((fx.trans (.of y2)).trans (f3.mono fun b hb=>.inl hb)).trans (f5.mono fun b hb=>.inr hb)
   ·rw[hfN];exact r7
   ·rw[hfY,wa];exact ow5
   ·rw[hfN,hfY,RG];exact s5
 ·right
  have hie:i=ks.length:=by omega
  subst hie;rw[List.take_length]at *;rw[List.drop_length,wF]at sl ln;have c1:iLt (((ks.filter fun k=> !elB a b c k).length:Nat):Int) (((ks.filter fun k=> !elB a b c k).length:Nat):Int)=false:=Cz (IT _);have hrun:∃ e2,cmL (call AC (m+7)) e' h'=.exit 1 e2 h'/\J 0 e2=pt A.bs/\J 15 e2=w:=by
   unfold cmL;simp only[sT,By,BY,reduceIte,Ao,t0,Ad,AG,AM,vk,AK,AO,l3,AX,ln,AJ,AH,t16,c1];exact⟨_,rfl,by simp[AD,t0,t15]⟩
  obtain⟨e2,r1,r2,r3⟩:=hrun;rw[r1];exact⟨rfl,e2,h',lv',fv',w,rfl,fx.drop,r2,r3,ow,sl⟩
end
end
noncomputable section
open Go
set_option maxRecDepth 100000
theorem Nk{α:Type}{l:List α}{j:Nat}{x:α}(h:l[j]? =some x):l.set j x=l:=by
 obtain⟨hj,rfl⟩:=wC.1 h;exact List.set_getElem_self hj
theorem Py{α:Type}{l:List α}{j:Nat}{x:α}(h:l[j]? =some x):l=l.take j++x::l.drop (j+1)/\(l.take j).length=j:=by
 obtain⟨hj,rfl⟩:=wC.1 h;refine⟨?_,by rw[wT];omega⟩;rw[<- xW hj,xz]
theorem IL{a b c:Int}{k:Kt}(h:BN a b c k=true):k.a=a/\k.b=b/\k.c=c:=by
 unfold BN at h;rw[wJ,wJ]at h;exact⟨of_decide_eq_true h.1.1,of_decide_eq_true h.1.2,of_decide_eq_true h.2⟩
theorem ut{i:Nat}{g:Hp}(hi:i<=1000000):Ft wi .i64 (AI AT (i:Int)) (AI AT 1) g=.ok (AI AT ((i:Int) - 1)) g:=by
 cases i with
 |zero=>rw[CV];rfl
 |succ n=>rw[U3 (by omega),show((n+1:Nat):Int) - 1=(n:Int)by omega]
theorem aM:dpS=BI (AY 0 (Aw dpL)) dpE:=rfl
theorem Tx:d30=Zz:=rfl
section
variable {h h':Hp}{A:At}{T M:List Nat}{c0 bad m k p:Nat}{arm:Int}{ks:List Kt}{fr:List Nat}{lv fv:IN}
theorem Zm(W:h.Wf)(s:Sl h A T M c0 arm ks fr lv fv bad false){a b c z:Int}(hz:FG ks a b c=some z):
  ∃ h',call AC (m+8) 12 [pt A.bs,AI AT a,AI AT b,AI AT c] h=.ok (AI AT z) h'/\h.Ext h':=by
 have hkl:=s.le.1;have c00:iNe 0 0=false:=CY rfl;have k0:=Ns (m:=m+6) s.row;obtain⟨h1,k1,x1⟩:=IM (m:=m+4) W s.row s.ls.ks (by omega) a b c;have s1:=s.ext W x1;obtain⟨_,_,_,l3,_⟩:=A7 s1.row;obtain⟨h2,k2,x2⟩:=Gg (m:=m+3) x1.wf s1.row s1.ls.ks (by omega) a b c;have x12:=x1.trans x2;unfold FG at hz;rcases Ef (BN a b c) ks 0 with ⟨e1,e2⟩|⟨j,kx,e1,e2,e3⟩
 ·rw[e1]at hz
  rw[e2]at k1;have c1:iGe (-1) 0=false:=FZ (by omega);have c2:iLt (-1) 0=true:=LQ (by omega);simp only at hz;cases hst:Bm a b c ks with
  |true=>
   rw[hst]at hz k2;rw[if_pos rfl]at hz;cases hz;refine⟨h2,?_,x12⟩;rw[KR rfl,KZ];unfold PV;simp only[iN,IS,sT,By,BY,reduceIte,gD,cA0,k0,AJ,AH,c00,k1,c1,k2,lV0]
  |false=>
   rw[hst]at hz k2;rw[if_neg (by decide)]at hz;cases hz;refine⟨h2,?_,x12⟩;rw[KR rfl,KZ];unfold PV;simp only[iN,IS,sT,By,BY,reduceIte,gD,cA0,k0,AJ,AH,c00,k1,c1,k2,c2,lV0]
 ·rw[e1]at hz
  rw[e3,vk]at k1;have hjl:=(wC.1 e2).1;have hkm:=vy e2;have c1:iGe (j:Int) 0=true:=Hi (by omega);have c3:iLt (j:Int) 0=false:=HL (by omega);obtain⟨bb,_,ix,ld,lde⟩:=s1.ls.ks.at e2;have lst:=lde 3 (.int .u8 (kx.s:Int)) rfl;simp only at hz;by_cases hs2:kx.s=2
  ·rw[if_pos hs2]at hz
   cases hz;have c2:iEq (kx.s:Int) 2=true:=Ci (by omega);refine⟨h1,?_,x1⟩;rw[KR rfl,KZ];unfold PV;simp only[iN,IS,sT,By,BY,reduceIte,gD,cA0,k0,AJ,AH,c00,k1,c1,Ao,Ad,AG,AM,vk,yc,AK,AO,l3,Ay,ix,lst,c2,lV0]
  ·rw[if_neg hs2]at hz
   have c2:iEq (kx.s:Int) 2=false:=Bj (by omega);cases hst:Bm a b c ks with
   |true=>
    rw[hst]at hz k2;rw[if_pos rfl]at hz;cases hz;refine⟨h2,?_,x12⟩;rw[KR rfl,KZ];unfold PV;simp only[iN,IS,sT,By,BY,reduceIte,gD,cA0,k0,AJ,AH,c00,k1,c1,Ao,Ad,AG,AM,vk,yc,AK,AO,l3,Ay,ix,lst,c2,k2,lV0]
   |false=>
    rw[hst]at hz;rw[if_neg (by decide)]at hz;cases hz
def abE(ks:List Kt)(a b c:Int):Option Int:=if Bm a b c ks=true then some 61 else match ks.find? (BN a b c)with
 |some _=>none
 |none=>some 0
theorem lD(W:h.Wf)(s:Sl h A T M c0 arm ks fr lv fv bad false){a b c z:Int}(hz:abE ks a b c=some z):
  ∃ h',call AC (m+9) 29 [pt A.bs,AI AT a,AI AT b,AI AT c] h=.ok (AI AT z) h'/\h.Ext h':=by
 have AKA:=s.le.1;have c00:iNe 0 0=false:=CY rfl;have k0:=Ns (m:=m+7) s.row;obtain⟨h1,k1,x1⟩:=IM (m:=m+5) W s.row s.ls.ks (by omega) a b c;have s1:=s.ext W x1;obtain⟨h2,k2,x2⟩:=Gg (m:=m+4) x1.wf s1.row s1.ls.ks (by omega) a b c;have x12:=x1.trans x2;unfold abE at hz;cases hst:Bm a b c ks with
 |true=>
  rw[hst]at k2 hz;rw[if_pos rfl]at hz;cases hz;refine⟨h2,?_,x12⟩;rw[Tm rfl];unfold d29;simp only[iN,IS,sT,By,BY,reduceIte,gD,cA0,k0,AJ,AH,c00,k1,k2,lV0]
 |false=>
  rw[hst]at k2 hz;rw[if_neg (by decide)]at hz;rcases Ef (BN a b c) ks 0 with ⟨e1,e2⟩|⟨j,kx,e1,e2,e3⟩
  ·rw[e2]at k1
   rw[e1]at hz;cases hz;have c2:iLt (-1) 0=true:=LQ (by omega);refine⟨h2,?_,x12⟩;rw[Tm rfl];unfold d29;simp only[iN,IS,sT,By,BY,reduceIte,gD,cA0,k0,AJ,AH,c00,k1,k2,c2,lV0]
  ·rw[e1]at hz
   cases hz
def drB(a b c:Int)(k:Kt):Bool:=decide (k.a=a) && decide (k.b=b) && decide (k.c<=c)
def EW(M:List Nat)(out:List Kt):List Nat:=out.foldl (fun M x=>Fy M [x.p]) M
theorem UB(M:List Nat)(out:List Kt)(x:Kt):EW M (out++[x])=Fy (EW M out) [x.p]:=by unfold EW;rw[AA1];rfl
def drO(a b c:Int)(ks:List Kt):List Kt:=(ks.filter (drB a b c)).reverse
theorem aN(a b c:Int)(x:Kt)(ks:List Kt):drO a b c (x::ks)=if drB a b c x=true then drO a b c ks++[x]else drO a b c ks:=by
 unfold drO;cases h:drB a b c x
 ·rw[if_neg (by decide),xO (by rw[h];decide)]
 ·rw[if_pos rfl,xN h,AAz]
theorem gQ(a b c:Int)(x:Kt)(ks:List Kt):(drO a b c (ks++[x])).length=(drO a b c ks).length+if drB a b c x=true then 1 else 0:=by
 unfold drO;rw[AAb,AAb,Mn];split
 ·rw[No];rfl
 ·rfl
end
end
noncomputable section
open Go
set_option maxRecDepth 100000
theorem Vx:∀ (ks:List Kt) (i:Nat) (k:Kt),ks[i]? =some k->((flS ks).drop (5*i)).take 5=KV k
 |[],i,k,h=>by cases h
 |x::ks,0,k,h=>by
  have h:some x=some k:=h;cases h;show((KV x++flS ks).drop 0).take 5=_;rw[List.drop_zero];exact List.take_left' rfl
 |x::ks,i+1,k,h=>by
  rw[List.getElem?_cons_succ]at h;show((KV x++flS ks).drop (5*(i+1))).take 5=_;have:5*(i+1)=(KV x).length+5*i:=by show _=5+_;omega
  rw[this,zL];exact Vx ks i k h
section
variable {F:AEB}{e:Env}{h h':Hp}{S:Nat->Prop}{A:At}{T M:List Nat}{c0 bad m k n:Nat}{arm:Int}{ks:List Kt}{fr:List Nat}{v lv fv:IN}{ov:Bool}
theorem Hp.AL.len(o:h.AL k v ks)(g:Hp):AE5 v g=.ok (AI AT (ks.length:Int)) g:=by
 rcases o with ⟨rfl,rfl⟩|⟨b,L,rfl,_⟩<;>rfl
theorem Hp.AL.keep(o:h.AL k v ks)(hk:∀ b el L,k<=b->h.Row b el L->h'.Row b el L):h'.AL k v ks:=by
 rcases o with h1|⟨b,L,h1,h2,h3,h4,h5⟩
 ·exact .inl h1
 ·exact .inr ⟨b,L,h1,hk _ _ _ h4 h2,h3,h4,fun x hx=>(h5 x hx).keep fun b el L hb _ r=>hk b el L hb r⟩
theorem Hp.AL.fx(o:h.AL k v ks)(W:h.Wf)(x:Fx S h h')(hs:∀ b,S b->b<k):h'.AL k v ks:=o.keep fun b el L hb r=>x.row W r fun h1=>by have:=hs b h1;omega
theorem Hp.AL.ext(o:h.AL k v ks)(W:h.Wf)(x:h.Ext h'):h'.AL k v ks:=o.keep fun b el L _ r=>r.ext W x
theorem Hp.AL.at(o:h.AL k v ks){i:Nat}{x:Kt}(hi:ks[i]? =some x):∃ b u,AE0 5 v (AI AT (i:Int)) h=.ok (.pointer (some ⟨b,5*i,none⟩)) h/\loadN 5 ⟨b,5*i,none⟩ h=.ok (Bv x.a x.b x.c x.s u) h/\h.AEb u (x.l.map bv):=by
 have hil:=(wC.1 hi).1;rcases o with ⟨rfl,rfl⟩|⟨b,L,rfl,h2,h3,h4,h5⟩
 ·cases hi
 ·have hLl:L.length=ks.length:=by rw[<- OF (f:=Kt.core),h3,OF]
  obtain⟨y,hy⟩:∃ y,L[i]? =some y:=⟨_,sh (by omega)⟩;have hc:=Vx L i y hy;have hyx:y.core=x.core:=by
   have h6:=congrArg (fun l=>l[i]?) h3;simp only[xH,hy,hi,Option.map_some]at h6;injection h6
  have e1:y.a=x.a:=congrArg Kc.a hyx;have e2:y.b=x.b:=congrArg Kc.b hyx;have e3:y.c=x.c:=congrArg Kc.c hyx;have e4:y.s=x.s:=congrArg Kc.s hyx;have e5:y.l=x.l:=congrArg Kc.l hyx;refine⟨b,y.u,?_,?_,?_⟩
  ·have:=Cy (h:=h) (n:=ks.length) (c:=ks.length) (es:=5) (b:=b) (off:=0) (i:=i) (k:=.i64) hil
   rwa [vk,xr]at this
  ·rw[h2.loadN (by rw[Pc,hLl];omega),hc,<- e1,<- e2,<- e3,<- e4];rfl
  ·rw[<- e5];exact(h5 y (vy hy)).vs.vals
theorem de(W:h.Wf){g:O}{a b c:Int}{s:Nat}{u:IN}(hg:g e=Bv a b c s u):DA g F e h=.ok (pt h.next) (h.AEA 0 (A4 a b c s u)):=by rw[Ev,hg,Es W];rfl
theorem dV:smS=BI (AY 0 (Aw smL)) smE:=rfl
theorem Tw:d25=Zy:=rfl
theorem VN{bd bm bc:Nat}{cs:List (Nat×List Nat)}(W:h.Wf)(d:Dk h bd bm bc n M c0 cs arm false){z:Int}(hz:0<=z):
  ∃ h',call AC (m+2) 26 [pt bd,AI AT z] h=.ok AEE h'/\Fx (fun b=>b=bd) h h'/\Dk h' bd bm bc n M c0 cs z false:=by
 have k1:=IV (m:=m) d;obtain⟨_,_,_,l3⟩:=CR d.disk;have mx:=fun (F:AEB) (e:Env) (he:J 1 e=AI AT z)=>bV (F:=F) (h:=h) (y:=kV (AI AT 0)) he rfl
 rw[show max z 0=z by omega]at mx;obtain⟨h1,st,R1,n1,f1,_⟩:=D0 (v:=AI AT z) W d.disk (off:=2) (show 2<4 by omega) d.big.1 rfl rfl;have R1:h1.Row bd 0 (dkL bm bc n z false):=R1;refine⟨h1,?_,f1,R1,f1.row W d.med (fun h=>d.bdm h.symm),d.len,d.byt,by rw[f1.get _ (d.lt W).2.2 (fun h=>d.bdc h.symm)];exact d.map,d.big,d.n1⟩;rw[nX rfl];unfold d26;simp only[iN,IS,sT,By,BY,reduceIte,gD,cA0,k1,Bi,Bh,Bool.not_false,Ao,Ad,AG,AM,vk,AK,AO,l3,mx,Ab,st,De,Dc]
theorem lI(W:h.Wf)(s:Sl h A T M c0 arm ks fr lv fv bad ov){z:Int}(hz:0<=z):
  ∃ h',call AC (m+2) 26 [pt A.bd,AI AT z] h=.ok AEE h'/\Fx A.K h h'/\Sl h' A T M c0 z ks fr lv fv bad ov:=by
 obtain⟨h1,k1,f1,d1⟩:=VN (m:=m) W s.dk hz;have fK:Fx A.K h h1:=f1.mono fun b hb=>.inl hb
 exact⟨h1,k1,fK,(s.sc.fx W fK).sl d1⟩
theorem jW{k:TK}{t:Nat}{a:Addr}{g:O}(hk:k=.ptr t)(hg:g e=.pointer (some a)):oEq k true g (kV (.pointer none)) F e h=.ok (.bool true) h:=by
 subst hk;show(match eqV (.ptr t) (g e) (.pointer none)with|some r=>okB (true != r) h|none=>.no)=_;rw[hg];exact Ff
theorem MA(R:h.Row A.bs 0 (slL A.bd A.tb lv fv bad ov)):call AC (m+1) 27 [pt A.bs] h=.ok (.bool ov) h:=by
 obtain⟨_,_,_,_,_,_,l6⟩:=A7 R;have p1:∀ (F:AEB) (e:Env) (g:Hp),J 0 e=pt A.bs->oEq JH.k true (J 0) (kV (.pointer none)) F e g=.ok (.bool true) g:=fun F e g he=>jW XI he
 rw[nY rfl];unfold d27;simp only[iN,IS,sT,By,BY,reduceIte,gD,p1,Ao,Ad,AG,AM,vk,AK,AO,l6,lV0]
end
end
noncomputable section
open Go
set_option maxRecDepth 100000
def opL(kd a b c n:Int)(u w:IN):List IN:=[AI AT kd,AI AT a,AI AT b,AI AT c,AI AT n,u,w]
def opV(kd a b c n:Int)(u w:IN):IN:=.agg ⟨opL kd a b c n u w⟩
def C8(kd:Int):Prop:=kd=1\/kd=2\/kd=3\/kd=4
def Y0(ks:List Kt)(n:Nat)(kd a b c:Int)(l:List Nat)(z:Int):Prop:=
 (C8 kd/\DX ks n a b c l=some z)\/((kd=5\/kd=6)/\FG ks a b c=some z)\/(kd=7/\abE ks a b c=some z)\/(kd=8/\drO a b c ks=[]/\z=0)\/(¬ C8 kd/\kd≠5/\kd≠6/\kd≠7/\kd≠8/\z=0)
def Tb(T M:List Nat)(ks:List Kt)(fr:List Nat)(kd a b c:Int)(l M':List Nat)(ks':List Kt)(fr':List Nat):Prop:=
 (C8 kd/\DX ks fr.length a b c l=none/\∃ p k',fr=p::fr'/\ks'=Bq (ks++[k'])/\k'.core=⟨a,b,c,1,l,p⟩/\M'=DT T M p l (AEJ T a b c 1 l))\/
 ((kd=5\/kd=6)/\∃ j kx,ks[j]? =some kx/\(kx.a=a/\kx.b=b/\kx.c=c)/\Bm a b c ks=false/\ks'=((ks.set j {kx with s:=2}).filter fun k=> !elB a b c k)/\fr'=frE fr ((ks.set j {kx with s:=2}).filter (elB a b c))/\M'=Fy (EK M kx.p (AEJ T a b c 2 kx.l)) (((ks.set j {kx with s:=2}).filter (elB a b c)).map (·.p)))\/
 (kd=7/\∃ j kx,ks[j]? =some kx/\(kx.a=a/\kx.b=b/\kx.c=c)/\Bm a b c ks=false/\ks'=ks.take j++ks.drop (j+1)/\fr'=ED (fr++[kx.p])/\M'=Fy M [kx.p])\/
 (kd=8/\ks'=(ks.filter fun k=> !drB a b c k)/\fr'=frE fr (drO a b c ks)/\M'=EW M (drO a b c ks))
section
variable {F:AEB}{e:Env}{h:Hp}{A:At}{m:Nat}{w u:IN}{kd a b c no z:Int}
theorem NT(W:h.Wf){g:O}(hg:g e=opV kd a b c no u w):DA g F e h=.ok (pt h.next) (h.AEA 0 (opL kd a b c no u w)):=by rw[Ev,hg,Es W];rfl
theorem Gc{r:Nat}(R:h.Row r 0 (opL kd a b c no u w)):AEF ⟨r,0,none⟩ h=.ok (AI AT kd) h/\AEF ⟨r,1,none⟩ h=.ok (AI AT a) h/\AEF ⟨r,2,none⟩ h=.ok (AI AT b) h/\AEF ⟨r,3,none⟩ h=.ok (AI AT c) h/\AEF ⟨r,5,none⟩ h=.ok u h:=
 ⟨R.AEF (off:=0) (by show 0<7;omega),R.AEF (off:=1) (by show 1<7;omega),R.AEF (off:=2) (by show 2<7;omega),R.AEF (off:=3) (by show 3<7;omega),R.AEF (off:=5) (by show 5<7;omega)⟩
theorem Mg{g:Hp}(W:h.Wf)(hk:C8 kd)(k1:call AC (m+9) 11 [pt A.bs,AI AT a,AI AT b,AI AT c,u] (h.AEA 0 (opL kd a b c no u w))=.ok (AI AT z) g):call AC (m+10) 22 [pt A.bs,opV kd a b c no u w] h=.ok (AI AT z) g:=by
 have bx:=fun (F:AEB) (e:Env) (he:J 1 e=opV kd a b c no u w)=>NT (F:=F) W he
 have R:=Hp.Row.new W 0 (opL kd a b c no u w);generalize h.AEA 0 (opL kd a b c no u w)=h1 at bx R k1;obtain⟨l0,l1,l2,l3,l5⟩:=Gc R;rw[MY rfl];unfold d22;rcases hk with rfl|rfl|rfl|rfl
 ·have c1:iEq 1 1=true:=Ci rfl
  simp only[iN,IS,sT,By,BY,reduceIte,gD,bx,AG,AM,vk,AK,AO,l0,l1,l2,l3,l5,AJ,AH,c1,cA0,k1,lV0]
 ·have c1:iEq 2 1=false:=Bj (by omega)
  have c2:iEq 2 2=true:=Ci rfl;simp only[iN,IS,sT,By,BY,reduceIte,gD,bx,AG,AM,vk,AK,AO,l0,l1,l2,l3,l5,AJ,AH,c1,c2,cA0,k1,lV0]
 ·have c1:iEq 3 1=false:=Bj (by omega)
  have c2:iEq 3 2=false:=Bj (by omega);have c3:iEq 3 3=true:=Ci rfl;simp only[iN,IS,sT,By,BY,reduceIte,gD,bx,AG,AM,vk,AK,AO,l0,l1,l2,l3,l5,AJ,AH,c1,c2,c3,cA0,k1,lV0]
 ·have c1:iEq 4 1=false:=Bj (by omega)
  have c2:iEq 4 2=false:=Bj (by omega);have c3:iEq 4 3=false:=Bj (by omega);have c4:iEq 4 4=true:=Ci rfl;simp only[iN,IS,sT,By,BY,reduceIte,gD,bx,AG,AM,vk,AK,AO,l0,l1,l2,l3,l5,AJ,AH,c1,c2,c3,c4,cA0,k1,lV0]
theorem JS{g:Hp}(W:h.Wf)(hk:kd=5\/kd=6)(k1:call AC (m+9) 12 [pt A.bs,AI AT a,AI AT b,AI AT c] (h.AEA 0 (opL kd a b c no u w))=.ok (AI AT z) g):call AC (m+10) 22 [pt A.bs,opV kd a b c no u w] h=.ok (AI AT z) g:=by
 have bx:=fun (F:AEB) (e:Env) (he:J 1 e=opV kd a b c no u w)=>NT (F:=F) W he
 have R:=Hp.Row.new W 0 (opL kd a b c no u w);generalize h.AEA 0 (opL kd a b c no u w)=h1 at bx R k1;obtain⟨l0,l1,l2,l3,l5⟩:=Gc R;rw[MY rfl];unfold d22;rcases hk with rfl|rfl
 ·have c1:iEq 5 1=false:=Bj (by omega)
  have c2:iEq 5 2=false:=Bj (by omega);have c3:iEq 5 3=false:=Bj (by omega);have c4:iEq 5 4=false:=Bj (by omega);have c5:iEq 5 5=true:=Ci rfl;simp only[iN,IS,sT,By,BY,reduceIte,gD,bx,AG,AM,vk,AK,AO,l0,l1,l2,l3,AJ,AH,c1,c2,c3,c4,c5,cA0,k1,lV0]
 ·have c1:iEq 6 1=false:=Bj (by omega)
  have c2:iEq 6 2=false:=Bj (by omega);have c3:iEq 6 3=false:=Bj (by omega);have c4:iEq 6 4=false:=Bj (by omega);have c5:iEq 6 5=false:=Bj (by omega);have c6:iEq 6 6=true:=Ci rfl;simp only[iN,IS,sT,By,BY,reduceIte,gD,bx,AG,AM,vk,AK,AO,l0,l1,l2,l3,AJ,AH,c1,c2,c3,c4,c5,c6,cA0,k1,lV0]
theorem Ka{g:Hp}(W:h.Wf)(k1:call AC (m+9) 29 [pt A.bs,AI AT a,AI AT b,AI AT c] (h.AEA 0 (opL 7 a b c no u w))=.ok (AI AT z) g):call AC (m+10) 22 [pt A.bs,opV 7 a b c no u w] h=.ok (AI AT z) g:=by
 have bx:=fun (F:AEB) (e:Env) (he:J 1 e=opV 7 a b c no u w)=>NT (F:=F) W he
 have R:=Hp.Row.new W 0 (opL 7 a b c no u w);generalize h.AEA 0 (opL 7 a b c no u w)=h1 at bx R k1;obtain⟨l0,l1,l2,l3,l5⟩:=Gc R;have c1:iEq 7 1=false:=Bj (by omega);have c2:iEq 7 2=false:=Bj (by omega);have c3:iEq 7 3=false:=Bj (by omega);have c4:iEq 7 4=false:=Bj (by omega);have c5:iEq 7 5=false:=Bj (by omega);have c6:iEq 7 6=false:=Bj (by omega);have c7:iEq 7 7=true:=Ci rfl;rw[MY rfl];unfold d22;simp only[iN,IS,sT,By,BY,reduceIte,gD,bx,AG,AM,vk,AK,AO,l0,l1,l2,l3,AJ,AH,c1,c2,c3,c4,c5,c6,c7,cA0,k1,lV0]
theorem Qx{g:Hp}(W:h.Wf)(k1:call AC (m+9) 30 [pt A.bs,AI AT a,AI AT b,AI AT c] (h.AEA 0 (opL 8 a b c no u w))=.ok (AI AT z) g):call AC (m+10) 22 [pt A.bs,opV 8 a b c no u w] h=.ok (AI AT z) g:=by
 have bx:=fun (F:AEB) (e:Env) (he:J 1 e=opV 8 a b c no u w)=>NT (F:=F) W he
 have R:=Hp.Row.new W 0 (opL 8 a b c no u w);generalize h.AEA 0 (opL 8 a b c no u w)=h1 at bx R k1;obtain⟨l0,l1,l2,l3,l5⟩:=Gc R;have c1:iEq 8 1=false:=Bj (by omega);have c2:iEq 8 2=false:=Bj (by omega);have c3:iEq 8 3=false:=Bj (by omega);have c4:iEq 8 4=false:=Bj (by omega);have c5:iEq 8 5=false:=Bj (by omega);have c6:iEq 8 6=false:=Bj (by omega);have c7:iEq 8 7=false:=Bj (by omega);have c8:iEq 8 8=true:=Ci rfl;rw[MY rfl];unfold d22;simp only[iN,IS,sT,By,BY,reduceIte,gD,bx,AG,AM,vk,AK,AO,l0,l1,l2,l3,AJ,AH,c1,c2,c3,c4,c5,c6,c7,c8,cA0,k1,lV0]
theorem Zx(W:h.Wf)(h14:¬ C8 kd)(h5:kd≠5)(h6:kd≠6)(h7:kd≠7)(h8:kd≠8):call AC (m+10) 22 [pt A.bs,opV kd a b c no u w] h=.ok (AI AT 0) (h.AEA 0 (opL kd a b c no u w)):=by
 have bx:=fun (F:AEB) (e:Env) (he:J 1 e=opV kd a b c no u w)=>NT (F:=F) W he
 have R:=Hp.Row.new W 0 (opL kd a b c no u w);generalize h.AEA 0 (opL kd a b c no u w)=h1 at bx R;obtain⟨l0,l1,l2,l3,l5⟩:=Gc R;have c1:iEq kd 1=false:=Bj fun h=>h14 (.inl h)
 have c2:iEq kd 2=false:=Bj fun h=>h14 (.inr (.inl h))
 have c3:iEq kd 3=false:=Bj fun h=>h14 (.inr (.inr (.inl h)))
 have c4:iEq kd 4=false:=Bj fun h=>h14 (.inr (.inr (.inr h)))
 have c5:iEq kd 5=false:=Bj h5;have c6:iEq kd 6=false:=Bj h6;have c7:iEq kd 7=false:=Bj h7;have c8:iEq kd 8=false:=Bj h8;rw[MY rfl];unfold d22;simp only[iN,IS,sT,By,BY,reduceIte,gD,bx,AG,AM,vk,AK,AO,l0,AJ,AH,c1,c2,c3,c4,c5,c6,c7,c8,lV0]
end
end
noncomputable section
open Go
set_option maxRecDepth 100000
theorem Oa:∀ (A:List Kt) (x:Kt),(Gs A x).Perm (x::A):=fun A x=>by
 unfold Gs;refine(yp _).trans ?_;have:∀ l:List Kt,(Ik x l).Perm (x::l):=fun l=>by
  induction l with
  |nil=>exact .refl _
  |cons y r ih=>
   rw[Km];split
   ·exact(ih.cons y).trans (.swap x y r)
   ·exact .refl _
 exact(this _).trans ((yp A).cons x)
theorem TC:∀ (B A:List Kt),(srt A B).Perm (A++B)
 |[],A=>by
  rw[wF];exact .refl _
 |x::B,A=>by
  show(srt (Gs A x) B).Perm _;exact(TC B _).trans (((Oa A x).append_right B).trans zk.symm)
theorem Di(l:List Kt):(Bq l).Perm l:=by
 unfold Bq;have:=TC (l.drop 1) (l.take 1)
 rwa [xz]at this
def Kt.key(k:Kt):Int×Int×Int:=(k.a,k.b,k.c)
def Kt.plc(k:Kt):Nat:=k.p
structure AEq (np:Nat)(ks:List Kt)(fr:List Nat):Prop where
 key:(ks.map Kt.key).Nodup
 plc:(ks.map Kt.plc++fr).Perm (List.range np)
abbrev vg(ks:List Kt)(fr:List Nat):Prop:=AEq 8 ks fr
section
variable {T M M':List Nat}{ks ks':List Kt}{fr fr':List Nat}{kd a b c:Int}{l:List Nat}{np:Nat}
theorem AEq.len(i:AEq np ks fr):ks.length+fr.length=np:=by
 have:=i.plc.length_eq;rw[No,OF,List.length_range]at this;exact this
theorem AEq.lt(i:AEq np ks fr):∀ k∈ks,3*k.p+3<=3*np:=fun k hk=>by
 have h1:k.p∈ks.map Kt.plc++fr:=wU _ (wM.2 ⟨k,hk,rfl⟩);have h2:=List.mem_range.1 (i.plc.mem_iff.1 h1);omega
theorem AEq.nd(i:AEq np ks fr):(ks.map Kt.plc).Nodup:=(yP.1 (i.plc.nodup_iff.2 List.nodup_range)).1
theorem CZ{α β:Type}{f:α->β}:∀ {l:List α},(l.map f).Nodup->∀ {x y:α},x∈l->y∈l->f x=f y->x=y
 |[],_,x,y,hx,_,_=>by cases hx
 |w::l,h,x,y,hx,hy,hf=>by
  rw[xV,xx]at h;rcases wA.1 hx with h1|h1
  ·rcases wA.1 hy with h2|h2
   ·rw[h1,h2]
   ·exact absurd (wM.2 ⟨y,h2,by rw[<- hf,h1]⟩) h.1
  ·rcases wA.1 hy with h2|h2
   ·exact absurd (wM.2 ⟨x,h1,by rw[hf,h2]⟩) h.1
   ·exact CZ h.2 h1 h2 hf
theorem FX{x:Kt}(h:BN a b c x=true):x.key=(a,b,c):=by
 obtain⟨rfl,rfl,rfl⟩:=IL h;rfl
theorem Eb{x:Kt}(h:x.key=(a,b,c)):BN a b c x=true:=by
 unfold Kt.key at h;injection h with h1 h2
 injection h2 with h2 h3
 unfold BN;rw[decide_eq_true h1,decide_eq_true h2,decide_eq_true h3];rfl
theorem Hd(hn:(ks.map Kt.key).Nodup){x:Kt}(hx:x∈ks)(hk:x.key=(a,b,c)):ks.find? (BN a b c)=some x:=by
 cases h:ks.find? (BN a b c)with
 |none=>exact absurd (Eb hk) (ze.1 h x hx)
 |some y=>rw[CZ hn (List.mem_of_find?_eq_some h) hx ((FX (List.find?_some h)).trans hk.symm)]
theorem IK(P:Kt->Bool):∀ l:List Kt,(l.filter P++l.filter fun k=> !P k).Perm l
 |[]=>.refl _
 |x::l=>by
  cases h:P x
  ·rw[xO (by rw[h];decide),xN (by rw[h];rfl)]
   exact zk.trans ((IK P l).cons x)
  ·rw[xN h,xO (by rw[h];decide)]
   exact(IK P l).cons x
theorem AEq.cut(i:AEq np ks fr)(P:Kt->Bool){out:List Kt}(ho:out.Perm (ks.filter P)):AEq np (ks.filter fun k=> !P k) (frE fr out):=by
 refine⟨AAN (List.filter_sublist.map _) i.key,?_⟩;have h1:(frE fr out).Perm (fr++(ks.filter P).map Kt.plc):=(Je out fr).trans ((ho.map Kt.plc).append_left fr);have h2:((ks.filter fun k=> !P k).map Kt.plc++(fr++(ks.filter P).map Kt.plc)).Perm (ks.map Kt.plc++fr):=by
  rw[<- wG];refine(ABq).trans ?_;rw[<- wG,<- wa];exact((IK P ks).map Kt.plc).append_right fr
 exact(h1.append_left _).trans (h2.trans i.plc)
theorem AEq.set(i:AEq np ks fr){j:Nat}{x y:Kt}(hj:ks[j]? =some x)(h1:y.key=x.key)(h2:y.p=x.p):AEq np (ks.set j y) fr:=by
 have e1:(ks.set j y).map Kt.key=ks.map Kt.key:=by rw[AAi,h1];exact Nk (by rw[xH,hj];rfl)
 have e2:(ks.set j y).map Kt.plc=ks.map Kt.plc:=by
  rw[AAi,show y.plc=x.plc from h2];exact Nk (by rw[xH,hj];rfl)
 exact⟨e1 ▸ i.key,e2 ▸ i.plc⟩
theorem aW{P Q:List Kt}(p:Kt->Bool):(P++Q).find? p=(P.find? p).or (Q.find? p):=List.find?_append
theorem Nq(i:AEq np ks fr)(t:Tb T M ks fr kd a b c l M' ks' fr'):AEq np ks' fr'/\Y0 ks' fr'.length kd a b c l 0:=by
 rcases t with ⟨hk,hz,p,k',rfl,rfl,hc,_⟩|⟨hk,j,kx,hj,AFL,_,rfl,rfl,_⟩|⟨rfl,j,kx,hj,AFL,hst,rfl,rfl,_⟩|⟨rfl,rfl,rfl,_⟩
 ·unfold DX at hz
  split at hz
  ·cases hz
  rename_i hn;split at hz
  ·split at hz<;>cases hz
  rename_i hfd;have ek:k'.key=(a,b,c):=by
   show(k'.core.a,k'.core.b,k'.core.c)=_;rw[hc]
  have ep:k'.p=p:=congrArg Kc.p hc;have el:k'.l=l:=congrArg Kc.l hc;have pm:=Di (ks++[k']);have kn:((ks++[k']).map Kt.key).Nodup:=by
   rw[wa,yP];refine⟨i.key,xx.2 ⟨List.not_mem_nil,List.nodup_nil⟩,fun x hx y hy hxy=>?_⟩;rw[v7.1 hy]at hxy;obtain⟨w,hw,rfl⟩:=wM.1 hx;exact absurd (Eb (hxy.trans ek)) (ze.1 hfd w hw)
  have kn':((Bq (ks++[k'])).map Kt.key).Nodup:=(pm.map Kt.key).nodup_iff.2 kn;refine⟨⟨kn',?_⟩,.inl ⟨hk,?_⟩⟩
  ·refine((pm.map Kt.plc).append_right fr').trans (ABu ?_ i.plc)
   rw[wa,wG];show(ks.map Kt.plc++([k'.p]++fr')).Perm _;rw[ep];exact .refl _
  ·unfold DX
   rw[if_neg hn,Hd kn' (pm.mem_iff.2 (wI _ (v7.2 rfl))) ek];simp only;rw[if_pos el]
 ·have kk:({kx with s:=2}:Kt).key=(a,b,c):=by obtain⟨rfl,rfl,rfl⟩:=AFL;rfl
  have i2:=i.set (y:={kx with s:=2}) hj rfl rfl;have hX:({kx with s:=2}:Kt)∈ks.set j {kx with s:=2}:=List.mem_set (wC.1 hj).1 _;generalize ks.set j {kx with s:=2}=ksX at i2 hX;have i3:=i2.cut (elB a b c) (out:=ksX.filter (elB a b c)) (.refl _);refine⟨i3,.inr (.inl ⟨hk,?_⟩)⟩;have hel:elB a b c {kx with s:=2}=false:=by
   obtain⟨rfl,rfl,rfl⟩:=AFL;unfold elB;rw[decide_eq_false (Int.lt_irrefl _),Bool.and_false]
  unfold FG;rw[Hd i3.key (List.mem_filter.2 ⟨hX,by rw[hel];rfl⟩) kk];exact if_pos rfl
 ·obtain⟨AFp,hPl⟩:=Py hj
  have kk:kx.key=(a,b,c):=by obtain⟨rfl,rfl,rfl⟩:=AFL;rfl
  generalize ks.take j=P at *;generalize ks.drop (j+1)=Q at *;subst AFp;have pm:(P++kx::Q).Perm (kx::(P++Q)):=zk;have kn:((kx::(P++Q)).map Kt.key).Nodup:=(pm.map Kt.key).nodup_iff.1 i.key;rw[xV,xx]at kn;refine⟨⟨kn.2,?_⟩,.inr (.inr (.inl ⟨rfl,?_⟩))⟩
  ·refine((HB (fr++[kx.p])).append_left _).trans (ABu ?_ i.plc)
   rw[<- wG];refine ABq.trans ?_;show(kx.plc::((P++Q).map Kt.plc++fr)).Perm _;exact((pm.map Kt.plc).symm).append_right fr
  ·have hne:(P++Q).find? (BN a b c)=none:=ze.2 fun x hx hf=>kn.1 (wM.2 ⟨x,hx,(FX hf).trans kk.symm⟩)
   have AGb:Bm a b c (P++Q)=false:=by
    unfold Bm at hst ⊢;rw[aW]at hst ⊢;cases hP:P.find? (Kw a b)with
    |some y=>
     rw[hP]at hst;exact hst
    |none=>
     rw[hP]at hst;rw[Option.none_or]at hst ⊢;cases hx:Kw a b kx
     ·rw[List.find?_cons_of_neg (by rw[hx];decide)]at hst
      exact hst
     ·rw[List.find?_cons_of_pos hx]at hst
      simp only at hst;have:=of_decide_eq_false hst;exact absurd (Int.le_of_eq AFL.2.2.symm) this
   unfold abE;rw[AGb,hne,if_neg (by decide)]
 ·have i3:=i.cut (drB a b c) (out:=drO a b c ks) (yp _)
  refine⟨i3,.inr (.inr (.inr (.inl ⟨rfl,?_,rfl⟩)))⟩;unfold drO;rw[List.filter_filter,List.filter_eq_nil_iff.2 (fun x _=>by cases drB a b c x<;>decide)];rfl
end
end
noncomputable section
open Go
set_option maxRecDepth 100000
theorem JX{l l':List Nat}(hl:l.length=l'.length)(h:∀ i,i<l.length->l.getD i 0=l'.getD i 0):l=l':=by
 refine List.ext_getElem hl fun i h1 h2=>?_
 have:=h i h1;rw[vm,vm,sh h1,sh h2]at this;exact this
theorem Kl{l:List Nat}{n i:Nat}(h:i<n):(l.take n).getD i 0=l.getD i 0:=by
 rw[vm,vm,List.getElem?_take,if_pos h]
theorem Kk{l:List Nat}{n i:Nat}:(l.drop n).getD i 0=l.getD (n+i) 0:=by
 rw[vm,vm,List.getElem?_drop]
theorem Wu:∀ (k:Nat) (l:List Nat) (p:Nat) (ns:List Nat) (q:Nat),rdN k l p=some (ns,q)->ns.length=k
 |0,l,p,ns,q,h=>by cases h;rfl
 |k+1,l,p,ns,q,h=>by
  rw[So]at h;cases hu:Fz 0 0 (l.drop p)with
  |none=>rw[hu]at h;cases h
  |some vj=>
   obtain⟨v,j⟩:=vj;rw[hu]at h;simp only at h;by_cases hv:v<=1099511627776
   ·rw[if_pos hv]at h
    cases hr:rdN k l (p+j)with
    |none=>rw[hr]at h;cases h
    |some y=>
     obtain⟨vs,q'⟩:=y;rw[hr]at h;cases h;rw[vw,Wu k l (p+j) vs _ hr]
   ·rw[if_neg hv]at h;cases h
theorem co{T:List Nat}{a b c:Int}{s:Nat}{l:List Nat}(h:AEN a b c s l.length=true):Ld T (AEJ T a b c s l) (CE a.toNat b.toNat c.toNat s l.length (B9 T l)):=by
 obtain⟨h1,h2,h3,h4,h5,h6,h7,h8⟩:=Dh h;have hst:=Ih T l;refine(Sa Mw).2 ?_;have hle:∀ v∈CE a.toNat b.toNat c.toNat s l.length (B9 T l),v<=1099511627776:=fun v hv=>by
  unfold CE at hv;simp only[wA,ACT,or_false]at hv;omega
 have e0:at6 (CE a.toNat b.toNat c.toNat s l.length (B9 T l)) 0=s:=rfl;have e1:at6 (CE a.toNat b.toNat c.toNat s l.length (B9 T l)) 1=a.toNat:=rfl;have e2:at6 (CE a.toNat b.toNat c.toNat s l.length (B9 T l)) 2=b.toNat:=rfl;have e3:at6 (CE a.toNat b.toNat c.toNat s l.length (B9 T l)) 3=c.toNat:=rfl;have e4:at6 (CE a.toNat b.toNat c.toNat s l.length (B9 T l)) 4=l.length:=rfl;have e5:at6 (CE a.toNat b.toNat c.toNat s l.length (B9 T l)) 5=B9 T l:=rfl;have hr:=MC (CE a.toNat b.toNat c.toNat s l.length (B9 T l)) [] (v8 (60 - (Bw (CE a.toNat b.toNat c.toNat s l.length (B9 T l))).length) 0++HC (B9 T (Li (CE a.toNat b.toNat c.toNat s l.length (B9 T l))))) hle;refine⟨(Bw (CE a.toNat b.toNat c.toNat s l.length (B9 T l))).length,?_,⟨by rw[e0];omega,by rw[e4];omega,by rw[e5];omega,?_⟩,rfl⟩
 ·have hx:AEJ T a b c s l=Bw (CE a.toNat b.toNat c.toNat s l.length (B9 T l))++(v8 (60 - (Bw (CE a.toNat b.toNat c.toNat s l.length (B9 T l))).length) 0++HC (B9 T (Li (CE a.toNat b.toNat c.toNat s l.length (B9 T l))))):=by
   unfold AEJ EY;rw[<- wG];rfl
  rw[hx];simp only[List.nil_append,wl,vk]at hr;exact hr
 ·rw[e0,e1,e2,e3]
  exact decide_eq_true ⟨by omega,by omega,by omega,by omega,by omega,by omega,h7,by omega⟩
theorem Sb{T:List Nat}{ns:List Nat}{l:List Nat}(hl:l.length=64)(hz:∀ x∈l,x=0):¬ Ld T l ns:=fun h=>by
 have hlt:∀ x∈l,x<256:=fun x hx=>by rw[hz x hx];decide
 obtain⟨q,h1,h2,h3⟩:=(Sa hlt).1 h;have hlen:=Wu _ _ _ _ _ h1;obtain⟨_,_,_,h4⟩:=h2;have hs:=(Dh h4).2.2.2.2.2.2.1;cases ns with
 |nil=>cases hlen
 |cons n ns=>
  have hn:n=1\/n=2:=hs;have hu:B8 n=[n]:=by
   unfold B8;rw[dif_pos (by omega)]
  have:n∈l:=by
   rw[<- h3];unfold EY Li QE;refine wU _ (wU _ ?_);rw[FC,hu];exact wU _ vp
  have:=hz n this;omega
end
noncomputable section
open Go
set_option maxRecDepth 100000
theorem Ix{l:List Nat}{j r:Nat}(hr:r<64):(Ct l j).getD r 0=l.getD (64*j+r) 0:=by
 unfold Ct;have hl:((l.drop (64*j)).take 64).length=min 64 (l.length - 64*j):=by rw[wT,xC]
 rcases Nat.lt_or_ge r ((l.drop (64*j)).take 64).length with h|h
 ·rw[vm,wD h,<- vm,Kl hr,Kk]
 ·rw[vm,List.getElem?_append_right h,ABT]
  have:l.getD (64*j+r) 0=0:=by
   rw[vm,List.getElem?_eq_none (by omega)];rfl
  rw[this];split<;>rfl
theorem aG{T M l H:List Nat}{n p:Nat}(hM:M.length=64*n)(hp:3*p+3<=n)(hl:1<=l.length/\l.length<=100)(hH:H.length=64):
  (DT T M p l H).length=64*n/\∀ x,(DT T M p l H).getD x 0=if x/64=3*p then H.getD (x % 64) 0 else if x/64=3*p+1 then l.getD (x % 64) 0 else if x/64=3*p+2/\64<l.length then l.getD (64+x % 64) 0 else M.getD x 0:=by
 have hk:(l.length+63)/64=1\/(l.length+63)/64=2:=by omega
 rcases hk with hk|hk
 ·have e:DT T M p l H=Fh (Fh M (p*3+1+0) (Ct l 0)) (p*3) H:=by
   unfold DT GH DY;rw[hk];rfl
  have l1:=Cn hM (show p*3+1+0<n by omega) (CW l 0);rw[e];refine⟨Cn l1 (by omega) hH,fun x=>?_⟩;rw[DM l1 (by omega) hH,DM hM (show p*3+1+0<n by omega) (CW l 0),Ix (by omega),ACh,vk,xr p 3,yc];by_cases h1:x/64=3*p
  ·rw[if_pos h1,if_pos h1]
  ·rw[if_neg h1,if_neg h1]
   by_cases h2:x/64=3*p+1
   ·rw[if_pos h2,if_pos h2]
   ·rw[if_neg h2,if_neg h2,if_neg (by omega)]
 ·have e:DT T M p l H=Fh (Fh (Fh M (p*3+1+0) (Ct l 0)) (p*3+1+1) (Ct l 1)) (p*3) H:=by
   unfold DT GH DY;rw[hk];rfl
  have l1:=Cn hM (show p*3+1+0<n by omega) (CW l 0);have l2:=Cn l1 (show p*3+1+1<n by omega) (CW l 1);rw[e];refine⟨Cn l2 (by omega) hH,fun x=>?_⟩;rw[DM l2 (by omega) hH,DM l1 (show p*3+1+1<n by omega) (CW l 1),DM hM (show p*3+1+0<n by omega) (CW l 0),Ix (by omega),Ix (by omega),ACh,vk,xr p 3,yc,yk];by_cases h1:x/64=3*p
  ·rw[if_pos h1,if_pos h1]
  ·rw[if_neg h1,if_neg h1]
   by_cases h2:x/64=3*p+1
   ·rw[if_neg (by omega),if_pos h2,if_pos h2]
   ·rw[if_neg h2]
    by_cases h3:x/64=3*p+2
    ·rw[if_pos (show x/64=3*p+1+1 by omega),if_neg h2,if_pos (show x/64=3*p+2/\64<l.length from⟨h3,by omega⟩)]
    ·rw[if_neg (show ¬ x/64=3*p+1+1 by omega),if_neg h2,if_neg (show ¬ (x/64=3*p+2/\64<l.length)by omega)]
theorem Me{M H:List Nat}{n p:Nat}(hM:M.length=64*n)(hp:3*p+3<=n)(hH:H.length=64):(EK M p H).length=64*n/\∀ x,(EK M p H).getD x 0=if x/64=3*p then H.getD (x % 64) 0 else M.getD x 0:=by
 have e:EK M p H=Fh M (p*3) H:=rfl;rw[e];refine⟨Cn hM (by omega) hH,fun x=>?_⟩;rw[DM hM (by omega) hH,xr p 3]
theorem Ng{n x:Nat}:(v8 n 0).getD x 0=0:=by
 rw[vm,ABT];split<;>rfl
section
variable {T b:List Nat}(hl:1<=b.length/\b.length<=100)
include hl
end
theorem J2{M:List Nat}{i r:Nat}(hr:r<64):(sec M i).getD r 0=M.getD (64*i+r) 0:=by
 unfold sec;rw[Kl hr,Kk]
theorem Mi{M:List Nat}{p k r:Nat}(hr:r<k):(dat M p k).getD r 0=M.getD (64*(3*p+1)+r) 0:=by
 unfold dat;rw[Kl hr,Kk]
theorem RK{T M:List Nat}{p:Nat}{a b c:Int}{s:Nat}{l:List Nat}(hr:AEN a b c s l.length=true)(hl:l.length<=100)(h1:sec M (3*p)=AEJ T a b c s l)(h2:dat M p l.length=l):
  HP T M p (CE a.toNat b.toNat c.toNat s l.length (B9 T l))/\lkN T M p=some (CE a.toNat b.toNat c.toNat s l.length (B9 T l))/\bD M p (CE a.toNat b.toNat c.toNat s l.length (B9 T l))=⟨a,b,c,s,l,p⟩/\EO T M p=false:=by
 obtain⟨g1,g2,g3,g4,g5,g6,_⟩:=Dh hr;have hH:HP T M p (CE a.toNat b.toNat c.toNat s l.length (B9 T l)):=by
  refine⟨by rw[h1];exact co hr,hl,?_⟩;show B9 T (dat M p l.length)=B9 T l;rw[h2]
 refine⟨hH,Rk hH,?_,?_⟩
 ·show(⟨(a.toNat:Int),(b.toNat:Int),(c.toNat:Int),s,dat M p l.length,p⟩:Kc)=_
  rw[h2,AAO g1,AAO g3,AAO (by omega)]
 ·cases hb:EO T M p
  ·rfl
  ·exact absurd ⟨_,hH⟩ (Hs.1 hb).1
theorem aR{T M:List Nat}{n p:Nat}(hM:M.length=64*n)(hp:3*p<n)(h:∀ r,r<64->M.getD (64*(3*p)+r) 0=0):lkN T M p=none/\EO T M p=false:=by
 have hl:=J3 hM hp;have hz:∀ x∈sec M (3*p),x=0:=fun x hx=>by
  obtain⟨i,hi⟩:=List.mem_iff_getElem?.1 hx;have hil:=(wC.1 hi).1;have:=J2 (M:=M) (i:=3*p) (r:=i) (by omega);rw[h i (by omega),vm,hi]at this;exact this
 have hno:¬ ∃ ns,HP T M p ns:=fun⟨ns,h1,_⟩=>Sb hl hz h1
 refine⟨Rj hno,?_⟩;cases hb:EO T M p
 ·rfl
 ·rcases (Hs.1 hb).2 with ⟨x,hx,h1⟩|⟨ns,h1,_⟩
  ·exact absurd (hz x hx) h1
  ·exact absurd h1 (Sb hl hz)
end
noncomputable section
open Go
set_option maxRecDepth 100000
structure Trn (b:List Nat)(hd:Bool)(k:Nat)(ts:List Nat):Prop where
 lt:∀ t∈ts,t<256
 win:k+ts.length<=if hd=true then 60 else b.length
 four:ts.length<=4
def chg(ts:List Nat):Bool:=ts.any fun t=>decide (t≠0)
section
variable {b ts:List Nat}{hd:Bool}{k:Nat}
variable (hl:1<=b.length/\b.length<=100)(hb:∀ x∈b,x<256)(t:Trn b hd k ts)
include hl t
end
end
noncomputable section
open Go
set_option maxRecDepth 100000
theorem kA:B3 .mt 0 jr.zero=some QX:=by kernel_rfl
theorem TU:∀ {L:List IN},(∀ v∈L,isW v=true)->∃ T:List Nat,L=T.map wv/\∀ x∈T,x<4294967296
 |[],_=>⟨[],rfl,fun x hx=>by cases hx⟩
 |v::L,h=>by
  obtain⟨n,rfl,hn⟩:=Po (h v vp);obtain⟨T,rfl,hT⟩:=TU fun x hx=>h x (vr _ hx)
  refine⟨n::T,rfl,fun x hx=>?_⟩;rcases wA.1 hx with rfl|hx
  ·exact hn
  ·exact hT x hx
theorem rN{T:List Nat}(h1:T.length=256)(h2:∀ x∈T,x<4294967296):AE1 T:=⟨h1,fun i=>by
 rw[vm];cases h:T[i]? with
 |none=>decide
 |some x=>exact h2 x (vy h)⟩
theorem N7:∀ T:List Nat,Bc (T.map wv)=true
 |[]=>rfl
 |x::T=>N7 T
theorem rE{h g:Hp}(W0:h.Wf)(x:h.Ext g){r:Nat}(hr:h.next<=r){L:List IN}(R:g.Row r 0 L)(hL:L.length=256){T:List Nat}(hT:T.length=256):
  AER 256 (pt r) (.agg ⟨T.map wv⟩) g=.ok AEE (g.wr r 0 (T.map wv))/\h.Ext (g.wr r 0 (T.map wv))/\(g.wr r 0 (T.map wv)).Row r 0 (T.map wv):=by
 have AEO:256<=r:=by have:=W0.big;omega
 have hl:(T.map wv).length=256:=by rw[OF];exact hT
 have ho:0+(T.map wv).length<=L.length:=by omega
 have st:=R.AER (n:=256) (off:=0) x.wf AEO (v:=.agg ⟨T.map wv⟩) hl ho (N7 T);have wr:=R.AET x.wf ho;rw[Hy (show L.length=(T.map wv).length by omega)]at wr;exact⟨st,R.AEi x hr ho,wr⟩
theorem Fx.ext{S:Nat->Prop}{h h':Hp}(x:Fx S h h')(hs:∀ b,S b->h.next<=b):h.Ext h':=⟨x.next,fun i hi=>x.get i hi fun s=>by have:=hs i s;omega,x.low _ (AAK _ _) (yX _ _) fun b hb=>wd (yX _ _) (hs b hb),x.wf⟩
theorem Fx.AKB{S:Nat->Prop}{h0 h h':Hp}(x0:h0.Ext h)(x:Fx S h h')(hs:∀ b,S b->h0.next<=b):h0.Ext h':=Fx.ext (S:=S) ((Fx.of x0).trans x) hs
end
noncomputable section
open Go
set_option maxRecDepth 100000
def AIP(v:IN):Prop:=oneCell v=true/\∀ k z,v≠.int k z
structure AIQ (h:Hp)(v:IN)(n cap:Nat):Prop where
 len:∀ g:Hp,AE5 v g=.ok (AI AT (n:Int)) g
 get:∀ i,i<n->i<cap->∃ (r:Nat) (kd a b c no:Int) (u w:IN) (l:List Nat),(∀ g:Hp,h.Ext g->AE0 7 v (AI AT (i:Int)) g=.ok (.pointer (some ⟨r,i*7,none⟩)) g/\loadN 7 ⟨r,i*7,none⟩ g=.ok (opV kd a b c no u w) g/\AEF ⟨r,i*7+5,none⟩ g=.ok u g)/\h.VE u (l.map bv)/\(∀ x∈l,x<256)/\oneCell u=true/\AIP w
section
variable {h:Hp}{A:At}{T M:List Nat}{c0 bad k:Nat}{arm:Int}{ks:List Kt}{fr:List Nat}{lv fv u:IN}{ov:Bool}{l:List Nat}
theorem Sl.all(s:Sl h A T M c0 arm ks fr lv fv bad ov):∀ k∈ks,h.AEb k.u (k.l.map bv)/\k.l.length<=1000/\oneCell k.u=true:=fun x hx=>⟨(s.ko x hx).1.vs.vals,by have:=(s.ko x hx).2.2.1;omega,(s.ko x hx).1.vs.one.2.1⟩
theorem jn:∃ T:List Nat,Np=T.map wv/\AE1 T:=by
 obtain⟨_,_,h1,h2⟩:=U7;obtain⟨T,h3,h4⟩:=TU h2;have hl:T.length=256:=by rw[h3,OF]at h1;exact h1
 exact⟨T,h3,rN hl h4⟩
end
end
end Go.Proofs.YtedbmmfebjfibaaGreat

/-
  Part ZG of what Lawnk stands on: printed by program, names and spaces cut.
-/
import Derived.Test.YtldjiljipddebaaGreatZF
open Bool renaming true→IN,false→IS
open Option renaming some→BY,none→By
open Go.Value renaming int→AI
open Go.IntKind renaming i64→AT
open Nat renaming reduceEqDiff→OF,reduceLT→sh,reduceAdd→wA,le_refl→wB,zero_add→wC,succ→wQ,ble→wY,lt_or_ge→wh,zero_le→wl,le_trans→wy,eq_zero_or_pos→xL,blt→xQ,add_zero→xy,mul_comm→yR,not_lt_zero→zP,zero_mul→zX,succ_mul→zc,succ_pos→AAB,lt_irrefl→AAs,add_comm→ACa,le_of_not_lt→ADD
open Go renaming Value→vz,World→xG
open List renaming length_append→wD,getElem?_eq_getElem→wE,length_map→wF,getD_eq_getElem?_getD→wG,mem_cons_of_mem→wI,mem_cons_self→wJ,length_cons→wK,mem_of_getElem?→wO,mem_singleton→wP,replicate→wR,mem_cons→wS,append_nil→wT,getElem?_eq_some_iff→wW,getElem?_append_left→wX,append_assoc→wa,mem_filter→wb,mem_append→wd,getElem?_append_right→wi,length_take→wu,mem_append_right→wz,map_append→w9,mem_map→xA,mem_append_left→xF,nil_append→xI,length_drop→xT,drop_zero→xa,getElem?_map→xc,mem_of_mem_take→xk,filter_cons_of_pos→xn,filter_cons_of_neg→xp,range→xx,take_length→xz,map_cons→yA,take_append_drop→yE,length_replicate→yI,nodup_cons→yO,drop_eq_getElem_cons→yP,length_filter_le→yT,take_of_length_le→yU,pairwise_cons→yV,nodup_append→yX,getElem?_take→yY,mem_range→yg,flatten_cons→yh,filter_append→yk,filter_eq_self→yv,mem_of_mem_drop→yx,find?_eq_none→zE,take_add_one→zR,pairwise_map→zS,getElem_mem→zY,filter_congr→ze,find?_cons_of_neg→zl,filter_eq_nil_iff→zm,length→zo,foldl_append→zp,nodup_range→zy,mem_reverse→zz,find?_some→AAL,filter_nil→AAM,pairwise_singleton→AAY,find?_cons_of_pos→AAh,flatMap_append→ABN,any_eq_false→ABO,map_take→ABX,take_zero→ABq,mem_or_eq_of_mem_set→ABr,pairwise_reverse→ACN,filter_sublist→ACc,flatMap_cons→ACq,not_mem_nil→ACx,map_reverse→ACz,length_set→ADG,nodup_nil→ADO
open Bool renaming and_eq_true→wV,not_true→xK,not_false→xP
open Int renaming ofNat→xR
open Go.Value renaming int→xd,chan→ABF,map→ACu
open Classical renaming propDecidable→yL,em→AEO
open Go.DataW renaming trod→ym
open Go.MemPlace renaming cell→zh
open List.Pairwise renaming sublist→AA7,filter→ADr
open List.Perm renaming trans→ACO,eq_of_pairwise→AEN
set_option linter.unusedVariables false
set_option linter.unusedSimpArgs false
namespace Go.Proofs.YtldjiljipddebaaGreat
set_option maxRecDepth 100000
noncomputable section
open Go
structure Ak where
 lf:Int
 sq:Int
 op:Nat
 a:Int
 b:Int
 c:Int
 u:vz
 l:List Nat
def Ak.cells(x:Ak):List vz:=CW x.lf x.sq x.op x.a x.b x.c x.u
def Ak.val(x:Ak):vz:=DJ x.lf x.sq x.op x.a x.b x.c x.u
def AF2(h:Hp)(x:Ak):Prop:=h.VE x.u (x.l.map bv)/\(∀a∈x.l,a<256)/\oneCell x.u=IN/\x.op<256
def flA(xs:List Ak):List vz:=xs.flatMap Ak.cells
def Hp.KL(h:Hp)(k:Nat)(v:vz)(xs:List Ak):Prop:=(v=AEW/\xs=[])\/∃a,v=.slice (BY ⟨a,0,By⟩) xs.length xs.length/\h.Row a 38 (flA xs)/\k<=a
structure AIj (h:Hp)(v:vz)(n cap:Nat):Prop where
 len:∀g:Hp,AFB v g=.ok (AI AT (n:Int)) g
 get:∀i,i<n->i<cap->∃(r:Nat) (x:Ak),(∀g:Hp,h.Ext g->AFM 7 v (AI AT (i:Int)) g=.ok (.pointer (BY ⟨r,i*7,By⟩)) g/\loadN 7 ⟨r,i*7,By⟩ g=.ok x.val g/\AEV ⟨r,i*7+6,By⟩ g=.ok x.u g)/\AF2 h x
theorem Po:∀xs:List Ak,(flA xs).length=xs.length*7
 |[]=>rfl
 |x::a=>by
  show(x.cells++flA a).length=_;rw[wD,Po a,wK];show 7+a.length*7=_;omega
theorem Ww:∀(xs:List Ak) (i:Nat) (x:Ak),xs[i]? =BY x->((flA xs).drop (i*7)).take 7=x.cells
 |[],i,x,a=>by cases a
 |y::xs,0,x,a=>by
  have a:BY y=BY x:=a;cases a;rfl
 |y::xs,i+1,x,a=>by
  show((y.cells++flA xs).drop ((i+1)*7)).take 7=_;rw[List.drop_append,List.drop_of_length_le (show y.cells.length<=_ by show 7<=_;omega),xI,show(i+1)*7 - y.cells.length=i*7 by show(i+1)*7 - 7=_;omega];exact Ww xs i x a
theorem bz:fwK=BJ (Ab 1 fwB) fwI:=rfl
theorem Uc:fwL=cA:=rfl
theorem qc:fwS=BJ (Ab 0 (A4 fwL)) fwE:=rfl
theorem tG:d8=d8h:=rfl
theorem lS:BX Va.zero 1=CW 0 0 0 0 0 0 AEW:=by kernel_rfl
theorem Qr:Bt .mt 0 (CW 0 0 0 0 0 0 AEW)=BY ON:=by kernel_rfl
section
variable {F:AES}{e:Env}{h h' h0 g:Hp}{S:Nat->Prop}{m k n:Nat}{v:vz}{xs:List Ak}{x:Ak}
theorem Mn(b:h.Wf){g:O}(a:g e=x.val):Ap 1 (BX Va.zero 1) [(0,7,g)] F e h=.ok (.slice (BY ⟨h.next,0,By⟩) 1 1) (h.AER 0 x.cells):=by
 rw[lS,CQ,A3 (hk:=by rw[a];rfl),a,show cellsOf x.val=x.cells from rfl,IT (show x.cells.length=7 from rfl),IT (show 0+7<=(CW 0 0 0 0 0 0 AEW).length from wB _),Bw,Cw b];rfl
theorem AF2.ext(o:AF2 h x)(a:h.Wf)(y:h.Ext h'):AF2 h' x:=⟨o.1.ext a y,o.2⟩
theorem Ak.one(x:Ak)(a:oneCell x.u=IN):Bd x.cells=IN:=by
 show(bif oneCell x.u then IN else IS)=IN;rw[a];rfl
theorem Hp.KL.ext(o:h.KL k v xs)(b:h.Wf)(y:h.Ext h'):h'.KL k v xs:=by
 rcases o with a|⟨c,a,d,e⟩
 ·exact .inl a
 ·exact .inr ⟨c,a,d.ext b y,e⟩
theorem Hp.KL.fx(o:h.KL k v xs)(d:h.Wf)(f:Fx S h h')(g:∀b,k<=b->¬S b):h'.KL k v xs:=by
 rcases o with a|⟨b,a,e,c⟩
 ·exact .inl a
 ·exact .inr ⟨b,a,f.row d e (g b c),c⟩
theorem Hp.KL.len(o:h.KL k v xs)(g:Hp):AFB v g=.ok (AI AT (xs.length:Int)) g:=by
 rcases o with ⟨rfl,rfl⟩|⟨a,rfl,_⟩
 ·exact EK
 ·exact EK
theorem Hp.KL.at(o:h.KL k v xs){i:Nat}(hi:xs[i]? =BY x):∃b,AFM 7 v (AI AT (i:Int)) h=.ok (.pointer (BY ⟨b,i*7,By⟩)) h/\loadN 7 ⟨b,i*7,By⟩ h=.ok x.val h:=by
 have hil:=(wW.1 hi).1;rcases o with ⟨rfl,rfl⟩|⟨b,rfl,h2,h3⟩
 ·cases hi
 ·refine⟨b,?_,?_⟩
  ·have:=DB (h:=h) (n:=xs.length) (c:=xs.length) (es:=7) (b:=b) (off:=0) (i:=i) (k:=.i64) hil
   rwa [wC]at this
  ·rw[h2.loadN (by rw[Po];omega),Ww xs i x hi];rfl
theorem Hp.KL.app(o:h.KL k v xs)(s:h0.Wf)(r:h0.Ext h)(hk:h0.next<=k)(I:k<=h.next)(J:xs.length<=1000)(C:oneCell x.u=IN):
  ∃h' v',DX 7 72 37 v (.slice (BY ⟨h.next,0,By⟩) 1 1) (h.AER 0 x.cells)=.ok v' h'/\h0.Ext h'/\h'.KL k v' (xs++[x])/\Fx (AEu v) h h':=by
 have c:=r.wf;have j:=r.AER 0 x.cells;have a:=(Hp.Ext.refl c).AER 0 x.cells;have l:=Hp.Row.new c 0 x.cells;have B:h.next<=(h.AER 0 x.cells).next:=a.next;have G:=s.big;generalize h.AER 0 x.cells=y at j a l B;have q:∀K:List vz->R,BP y 7 (.slice (BY ⟨h.next,0,By⟩) 1 1) 1 K=K x.cells:=λK=>l.AGd (es:=7) (off:=0) (n:=1) (by show 0+1 * 7<=7;omega)
 have p:=x.one C;rcases o with ⟨rfl,rfl⟩|⟨w,rfl,E,H⟩
 ·obtain⟨i,d,b,f,t,_,g⟩:=KF (eb:=72) (en:=37) j q rfl rfl p (by omega)
  exact⟨i,_,d,b,.inr ⟨_,rfl,by rw[show flA ([]++[x])=x.cells from wT _];exact f,by omega⟩,.of (a.trans g)⟩
 ·obtain⟨i,d,b,f,t,⟨_,u,_⟩,g⟩:=Of (eb:=72) (en:=37) (n:=xs.length) j q rfl rfl (by omega) p (E.ext c a) (Po xs) (by omega) (by omega) (by omega)
  refine⟨i,_,d,b,.inr ⟨_,by rw[wD];rfl,?_,by omega⟩,by omega,λm z A=>(g m (by omega) λe=>A (e ▸ ⟨0,_,_,rfl⟩)).trans (a.get m z),b.wf,λF L M D=>by
   have g1:=D w ⟨0,_,_,rfl⟩;have g2:=a.low;rw[u,BV];omega⟩
  rw[show flA (xs++[x])=flA xs++x.cells by unfold flA;rw[ABN];exact congrArg _ (wT _)];exact f
theorem qY(M:h.Wf)(hb:h0.Ext h)(W0:h0.Wf)(O:AIj h0 v n 25):∃h' v' xs,call AC (m+1) 8 [v] h=.ok v' h'/\h.Ext h'/\h'.KL h.next v' xs/\xs.length<=25/\∀x∈xs,AF2 h0 x/\x.l.length<=150:=by
 obtain⟨k,p1,s0,s3,s4⟩:∃k,d8 (call AC m) (Ay e0 0 [v]) h=fwS (call AC m) k h/\J 0 k=v/\J 3 k=AEW/\J 4 k=AI AT ((0:Nat):Int):=by
  rw[tG];unfold d8h;simp only[iN,wA,sT,sh,OF,reduceIte];exact⟨_,rfl,by simp[AG]⟩
 have a1:∃a c xs,A4 fwL (call AC m) k h=.exit 0 a c/\h.Ext c/\c.KL h.next (J 3 a) xs/\xs.length<=25/\∀x∈xs,AF2 h0 x/\x.l.length<=150:=by
  refine Bb (I:=λi d h'=>∃xs,h.Ext h'/\J 0 d=v/\J 4 d=AI AT (i:Int)/\i<=25/\h'.KL h.next (J 3 d) xs/\xs.length<=i/\∀x∈xs,AF2 h0 x/\x.l.length<=150)
   (Q:=λx=>∃a c xs,x=.exit 0 a c/\h.Ext c/\c.KL h.next (J 3 a) xs/\xs.length<=25/\∀x∈xs,AF2 h0 x/\x.l.length<=150) 25 (by omega) (λi d h' ⟨xs,o,t0,t4,hi,K,P,j⟩=>?_) ⟨[],.refl M,s0,s4,wl _,.inl ⟨s3,rfl⟩,wB _,λx j=>by cases j⟩
  have Y:=o.wf;have D:=O.len h';have done:(∃a,fwL (call AC m) d h'=.exit 0 a h'/\J 3 a=J 3 d)->(bi (fwL (call AC m) d h')=IN/\∃a c xs,fwL (call AC m) d h'=.exit 0 a c/\h.Ext c/\c.KL h.next (J 3 a) xs/\xs.length<=25/\∀x∈xs,AF2 h0 x/\x.l.length<=150):=λ⟨a,l,T⟩=>by
   rw[l];exact⟨rfl,a,h',xs,rfl,o,by rw[T];exact K,by omega,j⟩
  by_cases N:i<n
  ·have r:=Ec N
   by_cases p:i<25
   ·left
    have u:iLt (i:Int) 25=IN:=JJ (by omega);obtain⟨T,x,a0,ok⟩:=O.get i N p;obtain⟨R,q2,S⟩:=a0 h' (hb.trans o);have Z:=λg:Hp=>CL (i:=i) (h:=g) (by omega)
    have V:=ok.1.bl h';obtain⟨a,l,s,U,t⟩:∃a,fwL (call AC m) d h'=fwK (call AC m) a h'/\J 0 a=v/\J 3 a=J 3 d/\J 4 a=AI AT (i:Int):=by
     rw[Uc];unfold cA;simp only[sT,sh,OF,reduceIte,gD,Aa,t0,D,AM,AK,t4,r,u];exact⟨_,rfl,by simp[AG,t0,t4]⟩
    have fin:∀(b:Env) (B:Hp),J 4 b=AI AT (i:Int)->∃f,fwI (call AC m) b B=.norm f B/\J 4 f=AI AT ((i+1:Nat):Int)/\J 0 f=J 0 b/\J 3 f=J 3 b:=λb B r5=>by
     unfold fwI;simp only[sT,sh,OF,reduceIte,BL,r5,Z];exact⟨_,rfl,by simp[AG]⟩
    by_cases W:x.l.length<=150
    ·have w:iLe (x.l.length:Int) 150=IN:=Hn (by omega)
     have sl:=λ(F:AES) (e:Env) (he:J 26 e=x.val)=>Mn (F:=F) (e:=e) (x:=x) Y he
     obtain⟨C,v5,k5,x5,X,_⟩:=K.app (x:=x) M o (wB _) o.next (by omega) ok.2.2.1;obtain⟨b,E,G,H,L⟩:∃b,fwB (call AC m) a h'=.norm b C/\J 0 b=v/\J 3 b=v5/\J 4 b=AI AT (i:Int):=by
      unfold fwB;simp only[sT,sh,OF,reduceIte,A1,s,t,R,AH,AN,AJ,AP,S,Aa,V,AM,AK,w,Ai,Ac,q2,sl,BD,U,k5];exact⟨_,rfl,by simp[AG,s,t]⟩
     obtain⟨f,y,z,f3,A⟩:=fin b C L;refine⟨p,f,C,?_,xs++[x],x5,f3.trans G,z,p,by rw[A,H];exact X,by rw[wD];show xs.length+1<=_;omega,λa2 q=>?_⟩
     ·rw[l,bz]
      simp only[BC,Aw,E,DU,BA,y]
     ·rcases wd.1 q with q|q
      ·exact j a2 q
      ·rw[wP.1 q];exact⟨ok,W⟩
    ·have w:iLe (x.l.length:Int) 150=IS:=Lt (by omega)
     obtain⟨b,E,G,H,L⟩:∃b,fwB (call AC m) a h'=.norm b h'/\J 0 b=v/\J 3 b=J 3 a/\J 4 b=AI AT (i:Int):=by
      unfold fwB;simp only[sT,sh,OF,reduceIte,A1,s,t,R,AH,AN,AJ,AP,S,Aa,V,AM,AK,w];exact⟨_,rfl,by simp[AG,s,t]⟩
     obtain⟨f,y,z,f3,A⟩:=fin b h' L;refine⟨p,f,h',?_,xs,o,f3.trans G,z,p,by rw[A,H,U];exact K,by omega,j⟩;rw[l,bz];simp only[BC,Aw,E,DU,BA,y]
   ·right
    have u:iLt (i:Int) 25=IS:=GR (by omega);refine done ?_;rw[Uc];unfold cA;simp only[sT,sh,OF,reduceIte,gD,Aa,t0,D,AM,AK,t4,r,u];exact⟨_,rfl,by simp[AG]⟩
  ·right
   have r:=DC (show n<=i by omega);refine done ?_;rw[Uc];unfold cA;simp only[sT,sh,OF,reduceIte,gD,Aa,t0,D,AM,AK,t4,r];exact⟨_,rfl,by simp[AG]⟩
 obtain⟨a,c,xs,l,x2,K,P,j⟩:=a1;refine⟨c,_,xs,?_,x2,K,P,j⟩;rw[tD rfl,p1,qc];simp only[BC,Aw,l,A6,BA];unfold fwE;simp only[sT,sh,OF,reduceIte,lV0]
end
end
noncomputable section
open Go Go.RowKit Go.WideShapes Go.ChangeShapes
theorem aD{c:xG}{a:Addr}{v:vz}(h:c.cell? a=BY v):a.spot=By/\∃cs b fr,c.heap[a.block]? =BY (.cells cs b fr)/\cs[a.off]? =BY v:=by
 unfold World.cell? at h;split at h
 ·rename_i cs b fr e
  split at h
  ·cases h
  ·rename_i d
   refine⟨?_,cs,b,fr,e,h⟩;cases f:a.spot with
   |none=>rfl
   |some g=>rw[f]at d;exact(d rfl).elim
 ·cases h
theorem eT{c:xG}{a:Addr}{b:List vz}{cs:Array vz}{f:TypeId}{fr:Nat×Nat}(e:c.heap[a.block]? =BY (.cells cs f fr))(g:∀j,j<b.length->cs[a.off+j]? =BY (b.getD j AEU))(h:∀j,j<b.length->c.frozen? ⟨a.block,a.off+j,By⟩=IS):Lk c a b:=by
 refine⟨cs,f,fr,e,g,λl k i=>?_⟩;have d:=h l k;obtain⟨n,m⟩:=fr;simp only[World.frozen?,e]at d;simp only at i;simp only[Bool.and_eq_false_iff,decide_eq_false_iff_not]at d;omega
theorem XV{f:Type}{Q:Nat->f->Prop}:∀n,(∀i,i<n->∃x,Q i x)->∃xs:List f,xs.length=n/\∀i x,xs[i]? =BY x->Q i x
 |0,_=>⟨[],rfl,λi x b=>by cases b⟩
 |n+1,b=>by
  obtain⟨xs,h,j⟩:=XV n λi a=>b i (by omega)
  obtain⟨e,k⟩:=b n (by omega);refine⟨xs++[e],by rw[wD,h];rfl,λi x a=>?_⟩;rcases wh i xs.length with c|c
  ·rw[wX c]at a;exact j i x a
  ·rw[wi c]at a
   have d:i - xs.length< [e].length:=(wW.1 a).1;have d:i - xs.length<1:=d;have g:i - xs.length=0:=by omega
   rw[g]at a;cases a;rw[show i=n by omega];exact k
theorem Gu{s:Nat}:∀{a:List (List vz)},(∀l∈a,l.length=s)->a.flatten.length=a.length*s
 |[],_=>by simp
 |l::a,b=>by
  rw[yh,wD,b l wJ,Gu λd c=>b d (wI _ c),wK,zc,ACa]
theorem Re{s:Nat}:∀{b:List (List vz)} {i r:Nat} {l:List vz},(∀l∈b,l.length=s)->b[i]? =BY l->r<s->b.flatten[i*s+r]? =l[r]?
 |[],i,_,_,_,a,_=>by cases a
 |x::b,0,r,l,a,c,d=>by
  cases c;rw[yh,zX,wC,wX (by rw[a x wJ];exact d)]
 |x::b,i+1,r,l,a,c,d=>by
  have e:=a x wJ;rw[yh,wi (by rw[e,zc];omega),e];have:(i+1)*s+r - s=i*s+r:=by rw[zc];omega
  rw[this];exact Re (λg f=>a g (wI _ f)) c d
theorem Oa{s:Nat}:∀{b:List (List vz)} {i:Nat} {l:List vz} (R:List vz),(∀l∈b,l.length=s)->b[i]? =BY l->((b.flatten++R).drop (i*s)).take s=l
 |[],i,_,_,_,a=>by cases a
 |x::b,0,l,R,a,c=>by
  cases c;rw[zX,xa,yh,wa];exact List.take_left' (a x wJ)
 |x::b,i+1,l,R,a,c=>by
  have d:=a x wJ;have:(i+1)*s=s+i*s:=by rw[zc,ACa]
  rw[this,<- List.drop_drop,yh,wa,List.drop_left' d];exact Oa R (λf e=>a f (wI _ e)) c
def JN(d:xG)(Q:List vz->Prop)(s:Nat)(v:vz)(n:Nat)(a:List (List vz)):Prop:=(∀c∈a,c.length=s/\Q c)/\n<=a.length/\
 ((v=AEW/\a=[])\/(∃b,v=.slice (BY b) 0 0/\a=[])\/∃b,v=.slice (BY b) n a.length/\0<a.length/\b.spot=By/\Lk d b a.flatten)
theorem Qc{H:Type}{enc:TypeId×vz->H}{P:Program}{t e:TypeId}{s:Nat}(ht:P.underlying t=BY (.slice e))(hs:P.cellsOf e=s)(h0:0<s){W:xG}{fuel:Nat}{v:vz}{x:DataW H×List MemPlace}{Q:List vz->Prop}
  (dec:∀(m:Nat) (l:List vz) (y:DataW H×List MemPlace),l.length=s->ym enc P W 0 (λ_=>IN) IN m e l=BY y->(∀b off,zh b off∈y.2->W.frozen? ⟨b,off,By⟩=IS)->Q l)
  (hf:ym enc P W 0 (λ_=>IN) IN fuel t [v]=BY x)(hfz:∀b off,zh b off∈x.2->W.frozen? ⟨b,off,By⟩=IS):∃n Ls,JN W Q s v n Ls:=by
 rcases DataW.trod_slice ht hf with ⟨hcs,_⟩|⟨a,n,c,elems,rest,m,_,hcs,hx,_,hl,hm,hlen,hel,hsp,_⟩
 ·have:v=AEW:=by simpa using hcs
  exact⟨0,[],(λl hl=>by cases hl),wB _,.inl ⟨this,rfl⟩⟩
 ·have:v=.slice (BY a) n c:=by simpa using hcs
  subst this;obtain⟨hrl,hr⟩:=hsp rfl;subst hx;rcases xL c with hc|hc
  ·subst hc
   have:n=0:=by omega
   subst this;exact⟨0,[],(λl hl=>by cases hl),wB _,.inr (.inl ⟨a,rfl,rfl⟩)⟩
  ·have htot:(elems++rest).length=c:=by rw[wD];omega
   have each:∀i,i<c->∃l:List vz,(l.length=s/\Q l)/\∀j,j<s->W.cell? ((a.add (i*s)).add j)=l[j]?:=λi hi=>by
    have hi':i<(elems++rest).length:=by omega
    have hb:(W.cells? 0 (a.add (i*P.cellsOf e)) (P.cellsOf e)).bind (ym enc P W 0 (λ_=>IN) IN m e)=BY ((elems++rest)[i]'hi'):=by
     rcases wh i n with h4|h4
     ·have:=hel i h4
      rw[this,<- wE hi',wX (by omega)]
     ·have:=hr (i - n) (by omega)
      rw[show n+(i - n)=i by omega]at this;rw[this,<- wE hi',wi (by omega),hlen]
    rw[hs,Option.bind_eq_some_iff]at hb;obtain⟨l,h4,h5⟩:=hb;obtain⟨_,h6,h7⟩:=World.cells?_some h4;exact⟨l,⟨h6,dec m l _ h6 h5 λb off hm=>hfz b off (wz _ (List.mem_flatMap.2 ⟨_,zY hi',hm⟩))⟩,h7⟩
   obtain⟨Ls,hLl,hLs⟩:=XV c each;have hall:∀l∈Ls,l.length=s/\Q l:=λl hl=>by
    obtain⟨i,hi,rfl⟩:=List.mem_iff_getElem.1 hl;exact(hLs i _ (wE hi)).1
   have hls:∀l∈Ls,l.length=s:=λl hl=>(hall l hl).1
   have hz:0<Ls.length:=by omega
   have c0:=(hLs 0 _ (wE hz)).2 0 h0;have hl0:0<(Ls[0]'hz).length:=by rw[hls _ (zY hz)];exact h0
   rw[wE hl0,zX]at c0;have c0:W.cell? a=BY ((Ls[0]'hz)[0]'hl0):=c0;obtain⟨AJP,cs,tt,fr,hb,_⟩:=aD c0;obtain⟨ab,ao,spot⟩:=a;simp only at AJP;subst AJP;have hfl:=Gu hls;refine⟨n,Ls,hall,by omega,.inr (.inr ⟨⟨ab,ao,By⟩,by rw[hLl],hz,rfl,eT hb (λj hj=>?_) λj hj=>hfz ab (ao+j) (xF _ ?_)⟩)⟩
   ·rw[hfl]at hj
    have hi:j/s<Ls.length:=Nat.div_lt_of_lt_mul (by rw[yR];exact hj);have hr:j % s<s:=Nat.mod_lt _ h0;have e:j/s*s+j % s=j:=by rw[yR];exact Nat.div_add_mod j s
    have hx:=wE hi;have q:=(hLs _ _ hx).2 _ hr;have g:=Re hls hx hr;rw[e]at g;have hll:j % s<(Ls[j/s]'hi).length:=by rw[hls _ (zY hi)];exact hr
    rw[wE hll]at q g;rw[Addr.AFa,Addr.AFa,Ik hb]at q;rw[wG,g];show cs[ao+j]? =BY _;have:ao+j/s*s+j % s=ao+j:=by omega
    rw[<- this];exact q
   ·simp only[MemPlace.row,xA,yg]
    exact⟨j,by rw[hfl]at hj;rw[hs,hlen,hrl,show n+(c - n)=c by omega,<- hLl];exact hj,rfl⟩
theorem X5{φ:Phi}{a:Addr}{n c i m:Nat}(f:a.spot=By)(d:n<=c)(b:0<c)(g:0<m)(e:φ i=BY (QX a m)):AEX φ (.slice (BY ⟨i,0,By⟩) n c) (.slice (BY a) n c):=by
 refine .slice d ⟨rfl,f,_,e,rfl,.inl ⟨b,?_,.inl rfl⟩⟩;show a.off=(if m=0 then 0 else a.off)+0;rw[If (by omega),xy]
theorem JN.rel{h:xG}{Q:List vz->Prop}{s n:Nat}{v:vz}{a:List (List vz)}(b:JN h Q s v n a)(h0:0<s)(w:∀l,Q l->∀φ,AEp φ l l)(i:Nat):∃(u:vz) (q:Option Pl),Zq h a.flatten q/\(∀φ,AEp φ a.flatten a.flatten)/\(∀φ:Phi,φ i=q->AEX φ u v)/\
  ((u=AEW/\a=[])\/(u=.chan (BY 0)/\a=[])\/u=.slice (BY ⟨i,0,By⟩) n a.length):=by
 obtain⟨e,f,j⟩:=b;have c:∀φ,AEp φ a.flatten a.flatten:=λφ=>by
  clear f j
  induction a with
  |nil=>exact .nil
  |cons l a t=>
   rw[yh];exact(w l (e l wJ).2 φ).append (t λl g=>e l (wI _ g))
 rcases j with ⟨rfl,rfl⟩|⟨d,rfl,rfl⟩|⟨d,rfl,k,m,o⟩
 ·exact⟨AEW,By,.inl rfl,c,λ_ _=>.AFL,.inl ⟨rfl,rfl⟩⟩
 ·have:n=0:=by simpa using f
  subst this;exact⟨.chan (BY 0),By,.inl rfl,c,λ_ _=>.AGp,.inr (.inl ⟨rfl,rfl⟩)⟩
 ·have p:=Gu λl g=>(e l g).1
  refine⟨.slice (BY ⟨i,0,By⟩) n a.length,BY (QX d a.flatten.length),.inr ⟨d,rfl,o⟩,c,λφ r=>X5 m f k (by rw[p];exact Nat.mul_pos k h0) r,.inr (.inr rfl)⟩
def QB(l:List vz):Prop:=∃a:Nat,l=[bv a]/\a<256
theorem mG{l:List vz}(h:QB l)(φ:Phi):AEp φ l l:=by
 obtain⟨a,rfl,_⟩:=h;exact .cons (.int _ _) .nil
theorem Sq:∀xs:List Nat,(xs.map λx=>[bv x]).flatten=xs.map bv
 |[]=>rfl
 |a::xs=>by rw[yA,yh,Sq xs];rfl
theorem OT:∀{a:List (List vz)},(∀l∈a,QB l)->∃xs:List Nat,a=xs.map (λx=>[bv x])/\∀x∈xs,x<256
 |[],_=>⟨[],rfl,λx b=>by cases b⟩
 |l::a,d=>by
  obtain⟨x,rfl,b⟩:=d l wJ;obtain⟨xs,rfl,f⟩:=OT λl e=>d l (wI _ e)
  exact⟨x::xs,rfl,λg c=>by
   rcases wS.1 c with rfl|c
   ·exact b
   ·exact f g c⟩
theorem nS{g:xG}{v:vz}{n:Nat}{c:List (List vz)}(b:JN g QB 1 v n c):∃l:List Nat,(∀x∈l,x<256)/\∀(i:Nat) (u:vz),((u=AEW/\c=[])\/(u=.chan (BY 0)/\c=[])\/u=.slice (BY ⟨i,0,By⟩) n c.length)->∀h:Hp,h.Row i 0 c.flatten->h.VE u (l.map bv):=by
 obtain⟨j,k,_⟩:=b;obtain⟨a,rfl,o⟩:=OT λl d=>(j l d).2
 rw[wF]at k;refine⟨a.take n,λx e=>o x (xk e),λi u m h f=>?_⟩;rw[Sq]at f;rcases m with ⟨rfl,e⟩|⟨rfl,e⟩|rfl
 ·have:a=[]:=by simpa using e
  subst this;exact .inl (.inl ⟨rfl,by simp⟩)
 ·have:a=[]:=by simpa using e
  subst this;exact .inr ⟨⟨0,rfl⟩,by simp⟩
 ·have d:(a.take n).length=n:=by rw[wu];omega
  refine .inl (.inr ⟨i,0,(a.map λx=>[bv x]).length,0,a.map bv,?_,f,?_,?_⟩)
  ·rw[wF,wF,d]
  ·rw[wF,d,wF];omega
  ·rw[wF,d,xa,ABX]
structure AD where
 lf:Int
 sq:Int
 op:Nat
 a:Int
 b:Int
 c:Int
 u:vz
def AD.cells(x:AD):List vz:=CW x.lf x.sq x.op x.a x.b x.c x.u
def Zo(b:xG)(x:AD):Prop:=(∃c a,JN b QB 1 x.u c a)/\x.op<256
theorem gF{φ:Phi}{lf sq a b c:Int}{op:Nat}{d e:vz}(f:AEX φ d e):AEp φ (CW lf sq op a b c d) (CW lf sq op a b c e):=
 .cons (.int _ _) (.cons (.int _ _) (.cons (.int _ _) (.cons (.int _ _) (.cons (.int _ _) (.cons (.int _ _) (.cons f .nil))))))
theorem kE{u:vz}{P Q:Prop}{i n m:Nat}(h:(u=AEW/\P)\/(u=.chan (BY 0)/\Q)\/u=.slice (BY ⟨i,0,By⟩) n m):oneCell u=IN:=by
 rcases h with ⟨rfl,_⟩|⟨rfl,_⟩|rfl<;>rfl
theorem Q1{W:xG}:∀(xs:List AD),(∀x∈xs,Zo W x)->∀k:Nat,∃(us:List AD) (qs:List (Option Pl)) (Zs:List (List vz)),us.length=xs.length/\qs.length=xs.length/\Zs.length=xs.length/\
  (∀(i:Nat) (q:Option Pl) (L:List vz),qs[i]? =BY q->Zs[i]? =BY L->Zq W L q/\∀φ,AEp φ L L)/\(∀φ:Phi,(∀(i:Nat) (q:Option Pl),qs[i]? =BY q->φ (i+k)=q)->AEp φ (us.flatMap AD.cells) (xs.flatMap AD.cells))/\
  (∀h:Hp,(∀(i:Nat) (L:List vz),Zs[i]? =BY L->h.Row (i+k) 0 L)->∀u∈us,∃l:List Nat,h.VE u.u (l.map bv)/\(∀x∈l,x<256)/\oneCell u.u=IN/\u.op<256)
 |[],_,k=>⟨[],[],[],rfl,rfl,rfl,(λi q L h=>by cases h),(λφ _=>.nil),λh _ x hx=>by cases hx⟩
 |x::xs,hx,k=>by
  obtain⟨us,qs,Zs,l1,l2,l3,h1,h2,h3⟩:=Q1 xs (λy hy=>hx y (wI _ hy)) (k+1);obtain⟨⟨n,LI,bI⟩,hop⟩:=hx x wJ;obtain⟨ui,q0,i1,i2,i3,i4⟩:=bI.rel (by omega) (λl h φ=>mG h φ) k;obtain⟨lb,hlb,hB⟩:=nS bI;refine⟨⟨x.lf,x.sq,x.op,x.a,x.b,x.c,ui⟩::us,q0::qs,LI.flatten::Zs,by rw[wK,wK,l1],by rw[wK,wK,l2],by rw[wK,wK,l3],λi q' L e1 e2=>?_,λφ hφ=>?_,λh hr y hy=>?_⟩
  ·match i,e1,e2 with
   |0,e1,e2=>cases e1;cases e2;exact⟨i1,i2⟩
   |i+1,e1,e2=>exact h1 i q' L e1 e2
  ·rw[ACq,ACq]
   refine(gF (i3 φ (by have:=hφ 0 q0 rfl;rwa [wC]at this))).append (h2 φ λi q' e=>?_);have:=hφ (i+1) q' e
   rwa [show i+1+k=i+(k+1)by omega]at this
  ·rcases wS.1 hy with rfl|hy
   ·exact⟨lb,hB k ui i4 h (by have:=hr 0 _ rfl;rwa [wC]at this),hlb,kE i4,hop⟩
   ·refine h3 h (λi L e=>?_) y hy
    have:=hr (i+1) L e
    rwa [show i+1+k=i+(k+1)by omega]at this
theorem YK(φ:Phi):∀a:List vz,AEp φ (wR a.length (ABF By)) a
 |[]=>.nil
 |_::a=>.cons .unk (YK φ a)
def Zr(d:xG)(φ:Phi)(a:List vz)(q:Option Pl):Prop:=q=By\/∃c b,q=BY (QX c a.length)/\Lk d c b/\AEp φ a b
theorem Zq.AJQ{b:xG}{φ:Phi}{a:List vz}{q:Option Pl}(h:Zq b a q)(r:AEp φ a a):Zr b φ a q:=by
 rcases h with h|⟨c,d,e⟩
 ·exact .inl h
 ·exact .inr ⟨c,a,d,e,r⟩
theorem eU{e:xG}{ty:TTy}{ps:List (Option Pl)}{b:List (List vz)}(k:b.length<=256)(s:ps.length=b.length)
  (h:∀(i:Nat) (q:Option Pl) (d:List vz),ps[i]? =BY q->b[i]? =BY d->Zr e (Ol ps) d q):AEZ ty (Ol ps) nil (inH b) e:=
 rA k λi j a=>by
  have a:(ps[i]?).getD By=BY j:=a;cases c:ps[i]? with
  |none=>rw[c]at a;cases a
  |some q=>
   rw[c]at a;have a:q=BY j:=a;subst a;have r:=(wW.1 c).1;have f:=wE (l:=b) (i:=i) (by omega);rcases h i _ _ c f with h|⟨m,p,n,g,o⟩
   ·cases h
   ·obtain rfl:=Option.some.inj n
    exact⟨m,_,rfl,f,g.lt,eH g o⟩
theorem Ii(xs:List AD):xs.flatMap AD.cells=(xs.map AD.cells).flatten:=by rw[List.flatMap_def]
theorem gG{W:xG}{v:vz}{n:Nat}{Ls:List (List vz)}(b:JN W (λl=>∃x:AD,l=x.cells/\Zo W x) 7 v n Ls)(i k cap:Nat):
  ∃(u:vz) (q:Option Pl) (L0:List vz) (qs:List (Option Pl)) (Zs:List (List vz)),qs.length=min n cap/\Zs.length=min n cap/\
  (∀φ:Phi,φ i=q->(∀(j:Nat) (q':Option Pl),qs[j]? =BY q'->φ (j+k)=q')->Zr W φ L0 q/\AEX φ u v)/\(∀(j:Nat) (q':Option Pl) (L:List vz),qs[j]? =BY q'->Zs[j]? =BY L->Zq W L q'/\∀φ,AEp φ L L)/\
  (∀h:Hp,h.Wf->h.Row i 0 L0->(∀(j:Nat) (L:List vz),Zs[j]? =BY L->h.Row (j+k) 0 L)->AIj h u n cap):=by
 obtain⟨h1,h2,h3⟩:=b;rcases h3 with ⟨rfl,rfl⟩|⟨a,rfl,rfl⟩|⟨a,rfl,h4,h5,h6⟩
 ·have:n=0:=by simpa using h2
  subst this;exact⟨AEW,By,[],[],[],by simp,by simp,λφ _ _=>⟨.inl rfl,.AFL⟩,(λj q' L h=>by cases h),λh _ _ _=>⟨λg=>rfl,λi hi=>absurd hi (zP _)⟩⟩
 ·have:n=0:=by simpa using h2
  subst this;exact⟨.chan (BY 0),By,[],[],[],by simp,by simp,λφ _ _=>⟨.inl rfl,.AGp⟩,(λj q' L h=>by cases h),λh _ _ _=>⟨λg=>rfl,λi hi=>absurd hi (zP _)⟩⟩
 ·obtain⟨xs,hxs⟩:∃xs:List AD,Ls=xs.map AD.cells/\∀x∈xs,Zo W x:=by
   clear h2 h4 h5 h6
   induction Ls with
   |nil=>exact⟨[],rfl,λx hx=>by cases hx⟩
   |cons l Ls ih=>
    obtain⟨_,x,rfl,hx⟩:=h1 l wJ;obtain⟨xs,rfl,hxs⟩:=ih λl hl=>h1 l (wI _ hl)
    exact⟨x::xs,rfl,λy hy=>by
     rcases wS.1 hy with rfl|hy
     ·exact hx
     ·exact hxs y hy⟩
  obtain⟨rfl,hok⟩:=hxs;rw[wF]at h2 h4;have hml:(xs.take (min n cap)).length=min n cap:=by rw[wu];omega
  obtain⟨us,qs,Zs,l1,l2,l3,r1,r2,r3⟩:=Q1 (xs.take (min n cap)) (λx hx=>hok x (xk hx)) k;have hsplit:(xs.map AD.cells).flatten=(xs.take (min n cap)).flatMap AD.cells++(xs.drop (min n cap)).flatMap AD.cells:=by
   rw[<- Ii,<- ABN,yE]
  have hcl:∀(ys:List AD),∀l∈ys.map AD.cells,l.length=7:=λys l hl=>by
   obtain⟨x,_,rfl⟩:=xA.1 hl;rfl
  have ul:(us.flatMap AD.cells).length=(xs.take (min n cap)).length*7:=by rw[Ii,Gu (hcl us),wF,l1]
  have vl:((xs.take (min n cap)).flatMap AD.cells).length=(xs.take (min n cap)).length*7:=by rw[Ii,Gu (hcl _),wF]
  have AIk:(us.flatMap AD.cells++wR ((xs.drop (min n cap)).flatMap AD.cells).length (ABF By)).length=(xs.map AD.cells).flatten.length:=by
   rw[hsplit,wD,wD,yI,ul,vl]
  have hpos:0<(xs.map AD.cells).flatten.length:=by rw[Gu (hcl xs),wF];omega
  refine⟨.slice (BY ⟨i,0,By⟩) n (xs.map AD.cells).length,BY (QX a (xs.map AD.cells).flatten.length),us.flatMap AD.cells++wR ((xs.drop (min n cap)).flatMap AD.cells).length (ABF By),qs,Zs,by rw[l2,hml],by rw[l3,hml],λφ hφ hq=>⟨.inr ⟨a,(xs.map AD.cells).flatten,by rw[AIk],h6,?_⟩,X5 h5 (by rw[wF];exact h2) (by rw[wF];exact h4) hpos hφ⟩,r1,λh Wh hrow AIl=>⟨λg=>EK,λj hj ALE=>?_⟩⟩
  ·rw[hsplit]
   exact(r2 φ hq).append (YK φ _)
  ·have hju:j<us.length:=by rw[l1,hml];omega
   have hx:us[j]? =BY (us[j]'hju):=wE hju;obtain⟨lb,hB,hlb,ou,ow⟩:=r3 h AIl _ (zY hju);refine⟨i,⟨(us[j]'hju).lf,(us[j]'hju).sq,(us[j]'hju).op,(us[j]'hju).a,(us[j]'hju).b,(us[j]'hju).c,(us[j]'hju).u,lb⟩,λg xg=>?_,hB,hlb,ou,ow⟩;have hm:(us.map AD.cells)[j]? =BY (us[j]'hju).cells:=by rw[xc,hx];rfl
   have hd:=Oa (wR ((xs.drop (min n cap)).flatMap AD.cells).length (ABF By)) (hcl us) hm;rw[<- Ii]at hd;refine⟨?_,?_,?_⟩
   ·have:=DB (h:=g) (n:=n) (c:=(xs.map AD.cells).length) (es:=7) (b:=i) (off:=0) (k:=.i64) hj
    rwa [wC]at this
   ·rw[(hrow.ext Wh xg).loadN (by rw[wD,ul];omega),hd];rfl
   ·rw[(hrow.ext Wh xg).AEV (by rw[wD,ul];omega)]
    have h5:((us.flatMap AD.cells++wR ((xs.drop (min n cap)).flatMap AD.cells).length (ABF By)).drop (j*7)).take 7=(us[j]'hju).cells:=hd;have h6:=congrArg (λl=>l[6]?) h5;simp only[yY,List.getElem?_drop]at h6;rw[IT (by omega)]at h6;rw[wG,h6];rfl
end
noncomputable section
open Go
section

def kp7(j:Nat):Prop:=j=0\/j=1\/j=2\/j=7\/j=8\/j=9\/j=11
end
section
variable {h h':Hp}{bd bm bc n c0 m:Nat}{M:List Nat}{cs:List (Nat×List Nat)}
theorem Ss(c:h.Wf)(d:Dk h bd bm bc n M c0 cs 0 IS):
  ∃h',call AC (m+1) 144 [pt bd] h=.ok (AI AT 15) h'/\Fx (λi=>i=bd) h h'/\Dk h' bd bm bc n M c0 cs (-1) IN:=by
 obtain⟨_,_,o,_⟩:=Cb d.disk;have j:iEq 0 0=IN:=CZ rfl;obtain⟨l,p,a,r,f,_⟩:=D9 (v:=.bool IN) c d.disk (off:=3) (show 3<4 by omega) d.big.1 rfl rfl;have a:l.Row bd 0 (dkL bm bc n 0 IN):=a;obtain⟨g,q,b,s,k,_⟩:=D9 (v:=AI AT (-1)) f.wf a (off:=2) (show 2<4 by omega) d.big.1 rfl rfl;have b:g.Row bd 0 (dkL bm bc n (-1) IN):=b;have e:=f.trans k;refine⟨g,?_,e,⟨b,e.row c d.med (λh=>d.bdm h.symm),d.len,d.byt,by rw[e.get _ (d.lt c).2.2 (λh=>d.bdc h.symm)];exact d.map,d.big,d.n1⟩⟩;rw[WP rfl];unfold iI;simp only[iN,wA,sT,sh,OF,reduceIte,An,AX,AH,AN,AJ,AP,wC,o,AM,AK,j,AV,p,q,lV0]
theorem PT(e:h.Wf)(d:Dk h bd bm bc n M c0 cs 0 IS){i:Nat}(hi:i<n){u:vz}{l:List Nat}(c:h.AEs u (l.map bv))(q:l.length=64):
  ∃h',call AC (m+3) 120 [pt bd,AI AT (i:Int),u] h=.ok (AI AT 15) h'/\Fx (λb=>b=bd) h h'/\Dk h' bd bm bc n M c0 cs (-1) IN:=by
 have r:=Ic (m:=m) d hi;have a:=c.bl h;rw[q]at a;obtain⟨p,s,o,k⟩:=Ss (m:=m+1) e d;have f:iNe 0 0=IS:=CE rfl;have j:iNe 15 0=IN:=De (by omega);have g:iNe ((64:Nat):Int) 64=IS:=CE rfl;refine⟨p,?_,o,k⟩;rw[WK rfl];unfold iD;simp only[iN,wA,sT,sh,OF,reduceIte,cA0,r,AM,AK,f,Aa,a,g,s,j,lV0]
theorem Yo(c:h.Wf)(d:Dk h bd bm bc n M c0 cs 0 IS):
  ∃h',call AC (m+3) 121 [pt bd] h=.ok (AI AT 15) h'/\Fx (λb=>b=bd) h h'/\Dk h' bd bm bc n M c0 cs (-1) IN:=by
 have a:=Ic (m:=m) d (i:=0) (by have:=d.n1;omega);have a:call AC (m+2) 130 [pt bd,AI AT 0] h=.ok (AI AT 0) h:=a;obtain⟨k,l,j,g⟩:=Ss (m:=m+1) c d;have e:iNe 0 0=IS:=CE rfl;have f:iNe 15 0=IN:=De (by omega);refine⟨k,?_,j,g⟩;rw[WL rfl,Wl];unfold RJ;simp only[iN,wA,sT,sh,OF,reduceIte,cA0,a,l,AM,AK,e,f,lV0]
end
section
variable {F:AES}{e:Env}{h h':Hp}{S:Nat->Prop}{A:At}{T M:List Nat}{c0 bad m p n bl:Nat}{v lv fv:vz}{ov:Bool}{cs:List (Nat×List Nat)}
theorem bT(b:h.Wf)(R:h.Row A.bs 0 (slL A.bd A.tb lv fv bad ov))(a2:¬A.K A.bs)(d:Dk h A.bd A.bm A.bc A.n M c0 cs 0 IS){v:vz}{i:Nat}{l:List Nat}(o:Gd h A v (.w i l))(hi:i<A.n)(hl:l.length=64):
  ∃h',HD (call AC (m+4)) v [] h=.ok (AI AT 15) h'/\Fx A.K h h'/\Dk h' A.bd A.bm A.bc A.n M c0 cs (-1) IN:=by
 rcases o with ⟨L,K,P,u,rfl,h2,t,n,w,h6,h7,h8⟩|⟨E,O,p,rfl,h2,t,rfl,w,rfl,h7,h8⟩
 ·obtain⟨D,_⟩:=BB (R.same (h':=h.marked) rfl)
  have m3:AEV ⟨L,0,By⟩ h.marked=.ok (pt A.bs) h.marked:=(h2.same (h':=h.marked) rfl).AEV (off:=0) (by show 0<1;omega);have a0:AEV ⟨K,0,By⟩ h.marked=.ok (AI AT (i:Int)) h.marked:=(t.same (h':=h.marked) rfl).AEV (off:=0) (by show 0<1;omega);have m9:AEV ⟨P,0,By⟩ h.marked=.ok u h.marked:=(n.same (h':=h.marked) rfl).AEV (off:=0) (by show 0<1;omega);obtain⟨s,B,Z,X⟩:=PT (m:=m) b.marked.quiet (d.same (h':=h.marked.quiet) rfl) hi ((w.vs.vals).same (h':=h.marked.quiet) rfl) hl;have q:∀e:Env,J 7 e=pt A.bd->J 8 e=AI AT (i:Int)->J 9 e=u->AZ .free (AU 120 [J 7,J 8,J 9]) (call AC (m+3)) e h.marked=.ok (AI AT 15) (h.marked.back s):=λe j k r=>by
   refine BE ?_;rw[BG,AS,AS,AS,Av,j,k,r];exact B
  refine⟨h.marked.back s,?_,((Z.mono (T:=A.K) λU z=>.inl z).from (h:=h.marked) rfl rfl).same (h2:=h.marked.back s) rfl rfl |>.from (h:=h) rfl rfl,X.same rfl⟩;rw[CJ];show call AC (m+3+1) 126 [pt L,pt K,pt P] h=_;rw[WM rfl];unfold iE;simp only[iN,wA,sT,sh,OF,reduceIte,Ar,AJ,AP,m3,An,AX,AH,AN,wC,D,a0,m9,q,lV0]
 ·have m2:AEV ⟨E,0,By⟩ h.marked=.ok (pt A.bs) h.marked:=(h2.same (h':=h.marked) rfl).AEV (off:=0) (by show 0<1;omega)
  have m7:AEV ⟨O,0,By⟩ h.marked=.ok (AI AT (p:Int)) h.marked:=(t.same (h':=h.marked) rfl).AEV (off:=0) (by show 0<1;omega);obtain⟨D,_⟩:=BB (R.same (h':=h.marked) rfl);have o1:∀(off:Nat) (c:C) (F:AES) (e:Env),IU (.pointer (BY ⟨E,off,By⟩)) c F e h.marked=c F e h.marked:=λoff c F e=>DO (h2.lt b)
  have o2:∀(off:Nat) (c:C) (F:AES) (e:Env),IU (.pointer (BY ⟨A.bs,off,By⟩)) c F e h.marked=c F e h.marked:=λoff c F e=>DO (R.lt b)
  have B:=Mp (m:=m+1) (R.same (h':=h.marked.quiet) rfl) (p:=p) w;have q:∀e:Env,J 7 e=pt A.bs->J 8 e=AI AT (p:Int)->AZ .weak (AU 97 [J 7,J 8]) (call AC (m+3)) e h.marked=.ok (AI AT ((p*3:Nat):Int)) (h.marked.back h.marked.quiet):=λe j k=>by
   refine G4 b.marked ?_ (wB _);rw[BG,AS,AS,Av,j,k];exact B
  have g:h.Ext (h.marked.back h.marked.quiet):=Hp.Ext.AFY (Hp.Ext.refl b).marked (Hp.Ext.refl b).marked.quiet;have n2:(h.marked.back h.marked.quiet).next=h.next:=rfl;have V:(h.marked.back h.marked.quiet).bl=h.bl:=rfl;have a1:(h.marked.back h.marked.quiet).mark=h.next:=rfl;generalize h.marked.back h.marked.quiet=a at q g n2 V a1;have I:∀(F:AES) (e:Env),AZ .AEk (G0 1 ty5.zero (W (AI AT 64)) (W (AI AT 64))) F e a=.ok (.slice (BY ⟨a.next,0,By⟩) 64 64) (a.back (a.quiet.AER 0 (BF.map bv))):=λF e=>by
   have:=MV (F:=F) (e:=e) g.quiet.wf (x:=W (AI AT 64)) (y:=W (AI AT 64)) (N:=64) rfl rfl (by omega);have hz:wR 64 0=BF:=rfl;exact Cd this ((Hp.Ext.refl g.quiet.wf).AER _ _) (by omega)
  have Q:a.Ext (a.back (a.quiet.AER 0 (BF.map bv))):=.back ((Hp.Ext.refl g.wf.quiet).AER _ _);have H:(a.back (a.quiet.AER 0 (BF.map bv))).Row a.next 0 (BF.map bv):=(Hp.Row.new g.wf.quiet 0 (BF.map bv)).same rfl;have n3:(a.back (a.quiet.AER 0 (BF.map bv))).next=a.next+1:=rfl;generalize a.back (a.quiet.AER 0 (BF.map bv))=f at I Q H n3;have G:=g.trans Q;obtain⟨n,k4,f4,Y⟩:=PT (m:=m) G.wf.quiet ((d.ext b G).same (h':=f.quiet) rfl) hi (u:=.slice (BY ⟨a.next,0,By⟩) 64 64) (l:=BF) (.inr ⟨a.next,0,64,0,_,rfl,H.same rfl,wB _,rfl⟩) rfl;have q4:∀e:Env,J 6 e=pt A.bd->J 9 e=AI AT ((p * 3:Nat):Int)->J 10 e=.slice (BY ⟨a.next,0,By⟩) 64 64->AZ .free (AU 120 [J 6,J 9,J 10]) (call AC (m+3)) e f=.ok (AI AT 15) (f.back n):=λe j k r=>by
   refine BE ?_;rw[BG,AS,AS,AS,Av,j,k,r];exact k4
  refine⟨f.back n,?_,(Fx.of (S:=A.K) G).trans (((f4.mono (T:=A.K) λU z=>.inl z).from (h:=f) rfl rfl).same (h2:=f.back n) rfl rfl),Y.same rfl⟩;rw[CJ];show call AC (m+3+1) 119 [pt E,pt O] h=_;rw[WJ rfl];unfold iC;simp only[iN,wA,sT,sh,OF,reduceIte,Ar,D7,o1,o2,DL,AJ,AP,m2,An,AX,AH,AN,wC,D,m7,q,I,q4,lV0]
end
def N1(p:List Nat×List (Nat×List Nat))(d:AE9):List Nat×List (Nat×List Nat):=((match d with|.w _ _=>p.1|.f=>FU p.1 p.2),(match d with|.w a b=>p.2++[(a,b)]|.f=>[]))
theorem Ft:∀(ds:List AE9) (M:List Nat) (cs:List (Nat×List Nat)),Be M cs ds=ds.foldl N1 (M,cs)
 |[],_,_=>rfl
 |d::ds,M,cs=>by rw[PG,Ft ds];rfl
section
variable {h h':Hp}{A:At}{M:List Nat}{c0 bad m k p n j:Nat}{arm:Int}{fr:List Nat}{v lv fv:vz}{ov:Bool}{cs:List (Nat×List Nat)}{ds:List AE9}{x:AE9}
theorem re(D:h.Wf)(R:h.Row A.bs 0 (slL A.bd A.tb lv fv bad ov))(I:¬A.K A.bs)(d:Dk h A.bd A.bm A.bc A.n M c0 cs arm IS)(F:Gk arm (k+1))(l:Gd h A v x)(ok:Dm A.n cs (x::ds))(E:AFo cs)(u:AFG A.n cs):
  ∃h2 G,HD (call AC (m+4)) v [] h=.ok (AI AT 0) h2/\Fx A.K h h2/\Dk h2 A.bd A.bm A.bc A.n (N1 (M,cs) x).1 G (N1 (M,cs) x).2 (AFj arm) IS/\Dm A.n (N1 (M,cs) x).2 ds/\AFo (N1 (M,cs) x).2/\AFG A.n (N1 (M,cs) x).2:=by
 cases x with
 |w j B=>
  obtain⟨i,q,o3,J,o5⟩:=ok;obtain⟨h2,z,t,s⟩:=Wp (m:=m) D R I d F l q (λb a=>⟨i b a,(u b a).1⟩) o3;refine⟨h2,c0,z,t,s,o5,λp C b r c e g=>?_,λb a=>?_⟩
  ·have c:(cs++[(j,B)])[p]? =BY b:=c
   have e:(cs++[(j,B)])[C]? =BY r:=e;rcases wh p cs.length with n|n<;>rcases wh C cs.length with o|o
   ·rw[wX n]at c
    rw[wX o]at e;exact E p C b r c e g
   ·rw[wX n]at c
    rw[wi o]at e;have y:=wO e;rw[wP.1 y]at g;exact absurd g (i b (wO c))
   ·rw[wX o]at e
    rw[wi n]at c;have y:=wO c;rw[wP.1 y]at g;exact absurd g.symm (i r (wO e))
   ·have H:=(wW.1 c).1
    have h2:=(wW.1 e).1;rw[wD,List.length_singleton]at H h2;omega
  ·have a:b∈cs++[(j,B)]:=a
   rcases wd.1 a with a|a
   ·exact u b a
   ·rw[wP.1 a];exact⟨q,o3,J⟩
 |f=>
  obtain⟨i,q,o3⟩:=ok;obtain⟨h2,z,t,s⟩:=Rh (m:=m+1) D d F E u i q;have l:v=.func (.func 121) ⟨[pt A.bd]⟩ ⟨[]⟩:=l;exact⟨h2,_,by rw[l,CJ];exact z,t,s,o3,λK j b r h=>(by cases h),λb a=>by cases a⟩
theorem gB(W:h.Wf)(R:h.Row A.bs 0 (slL A.bd A.tb lv fv bad ov))(AEd:256<=A.bs)(hne:¬A.K A.bs)(d:Dk h A.bd A.bm A.bc A.n M c0 [] (j:Int) IS){vs:List vz}{dv:vz}(V:h.VS (λb=>¬A.D b) dv vs)(hlen:vs.length=ds.length)(hd:∀(i:Nat) (v:vz) (x:AE9),vs[i]? =BY v->ds[i]? =BY x->Gd h A v x)(hok:Dm A.n [] ds)(hj:j<ds.length)(AGJ:ds.length<=100):
  ∃h' c1,call AC (m+5) 98 [pt A.bs,dv] h=.ok (AI AT 15) h'/\Fx A.D h h'/\h'.Row A.bs 0 (slL A.bd A.tb lv fv bad IN)/\Dk h' A.bd A.bm A.bc A.n (Be M [] (ds.take j)).1 c1 (Be M [] (ds.take j)).2 (-1) IN/\AFo (Be M [] (ds.take j)).2/\AFG A.n (Be M [] (ds.take j)).2:=by
 have Vl:=V.vals.len;have pre:∃e1,Yi (call AC (m+4)) (Ay e0 0 [pt A.bs,dv]) h=alS (call AC (m+4)) e1 h/\J 0 e1=pt A.bs/\J 8 e1=dv/\J 9 e1=AI AT (vs.length:Int)/\J 10 e1=AI AT ((0:Nat):Int):=by
  unfold Yi;simp only[iN,wA,sT,sh,OF,reduceIte,Aa,Vl];exact⟨_,rfl,by simp[AG]⟩
 obtain⟨e1,p1,s0,s8,s9,s10⟩:=pre;have run:∃e' h' c1,A4 alB (call AC (m+4)) e1 h=.ret e' h'/\J 4 e'=AI AT 15/\Fx A.D h h'/\h'.Row A.bs 0 (slL A.bd A.tb lv fv bad IN)/\Dk h' A.bd A.bm A.bc A.n (Be M [] (ds.take j)).1 c1 (Be M [] (ds.take j)).2 (-1) IN/\AFo (Be M [] (ds.take j)).2/\AFG A.n (Be M [] (ds.take j)).2:=by
  refine Bb (I:=λi e' h'=>∃(c1:Nat),Fx A.K h h'/\Dk h' A.bd A.bm A.bc A.n (Be M [] (ds.take i)).1 c1 (Be M [] (ds.take i)).2 ((j - i:Nat):Int) IS/\Dm A.n (Be M [] (ds.take i)).2 (ds.drop i)/\AFo (Be M [] (ds.take i)).2/\AFG A.n (Be M [] (ds.take i)).2/\i<=j/\J 0 e'=pt A.bs/\J 8 e'=dv/\J 9 e'=AI AT (vs.length:Int)/\J 10 e'=AI AT (i:Int))
   (Q:=λx=>∃e' h' c1,x=.ret e' h'/\J 4 e'=AI AT 15/\Fx A.D h h'/\h'.Row A.bs 0 (slL A.bd A.tb lv fv bad IN)/\Dk h' A.bd A.bm A.bc A.n (Be M [] (ds.take j)).1 c1 (Be M [] (ds.take j)).2 (-1) IN/\AFo (Be M [] (ds.take j)).2/\AFG A.n (Be M [] (ds.take j)).2) j (by omega) (λi e' h' ⟨c1,x',d',ok',hK,hS,hi,t0,t8,t9,t10⟩=>?_)
   ⟨c0,.refl W,d,hok,λi j y z h=>(by cases h),λy hy=>(by cases hy),wl _,s0,s8,s9,s10⟩
  have hlt:i<ds.length:=by omega
  have hiv:i<vs.length:=by omega
  have c1':iLt (i:Int) (vs.length:Int)=IN:=Ec hiv;have V':=V.fx W x' λb hb=>Uu hb
  obtain⟨a,g1,g2⟩:=V'.vals.at hiv;have hv:vs[i]? =BY (vs.getD i AEU):=by rw[wG,wE hiv];rfl
  have hx:ds[i]? =BY (ds[i]'hlt):=wE hlt;have dI:=(hd i _ _ hv hx).keep (h':=h') trivial λb el L hb r=>x'.row W r (Uu hb)
  generalize vs.getD i AEU=v at g2 dI;have AGe:ds.drop i=ds[i]'hlt::ds.drop (i+1):=yP hlt;have htk:ds.take (i+1)=ds.take i++[ds[i]'hlt]:=by rw[zR,hx];rfl
  rw[AGe]at ok';generalize ds[i]'hlt=x at dI ok' htk;have R':=x'.row W R hne;have W':=x'.wf;by_cases hij:i<j
  ·left
   have AGO:Be M [] (ds.take (i+1))=N1 (Be M [] (ds.take i)) x:=by rw[htk,Ft,Ft,zp];rfl
   generalize Be M [] (ds.take i)=p at d' ok' hK hS AGO;have ha':Gk (((j - i:Nat):Nat):Int) (0+1):=⟨by omega,by omega,.inr (by omega)⟩;obtain⟨h2,c2,k2,f2,d2,ok2,hK2,hS2⟩:=re (m:=m) W' R' hne d' ha' dI ok' hK hS;rw[<- AGO]at d2 ok2 hK2 hS2;have ea:AFj (((j - i:Nat):Nat):Int)=((j - (i+1):Nat):Int):=by unfold AFj;omega
   rw[ea]at d2;have c0':iNe 0 0=IS:=CE rfl;have a3:=CL (i:=i) (h:=h2) (by omega);have hrun:∃e2,alB (call AC (m+4)) e' h'=.norm e2 h2/\J 0 e2=pt A.bs/\J 8 e2=dv/\J 9 e2=AI AT (vs.length:Int)/\J 10 e2=AI AT ((i+1:Nat):Int):=by
    unfold alB;simp only[sT,sh,OF,reduceIte,AM,AK,t10,t9,c1',A1,t8,g1,AJ,g2,CN,Av,k2,c0',BL,a3];exact⟨_,rfl,by simp[AG,t0,t8,t9]⟩
   obtain⟨e2,r1,r2,r3,r4,r5⟩:=hrun;exact⟨hij,e2,h2,r1,c2,x'.trans f2,d2,ok2,hK2,hS2,by omega,r2,r3,r4,r5⟩
  ·right
   have hie:i=j:=by omega
   subst hie;rw[Nat.sub_self]at d';have d':Dk h' A.bd A.bm A.bc A.n (Be M [] (ds.take i)).1 c1 (Be M [] (ds.take i)).2 0 IS:=d';obtain⟨h2,k2,f2,d2⟩:∃h2,HD (call AC (m+4)) v [] h'=.ok (AI AT 15) h2/\Fx A.K h' h2/\Dk h2 A.bd A.bm A.bc A.n (Be M [] (ds.take i)).1 c1 (Be M [] (ds.take i)).2 (-1) IN:=by
    cases x with
    |w j l=>
     obtain⟨_,o2,o3,_,_⟩:=ok';exact bT W' R' hne d' dI o2 o3
    |f=>
     have dI:v=.func (.func 121) ⟨[pt A.bd]⟩ ⟨[]⟩:=dI;obtain⟨h2,k2,f2,d2⟩:=Yo (m:=m+1) W' d';exact⟨h2,by rw[dI,CJ];exact k2,f2.mono λb hb=>.inl hb,d2⟩
   have R2:=f2.row W' R' hne;obtain⟨h3,st3,R3,n3,f3,_⟩:=D9 (v:=.bool IN) f2.wf R2 (off:=6) (show 6<7 by omega) AEd rfl rfl;have R3:h3.Row A.bs 0 (slL A.bd A.tb lv fv bad IN):=R3;have c3:iNe 15 0=IN:=De (by omega);have hrun:∃e2,alB (call AC (m+4)) e' h'=.ret e2 h3/\J 4 e2=AI AT 15:=by
    unfold alB;simp only[sT,sh,OF,reduceIte,AM,AK,t10,t9,c1',A1,t8,g1,AJ,g2,CN,Av,k2,c3,An,t0,AX,AH,AN,wC,AV,st3];exact⟨_,rfl,by simp[AG]⟩
   obtain⟨e2,r1,r2⟩:=hrun;rw[r1];refine⟨rfl,e2,h3,c1,rfl,r2,((x'.trans f2).mono λb hb=>.inr hb).trans (f3.mono λb hb=>.inl hb),R3,d2.fr f2.wf f3 (λh=>hne (.inl h.symm)) (λh=>hne (.inr (.inl h.symm))) (λh=>hne (.inr (.inr h.symm))),hK,hS⟩
 obtain⟨e2,h2,c1,r1,r2,r3,r4,r5,r6,r7⟩:=run;refine⟨h2,c1,?_,r3,r4,r5,r6,r7⟩;rw[aW rfl,bN,p1,Zz];simp only[BC,Aw,r1,B7,Ce,lV0,r2]
end
def AFH(fa:Bool)(a:Int):Prop:=(-1<=a/\a<=1099511627776)/\(fa=IS->a<0)
theorem AFH.AFj{fa:Bool}{a:Int}(h:AFH fa a):AFH fa (AFj a):=by
 obtain⟨⟨d,e⟩,b⟩:=h;unfold Go.Proofs.YtldjiljipddebaaGreat.AFj;exact⟨⟨by omega,by omega⟩,λc=>by have:=b c;omega⟩
theorem AFH.fold{fa:Bool}{a:Int}(h:AFH fa a):∀n:Nat,AFH fa ((xx n).foldl (λa _=>Go.Proofs.YtldjiljipddebaaGreat.AFj a) a)
 |0=>h
 |n+1=>by rw[List.range_succ,zp];exact(h.fold n).AFj
structure AFQ (fa:Bool)(h:Hp)(A:At)(T M:List Nat)(cs:List (Nat×List Nat)):Prop where
 row:∃lv fv bad,h.Row A.bs 0 (slL A.bd A.tb lv fv bad IN)
 dk:∃c0,Dk h A.bd A.bm A.bc A.n M c0 cs (-1) IN
 tab:h.Row A.tb 0 (T.map wv)
 tok:AFD T
 key:AFo cs
 sec:AFG A.n cs
 ne:A.bs≠A.bd/\A.bs≠A.bm/\A.bs≠A.bc/\¬A.D A.tb/\256<=A.bs
 may:fa=IN
theorem AFQ.same{fa:Bool}{h h':Hp}{A:At}{T M:List Nat}{cs:List (Nat×List Nat)}(d:AFQ fa h A T M cs)(a:h'.bl=h.bl):AFQ fa h' A T M cs:=by
 obtain⟨⟨g,e,b,n⟩,⟨c,f⟩,o,i,j,k,l,m⟩:=d;exact⟨⟨g,e,b,n.same a⟩,⟨c,f.same a⟩,o.same a,i,j,k,l,m⟩
theorem AFQ.ext{fa:Bool}{h h':Hp}{A:At}{T M:List Nat}{cs:List (Nat×List Nat)}(d:AFQ fa h A T M cs)(a:h.Wf)(x:h.Ext h'):AFQ fa h' A T M cs:=by
 obtain⟨⟨g,e,b,n⟩,⟨c,f⟩,o,i,j,k,l,m⟩:=d;exact⟨⟨g,e,b,n.ext a x⟩,⟨c,f.ext a x⟩,o.ext a x,i,j,k,l,m⟩
def Ed(ps:List Nat):List AE9:=ps.map (λa=>AE9.w (a*3) BF)++[.f]
section
variable {fa:Bool}{F:AES}{e:Env}{h h' h0:Hp}{A:At}{T M:List Nat}{c0 bad m p n j:Nat}{arm:Int}{ks:List Kt}{fr:List Nat}{v lv fv:vz}{ds:List AE9}{x:AE9}
theorem PY(f:h.Wf)(s:Sl h A T M c0 arm ks fr lv fv bad IS){vs:List vz}{k:vz}(o:h.VS (λb=>¬A.D b) k vs)(q:vs.length=ds.length)(p:∀(i:Nat) (v:vz) (x:AE9),vs[i]? =BY v->ds[i]? =BY x->Gd h A v x)(r:Dm A.n [] ds)(e:AFH fa arm)(n:ds.length<=100):
  (∃h' c a,call AC (m+5) 98 [pt A.bs,k] h=.ok (AI AT 0) h'/\Fx A.K h h'/\Dk h' A.bd A.bm A.bc A.n (Be M [] ds).1 c (Be M [] ds).2 a IS/\AFH fa a)\/
  (∃j h',j<ds.length/\call AC (m+5) 98 [pt A.bs,k] h=.ok (AI AT 15) h'/\Fx A.D h h'/\AFQ fa h' A T (Be M [] (ds.take j)).1 (Be M [] (ds.take j)).2):=by
 by_cases y:0<=arm/\arm<(ds.length:Int)
 ·obtain⟨j,rfl⟩:=Int.eq_ofNat_of_zero_le y.1
  obtain⟨h',c,l,d,z,g,u,w⟩:=gB (m:=m) (j:=j) f s.row s.ne.2.2.2.2 s.nK s.dk o q p r (by omega) n;exact .inr ⟨j,h',by omega,l,d,⟨⟨_,_,_,z⟩,⟨_,g⟩,d.row f s.tab s.ne.2.2.2.1,s.tok,u,w,s.ne,by
   cases fa
   ·exact absurd (e.2 rfl) (by omega)
   ·rfl⟩⟩
 ·obtain⟨h',c,a,l,d,g,t⟩:=mL (m:=m) f s.row s.nK s.dk o q p r ⟨e.1.2,e.1.1,by omega⟩ n
  exact .inl ⟨h',c,a,l,d,g,by rw[t];exact e.fold _⟩
theorem Ji(t:h.Wf)(s:Sl h A T M c0 arm ks fr lv fv bad IS){ps:List Nat}{pv:vz}(a8:h.AEs pv (ints .i64 (ps.map xR)))(hp:∀p∈ps,3*p+3<=A.n)(c3:ps.Nodup)(hl:ps.length<=50)(g:AFH fa arm):
  (∃h' q a7,call AC (m+6) 77 [pt A.bs,pv] h=.ok (AI AT 0) h'/\Fx A.K h h'/\Sl h' A T (Gj M ps) q a7 ks fr lv fv bad IS/\AFH fa a7)\/
  (∃j h',j<ps.length+1/\ps≠[]/\call AC (m+6) 77 [pt A.bs,pv] h=.ok (AI AT 15) h'/\Fx A.D h h'/\AFQ fa h' A T (Be M [] ((Ed ps).take j)).1 (Be M [] ((Ed ps).take j)).2):=by
 have ln:∀a0:Hp,AFB pv a0=.ok (AI AT (ps.length:Int)) a0:=λa0=>by
  have:=a8.shape;obtain⟨B,b7,rfl⟩:=this;rw[show(ints .i64 (ps.map xR)).length=ps.length by simp[ints]];rfl
 have bx:=λ(F:AES) (e:Env) (he:J 0 e=pt A.bs)=>(show CT (J 0) F e h=.ok (pt h.next) (h.AER 0 [pt A.bs])by rw[EQ,he,EO t];rfl)
 have z:=(Hp.Ext.refl t).AER 0 [pt A.bs];have R2:=Hp.Row.new t 0 [pt A.bs];have n1:(h.AER 0 [pt A.bs]).next=h.next+1:=rfl;generalize h.AER 0 [pt A.bs]=o at bx z R2 n1;have hD:=s.AG9 t;have d1:A.n<=65536:=s.dk.n1.2;by_cases h0:ps=[]
 ·subst h0
  have q:iEq ((([]:List Nat).length:Nat):Int) 0=IN:=CZ rfl;refine .inl ⟨o,c0,arm,?_,.of z,s.ext t z,g⟩;rw[aS rfl,bG];unfold bH;simp only[iN,wA,sT,sh,OF,reduceIte,bx,Aa,ln,AM,AK,q,lV0]
 have d3:0<ps.length:=by
  cases ps with
  |nil=>exact absurd rfl h0
  |cons _ _=>exact AAB _
 have q:iEq (ps.length:Int) 0=IS:=B8 (by omega);have c7:∃u,bH (call AC (m+5)) (Ay e0 0 [pt A.bs,pv]) h=skS (call AC (m+5)) u o/\J 2 u=pt h.next/\J 5 u=.slice By 0 0/\J 11 u=pv/\J 12 u=AI AT (ps.length:Int)/\J 13 u=AI AT ((0:Nat):Int):=by
  unfold bH;simp only[iN,wA,sT,sh,OF,reduceIte,bx,Aa,ln,AM,AK,q];exact⟨_,rfl,by simp[AG]⟩
 obtain⟨u,p1,s2,s5,s11,s12,s13⟩:=c7;have c9:∃c h' v,A4 skB (call AC (m+5)) u o=.exit 0 c h'/\h.Ext h'/\CS h' A o.next v (ps.map λp=>AE9.w (p*3) BF)/\h'.Row h.next 0 [pt A.bs]/\o.next<=h'.next/\J 2 c=pt h.next/\J 5 c=v:=by
  refine Bb (I:=λi c h'=>∃v,h.Ext h'/\CS h' A o.next v ((ps.take i).map λp=>AE9.w (p*3) BF)/\h'.Row h.next 0 [pt A.bs]/\o.next<=h'.next/\i<=ps.length/\J 2 c=pt h.next/\J 5 c=v/\J 11 c=pv/\J 12 c=AI AT (ps.length:Int)/\J 13 c=AI AT (i:Int))
   (Q:=λx=>∃c h' v,x=.exit 0 c h'/\h.Ext h'/\CS h' A o.next v (ps.map λp=>AE9.w (p*3) BF)/\h'.Row h.next 0 [pt A.bs]/\o.next<=h'.next/\J 2 c=pt h.next/\J 5 c=v) ps.length (by omega) (λi c h' ⟨v,L,R,Z,c2,hi,t2,t5,t11,t12,t13⟩=>?_)
   ⟨_,z,⟨[],.inl ⟨rfl,rfl⟩,rfl,λi d6 x h=>by cases h⟩,R2,wB _,wl _,s2,s5,s11,s12,s13⟩
  have E:=L.wf;by_cases U:i<ps.length
  ·left
   have q:=Ec U;obtain⟨p,a4⟩:∃p,ps[i]? =BY p:=⟨_,wE U⟩;have c4:=wO a4;obtain⟨B,g1,g2⟩:=(a8.ext t L).at (i:=i) (by simp[ints];exact U);have g2:Ho (.pointer (BY B)) h'=.ok (AI AT (p:Int)) h':=by
    rw[g2];have:(ints .i64 (ps.map xR)).getD i AEU=AI AT (p:Int):=by
     rw[wG];simp[ints,a4]
    rw[this]
   obtain⟨a,al,st,W,R7,n2,_⟩:=Jr E fy (v:=AI AT (p:Int)) rfl rfl;have y:=L.trans W;have b2:∀b,h.next<=b->¬A.D b:=λb g=>jV hD g
   have a6:∀b,AEu v b->o.next<=b/\b<h'.next:=λb g=>by
    obtain⟨vs,o1,_⟩:=R;obtain⟨d4,nn,b7,r⟩:=g;rcases o1 with ⟨w,_⟩|⟨b',w,b1,b9,_⟩
    ·rw[w]at r;cases r
    ·rw[w]at r
     have:=b1.lt E;injection r with r _ _
     injection r with r
     injection r with r _ _
     omega
   have ds:JF a A (λb=>¬A.D b/\¬AEu v b) (.func (.func 119) ⟨[]⟩ ⟨[pt h.next,pt h'.next]⟩) (.w (p*3) BF):=.inr ⟨h.next,h'.next,p,rfl,Z.ext E W,R7,rfl,by have:=hp p c4;omega,rfl,⟨b2 _ (wB _),λg=>by have:=a6 _ g;omega⟩,⟨b2 _ (by have:=L.next;omega),λg=>by have:=a6 _ g;omega⟩⟩;obtain⟨D,v3,k3,x3,b0,n3,c6⟩:=(R.ext E W).snoc (f:=119) y z.next (by omega) rfl ds (by rw[wF,wu];omega);have er:(ps.take (i+1)).map (λp=>AE9.w (p*3) BF)=(ps.take i).map (λp=>AE9.w (p*3) BF)++[AE9.w (p*3) BF]:=by
    rw[zR,a4,w9];rfl
   rw[<- er]at b0;have fs:=λ(F:AES) (e:Env) (B:J 18 e=.func (.func 119) ⟨[]⟩ ⟨[pt h.next,pt h'.next]⟩)=>J5 (F:=F) (e:=e) y.wf B
   have a3:=CL (i:=i) (h:=D) (by omega);have a5:∃k,skB (call AC (m+5)) c h'=.norm k D/\J 2 k=pt h.next/\J 5 k=v3/\J 11 k=pv/\J 12 k=AI AT (ps.length:Int)/\J 13 k=AI AT ((i+1:Nat):Int):=by
    unfold skB;simp only[sT,sh,OF,reduceIte,AM,AK,t13,t12,q,A1,t11,g1,AJ,g2,al,AV,st,DN,AS,Av,t2,fs,BD,t5,k3,BL,a3];exact⟨_,rfl,by simp[AG,t2,t11,t12]⟩
   obtain⟨k,H,r2,r3,r4,r5,r6⟩:=a5;exact⟨U,k,D,H,v3,x3,b0,c6 _ _ _ (λg=>by have:=a6 _ g;omega) (Z.ext E W),by omega,by omega,r2,r3,r4,r5,r6⟩
  ·right
   have q:=DC (show ps.length<=i by omega);have a5:∃k,skB (call AC (m+5)) c h'=.exit 0 k h'/\J 2 k=pt h.next/\J 5 k=v:=by
    unfold skB;simp only[sT,sh,OF,reduceIte,AM,AK,t13,t12,q];exact⟨_,rfl,by simp[AG,t2,t5]⟩
   obtain⟨k,H,r2,r3⟩:=a5;rw[H];rw[yU (by omega)]at R;exact⟨rfl,k,h',v,rfl,L,R,Z,c2,r2,r3⟩
 obtain⟨k,a,v2,H,y,a9,b4,n2,t2,t5⟩:=c9;have V:=y.marked;have b6:a.marked.Row h.next 0 [pt A.bs]:=b4.same rfl;have l2:AEV ⟨h.next,0,By⟩ a.marked=.ok (pt A.bs) a.marked:=b6.AEV (off:=0) (by show 0<1;omega);obtain⟨l0,_⟩:=BB (s.row.ext t V);have qs:∀(F:AES) (e:Env),J 28 e=.func (.func 121) ⟨[pt A.bd]⟩ ⟨[]⟩->AZ .AEk (Ap 1 (BX Tk.zero 1) [(0,1,J 28)]) F e a.marked=.ok (.slice (BY ⟨a.next,0,By⟩) 1 1) (a.marked.back (a.marked.quiet.AER 0 [.func (.func 121) ⟨[pt A.bd]⟩ ⟨[]⟩])):=λF e he=>Cd (J5 V.wf.quiet he) ((Hp.Ext.refl V.wf.quiet).AER _ _) (wB _)
 have X:a.Ext (a.marked.back (a.marked.quiet.AER 0 [.func (.func 121) ⟨[pt A.bd]⟩ ⟨[]⟩])):=Hp.Ext.AFY (Hp.Ext.refl y.wf).marked ((Hp.Ext.refl y.wf).marked.quiet.AER _ _);have Rw:(a.marked.back (a.marked.quiet.AER 0 [.func (.func 121) ⟨[pt A.bd]⟩ ⟨[]⟩])).Row a.next 0 [.func (.func 121) ⟨[pt A.bd]⟩ ⟨[]⟩]:=(Hp.Row.new V.wf.quiet 0 [.func (.func 121) ⟨[pt A.bd]⟩ ⟨[]⟩]).same rfl;generalize a.marked.back (a.marked.quiet.AER 0 [.func (.func 121) ⟨[pt A.bd]⟩ ⟨[]⟩])=D at qs X Rw;have x3:=y.trans X;obtain⟨l,v4,k4,N,b8,n4⟩:=(a9.ext y.wf X).atB (f:=121) (d:=.f) x3 z.next (wy n2 X.next) rfl Rw rfl (by rw[wF];omega);have ck:∀(K:C) (F:AES) (e:Env),J 5 e=v2->J 2 e=pt h.next->Ck (J 5) [J 2] K F e D=K F e D:=λK F e O P=>by
  obtain⟨vs,o1,_⟩:=a9;rcases o1 with ⟨w,_⟩|⟨b',w,b1,b9,_⟩
  ·exact gn (b:=0) O (.inl w) P (.inl w)
  ·exact gn (b:=b') O (.inr ⟨_,_,_,w⟩) P (.inr (by omega))
 have s4:=s.ext t N;obtain⟨vs,w1,w2,w3⟩:=b8.ends λb g=>by have:=hD b g;have:=z.next;omega
 have fin:∀(Y:Int) (n:Hp),call AC (m+5) 98 [pt A.bs,v4] l.quiet=.ok (AI AT Y) n->call AC (m+6) 77 [pt A.bs,pv] h=.ok (AI AT Y) (l.back n):=λY n G=>by
  have q5:∀e:Env,J 22 e=pt A.bs->J 30 e=v4->AZ .free (AU 98 [J 22,J 30]) (call AC (m+5)) e l=.ok (AI AT Y) (l.back n):=λe O P=>by
   refine BE ?_;rw[BG,AS,AS,Av,O,P];exact G
  rw[aS rfl,bG,p1,sE];simp only[BC,Aw,H,A6,BA];unfold skE;simp only[sT,sh,OF,reduceIte,Ar,AJ,AP,t2,l2,An,AX,AH,AN,wC,l0,DN,AS,Av,qs];rw[ck _ _ _ (by simp[AG,t5]) (by simp[AG,t2])];simp only[sT,sh,OF,reduceIte];rw[k4 _ _ _ _ (by simp[AG,t5]) (by simp[AG])];simp only[sT,sh,OF,reduceIte,q5,lV0]
 have d2:(Ed ps).length=ps.length+1:=by unfold Ed;rw[wD,wF];rfl
 rcases PY (m:=m) N.wf.quiet (s4.same (h':=l.quiet) rfl) (ds:=Ed ps) (w1.same (h':=l.quiet) rfl) w2 (λi v x B b=>(w3 i v x B b).AFh λb el d0 g _ c8=>⟨c8.same rfl,g⟩) (df ps [] (.inr h0) (by simp only[List.length_nil];omega) (λp hq=>⟨hp p hq,λx hx=>by cases hx⟩) c3) g (by omega)with ⟨n,c5,b3,G,f5,d5,b5⟩|⟨j,n,hj,G,f5,dd⟩
 ·unfold Ed at d5
  rw[TJ]at d5;have S:Fx A.K l (l.back n):=(f5.from (h:=l) rfl rfl).same rfl rfl;exact .inl ⟨l.back n,c5,b3,fin 0 n G,(Fx.of N).trans S,((s4.sc.fx N.wf S).sl (d5.same rfl)),b5⟩
 ·have S:Fx A.D l (l.back n):=(f5.from (h:=l) rfl rfl).same rfl rfl
  exact .inr ⟨j,l.back n,by omega,h0,fin 15 n G,(Fx.of N).trans S,dd.same rfl⟩
end
def KU(p:Nat)(l H:List Nat):List AE9:=(if l=[]then []else Gc p l)++Dp p H
section
variable {fa:Bool}{F:AES}{e:Env}{h h' h0:Hp}{A:At}{T M:List Nat}{c0 bad m k p:Nat}{arm:Int}{ks:List Kt}{fr:List Nat}{lv fv:vz}
theorem eJ(H:h.Wf)(s:Sl h A T M c0 arm ks (p::fr) lv fv bad IS){a b c:Int}{l:List Nat}{u:vz}(j1:h.VE u (l.map bv))(f:∀x∈l,x<256)(hl:l.length<=100)
  (hr:AEh a b c 1 l.length=IN)(hf:ks.any (BI a b c)=IS)(q6:Bp a b c ks=IS)(u3:ks.length<=10)(q0:AFH fa arm):
  (∃h' c1 g7 G O k',call AC (m+8) 54 [pt A.bs,AI AT a,AI AT b,AI AT c,u] h=.ok (AI AT 0) h'/\Fx A.D h h'/\
   Sl h' A T (Dc T M p l (AEc T a b c 1 l)) c1 g7 (B5 (ks++[k'])) fr G O bad IS/\k'.core=⟨a,b,c,1,l,p⟩/\AFH fa g7/\∀b,AEu k'.u b->h.next<=b)\/
  (∃j h',j<(KU p l (AEc T a b c 1 l)).length/\call AC (m+8) 54 [pt A.bs,AI AT a,AI AT b,AI AT c,u] h=.ok (AI AT 15) h'/\Fx A.D h h'/\AFQ fa h' A T (Be M [] ((KU p l (AEc T a b c 1 l)).take j)).1 (Be M [] ((KU p l (AEc T a b c 1 l)).take j)).2):=by
 have t8:=H.big;have hD:=s.AG9 H;have k3:3*p+3<=A.n:=s.le.2.2.2 p wJ;have hn:=s.dk.n1;have hH:=EA (T:=T) hr;have j7:=NH (T:=T) (a:=a) (b:=b) (c:=c) (s:=1) (l:=l);have j2:iNe 0 0=IS:=CE rfl;have k0:=OA (m:=m+6) s.row;obtain⟨g,B,k1,X,b3⟩:=OV (n:=m+6) H j1 (by omega);have oc:=b3.one;have bl:=λ(F:AES) (e:Env) (o:J 1 e=AI AT a) (d:J 2 e=AI AT b) (e3:J 3 e=AI AT c) (e4:J 28 e=B)=>Q6 (F:=F) (h:=g) (g1:=J 1) (g2:=J 2) (g3:=J 3) (g5:=J 28) o d e3 e4 oc.1 oc.2.2
 have al:=λ(F:AES) (e:Env)=>BU (F:=F) (e:=e) X.wf (n:=5) (t:=DT)
 have Ra:=Hp.Row.alloc X.wf Fm (show(A5 0 0 0 0 AEW).length=5 from rfl);have y2:g.Ext (g.push (.cells DT 5 0)):=(Hp.Ext.refl X.wf).push _;have n2:(g.push (.cells DT 5 0)).next=g.next+1:=rfl;generalize g.push (.cells DT 5 0)=D at al Ra y2 n2;obtain⟨st,_,y3,d5,n3⟩:=MG X.wf y2 (wB _) Ra rfl (a:=a) (b:=b) (c:=c) (s:=1) (u:=B) oc.2.1;generalize D.wr g.next 0 (A5 a b c 1 B)=h3 at st y3 d5 n3;have x3:=X.trans y3;obtain⟨_,_,_,_,_,m7⟩:=Br d5;have r9:∀I,AFB B I=.ok (AI AT (l.length:Int)) I:=λI=>b3.vals.bl I
 have k4:=KX (n:=m+6) x3.wf (a:=a) (b:=b) (c:=c) (s:=1) (u:=B) r9;rw[hr]at k4;have y4:=(Hp.Ext.refl x3.wf).AER 0 (A5 a b c 1 B);generalize h3.AER 0 (A5 a b c 1 B)=h4 at k4 y4;have x4:=x3.trans y4;have f7:∀I:Hp,AFB u I=.ok (AI AT (l.length:Int)) I:=λI=>j1.bl I
 obtain⟨_,_,l2,_⟩:=BB (s.row.ext H x4);have c1:iGt (l.length:Int) 100=IS:=GQ (by omega);have s4:=s.ext H x4;obtain⟨h5,k5,x5⟩:=GN (m:=m+4) x4.wf s4.row s4.ls.ks (by omega) a b c;have q2:F1 (BI a b c) 0 ks= -1:=by
  rcases Pv (BI a b c) ks 0 with ⟨_,D⟩|⟨g,_⟩
  ·exact D
  ·rw[hf]at g;cases g
 rw[q2]at k5;have c2:iGe (-1) 0=IS:=E0 (by omega);have d0:=x4.trans x5;have s5:=s.ext H d0;obtain⟨r,k6,x6⟩:=G7 (m:=m+3) d0.wf s5.row s5.ls.ks (by omega) a b c;rw[q6]at k6;have a0:=d0.trans x6;have s6:=s.ext H a0;obtain⟨_,l1,_,_,l4,_⟩:=BB s6.row;have j8:(ints .i64 ((p::fr).map xR)).length=fr.length+1:=by unfold ints;rw[wF,wF];rfl
 have l6:=s6.fs.vals.len;rw[j8]at l6;have c3:iEq ((fr.length+1:Nat):Int) 0=IS:=B8 (by omega);obtain⟨af,g1,g2⟩:=s6.fs.vals.at (i:=0) (by rw[j8];omega);have g1:AFM 1 fv (AI AT 0) r=.ok (.pointer (BY af)) r:=g1;have g2:Ho (.pointer (BY af)) r=.ok (AI AT (p:Int)) r:=g2;have s3:∃o,OC (call AC (m+7)) (Ay e0 0 [pt A.bs,AI AT a,AI AT b,AI AT c,u]) h=prB (call AC (m+7)) o r/\J 0 o=pt A.bs/\J 4 o=u/\J 12 o=pt g.next/\J 14 o=AI AT (p:Int):=by
  unfold OC;simp only[iN,wA,sT,sh,OF,reduceIte,gD,cA0,k0,AM,AK,j2,k1,bl,al,AV,st,Ai,Ac,m7,k4,BO,BN,xK,Aa,f7,An,AX,AH,AN,wC,AJ,AP,l2,c1,k5,c2,k6,l4,l6,c3];rw[A1];simp only[sT,sh,OF,reduceIte,g1,AJ,g2];exact⟨_,rfl,by simp[AG]⟩
 obtain⟨o,p1,t0,t4,t12,t14⟩:=s3;have g6:=a0.marked;have n5:r.marked.Row g.next 0 (A5 a b c 1 B):=(((d5.ext x3.wf y4).ext x4.wf x5).ext d0.wf x6).same rfl;obtain⟨_,_,_,_,_,g8⟩:=Br n5;obtain⟨_,l5,_⟩:=BB (s.row.ext H g6);have s2:VcI r.marked h.next B l:=((b3.ext X.wf y3).ext x3.wf ((y4.trans x5).trans x6)).same rfl;obtain⟨h7,x7,hd⟩:=XH (n:=m+4) g6.quiet.wf ((s.tab.ext H g6).same (h':=r.marked.quiet) rfl) s.tok (a:=a) (b:=b) (c:=c) (s:=1) ((s2.vals).same (h':=r.marked.quiet) rfl) f (by omega) (by omega);rcases hd with ⟨_,vh,k7,s1⟩|⟨k8,_⟩
 case inr=>rw[hr]at k8;cases k8
 have q7:∀e:Env,J 83 e=pt A.tb->J 84 e=Bn a b c 1 B->AZ .free (AU 95 [J 83,J 84]) (call AC (m+7)) e r.marked=.ok (.tuple ⟨[vh,AI AT 0]⟩) (r.marked.back h7):=λe o d=>by
  refine BE ?_;rw[BG,AS,AS,Av,o,d];exact k7
 have y8:r.Ext (r.marked.back h7):=(Hp.Ext.refl a0.wf).marked.trans (.back x7);have i1:Mk (r.marked.back h7) r.next vh (AEc T a b c 1 l):=s1.same rfl;generalize r.marked.back h7=y at q7 y8 i1;have U:=a0.trans y8;have d1:∀I:Hp,r.Ext I->I.Row g.next 0 (A5 a b c 1 B):=λI x=>((((d5.ext x3.wf y4).ext x4.wf x5).ext d0.wf x6)).ext a0.wf x
 have m8:∃d R a5 L,prB (call AC (m+7)) o r=prC (call AC (m+7)) d R/\J 0 d=pt A.bs/\J 12 d=pt g.next/\J 14 d=AI AT (p:Int)/\J 15 d=vh/\J 17 d=a5/\y.Ext R/\CS R A y.next a5 L/\((l≠[]/\L=Gc p l)\/(l=[]/\L=[])):=by
  rcases xL l.length with hz|hz
  ·have q3:l=[]:=List.eq_nil_of_length_eq_zero hz
   have c4:iGt (l.length:Int) 0=IS:=GQ (by omega);have f5:∃d,prB (call AC (m+7)) o r=prC (call AC (m+7)) d y/\J 0 d=pt A.bs/\J 12 d=pt g.next/\J 14 d=AI AT (p:Int)/\J 15 d=vh/\J 17 d=AEW:=by
    rw[eI];unfold kP;simp only[sT,sh,OF,reduceIte,Ar,An,t0,AX,AH,AN,wC,AJ,AP,l5,Ai,Ac,t12,g8,q7,Az,A8,A9,Aa,t4,f7,AM,AK,c4];exact⟨_,rfl,by simp[AG,t0,t12,t14]⟩
   obtain⟨d,r1,u0,c9,a9,b5,b6⟩:=f5;exact⟨d,y,AEW,[],r1,u0,c9,a9,b5,b6,.refl U.wf,⟨[],.inl ⟨rfl,rfl⟩,rfl,λi v1 x hw _=>by cases hw⟩,.inr ⟨q3,rfl⟩⟩
  ·have c4:iGt (l.length:Int) 0=IN:=Hm (by omega)
   have n6:Mk g h.next B l:=by
    rcases b3 with ⟨_,D⟩|D
    ·rw[D]at hz;exact absurd hz (AAs 0)
    ·exact D
   have m3:=U.marked;have t3:=s.ext H m3;have k9:=Mp (m:=m+5) (t3.row.same (h':=y.marked.quiet) rfl) (p:=p) (by omega);have q9:∀e:Env,J 0 e=pt A.bs->J 14 e=AI AT (p:Int)->AZ .weak (AU 97 [J 0,J 14]) (call AC (m+7)) e y.marked=.ok (AI AT ((p*3:Nat):Int)) (y.marked.back y.marked.quiet):=λe o d=>by
    refine G4 m3.wf ?_ (wB _);rw[BG,AS,AS,Av,o,d];exact k9
   have y9:y.Ext (y.marked.back y.marked.quiet):=Hp.Ext.AFY (Hp.Ext.refl U.wf).marked (Hp.Ext.refl U.wf).marked.quiet;have n9:(y.marked.back y.marked.quiet).next=y.next:=rfl;have m9:(y.marked.back y.marked.quiet).mark=y.next:=rfl;generalize y.marked.back y.marked.quiet=E at q9 y9 n9 m9;have x9:=U.trans y9;have ad:=CL (h:=E) (i:=p * 3) (by omega);obtain⟨_,_,_,_,n7,_⟩:=Br (d1 E (y8.trans y9));have n8:g.next<E.mark:=by
    rw[m9];have:=(d1 y y8).lt U.wf;exact this
   have o0:∀(off:Nat) (kk:C) (F:AES) (e:Env),IU (.pointer (BY ⟨g.next,off,By⟩)) kk F e E=kk F e E:=λoff kk F e=>DO n8
   have s9:=s.ext H x9;have s0:Mk E h.next B l:=(((n6.ext X.wf y3).ext x3.wf ((y4.trans x5).trans x6)).ext a0.wf (y8.trans y9));obtain⟨d6,a5,q8,t5,D1⟩:=Lj (m:=m+6) x9.wf.quiet (s9.row.same (h':=E.quiet) rfl) (λb f=>by have:=hD b f;have:=x9.next;show b<E.next;omega) (sct:=p*3+1) (by omega) (s0.same (h':=E.quiet) rfl) (by omega);have m0:∀e:Env,J 0 e=pt A.bs->J 95 e=AI AT ((p*3+1:Nat):Int)->J 97 e=B->AZ .free (AU 96 [J 0,J 95,J 97]) (call AC (m+7)) e E=.ok a5 (E.back d6):=λe o d e3=>by
    refine BE ?_;rw[BG,AS,AS,AS,Av,o,d,e3];exact q8
   have m4:E.Ext (E.back d6):=.back t5;have d3:CS (E.back d6) A E.next a5 (Gc p l):=D1.same rfl;generalize E.back d6=R at m0 m4 d3;have f5:∃d,prB (call AC (m+7)) o r=prC (call AC (m+7)) d R/\J 0 d=pt A.bs/\J 12 d=pt g.next/\J 14 d=AI AT (p:Int)/\J 15 d=vh/\J 17 d=a5:=by
    rw[eI];unfold kP;simp only[sT,sh,OF,reduceIte,Ar,An,t0,AX,AH,AN,wC,AJ,AP,l5,Ai,Ac,t12,g8,q7,Az,A8,A9,Aa,t4,f7,AM,AK,c4,q9,t14,BL,ad,D7,o0,DL,n7,m0];exact⟨_,rfl,by simp[AG,t0,t12,t14]⟩
   obtain⟨d,r1,u0,c9,a9,b5,b6⟩:=f5;exact⟨d,R,a5,Gc p l,r1,u0,c9,a9,b5,b6,y9.trans m4,by rw[<- n9];exact d3,.inl ⟨λh=>by rw[h]at hz;exact absurd hz (AAs 0),rfl⟩⟩
 obtain⟨d,R,a5,L,r1,u0,c9,a9,b5,b6,b0,d3,e8⟩:=m8;have b7:=U.trans b0;have s11:=s.ext H b7;have u1:L.length<=3:=by
  rcases e8 with ⟨_,rfl⟩|⟨_,rfl⟩
  ·unfold Gc
   rw[wD,wF,List.length_range];show _+1<=3;omega
  ·exact wl _
 have r0:=Mp (m:=m+5) s11.row (p:=p) (by omega);have n0:Mk R r.next vh (AEc T a b c 1 l):=(i1.ext U.wf b0);obtain⟨j5,p8,r2,b8,D2⟩:=Lj (m:=m+6) b7.wf s11.row (λb f=>by have:=hD b f;have:=b7.next;omega) (sct:=p*3) (by omega) n0 (by omega);rw[hH,show(xx ((64+63)/64)).map (λj=>AE9.w (p*3+j) (C4 (AEc T a b c 1 l) j))++[.f]=Dp p (C4 (AEc T a b c 1 l) 0)from rfl,Q8 hH]at D2;have o1:=b7.trans b8;obtain⟨c6,j3,l0,Y,D3,u6,i2⟩:=CS.app o1 (by have:=U.next;omega) (by have:=b0.next;have:=b8.next;omega) (d3.ext b7.wf b8) D2 (by show 0<2;omega) (by
  show _+2<=1000;omega)
 have s13:=s.ext H Y;obtain⟨vs,w1,w2,w3⟩:=D3.ends λb f=>by have:=hD b f;have:=U.next;omega
 have u2:(L++Dp p (AEc T a b c 1 l)).length<=6:=by
  rw[wD];show _+2<=6;omega
 have q4:Dm A.n [] (L++Dp p (AEc T a b c 1 l)):=by
  rcases e8 with ⟨h0,rfl⟩|⟨_,rfl⟩
  ·exact kD k3 ⟨by rcases l with _|⟨_,_⟩;exact absurd rfl h0;exact AAB _,hl⟩ f hH j7
  ·exact Xj k3 hH j7
 have o2:L++Dp p (AEc T a b c 1 l)=KU p l (AEc T a b c 1 l):=by
  unfold KU;rcases e8 with ⟨h0,rfl⟩|⟨h0,rfl⟩
  ·rw[If h0]
  ·rw[IT h0]
 have i3:call AC (m+7) 97 [pt A.bs,AI AT (p:Int)] R=.ok (AI AT ((p*3:Nat):Int)) R:=r0;have i4:call AC (m+7) 96 [pt A.bs,AI AT ((p*3:Nat):Int),vh] R=.ok p8 j5:=r2;rcases PY (m:=m+2) Y.wf s13 w1 w2 w3 q4 q0 (by omega)with ⟨V,c5,b9,f6,N,d14,b14⟩|⟨j,V,hj,f6,N,dd⟩
 case inr=>
  rw[o2]at hj dd;have p7:iNe 15 0=IN:=De (by omega);have f3:call AC (m+7) 98 [pt A.bs,j3] c6=.ok (AI AT 15) V:=f6;refine .inr ⟨j,V,hj,?_,(Fx.of Y).trans N,dd⟩;rw[Hy rfl,H0,p1,r1];unfold prC;simp only[sT,sh,OF,reduceIte,cA0,u0,a9,i3,b5,i4,BD,b6,l0,f3,AM,AK,p7,lV0]
 have q1:(Be M [] (L++Dp p (AEc T a b c 1 l))).2=[]:=by
  have:L++Dp p (AEc T a b c 1 l)=(L++[.w (p*3) (AEc T a b c 1 l)])++[.f]:=by rw[wa];rfl
  rw[this];exact IY _ _ _
 have hM:(Be M [] (L++Dp p (AEc T a b c 1 l))).1=Dc T M p l (AEc T a b c 1 l):=by
  rcases e8 with ⟨_,rfl⟩|⟨h0,rfl⟩
  ·rfl
  ·rw[h0];rfl
 rw[q1,hM]at d14;have s14:Sl V A T (Dc T M p l (AEc T a b c 1 l)) c5 b9 ks (p::fr) lv fv bad IS:=(s13.sc.fx Y.wf N).sl d14;obtain⟨_,_,_,u5,r8,_⟩:=BB s14.row;obtain⟨wc,Vc,ct⟩:=gv (xs:=ints .i64 (fr.map xR)) (z:=AI AT (p:Int)) s14.fs;have q5:Bd (ints .i64 (fr.map xR))=IN:=Hv .i64 _;obtain⟨f4,O,r3,K,i5⟩:=pD (n:=m+6) N.wf Vc q5 (by have:=s.le.2.1;unfold ints;rw[wF,wF];rw[wK]at this;omega);have s15:=s14.ext N.wf K;have l8:cellsOf O=[O]/\oneCell O=IN:=by
  rcases i5 with ⟨g,_⟩|⟨b,el,g,_⟩<;>rw[g]<;>exact⟨rfl,rfl⟩
 obtain⟨w,o3,f0,u7,S,_⟩:=D9 K.wf s15.row (off:=4) (show 4<7 by omega) s.ne.2.2.2.2 l8.1 l8.2;have g9:∀b,A.D b->b<V.next:=λb f=>by have:=hD b f;have:=Y.next;have:=N.next;omega
 have f0:w.Row A.bs 0 (slL A.bd A.tb lv O bad IS):=f0;have a7:∀b,¬A.D b->b≠A.bs:=λb f h=>f (.inl h)
 have b4:Sl w A T (Dc T M p l (AEc T a b c 1 l)) c5 b9 ks fr lv O bad IS:=s15.bsx K.wf S f0 (s15.ls.keep λb el d4 f W=>S.row K.wf W (a7 b f)) (λk hk=>⟨(s15.ko k hk).1.keep λb el d4 f _ W=>S.row K.wf W (a7 b f),(s15.ko k hk).2⟩)
  (by
   rcases i5 with g|⟨b,el,g,D,h3,h4⟩
   ·exact .inl g
   ·have f:¬A.D b:=λh=>by have:=g9 b h;omega
    exact .inr ⟨b,el,g,S.row K.wf D (a7 b f),h3,f⟩) ⟨s.le.1,by have:=s.le.2.1;rw[wK]at this;omega,s.le.2.2.1,λs7 hq=>s.le.2.2.2 s7 (wI _ hq)⟩
 have b2:=S.wf;have d2:=(Hp.Ext.refl b2).marked;have i6:=b4.ext b2 d2;obtain⟨_,_,_,r6,_⟩:=BB i6.row;obtain⟨c7,g4,r4,m2,o4⟩:=WU (m:=m+6) d2.quiet.wf ((i6.same (h':=w.marked.quiet) rfl).ls) (λk hk=>(b4.ko k hk).1.vs.one.2.1) (by omega);have m1:∀e:Env,J 125 e=lv->AZ .weak (AU 100 [J 125]) (call AC (m+7)) e w.marked=.ok g4 (w.marked.back c7):=λe he=>by
  refine Cd ?_ m2 (wB _);rw[BG,AS,Av,he];exact r4
 have P:w.Ext (w.marked.back c7):=Hp.Ext.AFY d2 (d2.quiet.trans m2);have i7:(w.marked.back c7).KN w.next g4 ks:=o4.same rfl;have f8:(w.marked.back c7).mark=w.next:=rfl;generalize w.marked.back c7=q at m1 P i7 f8;have t7:g.next<r.next:=(d1 r (.refl a0.wf)).lt a0.wf;have u4:r.next<=c6.next:=by
  have a1:=y8.next;have a2:=b0.next;have a4:=b8.next;omega
 have i8:¬A.D g.next:=λh=>by have:=hD _ h;have:=X.next;omega
 have o5:=i2 _ _ _ (.inl rfl) (d1 j5 ((y8.trans b0).trans b8));have o6:=Uu i8;have n1:=N.row Y.wf o5 o6;have i0:=S.row K.wf (n1.ext N.wf K) (a7 _ i8);obtain⟨_,_,_,_,_,o7⟩:=Br (i0.ext b2 P);have n4:∀(off:Nat) (kk:C) (F:AES) (e:Env),IU (.pointer (BY ⟨g.next,off,By⟩)) kk F e q=kk F e q:=λoff kk F e=>DO (by
  rw[f8];exact i0.lt b2)
 generalize e9:(⟨a,b,c,1,l,p,B⟩:Kt)=k';have o8:∀(F:AES) (e:Env),J 127 e=Bn a b c 1 B->J 14 e=AI AT (p:Int)->BW D4.zero [(0,5,J 127),(5,1,J 14)] F e q=.ok (ktV k') q:=λF e o d=>by rw[<- e9];exact V7 o d
 have j9:k'.u=B:=by rw[<- e9]
 have qs:∀(F:AES) (e:Env),J 129 e=ktV k'->AZ .AEk (Ap 1 (BX D4.zero 1) [(0,6,J 129)]) F e q=.ok (.slice (BY ⟨q.next,0,By⟩) 1 1) (q.back (q.quiet.AER 0 (AY k'))):=λF e he=>Cd (NT P.wf.quiet he) ((Hp.Ext.refl P.wf.quiet).AER _ _) (by rw[f8];exact P.next)
 have i9:=P.next;have xX:w.Ext (⟨q.next,q.next+1,0,q.mark,q.bl⟩:Hp):=⟨i9,P.get,by show _<=q.next+1;omega,⟨P.wf.big,P.wf.has,P.wf.fresh⟩⟩;obtain⟨d7,G,r5,t6,o9,u8⟩:=jD (k:=w.next) xX (wB _) i9 (i7.same (h':=⟨q.next,q.next+1,0,q.mark,q.bl⟩) rfl) (x:=k') (by rw[j9];exact oc.2.1) (by omega);have f9:∀(F:AES) (e:Env),J 126 e=g4->J 130 e=.slice (BY ⟨q.next,0,By⟩) 1 1->AZ .free (Bm 6 64 124 (J 126) (J 130)) F e (q.back (q.quiet.AER 0 (AY k')))=.ok G ((q.back (q.quiet.AER 0 (AY k'))).back d7):=λF e o d=>by
  refine BE ?_;rw[BD,o,d];exact r5
 have Q:w.Ext ((q.back (q.quiet.AER 0 (AY k'))).back d7):=Hp.Ext.AFY (Hp.Ext.AFY P (P.quiet.AER _ _)) t6;have b1:((q.back (q.quiet.AER 0 (AY k'))).back d7).KO w.next G (ks++[k']):=o9.same rfl;generalize q.back (q.quiet.AER 0 (AY k'))=p9 at qs f9 Q b1;generalize p9.back d7=j6 at f9 Q b1;have c8:=b4.ext b2 Q;have l9:cellsOf G=[G]/\oneCell G=IN:=⟨b1.lst.one.1,b1.lst.one.2.1⟩;obtain⟨a8,p0,f1,u9,_,a6,_⟩:=ND Q.wf c8.row (off:=3) (show 3<7 by omega) s.ne.2.2.2.2 l9.1 l9.2;have f1:a8.Row A.bs 0 (slL A.bd A.tb G O bad IS):=f1;have f2:∀b,A.D b->b<w.next:=λb f=>by have:=g9 b f;have:=K.next;have:=S.next;omega
 have j0:a8.KO w.next G (ks++[k']):=b1.keep λb el d4 f W=>a6.row Q.wf W (λh=>by
  have:=(b1.blk Q.wf f).1;have:=f2 A.bs (.inl rfl);omega)
 have p6:a8.BS (λb=>¬A.D b) B (l.map bv):=by
  have p2:=(((b3.ext X.wf y3).ext x3.wf ((y4.trans x5).trans x6)).ext a0.wf (y8.trans b0)).ext b7.wf b8;rcases p2 with ⟨o,d⟩|⟨bq,eq,o,d,e3,e4⟩
  ·exact .inl ⟨o,by rw[d];rfl⟩
  ·have d9:¬A.D bq:=λh=>by have:=hD _ h;omega
   have s8:=i2 _ _ _ d e3;have t1:=S.row K.wf ((N.row Y.wf s8 (Uu d9)).ext N.wf K) (a7 _ d9);exact .inr ⟨bq,0,l.length,eq,_,by rw[wF];exact o,by rw[wF];exact wB _,a6.row Q.wf (t1.ext b2 Q) (a7 _ d9),by omega,by rw[xa,xz],d9,d⟩
 have g0:Sl a8 A T (Dc T M p l (AEc T a b c 1 l)) c5 b9 (ks++[k']) fr G O bad IS:=c8.bsx Q.wf a6 f1 (by
   refine Hp.KW.ks ?_;rcases j0 with ⟨g,D⟩|⟨b,g,D,h3,_⟩
   ·exact .inl ⟨g,D⟩
   ·exact .inr ⟨b,g,D,λh=>by have:=f2 b h;omega⟩) (λx hx=>by
   rcases wd.1 hx with hx|hx
   ·exact⟨(c8.ko x hx).1.keep λb el d4 f _ W=>a6.row Q.wf W (a7 b f),(c8.ko x hx).2⟩
   ·rw[wP.1 hx,<- e9]
    exact⟨p6,f,hl,.inl rfl,hr,by show p<65536;omega⟩)
  (c8.fs.keep λb el d4 f W=>a6.row Q.wf W (a7 b f)) ⟨by rw[wD];show ks.length+1<=1000;omega,b4.le.2.1,b4.le.2.2.1,b4.le.2.2.2⟩
 have m5:k'.core=⟨a,b,c,1,l,p⟩:=by rw[<- e9];rfl
 obtain⟨_,_,_,r7,_⟩:=BB g0.row;obtain⟨bl,k2,Rl,t9,m6⟩:∃bl,G=.slice (BY ⟨bl,0,By⟩) (ks++[k']).length (ks++[k']).length/\a8.Row bl 125 (flK (ks++[k']))/\w.next<=bl/\256<=bl:=by
  rcases j0 with ⟨_,D⟩|D
  ·have:=congrArg zo D
   simp at this
  ·exact D
 have l7:¬A.D bl:=λh=>by have:=f2 bl h;omega
 obtain⟨d8,l3,j4,p5⟩:=TZ (m:=m+1) (Z:=[]) (n:=(ks++[k']).length) (c:=(ks++[k']).length) a6.wf (by rw[wT];exact Rl) m6 rfl (wB _) (by rw[wD];show ks.length+1<=12;omega) λk hk=>(g0.ko k hk).1.vs.one.2.1
 rw[<- k2]at l3;have t2:Sl d8 A T (Dc T M p l (AEc T a b c 1 l)) c5 b9 (B5 (ks++[k'])) fr G O bad IS:=g0.lst a6.wf j4 l7 Rl (by
  rw[k2,<- G6];exact(Qb p5 rfl (wB _)).mono λb f=>by rw[show b=bl from f];exact l7) (λk hk=>(FJ).1 hk) (G6 _)
 have fx:Fx A.D h d8:=by
  have o:Fx A.D h c6:=.of Y;have d:Fx A.D c6 V:=N.mono λb f=>.inr f
  have e3:Fx A.D V f4:=.of K;have e4:Fx A.D f4 w:=S.mono λb f=>.inl f
  have e5:Fx A.D w j6:=.of Q;have e6:Fx A.D j6 a8:=a6.mono λb f=>.inl f
  have e7:=((((o.trans d).trans e3).trans e4).trans e5).trans e6;have a1:=Y.next;have a2:=N.next;have a3:=K.next;have a4:=S.next;exact e7.fresh j4 (by omega)
 refine .inl ⟨d8,c5,b9,G,O,k',?_,fx,t2,m5,b14,λb f=>?_⟩;rotate_left
 ·rw[j9]at f
  obtain⟨v0,n,c,e⟩:=f;rcases b3 with ⟨o,_⟩|⟨bq,eq,o,_,_,e4⟩
  ·rw[o]at e;cases e
  ·rw[o]at e
   injection e with e
   injection e with e
   injection e with e
   omega
 rw[Hy rfl,H0,p1,r1];unfold prC;have f3:call AC (m+7) 98 [pt A.bs,j3] c6=.ok (AI AT 0) V:=f6;have p3:call AC (m+7) 99 [wc] V=.ok O f4:=r3;have p4:call AC (m+7) 70 [G,.func (.func 71) ⟨[]⟩ ⟨[]⟩] a8=.ok AEU d8:=l3;simp only[sT,sh,OF,reduceIte,cA0,u0,a9,i3,b5,i4,BD,b6,l0,f3,AM,AK,j2,An,AX,AH,AN,wC,AJ,AP,r8];rw[ct _ _ _ (by simp[AG])];simp only[sT,sh,OF,reduceIte,cA0,u0,p3,An,AX,AH,AN,wC,AV,o3,Ar,AJ,AP,r6,m1,c9,D7,n4,DL,Ai,Ac,o7,a9,o8,qs,f9];rw[p0 _ _ _ _ (by simp[AG]) (by simp[AG])];simp only[sT,sh,OF,reduceIte,u0,An,AX,AH,AN,wC,AJ,AP,r7,cA0,p4,lV0]
end
section
variable {fa:Bool}{F:AES}{e:Env}{h h':Hp}{S:Nat->Prop}{A:At}{T M:List Nat}{c0 bad m k p:Nat}{arm:Int}{ks:List Kt}{fr:List Nat}{v lv fv:vz}
theorem YZ(W:h.Wf)(s:Sl h A T M c0 arm ks fr lv fv bad IS){j:Nat}{kx:Kt}(hj:ks[j]? =BY kx)(hs1:kx.s=1){a b c:Int}(hf:F1 (BI a b c) 0 ks=(j:Int))(AFW:kx.a=a/\kx.b=b/\kx.c=c)(hst:Bp a b c ks=IS)(hp3:3*kx.p+3<=A.n)(hkl:ks.length<=1000)(hbm:AFH fa arm):
  (∃h' c1 AEv lv' e2,Pi (call AC (m+7)) (Ay e0 0 [pt A.bs,AI AT a,AI AT b,AI AT c]) h=cmS (call AC (m+7)) e2 h'/\J 0 e2=pt A.bs/\J 1 e2=AI AT a/\J 2 e2=AI AT b/\J 3 e2=AI AT c/\J 15 e2=AEW/\J 16 e2=AI AT ((0:Nat):Int)/\Fx A.D h h'/\
   Sl h' A T (EX M kx.p (AEc T a b c 2 kx.l)) c1 AEv (ks.set j {kx with s:=2}) fr lv' fv bad IS/\AFH fa AEv)\/
  (∃i h',i<2/\call AC (m+8) 55 [pt A.bs,AI AT a,AI AT b,AI AT c] h=.ok (AI AT 15) h'/\Fx A.D h h'/\AFQ fa h' A T (Be M [] ((Dp kx.p (AEc T a b c 2 kx.l)).take i)).1 (Be M [] ((Dp kx.p (AEc T a b c 2 kx.l)).take i)).2):=by
 have big:=W.big;have hD:=s.AG9 W;have hn:=s.dk.n1;have hjl:=(wW.1 hj).1;have hkm:=wO hj;obtain⟨o1,o2,o3,o4,o5,o6⟩:=s.ko kx hkm;obtain⟨rfl,rfl,rfl⟩:=AFW;have oc:=o1.vs.one;have c00:iNe 0 0=IS:=CE rfl;have k0:=OA (m:=m+6) s.row;obtain⟨h1,k1,x1⟩:=GN (m:=m+4) W s.row s.ls.ks (by omega) kx.a kx.b kx.c;rw[hf]at k1;have c1:iGe (j:Int) 0=IN:=F0 (by omega);have s1:=s.ext W x1;obtain⟨_,_,_,l3,_⟩:=BB s1.row;obtain⟨bb,_,ix,ld,lde⟩:=s1.ls.ks.at hj;have lst:=lde 3 (.int .u8 (kx.s:Int)) rfl;have c2:iEq (kx.s:Int) 2=IS:=B8 (by omega);obtain⟨h2,k2,x2⟩:=G7 (m:=m+3) x1.wf s1.row s1.ls.ks (by omega) kx.a kx.b kx.c;rw[hst]at k2;have x12:=x1.trans x2;have s2:=s.ext W x12;have c3:iLt (j:Int) 0=IS:=GR (by omega);obtain⟨_,_,_,l3',_⟩:=BB s2.row;obtain⟨bb2,_,ix2,ld2,_⟩:=s2.ls.ks.at hj;have al:=λ(F:AES) (e:Env)=>BU (F:=F) (e:=e) x12.wf (n:=6) (t:=CR)
 have Ra:=Hp.Row.alloc x12.wf Fa (show(AY K0).length=6 from rfl);have y3:h2.Ext (h2.push (.cells CR 6 0)):=(Hp.Ext.refl x12.wf).push _;have n3:(h2.push (.cells CR 6 0)).next=h2.next+1:=rfl;generalize h2.push (.cells CR 6 0)=h3 at al Ra y3 n3;obtain⟨st,_,y4,R11,n4⟩:=Ld x12.wf y3 (wB _) Ra rfl (k:=kx) oc.2.1;generalize h3.wr h2.next 0 (AY kx)=h4 at st y4 R11 n4;have AEd:256<=h2.next:=by have:=x12.next;omega
 obtain⟨h5,st5,R5,n5,f5,e5⟩:=D9 y4.wf R11 (off:=3) (show 3<6 by omega) AEd (v:=.int .u8 2) rfl rfl;have y5:=e5 h2 y4 (wB _);generalize hkx:({kx with s:=2}:Kt)=X;have R5:h5.Row h2.next 0 (AY X):=by rw[<- hkx];exact R5
 have x5:=x12.trans y5;have pre:∃e1,Pi (call AC (m+7)) (Ay e0 0 [pt A.bs,AI AT kx.a,AI AT kx.b,AI AT kx.c]) h=cmB (call AC (m+7)) e1 h5/\J 0 e1=pt A.bs/\J 1 e1=AI AT kx.a/\J 2 e1=AI AT kx.b/\J 3 e1=AI AT kx.c/\J 10 e1=AI AT (j:Int)/\J 11 e1=pt h2.next:=by
  unfold Pi;simp only[iN,wA,sT,sh,OF,reduceIte,gD,cA0,k0,AM,AK,c00,k1,c1,An,AX,AH,AN,wC,xy,AJ,AP,l3,A1,ix,lst,c2,k2,c3,l3',ix2,Ai,Ac,ld2,al,AV,st,st5];exact⟨_,rfl,by simp[AG]⟩
 obtain⟨e1,p1,t0,t1,t2,t3,t10,t11⟩:=pre;have x5m:=x5.marked;have s5m:=s.ext W x5m;have R5m:h5.marked.Row h2.next 0 (AY X):=R5.same rfl;obtain⟨_,_,_,_,_,_,_,ld5⟩:=Bv R5m;obtain⟨_,l1m,_⟩:=BB s5m.row;have hX:X.a=kx.a/\X.b=kx.b/\X.c=kx.c/\X.s=2/\X.u=kx.u/\X.l=kx.l/\X.p=kx.p:=by rw[<- hkx];exact⟨rfl,rfl,rfl,rfl,rfl,rfl,rfl⟩
 obtain⟨e6a,e6b,e6c,e6s,e6u,e6l,e6p⟩:=hX;rw[e6a,e6b,e6c,e6s,e6u]at ld5;have bsu:=(s5m.ko kx hkm).1;have hr2:AEh kx.a kx.b kx.c 2 kx.l.length=IN:=by
  obtain⟨g1,g2,g3,g4,g5,g6,g7,g8⟩:=Dy o5;exact decide_eq_true ⟨g1,g2,g3,g4,g5,g6,.inr rfl,g8⟩
 have hH:=EA (T:=T) hr2;have hHb:=NH (T:=T) (a:=kx.a) (b:=kx.b) (c:=kx.c) (s:=2) (l:=kx.l);obtain⟨h6,x6,hd⟩:=XH (n:=m+4) x5m.quiet.wf ((s5m.tab).same (h':=h5.marked.quiet) rfl) s.tok (a:=kx.a) (b:=kx.b) (c:=kx.c) (s:=2) (bsu.vs.vals.same (h':=h5.marked.quiet) rfl) o2 (by omega) (by omega);rcases hd with ⟨_,vh,k6,mkh⟩|⟨hrf,_⟩
 case inr=>rw[hr2]at hrf;cases hrf
 have q6:∀e:Env,J 65 e=pt A.tb->J 67 e=Bn kx.a kx.b kx.c 2 kx.u->AZ .free (AU 95 [J 65,J 67]) (call AC (m+7)) e h5.marked=.ok (.tuple ⟨[vh,AI AT 0]⟩) (h5.marked.back h6):=λe e1 e2=>by
  refine BE ?_;rw[BG,AS,AS,Av,e1,e2];exact k6
 have y7:h5.Ext (h5.marked.back h6):=(Hp.Ext.refl x5.wf).marked.trans (.back x6);have mk7:Mk (h5.marked.back h6) h5.next vh (AEc T kx.a kx.b kx.c 2 kx.l):=mkh.same rfl;generalize h5.marked.back h6=h7 at q6 y7 mk7;have x7:=x5.trans y7;have s7:=s.ext W x7;obtain⟨_,_,_,_,_,lp7,_⟩:=Bv (R5.ext x5.wf y7);rw[e6p]at lp7;have k7:=Mp (m:=m+5) s7.row (p:=kx.p) (by omega);obtain⟨h8,dv,k8,x8,D8⟩:=Lj (m:=m+6) x7.wf s7.row (λb hb=>by have:=hD b hb;have:=x7.next;omega) (sct:=kx.p * 3) (by omega) mk7 (by omega);rw[hH,show(xx ((64+63) / 64)).map (λj=>AE9.w (kx.p * 3+j) (C4 (AEc T kx.a kx.b kx.c 2 kx.l) j))++[.f]=Dp kx.p (C4 (AEc T kx.a kx.b kx.c 2 kx.l) 0)from rfl,Q8 hH]at D8;have x8':=x7.trans x8;have s8:=s.ext W x8';obtain⟨vs,w1,w2,w3⟩:=D8.ends λb hb=>by have:=hD b hb;have:=x7.next;omega
 rcases PY (m:=m+2) x8'.wf s8 w1 w2 w3 (Xj hp3 hH hHb) hbm (by show 2<=100;omega)with ⟨h9,c9,AGw,k9,f9,d9,b9⟩|⟨i,h9,hi,k9,f9,dd⟩
 case inr=>
  have c15:iNe 15 0=IN:=De (by omega);have k7':call AC (m+7) 97 [pt A.bs,AI AT (kx.p:Int)] h7=.ok (AI AT ((kx.p*3:Nat):Int)) h7:=k7;have k8':call AC (m+7) 96 [pt A.bs,AI AT ((kx.p*3:Nat):Int),vh] h7=.ok dv h8:=k8;have k9':call AC (m+7) 98 [pt A.bs,dv] h8=.ok (AI AT 15) h9:=k9;refine .inr ⟨i,h9,hi,?_,(Fx.of x8').trans f9,dd⟩;rw[K9 rfl,LF,p1,aa];unfold gp;simp only[sT,sh,OF,reduceIte,Ar,An,t0,AX,AH,AN,wC,xy,AJ,AP,l1m,Ai,Ac,t11,ld5,q6,Az,A8,A9,lp7,cA0,k7',k8',k9',AM,AK,c15,lV0]
 have d9:Dk h9 A.bd A.bm A.bc A.n (EX M kx.p (AEc T kx.a kx.b kx.c 2 kx.l)) c9 [] AGw IS:=d9;have s9:Sl h9 A T (EX M kx.p (AEc T kx.a kx.b kx.c 2 kx.l)) c9 AGw ks fr lv fv bad IS:=(s8.sc.fx x8'.wf f9).sl d9;have AJc:¬A.D h2.next:=λh=>by have:=hD _ h;have:=x12.next;omega
 have R9:=f9.row x8'.wf ((R5.ext x5.wf y7).ext x7.wf x8) (Uu AJc);obtain⟨_,_,_,l39,_⟩:=BB s9.row;have hu:∀k∈ks,oneCell k.u=IN:=λk hk=>(s9.ko k hk).1.vs.one.2.1
 obtain⟨h10,w10,k10,x10,AH3⟩:=UN (m:=m+6) f9.wf s9.ls hu (λh=>by rw[h]at hjl;cases hjl) (by omega);have s10:=s9.ext f9.wf x10;obtain⟨h11,AKs,AHE,n11,f11,_⟩:=D9 x10.wf s10.row (off:=3) (show 3<7 by omega) s.ne.2.2.2.2 (v:=w10) AH3.lst.one.1 AH3.lst.one.2.1;have AHE:h11.Row A.bs 0 (slL A.bd A.tb w10 fv bad IS):=AHE;have nbs:∀b,¬A.D b->b≠A.bs:=λb hb h=>hb (.inl h)
 have AIq:∀b,A.D b->b<h9.next:=λb hb=>by have:=hD b hb;have:=x8'.next;have:=f9.next;omega
 have AJd:h11.KO h9.next w10 ks:=AH3.keep λb el L hb r=>f11.row x10.wf r (λh=>by
  have:=(AH3.blk x10.wf hb).1;have:=AIq A.bs (.inl rfl);omega)
 have s11:Sl h11 A T (EX M kx.p (AEc T kx.a kx.b kx.c 2 kx.l)) c9 AGw ks fr w10 fv bad IS:=s10.bsx x10.wf f11 AHE (by
   refine Hp.KW.ks ?_;rcases AJd with ⟨h1,h2⟩|⟨b,h1,h2,h3,_⟩
   ·exact .inl ⟨h1,h2⟩
   ·exact .inr ⟨b,h1,h2,λh=>by have:=AIq b h;omega⟩) (λx hx=>⟨(s10.ko x hx).1.keep λb el L hb _ r=>f11.row x10.wf r (nbs b hb),(s10.ko x hx).2⟩) (s10.fs.keep λb el L hb r=>f11.row x10.wf r (nbs b hb)) s10.le
 have AIr:=f11.row x10.wf (R9.ext f9.wf x10) (nbs _ AJc);have W11:=f11.wf;have xm:=(Hp.Ext.refl W11).marked;have AKt:=s11.ext W11 xm;obtain⟨_,_,_,l3m,_⟩:=BB AKt.row;obtain⟨_,_,_,_,_,_,AKu,_⟩:=Bv (AIr.same (h':=h11.marked) rfl);rcases AJd with ⟨_,AG8⟩|⟨bl,hw,Rl,hbk,AGT⟩
 ·rw[AG8]at hjl;cases hjl
 have ixl:AFM 6 w10 (AI AT (j:Int)) h11.marked=.ok (.pointer (BY ⟨bl,6*j,By⟩)) h11.marked:=by
  rw[hw];have:=DB (h:=h11.marked) (n:=ks.length) (c:=ks.length) (es:=6) (b:=bl) (off:=0) (i:=j) (k:=.i64) hjl
  rwa [wC,yR]at this
 have Rq:h11.marked.quiet.Row bl 125 (flK ks):=Rl.same rfl;have hXu:oneCell X.u=IN:=by rw[e6u];exact oc.2.1
 have hoo:6*j+(AY X).length<=(flK ks).length:=by rw[Ca];show 6*j+6<=_;omega
 have stq:=Rq.AEa (n:=6) (off:=6 * j) (v:=ktV X) xm.wf.quiet AGT rfl hoo (HH hXu);have wrq:=Rq.AEf xm.wf.quiet hoo;rw[Pp ks j X hjl]at wrq;have fxq:=Fx.wr (S:=λb=>b=bl) xm.wf.quiet Rq hoo rfl;have stq:AEa 6 (.pointer (BY ⟨bl,6 * j,By⟩)) (ktV X) h11.marked.quiet=.ok AEU (h11.marked.quiet.wr bl (6 * j) (AY X)):=stq;generalize h11.marked.quiet.wr bl (6 * j) (AY X)=q at stq wrq fxq;have q12:∀(F:AES) (e:Env),J 97 e=.pointer (BY ⟨bl,6 * j,By⟩)->J 96 e=ktV X->AZ .free (Ad 6 (J 97) (J 96)) F e h11.marked=.ok AEU (h11.marked.back q):=λF e e1 e2=>BE (by rw[AV,e1,e2];exact stq)
 have f12:Fx (λb=>b=bl) h11 (h11.marked.back q):=((fxq.from (h:=h11.marked) rfl rfl).same (h2:=h11.marked.back q) rfl rfl).from (h:=h11) rfl rfl;have AJe:(h11.marked.back q).Row bl 125 (flK (ks.set j X)):=wrq.same rfl;generalize h11.marked.back q=h12 at q12 f12 AJe;have nbl:¬A.D bl:=λh=>by have:=AIq bl h;omega
 have hsl:(ks.set j X).length=ks.length:=ADG;have AH4:∀b el L,b≠bl->h11.Row b el L->h12.Row b el L:=λb el L hb r=>f12.row W11 r hb
 have AHO:∀b el L,(el=0\/el=6\/el=4)->h11.Row b el L->b≠bl:=λb el L he r=>EC r Rl (by omega)
 have s12:Sl h12 A T (EX M kx.p (AEc T kx.a kx.b kx.c 2 kx.l)) c9 AGw (ks.set j X) fr w10 fv bad IS:=by
  refine⟨AH4 _ _ _ (AHO _ _ _ (.inl rfl) s11.row) s11.row,s11.dk.fr W11 f12 (AHO _ _ _ (.inl rfl) s11.dk.disk) (AHO _ _ _ (.inl rfl) s11.dk.med) (λh=>(I6 Rl s11.dk.map) h.symm),AH4 _ _ _ (AHO _ _ _ (.inl rfl) s11.tab) s11.tab,s.tok,Hp.KW.ks (.inr ⟨bl,by rw[hsl];exact hw,AJe,nbl⟩),λx hx=>?_,?_,s.ne,by rw[hsl];exact s11.le⟩
  ·have kp:=λ(x:Kt) (hx:x∈ks)=>(s11.ko x hx).1.keep (h':=h12) λb el L hb he r=>AH4 b el L (AHO b el L (by omega) r) r
   rcases ABr hx with h1|h1
   ·exact⟨kp x h1,(s11.ko x h1).2⟩
   ·rw[h1]
    have:=kp kx hkm;refine⟨?_,?_,?_,.inr e6s,?_,?_⟩
    ·rw[e6u,e6l];exact this
    ·rw[e6l];exact o2
    ·rw[e6l];exact o3
    ·rw[e6a,e6b,e6c,e6s,e6l];exact hr2
    ·rw[e6p];exact o6
  ·rcases s11.fs with h1|⟨b,el,h1,h2,h3,h4⟩
   ·exact .inl h1
   ·exact .inr ⟨b,el,h1,AH4 _ _ _ (AHO b el _ (by omega) h2) h2,h3,h4⟩
 have mid:∃e2,cmB (call AC (m+7)) e1 h5=cmS (call AC (m+7)) e2 h12/\J 0 e2=pt A.bs/\J 1 e2=AI AT kx.a/\J 2 e2=AI AT kx.b/\J 3 e2=AI AT kx.c/\J 15 e2=AEW/\J 16 e2=AI AT ((0:Nat):Int):=by
  have k7':call AC (m+7) 97 [pt A.bs,AI AT (kx.p:Int)] h7=.ok (AI AT ((kx.p*3:Nat):Int)) h7:=k7;have k8':call AC (m+7) 96 [pt A.bs,AI AT ((kx.p*3:Nat):Int),vh] h7=.ok dv h8:=k8;have k9':call AC (m+7) 98 [pt A.bs,dv] h8=.ok (AI AT 0) h9:=k9;have AKv:call AC (m+7) 100 [lv] h9=.ok w10 h10:=k10;rw[aa];unfold gp;simp only[sT,sh,OF,reduceIte,Ar,An,t0,AX,AH,AN,wC,xy,AJ,AP,l1m,Ai,Ac,t11,ld5,q6,Az,A8,A9,lp7,cA0,k7',k8',k9',AM,AK,c00,l39,AKv,AV,AKs,l3m,AKu,A1,t10,ixl,q12];exact⟨_,rfl,by simp[AG,t0,t1,t2,t3]⟩
 obtain⟨e2,r1,u0,u1,u2,u3,u15,u16⟩:=mid;have AH5:Fx A.D h h12:=by
  have e1:Fx A.D h h8:=.of x8';have e2:Fx A.D h8 h9:=f9.mono λb hb=>.inr hb
  have e3:Fx A.D h9 h10:=.of x10;have e4:Fx A.D h10 h11:=f11.mono λb hb=>.inl hb
  have e14:=((e1.trans e2).trans e3).trans e4;refine⟨wy e14.next f12.next,λi hi hs=>?_,f12.wf,λL q1 q2 q3=>f12.low L (e14.low L q1 q2 q3) (wy q2 e14.next) λb hb=>by have:=x8'.next;have:=f9.next;omega⟩;rw[f12.get i (by have:=e14.next;omega) (λh=>by have:=x8'.next;have:=f9.next;omega),e14.get i hi hs]
 exact .inl ⟨h12,c9,AGw,w10,e2,p1.trans r1,u0,u1,u2,u3,u15,u16,AH5,hkx ▸ s12,b9⟩
def cmK(ks:List Kt)(j:Nat)(a:Kt):List Kt:=ks.set j {a with s:=2}
def cmO(ks:List Kt)(j:Nat)(a:Kt):List Nat:=((cmK ks j a).filter (elB a.a a.b a.c)).map Kt.plc
theorem ai(R:h.Wf)(s:Sl h A T M c0 arm ks fr lv fv bad IS){a b c:Int}(b4:fr.length+ks.length<=11)(z:∀k∈ks,3*k.p+3<=A.n)(a0:(ks.map Kt.plc).Nodup)(l:AFH fa arm)(e:Fe ks a b c=By):
  ∃j d,ks[j]? =BY d/\(d.a=a/\d.b=b/\d.c=c)/\d.s=1/\Bp a b c ks=IS/\
  ((∃h' S E a4 W,call AC (m+8) 55 [pt A.bs,AI AT a,AI AT b,AI AT c] h=.ok (AI AT 0) h'/\Fx A.D h h'/\
    Sl h' A T (Gj (EX M d.p (AEc T a b c 2 d.l)) (cmO ks j d)) S E ((cmK ks j d).filter λk=> !elB a b c k) (frE fr ((cmK ks j d).filter (elB a b c))) a4 W bad IS/\AFH fa E)\/
   (∃i h',i<2/\call AC (m+8) 55 [pt A.bs,AI AT a,AI AT b,AI AT c] h=.ok (AI AT 15) h'/\Fx A.D h h'/\AFQ fa h' A T (Be M [] ((Dp d.p (AEc T a b c 2 d.l)).take i)).1 (Be M [] ((Dp d.p (AEc T a b c 2 d.l)).take i)).2)\/
   (∃i h',i<(cmO ks j d).length+1/\call AC (m+8) 55 [pt A.bs,AI AT a,AI AT b,AI AT c] h=.ok (AI AT 15) h'/\Fx A.D h h'/\AFQ fa h' A T (Be (EX M d.p (AEc T a b c 2 d.l)) [] ((Ed (cmO ks j d)).take i)).1 (Be (EX M d.p (AEc T a b c 2 d.l)) [] ((Ed (cmO ks j d)).take i)).2)):=by
 unfold Fe at e;rcases EB (BI a b c) ks 0 with ⟨q,g⟩|⟨j,d,q,g,J⟩
 ·rw[q]at e
  simp only at e;split at e<;>cases e
 rw[q]at e;simp only at e;split at e
 ·cases e
 rename_i a2;split at e
 ·cases e
 rename_i a3;have F:Bp a b c ks=IS:=by
  cases hq:Bp a b c ks
  · rfl
  · exact absurd hq a3
 have y:=wO g;have N:d.s=1:=(s.ko d y).2.2.2.1.resolve_right a2;have r:=Gr (AAL q);rw[wC]at J;refine⟨j,d,g,r,N,F,?_⟩;rcases YZ (m:=m) R s g N J r F (z d y) s.le.1 l with ⟨b2,c9,a9,b7,b0,r1,u0,u1,u2,u3,a6,a7,G,s12,b9⟩|⟨i,h',x,k1,V,t⟩
 case inr=>exact .inr (.inl ⟨i,h',x,k1,V,t⟩)
 have sm:(ks.set j {d with s:=2}).map Kt.plc=ks.map Kt.plc:=by
  rw[List.map_set];exact Nz (by rw[xc,g];rfl)
 have H:∀o∈ks.set j {d with s:=2},3*o.p+3<=A.n:=λo B=>by
  rcases ABr B with w|w
  · exact z o w
  · rw[w];exact z d y
 have b6:(ks.set j {d with s:=2}).length=ks.length:=ADG;have Z:cmO ks j d=((cmK ks j d).filter (elB a b c)).map Kt.plc:=by obtain⟨rfl,rfl,rfl⟩:=r;rfl
 rw[Z];have Y:cmK ks j d=ks.set j {d with s:=2}:=rfl;rw[Y];generalize ks.set j {d with s:=2}=n at *;obtain⟨b1,L,a5,X,O,r2,K,v0,a8,ow,s13⟩:=ae (m:=m) (a:=a) (b:=b) (c:=c) G.wf s12 (by omega) H u0 u1 u2 u3 a6 a7;have b3:(n.filter (elB a b c)).length<=n.length:=yT _ _;have a1:((n.filter (elB a b c)).map Kt.plc).Nodup:=AA7 (ACc.map _) (sm ▸ a0);have b5:((n.filter (elB a b c)).map Kt.plc).length<=11:=by rw[wF];omega
 have fin:∀(D:Int) (f:Hp),call AC (m+7) 77 [pt A.bs,O] L=.ok (AI AT D) f->call AC (m+8) 55 [pt A.bs,AI AT a,AI AT b,AI AT c] h=.ok (AI AT D) f:=λD f Q=>by
  rw[K9 rfl,LF,r1,pE];simp only[BC,Aw,r2,A6,BA];unfold cmE;simp only[sT,sh,OF,reduceIte,cA0,v0,a8,Q,lV0]
 have I:Fx A.D h L:=G.trans (K.mono λb l=>.inl l);rcases Ji (m:=m+1) K.wf s13 (ps:=(n.filter (elB a b c)).map Kt.plc) (pv:=O) ow.vals (λp hp=>by
  obtain⟨o,B,rfl⟩:=xA.1 hp;exact H o (wb.1 B).1) a1 (by omega) b9 with ⟨f,U,P,C,u,s14,b14⟩|⟨i,f,x,_,C,u,t⟩
 ·exact .inl ⟨f,U,P,a5,X,fin 0 f C,I.trans (u.mono λb l=>.inr l),s14,b14⟩
 ·exact .inr (.inr ⟨i,f,x,fin 15 f C,I.trans u,t⟩)
end
section
variable {fa:Bool}{F:AES}{e:Env}{h h':Hp}{A:At}{T M:List Nat}{c0 bad m k p n:Nat}{arm:Int}{ks:List Kt}{fr:List Nat}{lv fv:vz}
theorem Xq{P Q:List Kt}{x:Kt}(c:h.Wf)(s:Sl h A T M c0 arm (P++x::Q) fr lv fv bad IS)(R:(P++x::Q).length<=100)(N:fr.length<=11)(w:3*x.p+3<=A.n)(a:AFH fa arm):
  (∃h' j r q l,call AC (m+8) 102 [pt A.bs,AI AT (P.length:Int)] h=.ok (AI AT 0) h'/\Fx A.D h h'/\Sl h' A T (Gj M [x.p]) j r (P++Q) (EZ (fr++[x.p])) q l bad IS/\AFH fa r)\/
  (∃i h',i<2/\call AC (m+8) 102 [pt A.bs,AI AT (P.length:Int)] h=.ok (AI AT 15) h'/\Fx A.D h h'/\AFQ fa h' A T (Be M [] ((Ed [x.p]).take i)).1 (Be M [] ((Ed [x.p]).take i)).2):=by
 obtain⟨_,_,_,z,_⟩:=BB s.row;obtain⟨W,_,y,_,V⟩:=s.ls.at (i:=P.length) (k:=x) GV;have B:=V 5 (AI AT (x.p:Int)) rfl;have g:=λ(F:AES) (e:Env) (L:J 14 e=AI AT (x.p:Int))=>FD (F:=F) c L
 have b:=(Hp.Ext.refl c).AER 0 [xd .i64 (x.p:Int)];have t:=Hp.Row.new c 0 [xd .i64 (x.p:Int)];generalize h.AER 0 [xd .i64 (x.p:Int)]=u at g b t;have s1:=s.ext c b;rcases Ji (m:=m+1) b.wf s1 (ps:=[x.p]) (pv:=.slice (BY ⟨h.next,0,By⟩) 1 1) (.inr ⟨h.next,0,1,0,_,rfl,t,wB _,rfl⟩) (λp S=>by rw[wP.1 S];exact w) (by simp) (by show 1<=50;omega) a with ⟨f,j,C,n,d,s2,E⟩|⟨i,f,O,_,n,d,I⟩
 case inr=>
  have H:iNe 15 0=IN:=De (by omega);have o:call AC (m+7) 77 [pt A.bs,.slice (BY ⟨h.next,0,By⟩) 1 1] u=.ok (AI AT 15) f:=n;refine .inr ⟨i,f,O,?_,(Fx.of b).trans d,I⟩;rw[WD rfl];unfold hU;simp only[iN,wA,sT,sh,OF,reduceIte,An,AX,AH,AN,wC,AJ,AP,z,A1,y,B,g,cA0,o,AM,AK,H,lV0]
 obtain⟨K,q,l,U,f3,s3,_⟩:=XF (m:=m) d.wf s2 R N w;have G:iNe 0 0=IS:=CE rfl;have o:call AC (m+7) 77 [pt A.bs,.slice (BY ⟨h.next,0,By⟩) 1 1] u=.ok (AI AT 0) f:=n;refine .inl ⟨K,j,C,q,l,?_,((Fx.of b).trans (d.mono λD a=>.inr a)).trans (f3.mono λD a=>.inl a),s3,E⟩;rw[WD rfl];unfold hU;simp only[iN,wA,sT,sh,OF,reduceIte,An,AX,AH,AN,wC,AJ,AP,z,A1,y,B,g,cA0,o,AM,AK,G,U,lV0]
theorem YQ(p:h.Wf)(s:Sl h A T M c0 arm ks fr lv fv bad IS){a b c:Int}(W:fr.length+ks.length<=11)(O:∀k∈ks,3*k.p+3<=A.n)(K:AFH fa arm)(f:abE ks a b c=By):
  ∃j d,ks[j]? =BY d/\(d.a=a/\d.b=b/\d.c=c)/\Bp a b c ks=IS/\
  ((∃h' q l u t,call AC (m+9) 56 [pt A.bs,AI AT a,AI AT b,AI AT c] h=.ok (AI AT 0) h'/\Fx A.D h h'/\
    Sl h' A T (Gj M [d.p]) q l (ks.take j++ks.drop (j+1)) (EZ (fr++[d.p])) u t bad IS/\AFH fa l)\/
   (∃i h',i<2/\call AC (m+9) 56 [pt A.bs,AI AT a,AI AT b,AI AT c] h=.ok (AI AT 15) h'/\Fx A.D h h'/\AFQ fa h' A T (Be M [] ((Ed [d.p]).take i)).1 (Be M [] ((Ed [d.p]).take i)).2)):=by
 have U:=s.le.1;have G:iNe 0 0=IS:=CE rfl;have P:=OA (m:=m+7) s.row;obtain⟨V,B,w⟩:=GN (m:=m+5) p s.row s.ls.ks (by omega) a b c;have s1:=s.ext p w;obtain⟨y,C,S⟩:=G7 (m:=m+4) w.wf s1.row s1.ls.ks (by omega) a b c;have o:=w.trans S;unfold abE at f;cases z:Bp a b c ks with
 |true=>
  rw[z]at f;rw[IT rfl]at f;cases f
 |false=>
  rw[z]at C f;rw[If (by decide)]at f;rcases EB (BI a b c) ks 0 with ⟨r,n⟩|⟨j,d,r,n,J⟩
  · rw[r]at f
    cases f
  · rw[J,wC]at B
    have H:iLt (j:Int) 0=IS:=GR (by omega);have N:=wO n;have F:=Gr (AAL r);obtain⟨D,E⟩:=QK n;have s2:=s.ext p o;have R:Sl y A T M c0 arm (ks.take j++d::ks.drop (j+1)) fr lv fv bad IS:=by rw[<- D];exact s2
    have fin:∀(x:Int) (e:Hp),call AC (m+8) 102 [pt A.bs,AI AT (j:Int)] y=.ok (AI AT x) e->call AC (m+9) 56 [pt A.bs,AI AT a,AI AT b,AI AT c] h=.ok (AI AT x) e:=λx e Q=>by
     rw[Pe rfl];unfold d56;simp only[iN,wA,sT,sh,OF,reduceIte,gD,cA0,P,AM,AK,G,B,C,H,Q,lV0]
    refine⟨j,d,n,F,rfl,?_⟩;rcases Xq (m:=m) o.wf R (by rw[<- D];omega) (by omega) (O d N) K with ⟨e,q,l,u,t,g,f3,s3,b3⟩|⟨i,e,L,g,f3,I⟩
    ·rw[E]at g
     exact .inl ⟨e,q,l,u,t,fin 0 e g,(Fx.of o).trans f3,s3,b3⟩
    ·rw[E]at g
     exact .inr ⟨i,e,L,fin 15 e g,(Fx.of o).trans f3,I⟩
theorem UX{a b c:Int}(b2:h.Wf)(s:Sl h A T M c0 arm ks fr lv fv bad IS)(d4:fr.length+ks.length<=11)(c4:∀k∈ks,3*k.p+3<=A.n)(hb:AFH fa arm)(s0:J 0 e=pt A.bs)(s1:J 1 e=AI AT a)(s2:J 2 e=AI AT b)(s3:J 3 e=AI AT c)(s10:J 10 e=AI AT ((ks.length:Int) - 1)):
  (∃f h' l r q o,A4 dpL (call AC (m+8)) e h=.exit 0 f h'/\Fx A.D h h'/\Sl h' A T (Ex M (drO a b c ks)) l r (ks.filter λk=> !drB a b c k) (frE fr (drO a b c ks)) q o bad IS/\AFH fa r)\/(∃f h' z x B i,A4 dpL (call AC (m+8)) e h=.ret f h'/\J 8 f=AI AT 15/\drO a b c ks=z++x::B/\i<2/\Fx A.D h h'/\AFQ fa h' A T (Be (Ex M z) [] ((Ed [x.p]).take i)).1 (Be (Ex M z) [] ((Ed [x.p]).take i)).2):=by
 refine Bb (I:=λt f h'=>∃i l r q o,i+t=ks.length/\Fx A.D h h'/\J 0 f=pt A.bs/\J 1 f=AI AT a/\J 2 f=AI AT b/\J 3 f=AI AT c/\J 10 f=AI AT ((i:Int) - 1)/\
   Sl h' A T (Ex M (drO a b c (ks.drop i))) l r (ks.take i++(ks.drop i).filter λk=> !drB a b c k) (frE fr (drO a b c (ks.drop i))) q o bad IS/\AFH fa r)
  (Q:=λb0=>(∃f h' l r q o,b0=.exit 0 f h'/\Fx A.D h h'/\Sl h' A T (Ex M (drO a b c ks)) l r (ks.filter λk=> !drB a b c k) (frE fr (drO a b c ks)) q o bad IS/\AFH fa r)\/(∃f h' z x B i,b0=.ret f h'/\J 8 f=AI AT 15/\drO a b c ks=z++x::B/\i<2/\Fx A.D h h'/\AFQ fa h' A T (Be (Ex M z) [] ((Ed [x.p]).take i)).1 (Be (Ex M z) [] ((Ed [x.p]).take i)).2)) ks.length (by omega) (λt f h' ⟨i,l,a2,q,o,d0,fx,t0,t1,t2,t3,t10,sl,am⟩=>?_) ⟨ks.length,c0,arm,lv,fv,rfl,.refl b2,s0,s1,s2,s3,s10,by rw[xz,List.drop_length,AAM,wT];exact s,hb⟩
 have U:=fx.wf;cases i with
 |zero=>
  right;rw[ABq,xI,xa]at sl;have w:iGe (((0:Nat):Int) - 1) 0=IS:=E0 (by omega);obtain⟨d,C⟩:∃d,dpL (call AC (m+8)) f h'=.exit 0 d h':=by
   unfold dpL;simp only[sT,sh,OF,reduceIte,AM,AK,t10,w];exact⟨_,rfl⟩
  rw[C];exact⟨rfl,.inl ⟨d,h',l,a2,q,o,rfl,fx,sl,am⟩⟩
 |succ i=>
  have a4:i<ks.length:=by omega
  obtain⟨x,K⟩:∃x,ks[i]? =BY x:=⟨_,wE a4⟩;have c5:=wO K;have a8:ks.take (i+1)=ks.take i++[x]:=by rw[zR,K];rfl
  have a7:ks.drop i=x::ks.drop (i+1):=by
   rw[yP a4];rw[wE a4]at K;injection K with K
   rw[K]
  have b6:=iX a b c x (ks.take i);rw[<- a8]at b6;have a0:(ks.take i).length=i:=by rw[wu];omega
  have H:=bY a b c x (ks.drop (i+1));rw[<- a7]at H;have d6:(drO a b c (ks.drop (i+1))).length<=ks.length - (i+1):=by
   unfold drO;rw[List.length_reverse,<- xT];exact yT _ _
  have c8:((ks.drop (i+1)).filter λk=> !drB a b c k).length<=ks.length - (i+1):=by
   rw[<- xT];exact yT _ _
  have a1:(ks.drop i).filter (λk=> !drB a b c k)=if drB a b c x=IN then(ks.drop (i+1)).filter (λk=> !drB a b c k)else x::(ks.drop (i+1)).filter (λk=> !drB a b c k):=by
   rw[a7];cases h:drB a b c x
   ·rw[If (by decide),xn (by rw[h];rfl)]
   ·rw[IT rfl,xp (by rw[h];decide)]
  generalize hP:ks.take i=D at *;generalize hR:(ks.drop (i+1)).filter (λk=> !drB a b c k)=R at *;generalize hO:drO a b c (ks.drop (i+1))=O at *;rw[a8,wa]at sl;have sl:Sl h' A T (Ex M O) l a2 (D++x::R) (frE fr O) q o bad IS:=sl;have d5:(D++x::R).length=i+1+R.length:=by rw[wD,wK,a0];omega
  obtain⟨_,_,_,Y,_⟩:=BB sl.row;have t10:J 10 f=AI AT (i:Int):=by rw[t10,show((i+1:Nat):Int) - 1=(i:Int)by omega]
  have w:iGe (i:Int) 0=IN:=F0 (by omega);obtain⟨b',_,L,N,_⟩:=sl.ls.at (i:=D.length) (k:=x) GV;rw[a0]at L N;have E:=λ(F:AES) (e:Env)=>BU (F:=F) (e:=e) U (n:=6) (t:=CR)
  have Ra:=Hp.Row.alloc U Fa (show(AY K0).length=6 from rfl);have y1:h'.Ext (h'.push (.cells CR 6 0)):=(Hp.Ext.refl U).push _;generalize h'.push (.cells CR 6 0)=V at E Ra y1;have hu:=(sl.ko x (wz _ wJ)).1.vs.one.2.1;obtain⟨P,_,S,R5,n2⟩:=Ld U y1 (wB _) Ra rfl (k:=x) hu;generalize V.wr h'.next 0 (AY x)=u at P S R5 n2;obtain⟨Z,m1,m2,_⟩:=Bv R5;have a9:=sl.ext U S;have sb:=λ(g:Hp)=>ut (i:=i) (g:=g) (by omega)
  cases j:drB a b c x with
  |false=>
   rw[If (by rw[j];decide)]at H a1;have W:∃d,dpL (call AC (m+8)) f h'=.norm d u/\J 0 d=pt A.bs/\J 1 d=AI AT a/\J 2 d=AI AT b/\J 3 d=AI AT c/\J 10 d=AI AT ((i:Int) - 1):=by
    unfold dpL;by_cases V:x.a=a
    ·have y:iEq x.a a=IN:=CZ V
     by_cases u:x.b=b
     ·have G:iEq x.b b=IN:=CZ u
      have d3:iLe x.c c=IS:=Lt (λp=>by
       unfold drB at j;rw[decide_eq_true V,decide_eq_true u,decide_eq_true p]at j;cases j)
      simp only[sT,sh,OF,reduceIte,gD,An,t0,AX,AH,AN,wC,AJ,AP,Y,AM,AK,t10,w,A1,L,Ai,Ac,N,E,AV,P,Z,m1,m2,t1,t2,t3,y,G,d3,B6,sb];exact⟨_,rfl,by simp[AG,t0,t1,t2,t3]⟩
     ·have G:iEq x.b b=IS:=B8 u
      simp only[sT,sh,OF,reduceIte,gD,An,t0,AX,AH,AN,wC,AJ,AP,Y,AM,AK,t10,w,A1,L,Ai,Ac,N,E,AV,P,Z,m1,m2,t1,t2,t3,y,G,B6,sb];exact⟨_,rfl,by simp[AG,t0,t1,t2,t3]⟩
    ·have y:iEq x.a a=IS:=B8 V
     simp only[sT,sh,OF,reduceIte,gD,An,t0,AX,AH,AN,wC,AJ,AP,Y,AM,AK,t10,w,A1,L,Ai,Ac,N,E,AV,P,Z,m1,m2,t1,t2,t3,y,B6,sb];exact⟨_,rfl,by simp[AG,t0,t1,t2,t3]⟩
   obtain⟨d,C,r2,r3,r4,r5,r6⟩:=W;refine .inl ⟨by omega,d,u,C,i,l,a2,q,o,by omega,fx.trans (.of S),r2,r3,r4,r5,r6,?_,am⟩;rw[H,a1,hP];exact a9
  |true=>
   rw[IT j]at H a1;have a5:x.a=a/\x.b=b/\x.c<=c:=by
    unfold drB at j;rw[wV,wV]at j;exact⟨of_decide_eq_true j.1.1,of_decide_eq_true j.1.2,of_decide_eq_true j.2⟩
   have y:iEq x.a a=IN:=CZ a5.1;have G:iEq x.b b=IN:=CZ a5.2.1;have d3:iLe x.c c=IN:=Hn a5.2.2;have b3:iNe 0 0=IS:=CE rfl;have c9:=XB fr O;rcases Xq (m:=m) S.wf a9 (by omega) (by omega) (c4 x c5) am with ⟨p,c3,b1,c6,b5,X,f3,c7,a3⟩|⟨i0,p,b7,X,f3,dd⟩
   case inr=>
    rw[a0]at X;have b4:iNe 15 0=IN:=De (by omega);have a6:call AC (m+8) 102 [pt A.bs,AI AT (i:Int)] u=.ok (AI AT 15) p:=X;have W:∃d,dpL (call AC (m+8)) f h'=.ret d p/\J 8 d=AI AT 15:=by
     unfold dpL;simp only[sT,sh,OF,reduceIte,gD,An,t0,AX,AH,AN,wC,AJ,AP,Y,AM,AK,t10,w,A1,L,Ai,Ac,N,E,AV,P,Z,m1,m2,t1,t2,t3,y,G,d3,cA0,a6,b4];exact⟨_,rfl,by simp[AG]⟩
    obtain⟨d,C,r2⟩:=W;rw[C];obtain⟨B,b9⟩:∃B,drO a b c ks=(O++[x])++B:=by
     refine⟨drO a b c D,?_⟩;have b8:ks=D++ks.drop i:=by rw[<- hP,yE]
     have e1:drO a b c ks=drO a b c (ks.drop i)++drO a b c D:=by
      unfold drO;rw[<- List.reverse_append,<- yk,<- b8]
     rw[e1,H]
    exact .inr ⟨rfl,.inr ⟨d,p,O,x,B,i0,rfl,r2,by rw[b9,wa];rfl,b7,(fx.trans (.of S)).trans f3,dd⟩⟩
   rw[a0]at X;have a6:call AC (m+8) 102 [pt A.bs,AI AT (i:Int)] u=.ok (AI AT 0) p:=X;have W:∃d,dpL (call AC (m+8)) f h'=.norm d p/\J 0 d=pt A.bs/\J 1 d=AI AT a/\J 2 d=AI AT b/\J 3 d=AI AT c/\J 10 d=AI AT ((i:Int) - 1):=by
    unfold dpL;simp only[sT,sh,OF,reduceIte,gD,An,t0,AX,AH,AN,wC,AJ,AP,Y,AM,AK,t10,w,A1,L,Ai,Ac,N,E,AV,P,Z,m1,m2,t1,t2,t3,y,G,d3,cA0,a6,b3,B6,sb];exact⟨_,rfl,by simp[AG,t0,t1,t2,t3]⟩
   obtain⟨d,C,r2,r3,r4,r5,r6⟩:=W;refine .inl ⟨by omega,d,p,C,i,c3,b1,c6,b5,by omega,(fx.trans (.of S)).trans f3,r2,r3,r4,r5,r6,?_,a3⟩;rw[H,a1,hP,UW,Ri];exact c7
theorem ba(u:h.Wf)(s:Sl h A T M c0 arm ks fr lv fv bad IS)(a b c:Int)(E:fr.length+ks.length<=11)(G:∀k∈ks,3*k.p+3<=A.n)(C:AFH fa arm):
  (∃h' j f p n,call AC (m+9) 63 [pt A.bs,AI AT a,AI AT b,AI AT c] h=.ok (AI AT 0) h'/\Fx A.D h h'/\Sl h' A T (Ex M (drO a b c ks)) j f (ks.filter λk=> !drB a b c k) (frE fr (drO a b c ks)) p n bad IS/\AFH fa f)\/
  (∃h' e x q i,call AC (m+9) 63 [pt A.bs,AI AT a,AI AT b,AI AT c] h=.ok (AI AT 15) h'/\drO a b c ks=e++x::q/\i<2/\Fx A.D h h'/\AFQ fa h' A T (Be (Ex M e) [] ((Ed [x.p]).take i)).1 (Be (Ex M e) [] ((Ed [x.p]).take i)).2):=by
 have y:iNe 0 0=IS:=CE rfl;have H:=OA (m:=m+7) s.row;obtain⟨_,_,_,I,_⟩:=BB s.row;have K:=s.ls.len h;have N:=ut (i:=ks.length) (g:=h) (by omega);have L:∃d,bF (call AC (m+8)) (Ay e0 0 [pt A.bs,AI AT a,AI AT b,AI AT c]) h=dpS (call AC (m+8)) d h/\J 0 d=pt A.bs/\J 1 d=AI AT a/\J 2 d=AI AT b/\J 3 d=AI AT c/\J 10 d=AI AT ((ks.length:Int) - 1):=by
  unfold bF;simp only[iN,wA,sT,sh,OF,reduceIte,gD,cA0,H,AM,AK,y,An,AX,AH,AN,wC,AJ,AP,I,Aa,K,B6,N];exact⟨_,rfl,by simp[AG]⟩
 obtain⟨d,t,t0,t1,t2,t3,t10⟩:=L;rcases UX (m:=m) u s E G C t0 t1 t2 t3 t10 with ⟨B,o,j,f,p,n,r,l,s2,w⟩|⟨B,o,e,x,q,i,r,t8,F,D,l,z⟩
 ·refine .inl ⟨o,j,f,p,n,?_,l,s2,w⟩
  rw[UI rfl,US,t,bX];simp only[BC,Aw,r,A6,BA];unfold dpE;simp only[sT,sh,OF,reduceIte,lV0]
 ·refine .inr ⟨o,e,x,q,i,?_,F,D,l,z⟩
  rw[UI rfl,US,t,bX];simp only[BC,Aw,r,B7,Ce,lV0,t8]
end
def so(T M:List Nat)(ks:List Kt)(fr:List Nat)(kd a b c:Int)(l:List Nat)(q:List Nat×List (Nat×List Nat)):Prop:=
 (Di kd/\Dn ks fr.length a b c l=By/\∃g j e,fr=g::j/\e<(KU g l (AEc T a b c 1 l)).length/\q=Be M [] ((KU g l (AEc T a b c 1 l)).take e))\/
 ((kd=5\/kd=6)/\∃(f:Nat) (d:Kt) (e:Nat),ks[f]? =BY d/\(d.a=a/\d.b=b/\d.c=c)/\Bp a b c ks=IS/\e<2/\q=Be M [] ((Dp d.p (AEc T a b c 2 d.l)).take e))\/
 ((kd=5\/kd=6)/\∃(f:Nat) (d:Kt) (e:Nat),ks[f]? =BY d/\(d.a=a/\d.b=b/\d.c=c)/\Bp a b c ks=IS/\e<(cmO ks f d).length+1/\q=Be (EX M d.p (AEc T a b c 2 d.l)) [] ((Ed (cmO ks f d)).take e))\/
 (kd=7/\∃(f:Nat) (d:Kt) (e:Nat),ks[f]? =BY d/\(d.a=a/\d.b=b/\d.c=c)/\Bp a b c ks=IS/\e<2/\q=Be M [] ((Ed [d.p]).take e))\/
 (kd=8/\∃(h:List Kt) (i:Kt) (k:List Kt) (e:Nat),drO a b c ks=h++i::k/\e<2/\q=Be (Ex M h) [] ((Ed [i.p]).take e))
section
variable {fa:Bool}{e:Env}{h h':Hp}{A:At}{T M:List Nat}{c0 bad m k p:Nat}{arm:Int}{ks:List Kt}{fr:List Nat}{lv fv u:vz}{a b c:Int}{l:List Nat}
theorem ZU(r:h.Wf)(s:Sl h A T M c0 arm ks fr lv fv bad IS){a b c:Int}{l:List Nat}{u:vz}(q:h.VE u (l.map bv))(z:∀x∈l,x<256)(I:l.length<=1000)(D:ks.length<=10)(y:AFH fa arm)(d:Dn ks fr.length a b c l=By):
  ∃p e,fr=p::e/\
  ((∃h' t g H w k',call AC (m+8) 54 [pt A.bs,AI AT a,AI AT b,AI AT c,u] h=.ok (AI AT 0) h'/\Fx A.D h h'/\Sl h' A T (Dc T M p l (AEc T a b c 1 l)) t g (B5 (ks++[k'])) e H w bad IS/\k'.core=⟨a,b,c,1,l,p⟩/\AFH fa g/\∀b,AEu k'.u b->h.next<=b)\/
   (∃j h',j<(KU p l (AEc T a b c 1 l)).length/\call AC (m+8) 54 [pt A.bs,AI AT a,AI AT b,AI AT c,u] h=.ok (AI AT 15) h'/\Fx A.D h h'/\AFQ fa h' A T (Be M [] ((KU p l (AEc T a b c 1 l)).take j)).1 (Be M [] ((KU p l (AEc T a b c 1 l)).take j)).2)):=by
 unfold Dn at d;split at d
 ·cases d
 rename_i i;have E:AEh a b c 1 l.length=IN:=by
  cases f:AEh a b c 1 l.length
  · exact absurd (.inl f) i
  · rfl
 have k:l.length<=100:=ADD λh=>i (.inr h)
 split at d
 ·split at d<;>cases d
 rename_i C;split at d
 ·cases d
 rename_i F;split at d
 ·cases d
 rename_i B;cases fr with
 |nil=>exact absurd rfl B
 |cons p e=>
  have o:ks.any (BI a b c)=IS:=by
    rw[ABO];intro x G;exact zE.1 C x G
  have n:Bp a b c ks=IS:=by
    cases f:Bp a b c ks
    ·rfl
    ·exact absurd f F
  exact⟨p,e,rfl,eJ (m:=m) r s q z k E o n D y⟩
theorem fb(R:h.Row A.bs 0 (slL A.bd A.tb lv fv bad IN)):call AC (m+1) 89 [pt A.bs] h=.ok (AI AT 17) h:=by
 obtain⟨b,_,_,_,_,_,c⟩:=BB R;have d:∀e:Env,J 0 e=pt A.bs->oEq Hs.k IS (J 0) (W (.pointer By)) (call AC m) e h=.ok (.bool IS) h:=λe a=>Eo Tl a
 have f:∀e:Env,J 10 e=pt A.bd->oEq VZ.k IS (J 10) (W (.pointer By)) (call AC m) e h=.ok (.bool IS) h:=λe a=>Eo fR a
 rw[aU rfl];unfold d89;simp only[iN,wA,sT,sh,OF,reduceIte,gD,d,An,AX,AH,AN,wC,AJ,AP,b,f,c,lV0]
theorem sk(R:h.Row A.bs 0 (slL A.bd A.tb lv fv bad IN)):call AC (m+9) 56 [pt A.bs,AI AT a,AI AT b,AI AT c] h=.ok (AI AT 17) h:=by
 have e:=fb (m:=m+7) R;have d:iNe 17 0=IN:=De (by omega);rw[Pe rfl];unfold d56;simp only[iN,wA,sT,sh,OF,reduceIte,gD,cA0,e,AM,AK,d,lV0]
theorem tI(R:h.Row A.bs 0 (slL A.bd A.tb lv fv bad IN)):call AC (m+9) 63 [pt A.bs,AI AT a,AI AT b,AI AT c] h=.ok (AI AT 17) h:=by
 have e:=fb (m:=m+7) R;have d:iNe 17 0=IN:=De (by omega);rw[UI rfl,US];unfold bF;simp only[iN,wA,sT,sh,OF,reduceIte,gD,cA0,e,AM,AK,d,lV0]
end
theorem Ox:∀{cs:List (Nat×List Nat)} {c lo clk:Nat},lo<=c->c+cs.length<=clk->(∀x∈cs,x.1<9223372036854775808)->Lw clk (AEg c cs) lo=BY (cs.map (·.1))
 |[],_,_,_,_,_,_=>rfl
 |x::cs,c,lo,clk,e,a,b=>by
  have a:c+(cs.length+1)<=clk:=a;have h:=Ox (cs:=cs) (c:=c+1) (lo:=c+1) (clk:=clk) (wB _) (by omega) λj g=>b j (wI _ g)
  have f:=b x wJ;show(match xQ x.1 9223372036854775808 && (wY lo c && xQ c clk)with|true=>(match Lw clk (AEg (c+1) cs) (wQ c)with|some i=>BY (x.1::i)|none=>By)|false=>By)=_;have d:(xQ x.1 9223372036854775808 && (wY lo c && xQ c clk))=IN:=by rw[BM.2 f,Am.2 e,BM.2 (show c<clk by omega)];rfl
  rw[d];simp only;rw[show wQ c=c+1 from rfl,h];rfl
theorem cP{m z:Nat}:∀{l:List Nat},z∈Ui m l↔z=m\/z∈l:=λ{l}=>by
 rw[(LS m l).mem_iff,wS]
theorem SG{m:Nat}:∀{l:List Nat},l.Pairwise (· < ·)->m∉l->(Ui m l).Pairwise (· < ·)
 |[],_,_=>AAY _ _
 |x::l,b,f=>by
  have d:=yV.1 b;have h:m≠x:=λg=>f (by rw[g];exact wJ)
  unfold Ui;split
  ·rename_i c
   have c:=Am.1 c;refine yV.2 ⟨λe a=>?_,b⟩;rcases wS.1 a with rfl|a
   ·omega
   ·have:=d.1 e a;omega
  ·rename_i c
   have c:¬m<=x:=λb=>by
    rw[Am.2 b]at c;cases c
   refine yV.2 ⟨λe a=>?_,SG d.2 λb=>f (wI _ b)⟩;rcases cP.1 a with rfl|a
   ·omega
   ·exact d.1 e a
theorem PL:∀{l:List Nat},l.Nodup->(DV l).Pairwise (· < ·)
 |[],_=>.nil
 |x::l,b=>by
  have a:=yO.1 b;exact SG (PL a.2) λc=>a.1 ((EW l).mem_iff.1 c)
theorem Vx:∀{l:List Nat},l.Pairwise (· < ·)->PZ l=IN
 |[],_=>rfl
 |[x],_=>rfl
 |x::a::l,c=>by
  have b:=yV.1 c;show(xQ x a && PZ (a::l))=IN;rw[BM.2 (b.1 a wJ),Vx b.2];rfl
theorem QD:∀{cs:List (Nat×List Nat)},AFo cs->(cs.map (·.1)).Nodup
 |[],_=>ADO
 |y::cs,b=>by
  obtain⟨c,d⟩:=b.tail;rw[yA,yO];refine⟨λe=>?_,QD c⟩;obtain⟨g,f,a⟩:=xA.1 e;exact d g f a
theorem vK(l:List Nat):l.map zv=iv l:=by
 unfold iv ints;rw[List.map_map];rfl
section
variable {F:AES}{e:Env}{h h' h0:Hp}{S:Nat->Prop}{bd bm bc n c0 m:Nat}{M M':List Nat}{cs:List (Nat×List Nat)}{arm:Int}{dn:Bool}{kv:vz}{bs:List Bool}
theorem VO(d:h.Wf){r clk:Nat}(R:h.Row r 0 [.map (BY bc)])(w:256<=r)(u:h.bl.get bc=.map (AEg c0 cs) (c0+cs.length))(k:AFo cs)(l:AFG n cs)(B:n<=65536)(A:cs.length<=60):
  ∃h' v,call AC (m+1) 65 [.func (.func 105) ⟨[]⟩ ⟨[pt r]⟩] h=.ok v h'/\h.Ext h'/\h'.Own h.next 3 v (iv (DV (cs.map (·.1)))):=by
 have o:AC.get 65=BY bS:=by kernel_rfl
 have q:=Ox (cs:=cs) (c:=c0) (lo:=0) (clk:=c0+cs.length) (wl _) (wB _) λa y=>by have:=(l a y).1;omega
 have t:wY (DH (AEg c0 cs)) 1000000=IN:=Am.2 (by rw[Bf,Jx];omega);have x:Mf 3 h (.map (BY bc))=GZ 3 h (DV (cs.map (·.1))):=by
  show(match iZ (h.bl.get bc)with|.ok e clk=>(match wY (DH e) 1000000 with|true=>(match Lw clk e 0 with|some ks=>GZ 3 h (DV ks)|none=>.no)|false=>.no)|.no=>.no)=_;rw[u];show(match wY (DH (AEg c0 cs)) 1000000 with|true=>(match Lw (c0+cs.length) (AEg c0 cs) 0 with|some ks=>GZ 3 h (DV ks)|none=>.no)|false=>.no)=_;rw[t,q]
 obtain⟨c,p,s⟩:=R.rowOf;have j:call AC (m+1) 65 [.func (.func 105) ⟨[]⟩ ⟨[pt r]⟩] h=GZ 3 h (DV (cs.map (·.1))):=by
  rw[MN o,<- x];show Ki 3 ⟨r,0,By⟩ h=_;unfold Ki;have g:(Nat.beq 0 0 && wY 256 r)=IN:=by rw[Am.2 w];rfl
  simp only[g,p];have i:c.get 0=.map (BY bc):=(s 0 (by show 0<1;omega)).2;show(match Nat.beq 0 0 && xQ 0 1 with|true=>Mf 3 h (c.get 0)|false=>.no)=_;rw[i];rfl
 have f:=Vx (PL (QD k));rw[j];cases z:DV (cs.map (·.1))with
 |nil=>exact⟨h,AEW,rfl,.refl d,.inl ⟨rfl,rfl⟩⟩
 |cons a b=>
  rw[z]at f;refine⟨h.AER 4 ((a::b).map zv),.slice (BY ⟨h.next,0,By⟩) (a::b).length (a::b).length,?_,(Hp.Ext.refl d).AER _ _,?_⟩
  ·show(match PZ (a::b)with|true=>AEn (DH (a::b)) (λn=>newRow h (wQ 3) ((a::b).map zv) (FI n n))|false=>.no)=_
   rw[f];simp only[Ae];rw[Cw d,Bf];show FI _ _ _ _=_;rfl
  ·rw[vK]
   have:=Hp.Row.new d 4 (iv (a::b));exact .inr ⟨h.next,by rw[Dv],this,wB _,d.big⟩
theorem UE(a:h.Wf)(d:Dk h bd bm bc n M c0 cs arm dn)(l:AFo cs)(o:AFG n cs)(q:cs.length<=60):
  ∃h' v,call AC (m+2) 38 [pt bd] h=.ok v h'/\h.Ext h'/\h'.Own h.next 3 v (iv (DV (cs.map (·.1)))):=by
 have s:=Ix (m:=m) d;obtain⟨_,w,_,_⟩:=Cb d.disk;have f:=λ(F:AES) (e:Env) (p:J 0 e=.map (BY bc))=>show CT (J 0) F e h=.ok (pt h.next) (h.AER 0 [.map (BY bc)])by rw[EQ,p,EO a];rfl
 have b:=(Hp.Ext.refl a).AER 0 [ACu (BY bc)];have c:=Hp.Row.new a 0 [ACu (BY bc)];have i:=a.big;have r:=d.map;generalize h.AER 0 [ACu (BY bc)]=j at f b c;have u:call AC (m+1) 66 [.map (BY bc)] h=.ok (.func (.func 105) ⟨[]⟩ ⟨[pt h.next]⟩) j:=by
  rw[oO rfl];unfold d66;simp only[iN,wA,sT,sh,OF,reduceIte,f,DN,AS,Av,lV0]
 obtain⟨k,v,t,x,g⟩:=VO (m:=m) (clk:=0) b.wf c i (by rw[b.get _ (d.lt a).2.2];exact r) l o d.n1.2 q;refine⟨k,v,?_,b.trans x,g.le b.next⟩;rw[oC rfl];unfold d38;simp only[iN,wA,sT,sh,OF,reduceIte,cA0,s,An,AX,AH,AN,wC,AJ,AP,w,u,t,lV0]
def kIs(k:Nat)(x:Nat×List Nat):Bool:=decide (k=x.1)
theorem rF{k:Nat}{x:Nat×List Nat}(h:kIs k x=IN):k=x.1:=of_decide_eq_true h
theorem cT{k:Nat}{x:Nat×List Nat}(h:k=x.1):kIs k x=IN:=decide_eq_true h
theorem RT{k:Nat}{y:Nat×List Nat}:∀{cs:List (Nat×List Nat)} {i:Nat},(∀x∈cs,x.1<=65536)->k<=65536->cs.find? (kIs k)=BY y->∃b,JI ⟨IS,[.i .i64]⟩ (AI AT (k:Int)) (AEg i cs)=BY (BY ⟨AI AT (y.1:Int),DR y.2,b⟩)
 |[],_,_,_,h=>by cases h
 |x::d,i,c,e,h=>by
  have j:=c x wJ;have e0:JI ⟨IS,[.i .i64]⟩ (AI AT (k:Int)) (AEg i (x::d))=(match ID ⟨IS,[.i .i64]⟩ (AI AT (k:Int)) (AI AT (x.1:Int))with|some IN=>BY (BY ⟨AI AT (x.1:Int),DR x.2,i⟩)|some IS=>JI ⟨IS,[.i .i64]⟩ (AI AT (k:Int)) (AEg (i+1) d)|none=>By):=rfl;rw[e0,tP (by omega)];by_cases a:k=x.1
  ·rw[AAh (cT a)]at h
   cases h;rw[decide_eq_true a];exact⟨i,rfl⟩
  ·rw[zl (by unfold kIs;rw[decide_eq_false a];decide)]at h
   rw[decide_eq_false a];exact RT (λg f=>c g (wI _ f)) e h
theorem co(d:Dk h bd bm bc n M c0 cs arm dn)(b:AFG n cs){z:vz}{x y:O}{i:Nat}{q:Nat×List Nat}(a:x e=.map (BY bc))(j:y e=AI AT (i:Int))(hi:i<n)(g:cs.find? (kIs i)=BY q):Fi ⟨IS,[.i .i64]⟩ z IS x y F e h=.ok (DR q.2) h:=by
 have l:=d.n1;show GT ⟨IS,[.i .i64]⟩ z (x e) (y e) IS h=_;rw[a,j];have f:Bi h bc=.ok (AEg c0 cs) (c0+cs.length):=by unfold Bi;rw[d.map];rfl
 obtain⟨k,c⟩:=RT (i:=c0) (λx a=>by have:=(b x a).1;omega) (by omega) g;unfold GT;rw[ig (by omega)];simp only[f,c];unfold El;simp only[BR]
structure Kept (n:Nat)(M:List Nat)(cs:List (Nat×List Nat))(M':List Nat):Prop where
 len:M'.length=64*n
 sct:∀q,(∀x,x/64=q->M'.getD x 0=M.getD x 0)\/∃y∈cs,y.1=q/\∀x,x/64=q->M'.getD x 0=y.2.getD (x % 64) 0
theorem Kept.put(k:Kept n M cs M')(g:AFG n cs){y:Nat×List Nat}(e:y∈cs):Kept n M cs (F7 M' y.1 y.2):=by
 obtain⟨a,b,_⟩:=g y e;refine⟨C1 k.len a b,λf=>?_⟩;by_cases i:y.1=f
 ·refine .inr ⟨y,e,i,λd c=>?_⟩
  rw[Db k.len a b,IT (by omega)]
 ·rcases k.sct f with h|⟨m,j,l,h⟩
  ·refine .inl λd c=>?_
   rw[Db k.len a b,If (by omega)];exact h d c
  ·refine .inr ⟨m,j,l,λd c=>?_⟩
   rw[Db k.len a b,If (by omega)];exact h d c
theorem eA{l:List Nat}{k:Nat}(a:l.length=64):over (M.map bv) (64*k) (l.map bv)=(F7 M k l).map bv:=by
 unfold over F7;rw[wF,a,<- ABX,<- List.map_drop,w9,w9]
structure KB (h:Hp)(kv:vz)(bs:List Bool):Prop where
 len:∀g:Hp,AFB kv g=.ok (AI AT (bs.length:Int)) g
 get:∀(i:Nat) (b:Bool),bs[i]? =BY b->∀g:Hp,h.Ext g->∃p,AFM 1 kv (AI AT (i:Int)) g=.ok (.pointer (BY p)) g/\AEV p g=.ok (.bool b) g
theorem pJ:crS=BJ (Ab 0 (A4 crB)) crE:=rfl
theorem qA:d14=iK:=rfl
theorem av(W0:h0.Wf)(x0:h0.Ext h)(hD0:h0.next<=bd/\h0.next<=bm/\h0.next<=bc)(d:Dk h bd bm bc n M c0 cs arm dn)(hK:AFo cs)(hS:AFG n cs)(hl:cs.length<=60)(Kb:KB h0 kv bs):
  ∃h' M' c1,call AC (m+3) 14 [pt bd,kv] h=.ok AEU h'/\Fx (λb=>b=bd\/b=bm\/b=bc) h h'/\Dk h' bd bm bc n M' c1 [] (-1) IS/\Kept n M cs M':=by
 have W:=x0.wf;have k1:=Ix (m:=m+1) d;obtain⟨h1,v,k2,x1,V⟩:=UE (m:=m) W d hK hS hl;have d1:=d.ext W x1;have x01:=x0.trans x1;have hKl:(DV (cs.map (·.1))).length=cs.length:=by rw[(EW _).length_eq,wF]
 have hmem:∀i∈DV (cs.map (·.1)),∃y,cs.find? (kIs i)=BY y/\y.1=i/\y∈cs:=λi hi=>by
  obtain⟨z,hz,e⟩:=xA.1 ((EW _).mem_iff.1 hi);cases hf:cs.find? (kIs i)with
  |none=>exact absurd (cT e.symm) (zE.1 hf z hz)
  |some y=>exact⟨y,rfl,(rF (AAL hf)).symm,List.mem_of_find?_eq_some hf⟩
 generalize DV (cs.map (·.1))=ks at V hKl hmem;have vl:=V.vals.len;rw[Dv]at vl;have hDx:∀b,(b=bd\/b=bm\/b=bc)->h0.next<=b:=λb hb=>by rcases hb with rfl|rfl|rfl<;>omega
 obtain⟨e1,p1,s0,s1,s9,s10,s11⟩:∃e1,iK (call AC (m+2)) (Ay e0 0 [pt bd,kv]) h=crS (call AC (m+2)) e1 h1/\J 0 e1=pt bd/\J 1 e1=kv/\J 9 e1=v/\J 10 e1=AI AT (ks.length:Int)/\J 11 e1=AI AT ((0:Nat):Int):=by
  unfold iK;simp only[iN,wA,sT,sh,OF,reduceIte,cA0,k1,k2,Aa,vl];exact⟨_,rfl,by simp[AG]⟩
 have run:∃e' h' M',A4 crB (call AC (m+2)) e1 h1=.exit 0 e' h'/\Fx (λb=>b=bd\/b=bm\/b=bc) h h'/\Dk h' bd bm bc n M' c0 cs arm dn/\Kept n M cs M'/\J 0 e'=pt bd:=by
  refine Bb (I:=λi e' h'=>∃M',Fx (λb=>b=bd\/b=bm\/b=bc) h h'/\h0.Ext h'/\Dk h' bd bm bc n M' c0 cs arm dn/\Kept n M cs M'/\h'.Own h.next 3 v (iv ks)/\i<=ks.length/\J 0 e'=pt bd/\J 1 e'=kv/\J 9 e'=v/\J 10 e'=AI AT (ks.length:Int)/\J 11 e'=AI AT (i:Int))
   (Q:=λx=>∃e' h' M',x=.exit 0 e' h'/\Fx (λb=>b=bd\/b=bm\/b=bc) h h'/\Dk h' bd bm bc n M' c0 cs arm dn/\Kept n M cs M'/\J 0 e'=pt bd) ks.length (by omega) (λi e' h' ⟨M',fx,x',d',kp,V',hi,t0,t1,t9,t10,t11⟩=>?_)
   ⟨M,.of x1,x01,d1,⟨d.len,λq=>.inl λ_ _=>rfl⟩,V,wl _,s0,s1,s9,s10,s11⟩
  have W':=x'.wf;by_cases hlt:i<ks.length
  ·left
   have c1:=Ec hlt;obtain⟨k,hk⟩:∃k,ks[i]? =BY k:=⟨_,wE hlt⟩;have hkm:=wO hk;obtain⟨y,hf,hy1,hym⟩:=hmem k hkm;obtain⟨o1,o2,o3⟩:=hS y hym;obtain⟨a,g1,g2⟩:=V'.vals.at (i:=i) (by rw[Dv];exact hlt);rw[wG,ly hk]at g2;have g2:Ho (.pointer (BY a)) h'=.ok (AI AT (k:Int)) h':=g2;have kl:=Kb.len h';have a3:=λg:Hp=>CL (i:=i) (h:=g) (by omega)
   by_cases hik:i<bs.length
   ·have c2:iLt (i:Int) (bs.length:Int)=IN:=Ec hik
    obtain⟨b,hb⟩:∃b,bs[i]? =BY b:=⟨_,wE hik⟩;obtain⟨p,q1,q2⟩:=Kb.get i b hb h' x';cases b with
    |false=>
     obtain⟨e2,r1,r2,r3,r4,r5,r6⟩:∃e2,crB (call AC (m+2)) e' h'=.norm e2 h'/\J 0 e2=pt bd/\J 1 e2=kv/\J 9 e2=v/\J 10 e2=AI AT (ks.length:Int)/\J 11 e2=AI AT ((i+1:Nat):Int):=by
      unfold crB;simp only[sT,sh,OF,reduceIte,gD,AM,AK,t11,t10,c1,A1,t9,g1,AJ,g2,Aa,t1,kl,c2,q1,AP,q2,BL,a3];exact⟨_,rfl,by simp[AG,t0,t1,t9,t10]⟩
     exact⟨hlt,e2,h',r1,M',fx,x',d',kp,V',hlt,r2,r3,r4,r5,r6⟩
    |true=>
     have dm:=d'.same (h':=h'.marked) rfl;obtain⟨l0,l1,_,_⟩:=Cb dm.disk;have lk:=λ(F:AES) (e:Env) (z:vz) (x y':O) (e1:x e=.map (BY bc)) (e2:y' e=AI AT (k:Int))=>co (F:=F) (z:=z) dm hS e1 e2 (by omega) hf
     have ix:AFM 64 (.slice (BY ⟨bm,0,By⟩) n n) (AI AT (k:Int)) h'.marked=.ok (.pointer (BY ⟨bm,64*k,By⟩)) h'.marked:=by
      have:=DB (h:=h'.marked) (n:=n) (c:=n) (es:=64) (b:=bm) (off:=0) (i:=k) (k:=.i64) (by omega)
      rwa [wC,yR]at this
     have Rq:h'.marked.quiet.Row bm 0 (M'.map bv):=d'.med.same rfl;have hoo:64*k+(y.2.map bv).length<=(M'.map bv).length:=by rw[wF,wF,o2,d'.len];omega
     have st:=Rq.AEa (n:=64) (off:=64 * k) W'.marked.quiet d.big.2.1 (v:=DR y.2) (by show(y.2.map bv).length=64;rw[wF];exact o2) hoo (C8 _);have wr:=Rq.AEf W'.marked.quiet hoo;rw[eA o2]at wr;have fw:=Fx.wr (S:=λb=>b=bm) W'.marked.quiet Rq hoo rfl;have st:AEa 64 (.pointer (BY ⟨bm,64 * k,By⟩)) (DR y.2) h'.marked.quiet=.ok AEU (h'.marked.quiet.wr bm (64 * k) (y.2.map bv)):=st;generalize h'.marked.quiet.wr bm (64 * k) (y.2.map bv)=g at st wr fw;have q3:∀(F:AES) (e:Env),J 37 e=.pointer (BY ⟨bm,64 * k,By⟩)->J 36 e=DR y.2->AZ .free (Ad 64 (J 37) (J 36)) F e h'.marked=.ok AEU (h'.marked.back g):=λF e e1 e2=>BE (by rw[AV,e1,e2];exact st)
     have f2:Fx (λb=>b=bm) h' (h'.marked.back g):=((fw.from (h:=h'.marked) rfl rfl).same (h2:=h'.marked.back g) rfl rfl).from (h:=h') rfl rfl;have R2:(h'.marked.back g).Row bm 0 ((F7 M' k y.2).map bv):=wr.same rfl;generalize h'.marked.back g=h2 at q3 f2 R2;have lt:=d'.lt W';have d2:Dk h2 bd bm bc n (F7 M' k y.2) c0 cs arm dn:=⟨f2.row W' d'.disk d'.bdm,R2,C1 d'.len (by omega) o2,Xv d'.byt o3,by rw[f2.get _ lt.2.2 (λh=>d'.bmc h.symm)];exact d'.map,d'.big,d'.n1⟩;have x2:h0.Ext h2:=Fx.xtF x' f2 λb hb=>by rw[hb];omega
     have V2:h2.Own h.next 3 v (iv ks):=V'.fx W' f2 λb hb h=>by have:=(d.lt W).2.1;omega
     obtain⟨e2,r1,r2,r3,r4,r5,r6⟩:∃e2,crB (call AC (m+2)) e' h'=.norm e2 h2/\J 0 e2=pt bd/\J 1 e2=kv/\J 9 e2=v/\J 10 e2=AI AT (ks.length:Int)/\J 11 e2=AI AT ((i+1:Nat):Int):=by
      unfold crB;simp only[sT,sh,OF,reduceIte,gD,AM,AK,t11,t10,c1,A1,t9,g1,AJ,g2,Aa,t1,kl,c2,q1,AP,q2,Ar,An,t0,AX,AH,AN,wC,l0,l1];rw[lk _ _ _ _ _ (by simp[AG]) (by simp[AG])];simp only[sT,sh,OF,reduceIte,A1,ix,q3,BL,a3,t11];exact⟨_,rfl,by simp[AG,t0,t1,t9,t10]⟩
     refine⟨hlt,e2,h2,r1,F7 M' k y.2,fx.trans (f2.mono λb hb=>.inr (.inl hb)),x2,d2,by rw[<- hy1];exact kp.put hS hym,V2,hlt,r2,r3,r4,r5,r6⟩
   ·have c2:iLt (i:Int) (bs.length:Int)=IS:=DC (by omega)
    obtain⟨e2,r1,r2,r3,r4,r5,r6⟩:∃e2,crB (call AC (m+2)) e' h'=.norm e2 h'/\J 0 e2=pt bd/\J 1 e2=kv/\J 9 e2=v/\J 10 e2=AI AT (ks.length:Int)/\J 11 e2=AI AT ((i+1:Nat):Int):=by
     unfold crB;simp only[sT,sh,OF,reduceIte,gD,AM,AK,t11,t10,c1,A1,t9,g1,AJ,g2,Aa,t1,kl,c2,BL,a3];exact⟨_,rfl,by simp[AG,t0,t1,t9,t10]⟩
    exact⟨hlt,e2,h',r1,M',fx,x',d',kp,V',hlt,r2,r3,r4,r5,r6⟩
  ·right
   have c1:=DC (show ks.length<=i by omega);obtain⟨e2,r1,r2⟩:∃e2,crB (call AC (m+2)) e' h'=.exit 0 e2 h'/\J 0 e2=pt bd:=by
    unfold crB;simp only[sT,sh,OF,reduceIte,AM,AK,t11,t10,c1];exact⟨_,rfl,by simp[AG,t0]⟩
   rw[r1];exact⟨rfl,e2,h',M',rfl,fx,d',kp,r2⟩
 obtain⟨e2,h2,M2,r1,f2,d2,kp2,t0⟩:=run;have W2:=f2.wf;obtain⟨_,l1,_,_⟩:=Cb d2.disk;have AH6:=d2.lt W2;have cl:∀(F:AES) (e:Env),J 42 e=.map (BY bc)->ED (J 42) F e h2=.ok AEU (h2.put bc (.map [] (c0+cs.length))):=λF e he=>by
  have hen:Bi h2 bc=.ok (AEg c0 cs) (c0+cs.length):=by unfold Bi;rw[d2.map];rfl
  unfold ED;rw[he];simp only[hen];rw[EE W2 d.big.2.2 AH6.2.2];rfl
 have f3:=Fx.put (S:=λb=>b=bc) W2 AH6.2.2 rfl (.map [] (c0+cs.length));have P3:=W2.AE1 AH6.2.2 (.map [] (c0+cs.length));generalize h2.put bc (.map [] (c0+cs.length))=h3 at cl f3 P3;have R3:=f3.row W2 d2.disk d2.bdc;obtain⟨h4,st4,R4,n4,f4,_⟩:=D9 (v:=.bool IS) f3.wf R3 (off:=3) (show 3<4 by omega) d.big.1 rfl rfl;have R4:h4.Row bd 0 (dkL bm bc n arm IS):=R4;obtain⟨h5,st5,R5,n5,f5,_⟩:=D9 (v:=AI AT (-1)) f4.wf R4 (off:=2) (show 2<4 by omega) d.big.1 rfl rfl;have R5:h5.Row bd 0 (dkL bm bc n (-1) IS):=R5;have f35:Fx (λb=>b=bd) h3 h5:=f4.trans f5;have hn3:∀b,b<h2.next->b<h3.next:=λb hb=>by have:=f3.next;omega
 refine⟨h5,M2,c0+cs.length,?_,(f2.trans (f3.mono λb hb=>.inr (.inr hb))).trans (f35.mono λb hb=>.inl hb),⟨R5,f35.row f3.wf (f3.row W2 d2.med d2.bmc) (λh=>d2.bdm h.symm),d2.len,d2.byt,?_,d2.big,d2.n1⟩,kp2⟩
 ·rw[na rfl,qA,p1,pJ]
  simp only[BC,Aw,r1,A6,BA];unfold crE;simp only[sT,sh,OF,reduceIte,An,t0,AX,AH,AN,wC,AJ,AP,l1,cl,AV,st4,st5,Dw,Du]
 ·rw[f35.get _ (hn3 _ AH6.2.2) (λh=>d2.bdc h.symm),P3,IT rfl];rfl
end
instance (x y:Kt):Decidable (Uf x y):=by unfold Uf;infer_instance
def Ew(x y:Kt):Bool:=decide (Uf x y)
def ES(all ks:List Kt):List Kt:=ks.filter λa=> !all.any (Ew a)
theorem RA(all ks:List Kt):(ES all ks).length<=ks.length:=yT _ _
section
variable {F:AES}{e:Env}{h h':Hp}{S:Nat->Prop}{m k:Nat}{ks:List Kt}{v:vz}
theorem ic(A:h.Wf){z:Nat}{x y:Kt}(N:h.Row z 0 (AY x)):∃h',call AC (m+1) 115 [ktV y,pt z] h=.ok (.bool (Ew x y)) h'/\h.Ext h':=by
 have B:=λ(F:AES) (e:Env) (Q:J 0 e=ktV y)=>IF (F:=F) A Q
 have I:=(Hp.Ext.refl A).AER 0 (AY y);have R:=Hp.Row.new A 0 (AY y);generalize h.AER 0 (AY y)=t at B I R;obtain⟨k,l,n,o,_,p,_⟩:=Bv R;obtain⟨d,f,g,i,_,j,_⟩:=Bv (N.ext A I);have W:∃c u,We (call AC m) (Ay e0 0 [ktV y,pt z]) h=hiB (call AC m) c t/\J 1 c=pt z/\J 2 c=pt h.next/\J 4 c=.bool u/\(u=IN↔y.a=x.a/\y.b=x.b):=by
  unfold We;rcases GP y.a x.a with ⟨b,c⟩|⟨b,c⟩
  ·rcases GP y.b x.b with ⟨r,a⟩|⟨r,a⟩
   ·simp only[iN,wA,sT,sh,OF,reduceIte,gD,B,AH,AN,wC,AJ,AP,k,l,n,o,p,d,f,g,i,j,AM,AK,b,r]
    exact⟨_,IN,rfl,by simp[AG],by simp[AG],by simp[AG],⟨λ_=>⟨c,a⟩,λ_=>rfl⟩⟩
   ·simp only[iN,wA,sT,sh,OF,reduceIte,gD,B,AH,AN,wC,AJ,AP,k,l,n,o,p,d,f,g,i,j,AM,AK,b,r]
    exact⟨_,IS,rfl,by simp[AG],by simp[AG],by simp[AG],⟨λh=>(by cases h),λh=>absurd h.2 a⟩⟩
  ·simp only[iN,wA,sT,sh,OF,reduceIte,gD,B,AH,AN,wC,AJ,AP,k,l,n,o,p,d,f,g,i,j,AM,AK,b]
   exact⟨_,IS,rfl,by simp[AG],by simp[AG],by simp[AG],⟨λh=>(by cases h),λh=>absurd h.1 c⟩⟩
 obtain⟨c,K,S,t1,t2,t4,E⟩:=W;have X:∃a u,hiB (call AC m) c t=hiC (call AC m) a t/\J 1 a=pt z/\J 2 a=pt h.next/\J 4 a=.bool K/\J 5 a=.bool u/\(u=IN↔x.c<y.c\/y.c=x.c/\x.s=1):=by
  rw[qn];unfold qo;by_cases g1:x.c<y.c
  ·have b:iGt y.c x.c=IN:=Hm g1
   simp only[sT,sh,OF,reduceIte,gD,t1,t2,AH,AN,wC,AJ,AP,k,l,n,o,p,d,f,g,i,j,AM,AK,b];exact⟨_,IN,rfl,by simp[AG,t1],by simp[AG,t2],by simp[AG,t4],by simp[AG],⟨λ_=>.inl g1,λ_=>rfl⟩⟩
  ·have b:iGt y.c x.c=IS:=GQ g1
   rcases GP y.c x.c with ⟨r,a⟩|⟨r,a⟩
   ·rcases GP (x.s:Int) 1 with ⟨s,q⟩|⟨s,q⟩
    ·simp only[sT,sh,OF,reduceIte,gD,t1,t2,AH,AN,wC,AJ,AP,k,l,n,o,p,d,f,g,i,j,AM,AK,b,r,s]
     exact⟨_,IN,rfl,by simp[AG,t1],by simp[AG,t2],by simp[AG,t4],by simp[AG],⟨λ_=>.inr ⟨a,by omega⟩,λ_=>rfl⟩⟩
    ·simp only[sT,sh,OF,reduceIte,gD,t1,t2,AH,AN,wC,AJ,AP,k,l,n,o,p,d,f,g,i,j,AM,AK,b,r,s]
     exact⟨_,IS,rfl,by simp[AG,t1],by simp[AG,t2],by simp[AG,t4],by simp[AG],⟨λh=>(by cases h),λh=>h.elim (λh=>absurd h g1) (λh=>absurd h.2 (by omega))⟩⟩
   ·simp only[sT,sh,OF,reduceIte,gD,t1,t2,AH,AN,wC,AJ,AP,k,l,n,o,p,d,f,g,i,j,AM,AK,b,r]
    exact⟨_,IS,rfl,by simp[AG,t1],by simp[AG,t2],by simp[AG,t4],by simp[AG],⟨λh=>(by cases h),λh=>h.elim (λh=>absurd h g1) (λh=>absurd h.1 a)⟩⟩
 obtain⟨a,L,T,G,H,C,Z,M⟩:=X;have Y:∃q,hiC (call AC m) a t=.ret q t/\J 3 q=.bool (Ew x y):=by
  unfold hiC;cases K with
  |false=>
   have w:Ew x y=IS:=decide_eq_false λh=>by have:=E.2 ⟨h.1,h.2.1⟩;cases this
   rw[w];simp only[sT,sh,OF,reduceIte,gD,C];exact⟨_,rfl,by simp[AG]⟩
  |true=>
   by_cases q:y.p=x.p
   ·have s:iNe (y.p:Int) (x.p:Int)=IS:=CE (by rw[q])
    have w:Ew x y=IS:=decide_eq_false λh=>h.2.2.1 q
    rw[w];simp only[sT,sh,OF,reduceIte,gD,C,G,H,AH,AN,wC,AJ,AP,k,l,n,o,p,d,f,g,i,j,AM,AK,s];exact⟨_,rfl,by simp[AG]⟩
   ·have s:iNe (y.p:Int) (x.p:Int)=IN:=De (by omega)
    rcases GP (y.s:Int) 2 with ⟨D,O⟩|⟨D,O⟩
    ·have P:Ew x y=L:=by
      cases L with
      |true=>exact decide_eq_true ⟨(E.1 rfl).1,(E.1 rfl).2,q,by omega,M.1 rfl⟩
      |false=>exact decide_eq_false λh=>by have:=M.2 h.2.2.2.2;cases this
     rw[P];simp only[sT,sh,OF,reduceIte,gD,C,G,H,Z,AH,AN,wC,AJ,AP,k,l,n,o,p,d,f,g,i,j,AM,AK,s,D];exact⟨_,rfl,by simp[AG]⟩
    ·have w:Ew x y=IS:=decide_eq_false λh=>by have:=h.2.2.2.1;omega
     rw[w];simp only[sT,sh,OF,reduceIte,gD,C,G,H,AH,AN,wC,AJ,AP,k,l,n,o,p,d,f,g,i,j,AM,AK,s,D];exact⟨_,rfl,by simp[AG]⟩
 obtain⟨q,U,V⟩:=Y;refine⟨t,?_,I⟩;rw[gW rfl,iA,S,T,U];simp only[lV0,V]
theorem RH(C:h.Wf)(K:h.KS S v ks)(hl:ks.length<=1000)(hu:∀k∈ks,oneCell k.u=IN)(ht:∀(i j:Nat) (x y:Kt),ks[i]? =BY x->ks[j]? =BY y->j<i->¬uw x y):
  ∃h' w,call AC (m+4) 72 [v] h=.ok w h'/\h.Ext h'/\h'.KO h.next w (ES ks ks):=by
 have ln:=K.len h;have a6:∃c,iQ (call AC (m+3)) (Ay e0 0 [v]) h=coS (call AC (m+3)) c h/\J 0 c=v/\J 3 c=.slice By 0 0/\J 8 c=v/\J 9 c=AI AT (ks.length:Int)/\J 10 c=AI AT ((0:Nat):Int):=by
  unfold iQ;simp only[iN,wA,sT,sh,OF,reduceIte,Aa,ln];exact⟨_,rfl,by simp[AG]⟩
 obtain⟨c,p1,s0,s3,s8,s9,s10⟩:=a6;have a7:∃b h' w,A4 coB (call AC (m+3)) c h=.exit 0 b h'/\h.Ext h'/\h'.KO h.next w (ES ks ks)/\J 3 b=w:=by
  refine Bb (I:=λi b h'=>∃w,h.Ext h'/\h'.KO h.next w (ES ks (ks.take i))/\J 0 b=v/\J 3 b=w/\J 8 b=v/\J 9 b=AI AT (ks.length:Int)/\J 10 b=AI AT (i:Int)/\i<=ks.length)
   (Q:=λx=>∃b h' w,x=.exit 0 b h'/\h.Ext h'/\h'.KO h.next w (ES ks ks)/\J 3 b=w) ks.length (by omega) (λi b h' ⟨w,L,H,t0,t3,t8,t9,t10,hi⟩=>?_) ⟨_,.refl C,.inl ⟨rfl,rfl⟩,s0,s3,s8,s9,s10,wl _⟩
  have p:=L.wf;by_cases f:i<ks.length
  ·left
   have D:=Ec f;obtain⟨x,E⟩:∃x,ks[i]? =BY x:=⟨_,wE f⟩;have a2:=wO E;obtain⟨a9,_,ix,ld,_⟩:=(K.ext C L).at E;have O:=λ(F:AES) (e:Env)=>BU (F:=F) (e:=e) p (n:=6) (t:=CR)
   have Ra:=Hp.Row.alloc p Fa (show(AY K0).length=6 from rfl);have y1:h'.Ext (h'.push (.cells CR 6 0)):=(Hp.Ext.refl p).push _;have n1:(h'.push (.cells CR 6 0)).next=h'.next+1:=rfl;generalize h'.push (.cells CR 6 0)=h1 at O Ra y1 n1;obtain⟨Z,_,M,B,n2⟩:=Ld p y1 (wB _) Ra rfl (k:=x) (hu x a2);generalize h1.wr h'.next 0 (AY x)=h2 at Z M B n2;have d:=L.trans M;obtain⟨R,G,z⟩:=QC (m:=m+1) (g:=115) (caps:=[pt h'.next]) (P:=Ew x) d.wf (K.ext C d) (by omega) λg A y hy=>ic (m:=m) A.wf (B.ext d.wf A)
   have er:ks.take (i+1)=ks.take i++[x]:=by rw[zR,E];rfl
   have q:ES ks (ks.take (i+1))=if ks.any (Ew x)=IN then ES ks (ks.take i)else ES ks (ks.take i)++[x]:=by
    rw[er];unfold ES;rw[yk];cases s:ks.any (Ew x)
    ·rw[If (by decide),xn (by rw[s];rfl)];rfl
    ·rw[IT rfl,xp (by rw[s];decide),AAM,wT]
   have r:=d.trans z;cases s:ks.any (Ew x)with
   |true=>
    rw[s]at G q;rw[IT rfl]at q;have N:=CL (i:=i) (h:=R) (by omega);have u:∃a,coB (call AC (m+3)) b h'=.norm a R/\J 0 a=v/\J 3 a=w/\J 8 a=v/\J 9 a=AI AT (ks.length:Int)/\J 10 a=AI AT ((i+1:Nat):Int):=by
     unfold coB;simp only[sT,sh,OF,reduceIte,gD,AM,AK,t10,t9,D,A1,t8,ix,Ai,Ac,ld,O,AV,Z,DN,AS,Av,BG,t0,G,BO,BN,xK,BL,N];exact⟨_,rfl,by simp[AG,t0,t3,t8,t9]⟩
    obtain⟨a,l,o,V,W,X,Y⟩:=u;exact⟨f,a,R,l,w,r,by rw[q];exact H.ext p (M.trans z),o,V,W,X,Y,f⟩
   |false=>
   rw[s]at G q;rw[If (by decide)]at q;obtain⟨w',Kc,ct⟩:=rM (K.ext C r) f;obtain⟨h4,k4,x4⟩:=QC (m:=m+1) (g:=116) (caps:=[pt h'.next]) (P:=λ_=>IS) r.wf Kc (by rw[wu];omega) λg A y hy=>by
    obtain⟨j,U⟩:=List.mem_iff_getElem?.1 hy;have a1:j<i:=by
     have:=(wW.1 U).1;rw[wu]at this;omega
    rw[yY,IT a1]at U;exact qV (m:=m) A.wf ((B.ext d.wf z).ext r.wf A) (ht i j x y E U a1)
   rw[mM λ_ _=>rfl]at k4;have a0:=r.trans x4;have a8:=(M.trans z).trans x4;have a4:=(B.ext d.wf z).ext r.wf x4;obtain⟨_,_,_,_,_,_,a5,_⟩:=Bv a4;have sl:=λ(F:AES) (e:Env) (he:J 30 e=ktV x)=>NT (F:=F) a0.wf he
   obtain⟨T,w5,k5,x5,o5,n5,_⟩:=Ur a0 (wB _) a0.next (H.ext p a8) (hu x a2) (by have:=RA ks (ks.take i);rw[wu]at this;omega);rw[<- q]at o5;have N:=CL (i:=i) (h:=T) (by omega);have u:∃a,coB (call AC (m+3)) b h'=.norm a T/\J 0 a=v/\J 3 a=w5/\J 8 a=v/\J 9 a=AI AT (ks.length:Int)/\J 10 a=AI AT ((i+1:Nat):Int):=by
    unfold coB;simp only[sT,sh,OF,reduceIte,AM,AK,t10,t9,D,A1,t8,ix,Ai,Ac,ld,O,AV,Z,DN,AS,Av,BG,t0,G,BO,BN,xP];rw[UC (by omega)];simp only[sT,sh,OF,reduceIte,gD,t0];rw[ct _ _ _ _ (by simp[AG]) (by simp[AG])];simp only[sT,sh,OF,reduceIte,gD,AS,Av,BG,k4,BO,BN,xP,Ai,Ac,a5,sl,BD,t3,k5,BL,N,t10];exact⟨_,rfl,by simp[AG,t0,t8,t9]⟩
   obtain⟨a,l,o,V,W,X,Y⟩:=u;exact⟨f,a,T,l,w5,x5,o5,o,V,W,X,Y,f⟩
  ·right
   have D:=DC (show ks.length<=i by omega);have u:∃a,coB (call AC (m+3)) b h'=.exit 0 a h'/\J 3 a=w:=by
    unfold coB;simp only[sT,sh,OF,reduceIte,AM,AK,t10,t9,D];exact⟨_,rfl,by simp[AG,t3]⟩
   obtain⟨a,l,o⟩:=u;rw[l];rw[yU (by omega)]at H;exact⟨rfl,a,h',w,rfl,L,H,o⟩
 obtain⟨a,h2,w,l,d,o2,o⟩:=a7;refine⟨h2,w,?_,d,o2⟩;rw[oV rfl,qI,p1,pI];simp only[BC,Aw,l,A6,BA];unfold coE;simp only[sT,sh,OF,reduceIte,o,lV0]
end
section
variable {fa:Bool}{F:AES}{e:Env}{h g:Hp}{T M:List Nat}{bd bm bc tb n m c0 k:Nat}{arm:Int}{v:vz}{ks:List Kt}
theorem dq(A:h.Wf)(d:Dk h bd bm bc n M c0 [] arm IS)(Rt:h.Row tb 0 (T.map wv))(hT:AFD T)(hn:3<=n/\n<=90)(b0:tb≠bd/\tb≠bm/\tb≠bc)
  (hI:∀ks:List Kt,ks.map Kt.core=kcs T M (n/3)->(ks.map Kt.key).Nodup)(hl:(kcs T M (n/3)).length<=12)(ha:AFH fa arm):
  (∃h' bs H b4 lv y ks O,call AC (m+8) 39 [pt bd,pt tb,AI AT 100] h=.ok (.tuple ⟨[pt bs,AI AT 0]⟩) h'/\Fx (λb=>b=bd\/b=bm\/b=bc) h h'/\
   Sl h' ⟨bs,bd,bm,bc,tb,n⟩ T (Gj M (AF7 ks (mrk T M (n/3)) (n/3))) H b4 ks (AFt ks (n/3)) lv y (AFl T M (n/3)).length IS/\O.map Kt.core=kcs T M (n/3)/\ks=ES (B5 O) (B5 O)/\h.next<=bs/\AFH fa b4)\/
  (∃h' j ks O,call AC (m+8) 39 [pt bd,pt tb,AI AT 100] h=.ok (.tuple ⟨[.pointer By,AI AT 15]⟩) h'/\Fx (At.D ⟨h.next,bd,bm,bc,tb,n⟩) h h'/\j<(AF7 ks (mrk T M (n/3)) (n/3)).length+1/\
   AFQ fa h' ⟨h.next,bd,bm,bc,tb,n⟩ T (Be M [] ((Ed (AF7 ks (mrk T M (n/3)) (n/3))).take j)).1 (Be M [] ((Ed (AF7 ks (mrk T M (n/3)) (n/3))).take j)).2/\O.map Kt.core=kcs T M (n/3)/\ks=ES (B5 O) (B5 O)):=by
 have b9:=A.big;have g4:∀(mm:Nat) (g:Hp),call AC (mm+1) 68 [AI AT 100] g=.ok (AI AT 3) g:=λmm g=>by
  have:=X6 (n:=mm) (h:=g) (z:=100);rw[PK]at this;exact this
 have b5:=λg=>g4 (m+6) g
 have k1:=kZ (m:=m+5) d;have k2:=MQ (m:=m+5) d;have H:iEq (n:Int) 0=IS:=B8 (by omega);have c2:iEq 3 0=IS:=B8 (by omega);have c3:iGt 3 (n:Int)=IS:=GQ (by omega);have ne:∀(F:AES) (e:Env),J 27 e=pt tb->oEq Tj.k IS (J 27) (W (.pointer By)) F e h=.ok (.bool IS) h:=λF e U=>Eo mB U
 have bl:∀(F:AES) (e:Env),J 0 e=pt bd->J 1 e=pt tb->J 2 e=AI AT 100->BW Th.zero [(0,1,J 0),(1,1,J 1),(2,1,J 2)] F e h=.ok (.agg ⟨slL bd tb AEW AEW 0 IS⟩) h:=λF e d8 b e5=>gN d8 b e5
 have bx:∀(F:AES) (e:Env),J 46 e=.agg ⟨slL bd tb AEW AEW 0 IS⟩->CT (J 46) F e h=.ok (pt h.next) (h.AER 0 (slL bd tb AEW AEW 0 IS)):=λF e U=>by rw[EQ,U,EO A];rfl
 have x1:=(Hp.Ext.refl A).AER 0 (slL bd tb AEW AEW 0 IS);have R1:=Hp.Row.new A 0 (slL bd tb AEW AEW 0 IS);have n1:(h.AER 0 (slL bd tb AEW AEW 0 IS)).next=h.next+1:=rfl;generalize h.AER 0 (slL bd tb AEW AEW 0 IS)=a at bx x1 R1 n1;obtain⟨p,al,st,y2,R9,n2,_⟩:=Jr x1.wf lY (v:=pt h.next) rfl rfl;have x2:=x1.trans y2;have dv:=λg=>vU (h:=g) (n:=n) (by omega)
 have f8:∃x,iL (call AC (m+7)) (Ay e0 0 [pt bd,pt tb,AI AT 100]) h=rl (call AC (m+7)) x p/\J 2 x=AI AT 100/\J 8 x=AI AT (n:Int)/\J 9 x=pt a.next/\J 10 x=AEW/\J 11 x=AEW/\J 51 x=AI AT ((n/3:Nat):Int)/\J 52 x=AI AT ((0:Nat):Int):=by
  unfold iL;simp only[iN,wA,sT,sh,OF,reduceIte,gD,cA0,k1,AM,AK,H,ne,b5,c2,c3,k2,bl,bx,al,AV,st,KK,dv];exact⟨_,rfl,by simp[AG]⟩
 obtain⟨x,p1,s2,s8,s9,s10,s11,g0,g1⟩:=f8;have a1:h.next<=h.next/\h.next<a.next/\a.next<p.next:=⟨wB _,by omega,by omega⟩;have o0:O1 h p T M h.next a.next p.next bd tb 0 AEW AEW []:=⟨x2,R1.ext x1.wf y2,R9,.inl ⟨rfl,rfl⟩,rfl,λk D=>(by cases D),.inl ⟨rfl,rfl⟩,wB _⟩;have d5:∃c g v o ks,A4 ME (call AC (m+7)) x p=.exit 1 c g/\O1 h g T M h.next a.next p.next bd tb (n/3) v o ks/\J 10 c=v/\J 11 c=o/\J 2 c=AI AT 100/\J 8 c=AI AT (n:Int)/\J 9 c=pt a.next:=by
  refine Bb (I:=λi c g=>∃v o ks,O1 h g T M h.next a.next p.next bd tb i v o ks/\i<=n/3/\J 10 c=v/\J 11 c=o/\J 52 c=AI AT (i:Int)/\J 2 c=AI AT 100/\J 8 c=AI AT (n:Int)/\J 9 c=pt a.next/\J 51 c=AI AT ((n/3:Nat):Int))
   (Q:=λS=>∃c g v o ks,S=.exit 1 c g/\O1 h g T M h.next a.next p.next bd tb (n/3) v o ks/\J 10 c=v/\J 11 c=o/\J 2 c=AI AT 100/\J 8 c=AI AT (n:Int)/\J 9 c=pt a.next) (n/3) (by omega) (λi c g ⟨v,o,ks,u,hi,t10,t11,t52,t2,t8,t9,t51⟩=>?_) ⟨_,_,_,o0,wl _,s10,s11,g1,s2,s8,s9,g0⟩
  by_cases L:i<n/3
  ·left
   obtain⟨l,g2,v2,f5,f2,R,o2,E,r3,V,r5⟩:=dj (m:=m+1) A d Rt hT u a1 L t9 t10 t11 t51 t52;exact⟨L,l,g2,R,v2,f5,f2,o2,L,E,r3,V,(r5 2 (by omega)).trans t2,(r5 8 (by omega)).trans t8,(r5 9 (by omega)).trans t9,(r5 51 (by omega)).trans t51⟩
  ·right
   have a6:i=n/3:=by omega
   have H:iLt (i:Int) ((n/3:Nat):Int)=IS:=DC (by omega);have a8:∃l,ME (call AC (m+7)) c g=.exit 1 l g/\∀j,j=10\/j=11\/j=2\/j=8\/j=9->J j l=J j c:=by
    unfold ME;simp only[sT,sh,OF,reduceIte,AM,AK,t52,t51,H];refine⟨_,rfl,λj hj=>?_⟩;rcases hj with rfl|rfl|rfl|rfl|rfl<;>simp only[AG,sh,OF,reduceIte]
   obtain⟨l,R,E⟩:=a8;rw[R];exact⟨rfl,l,g,v,o,ks,rfl,a6 ▸ u,(E 10 (by omega)).trans t10,(E 11 (by omega)).trans t11,(E 2 (by omega)).trans t2,(E 8 (by omega)).trans t8,(E 9 (by omega)).trans t9⟩
 obtain⟨l,g2,v,o,ks,q1,u,t10,t11,t2,t8,t9⟩:=d5;have c5:ks.length<=12:=by rw[<- wF (f:=Kt.core),u.cs];exact hl
 obtain⟨g3,k3,o3⟩:=km (m:=m) A u c5 a1.2.1 a1.2.2;have hC:=hI ks u.cs;have c4:=u.cs;clear u;have f0:∀k,k∈B5 ks↔k∈ks:=λk=>FJ
 have c6:(B5 ks).length<=12:=by rw[G6];exact c5
 have c7:((B5 ks).map Kt.key).Nodup:=((EV ks).map Kt.key).nodup_iff.2 hC;generalize b6:B5 ks=P at o3 f0 c6 c7;have Z:=o3.ext (Hp.Ext.refl o3.x.wf).marked;have lb:=DP Z.rb;have f6:∀(kk:C) (F:AES) (e:Env),IU (pt a.next) kk F e g3.marked=kk F e g3.marked:=λkk F e=>DO (by
  show a.next<g3.next;have:=o3.le;omega)
 obtain⟨g5,w,k5,x5,kw⟩:=RH (m:=m+3) Z.x.wf.quiet (Z.ko.lst.same (h':=g3.marked.quiet) rfl) (by omega) (λk D=>(Z.ok k D).1.vs.one.2.1) λi j S b3 hx hy h9 ht=>absurd ((List.getElem?_inj (i:=i) (j:=j) (by rw[wF];exact(wW.1 hx).1) c7).1 (by rw[xc,xc,hx,hy];obtain⟨x,l,B,_⟩:=ht;show BY (S.a,S.b,S.c)=BY (b3.a,b3.b,b3.c);rw[x,l,B])) (by omega)
 have e9:(ES P P).length<=12:=wy (RA _ _) c6;have a7:∀k∈ES P P,k∈P:=λk D=>(wb.1 D).1
 generalize b7:ES P P=t at kw e9 a7;have q5:∀e:Env,J 10 e=v->AZ .weak (AU 72 [J 10]) (call AC (m+7)) e g3.marked=.ok w (g3.marked.back g5):=λe U=>by
  refine Cd ?_ x5 (wB _);rw[BG,AS,Av,U];exact k5
 have y5:g3.marked.Ext (g3.marked.back g5):=.back x5;have a2:(g3.marked.back g5).KO g3.marked.quiet.next w t:=kw.same rfl;generalize g3.marked.back g5=g6 at q5 y5 a2;have o6:=Z.ext y5;have b8:cellsOf w=[w]/\oneCell w=IN:=⟨a2.lst.one.1,a2.lst.one.2.1⟩;obtain⟨g7,k7,a3,n7,_,e8,e6⟩:=ND o6.x.wf o6.row (off:=3) (show 3<7 by omega) b9 b8.1 b8.2;have x7:=e6 h o6.x (wB _);have kp7:∀b Y X,b≠h.next->g6.Row b Y X->g7.Row b Y X:=λb Y X G b2=>e8.row o6.x.wf b2 G
 have a3:g7.Row h.next 0 (slL bd tb w AEW (AFl T M (n/3)).length IS):=a3;have i0:p.next<=g3.marked.quiet.next:=o3.le;have d6:∀{d0:vz} {xs:List vz},g6.Own p.next 3 d0 xs->g7.Own p.next 3 d0 xs:=λu=>by
  rcases u with r|⟨b,r,K,a0,a5⟩
  ·exact .inl r
  ·exact .inr ⟨b,r,kp7 b _ _ (by omega) K,a0,a5⟩
 have f1:g7.KO p.next w t:=by
  rcases a2 with r|⟨b,r,K,a0,a5⟩
  ·exact .inl r
  ·exact .inr ⟨b,r,kp7 b _ _ (by omega) K,by omega,a5⟩
 have p0:O2 h g7 (mrk T M (n/3)) h.next a.next p.next bd tb 0 (AFl T M (n/3)).length w o AEW AEW t:=⟨x7,a3,kp7 _ _ _ (by omega) o6.rb,f1,λk D=>⟨(o6.ok k (a7 k D)).1.keep λb Y X G U b2=>kp7 b Y X (by have G:a.next<b:=G;omega) b2,(o6.ok k (a7 k D)).2⟩,.inl ⟨rfl,rfl⟩,.inl ⟨rfl,rfl⟩,d6 o6.ms,λb=>⟨λh=>absurd h Gl,λh=>absurd h Gl⟩,by rw[n7];exact o6.le⟩;have f4:∃B,Xl (call AC (m+7)) l g2=rm (call AC (m+7)) B g7/\J 9 B=pt a.next/\J 11 B=o/\J 17 B=.func (.func 73) ⟨[]⟩ ⟨[pt a.next]⟩/\J 18 B=AEW/\J 102 B=AI AT ((n/3:Nat):Int)/\J 103 B=AI AT ((0:Nat):Int):=by
  unfold Xl;simp only[sT,sh,OF,reduceIte,cA0,t10,k3,Ar,D7,t9,f6,DL,AJ,AP,lb,q5,An,AX,AH,AN,wC];rw[k7 _ _ _ _ (by simp[AG]) (by simp[AG])];simp only[sT,sh,OF,reduceIte,cA0,DN,t9,t2,b5,t8,KK,dv];exact⟨_,rfl,by simp[AG,t9,t11]⟩
 obtain⟨B,p3,u9,h3,h4,h5,d7,d3⟩:=f4;have d4:∃c g y s,A4 MF (call AC (m+7)) B g7=.exit 4 c g/\O2 h g (mrk T M (n/3)) h.next a.next p.next bd tb (n/3) (AFl T M (n/3)).length w o y s t/\J 9 c=pt a.next/\J 18 c=s:=by
  refine Bb (I:=λi c g=>∃y s,O2 h g (mrk T M (n/3)) h.next a.next p.next bd tb i (AFl T M (n/3)).length w o y s t/\i<=n/3/\J 9 c=pt a.next/\J 11 c=o/\J 17 c=.func (.func 73) ⟨[]⟩ ⟨[pt a.next]⟩/\J 18 c=s/\J 102 c=AI AT ((n/3:Nat):Int)/\J 103 c=AI AT (i:Int))
   (Q:=λS=>∃c g y s,S=.exit 4 c g/\O2 h g (mrk T M (n/3)) h.next a.next p.next bd tb (n/3) (AFl T M (n/3)).length w o y s t/\J 9 c=pt a.next/\J 18 c=s) (n/3) (by omega) (λi c g ⟨y,s,u,hi,t9,t11,t17,t18,Td,Qi⟩=>?_) ⟨_,_,p0,wl _,u9,h3,h4,h5,d7,d3⟩
  by_cases L:i<n/3
  ·left
   have i1:(mrk T M (n/3)).length<=n/3:=EF _ _;obtain⟨l,g2,e7,f7,R,o2,E,r3,V⟩:=dp (m:=m+1) A u a1 L (by omega) (by omega) (by omega) t9 t11 t17 t18 Td Qi;exact⟨L,l,g2,R,e7,f7,o2,L,(V 9 (by omega)).trans t9,(V 11 (by omega)).trans t11,(V 17 (by omega)).trans t17,E,(V 102 (by omega)).trans Td,r3⟩
  ·right
   have a6:i=n/3:=by omega
   have H:iLt (i:Int) ((n/3:Nat):Int)=IS:=DC (by omega);have a8:∃l,MF (call AC (m+7)) c g=.exit 4 l g/\J 9 l=pt a.next/\J 18 l=s:=by
    unfold MF;simp only[sT,sh,OF,reduceIte,AM,AK,Qi,Td,H];exact⟨_,rfl,by simp[AG,t9,t18]⟩
   obtain⟨l,R,E,r3⟩:=a8;rw[R];exact⟨rfl,l,g,y,s,rfl,a6 ▸ u,E,r3⟩
 obtain⟨e4,g8,y,s,q8,o8,v9,d1⟩:=d4;have W8:=o8.x.wf;have lt:=d.lt A;have nD:∀b,h.next<b->¬(⟨h.next,bd,bm,bc,tb,n⟩:At).D b:=λb G=>by
  rintro (a|a|a|a)
  ·have a:b=h.next:=a
   omega
  ·have a:b=bd:=a
   omega
  ·have a:b=bm:=a
   omega
  ·have a:b=bc:=a
   omega
 have h7:(AFl T M (n/3)).length<=n/3:=EF _ _;have h8:(AFt t (n/3)).length<=n/3:=EF _ _;have i2:(AF7 t (mrk T M (n/3)) (n/3)).length<=n/3:=EF _ _;have h6:=Rt.lt A;have sl:Sl g8 ⟨h.next,bd,bm,bc,tb,n⟩ T M c0 arm t (AFt t (n/3)) w y (AFl T M (n/3)).length IS:=by
  refine⟨o8.row,d.ext A o8.x,Rt.ext A o8.x,hT,?_,λk D=>⟨(o8.ok k D).1.mono λb G=>nD b (by have G:a.next<b:=G;omega),(o8.ok k D).2⟩,?_,⟨by show h.next≠bd;omega,by show h.next≠bm;omega,by show h.next≠bc;omega,?_,b9⟩,⟨by omega,by omega,by omega,λb1 hp=>?_⟩⟩
  ·refine Hp.KW.ks ?_
   rcases o8.ko with r|⟨b,r,K,a0,_⟩
   ·exact .inl r
   ·exact .inr ⟨b,r,K,nD b (by omega)⟩
  ·rcases o8.fs with r|⟨b,r,K,a0,_⟩
   ·exact .inl r
   ·exact .inr ⟨b,4,r,K,.inl rfl,nD b (by omega)⟩
  ·rintro (a|a|a|a)
   ·have a:tb=h.next:=a
    omega
   ·exact b0.1 a
   ·exact b0.2.1 a
   ·exact b0.2.2 a
  ·have:=yg.1 (wb.1 hp).1
   show 3*b1+3<=n;omega
 have c8:=DP o8.rb;rcases Ji (m:=m+1) W8 sl (ps:=AF7 t (mrk T M (n/3)) (n/3)) (pv:=s) o8.os.vals (λb1 hp=>by
  have:=yg.1 (wb.1 hp).1;show 3*b1+3<=n;omega) (zy.filter _) (by omega) ha with ⟨g9,c9,d2,N,f9,h0,a9⟩|⟨j,g9,hj,_,N,f9,d9⟩
 ·have a4:iNe 0 0=IS:=CE rfl
  have f3:=DP (f9.row W8 o8.rb (by
   rintro (q|q|q)
   ·have q:a.next=bd:=q
    omega
   ·have q:a.next=bm:=q
    omega
   ·have q:a.next=bc:=q
    omega))
  have N:call AC (m+7) 77 [pt h.next,s] g8=.ok (AI AT 0) g9:=N;refine .inl ⟨g9,h.next,c9,d2,w,y,t,ks,?_,(Fx.of o8.x).trans f9,h0,c4,(by rw[<- b7,b6]),wB _,a9⟩;rw[aP rfl,bD,p1,Xm];simp only[BC,Aw,q1,A6,BA];rw[Xk,p3,Xn];simp only[BC,Aw,q8,A6,BA];unfold kF;simp only[sT,sh,OF,reduceIte,AJ,AP,v9,c8,cA0,d1,N,AM,AK,a4,f3,A7,C0]
 ·have a4:iNe 15 0=IN:=De (by omega)
  have N:call AC (m+7) 77 [pt h.next,s] g8=.ok (AI AT 15) g9:=N;refine .inr ⟨g9,j,t,ks,?_,(Fx.of o8.x).trans f9,hj,d9,c4,(by rw[<- b7,b6])⟩;rw[aP rfl,bD,p1,Xm];simp only[BC,Aw,q1,A6,BA];rw[Xk,p3,Xn];simp only[BC,Aw,q8,A6,BA];unfold kF;simp only[sT,sh,OF,reduceIte,AJ,AP,v9,c8,cA0,d1,N,AM,AK,a4,A7,C0]
end
section
variable {T M M':List Nat}{ks:List Kt}{fr ps:List Nat}{a b c:Int}{l:List Nat}{n p q k np i:Nat}{cs:List (Nat×List Nat)}
theorem AFR.like(m:AFR np T M ks fr)(b:M'.length=M.length)(d:∀k∈ks,∀x,x/192=k.p->M'.getD x 0=M.getD x 0)(e:∀p∈fr,∀x,x/64=3*p->M'.getD x 0=M.getD x 0):AFR np T M' ks fr:=by
 refine⟨b.trans m.len,λk a=>?_,λk a=>?_,λp c h f=>?_,m.rs,m.pl⟩
 ·rw[G5 b λx g=>d k a x (by omega)];exact m.hd k a
 ·rw[FQ b (by have:=(m.rs k a).2;omega) λx g=>d k a x (by omega)];exact m.dt k a
 ·rw[e p c _ (by omega)];exact m.bl p c h f
theorem Kept.none(k:Kept n M [] M')(b:M.length=64*n):M'.length=M.length/\∀x,M'.getD x 0=M.getD x 0:=by
 refine⟨k.len.trans b.symm,λx=>?_⟩;rcases k.sct (x/64)with a|⟨d,c,_⟩
 ·exact a x rfl
 ·cases c
theorem Kept.out(k:Kept n M cs M'){x:Nat}(h:∀y∈cs,y.1≠x/64):M'.getD x 0=M.getD x 0:=by
 rcases k.sct (x/64)with b|⟨y,c,a,_⟩
 ·exact b x rfl
 ·exact absurd a (h y c)
theorem PH:∀(ps:List Nat) (i:Nat) (M:List Nat) (cs:List (Nat×List Nat)),i<=ps.length->Be M cs ((Ed ps).take i)=(M,cs++(ps.take i).map λp=>(p*3,BF))
 |ps,0,M,cs,_=>by rw[ABq,ABq,List.map_nil,wT];rfl
 |[],i+1,_,_,a=>by cases a
 |p::ps,i+1,M,cs,a=>by
  have a:i+1<=ps.length+1:=a;show Be M cs (AE9.w (p*3) BF::(Ed ps).take i)=_;rw[PG];show Be M (cs++[(p*3,BF)]) ((Ed ps).take i)=_;rw[PH ps i M _ (by omega),wa];rfl
theorem AFE.fil(iv:AFE np ks fr)(P:Kt->Bool):AFE np (ks.filter λk=> !P k) (fr++(ks.filter P).map Kt.plc):=by
 refine⟨AA7 (ACc.map _) iv.key,?_⟩;refine ACO ?_ iv.plc;rw[<- wa];refine(List.perm_append_comm).trans ?_;rw[<- wa,<- w9];exact((Ir P ks).map Kt.plc).append_right fr
theorem NR(m:AFR np T M ks fr)(iv:AFE np ks fr)(hk:Kept (3*np) M cs M')(o:∀y∈cs,∃p∈ps,y=(p*3,BF)):
  ∃P:Kt->Bool,(∀k∈ks,P k=IN->k.p∈ps)/\AFE np (ks.filter λk=> !P k) (fr++(ks.filter P).map Kt.plc)/\AFR np T M' (ks.filter λk=> !P k) (fr++(ks.filter P).map Kt.plc):=by
 have i:M'.length=M.length:=hk.len.trans m.len.symm;have E:=λ(p:Nat)=>AEO (∀a,a/64=3*p->M'.getD a 0=M.getD a 0)
 let St:Nat->Bool:=λp=>match yL (∀a,a/64=3*p->M'.getD a 0=M.getD a 0)with
  |.isTrue _=>IS
  |.isFalse _=>IN
 have n:∀p,St p=IS->∀a,a/64=3*p->M'.getD a 0=M.getD a 0:=λp b=>by
  show _;cases q:yL (∀a,a/64=3*p->M'.getD a 0=M.getD a 0)with
  |isTrue e=>exact e
  |isFalse e=>
   have:St p=IN:=by show(match yL (∀a,a/64=3*p->M'.getD a 0=M.getD a 0)with|.isTrue _=>IS|.isFalse _=>IN)=IN;rw[q]
   rw[this]at b;cases b
 have l:∀p,St p=IN->p∈ps/\∀a,a/64=3*p->M'.getD a 0=0:=λp b=>by
  have x:¬ ∀a,a/64=3*p->M'.getD a 0=M.getD a 0:=λe=>by
   have:St p=IS:=by
    show(match yL (∀a,a/64=3*p->M'.getD a 0=M.getD a 0)with|.isTrue _=>IS|.isFalse _=>IN)=IS;cases q:yL (∀a,a/64=3*p->M'.getD a 0=M.getD a 0)with
    |isTrue _=>rfl
    |isFalse j=>exact absurd e j
   rw[this]at b;cases b
  rcases hk.sct (3*p)with j|⟨y,d,f,g⟩
  ·exact absurd j x
  ·obtain⟨h,z,rfl⟩:=o y d
   have A:h=p:=by have f:h*3=3*p:=f;omega
   subst A;refine⟨z,λa C=>?_⟩;rw[g a C];unfold BF;exact Nv
 have t:∀a,a % 192>=64->M'.getD a 0=M.getD a 0:=λa g=>hk.out λy d f=>by
  obtain⟨h,_,rfl⟩:=o y d;have f:h*3=a/64:=f;omega
 have r:∀k∈ks.filter (λk=> !St k.p),∀a,a/192=k.p->M'.getD a 0=M.getD a 0:=λk c a g=>by
  have w:St k.p=IS:=by
   have:=(wb.1 c).2;cases b:St k.p
   ·rfl
   ·rw[b]at this;cases this
  by_cases e:a % 192>=64
  ·exact t a e
  ·exact n k.p w a (by omega)
 have u:∀k∈ks,k.p<np:=λk c=>by have:=iv.lt k c;omega
 refine⟨λk=>St k.p,λk _ b=>(l k.p b).1,iv.fil _,⟨i.trans m.len,λk c=>?_,λk c=>?_,λp hp D B=>?_,λk c=>m.rs k (wb.1 c).1,λp hp=>?_⟩⟩
 ·rw[G5 i λa g=>r k c a (by omega)]
  exact m.hd k (wb.1 c).1
 ·rw[FQ i (by have:=(m.rs k (wb.1 c).1).2;omega) λa g=>r k c a (by omega)]
  exact m.dt k (wb.1 c).1
 ·rcases wd.1 hp with hp|hp
  ·cases b:St p
   ·rw[n p b _ (by omega)];exact m.bl p hp D B
   ·exact(l p b).2 _ (by omega)
  ·obtain⟨y,d,s⟩:=xA.1 hp
   have s:y.p=p:=s;exact(l y.p (wb.1 d).2).2 _ (by omega)
 ·rcases wd.1 hp with hp|hp
  ·exact m.pl p hp
  ·obtain⟨y,d,rfl⟩:=xA.1 hp
   exact u y (wb.1 d).1
theorem Xy{a:Kt}(h:AEh a.a a.b a.c a.s a.l.length=IN):AEh a.a a.b a.c 2 a.l.length=IN:=by
 obtain⟨g1,g2,g3,g4,g5,g6,g7,g8⟩:=Dy h;exact decide_eq_true ⟨g1,g2,g3,g4,g5,g6,.inr rfl,g8⟩
theorem Il(iv:AFE np ks fr){j:Nat}{a:Kt}(b:ks[j]? =BY a):∀z∈cmK ks j a,z={a with s:=2}\/(z∈ks/\z.p≠a.p):=λz c=>by
 have f:=iv.set (y:={a with s:=2}) b rfl rfl;rcases mem_set b c with h|h
 ·exact .inl h
 ·by_cases d:z.p=a.p
  ·have e:({a with s:=2}:Kt)∈ks.set j {a with s:=2}:=List.mem_set (wW.1 b).1 _
   exact .inl (DA f.nd c e d)
  ·exact .inr ⟨h,d⟩
theorem RC(m:AFR np T M ks fr)(iv:AFE np ks fr){j:Nat}{a:Kt}(o:ks[j]? =BY a):AFR np T (EX M a.p (AEc T a.a a.b a.c 2 a.l)) (cmK ks j a) fr:=by
 have g:=wO o;have x:=iv.lt a g;have t:=m.rs a g;have i:=Xy t.1;obtain⟨g1,g2⟩:=M0 m.len (p:=a.p) x (EA (T:=T) i);have h:=Il iv o;have u:∀n∈ks,n.p≠a.p->∀b,b/192=n.p->(EX M a.p (AEc T a.a a.b a.c 2 a.l)).getD b 0=M.getD b 0:=λn z A b l=>by rw[g2,If (by omega)]
 refine⟨g1,λk d=>?_,λk d=>?_,λq r e s=>?_,λk d=>?_,m.pl⟩
 ·rcases h k d with rfl|⟨c,f⟩
  ·exact Qd g1 (by show 3*a.p<3*np;omega) (EA i) λe s=>by rw[g2,IT (show(64*(3*a.p)+e)/64=3*a.p by omega),show(64*(3*a.p)+e) % 64=e by omega]
  ·rw[G5 (g1.trans m.len.symm) λb l=>u k c f b (by omega)]
   exact m.hd k c
 ·rcases h k d with rfl|⟨c,f⟩
  ·show dat _ a.p a.l.length=a.l
   rw[FQ (g1.trans m.len.symm) (by omega) λb l=>by rw[g2,If (by omega)]];exact m.dt a g
  ·rw[FQ (g1.trans m.len.symm) (by have:=(m.rs k c).2;omega) λb l=>u k c f b (by omega)]
   exact m.dt k c
 ·have w:(ks.map Kt.plc++fr).Nodup:=iv.plc.nodup_iff.2 zy
  have y:a.p≠q:=(yX.1 w).2.2 a.p (xA.2 ⟨a,g,rfl⟩) q r;rw[g2,If (by omega)];exact m.bl q r e s
 ·rcases h k d with rfl|⟨c,f⟩
  ·exact⟨i,t.2⟩
  ·exact m.rs k c
theorem Yz(m:AFR np T M ks fr)(iv:AFE np ks fr){j:Nat}{b:Kt}(h:ks[j]? =BY b)(hi:i<2)(hk:Kept (3*np) (Be M [] ((Dp b.p (AEc T b.a b.b b.c 2 b.l)).take i)).1 (Be M [] ((Dp b.p (AEc T b.a b.b b.c 2 b.l)).take i)).2 M'):
  AFR np T M' ks fr\/AFR np T M' (cmK ks j b) fr:=by
 have n:Kept (3*np) M [] M'->AFR np T M' ks fr:=λhk=>by
  obtain⟨f,c⟩:=hk.none m.len;exact m.like f (λ_ _ a _=>c a) λ_ _ a _=>c a
 rcases (show i=0\/i=1 by omega)with rfl|rfl
 ·exact .inl (n hk)
 ·have hk:Kept (3*np) M [(b.p*3,AEc T b.a b.b b.c 2 b.l)] M':=hk
  have f:M'.length=M.length:=hk.len.trans m.len.symm;have k:=wO h;have l:∀a,a/64≠3*b.p->M'.getD a 0=M.getD a 0:=λa d=>hk.out λo g=>by
   rw[wP.1 g];show b.p*3≠a/64;omega
  rcases hk.sct (3*b.p)with e|⟨o,g,_,e⟩
  ·left
   have c:∀a,M'.getD a 0=M.getD a 0:=λa=>by
    by_cases d:a/64=3*b.p
    ·exact e a d
    ·exact l a d
   exact m.like f (λ_ _ a _=>c a) λ_ _ a _=>c a
  ·right
   rw[wP.1 g]at e;obtain⟨g1,g2⟩:=M0 m.len (p:=b.p) (iv.lt b k) (EA (T:=T) (Xy (m.rs b k).1));have c:∀a,M'.getD a 0=(EX M b.p (AEc T b.a b.b b.c 2 b.l)).getD a 0:=λa=>by
    rw[g2];by_cases d:a/64=3*b.p
    ·rw[IT d];exact e a d
    ·rw[If d];exact l a d
   exact(RC m iv h).like (hk.len.trans g1.symm) (λ_ _ a _=>c a) λ_ _ a _=>c a
end
def lg(n:Nat)(Q:Nat->Prop):AE9->Prop
 |.w a b=>Q a/\a<n/\b.length=64/\∀c∈b,c<256
 |.f=>True
def Aft(ks:List Kt)(fr:List Nat)(kd a b c:Int)(l:List Nat)(ks':List Kt):Prop:=
 ks'=ks\/
 (Di kd/\Dn ks fr.length a b c l=By/\∃p fr2 k',fr=p::fr2/\k'.core=⟨a,b,c,1,l,p⟩/\ks'=B5 (ks++[k']))\/
 ((kd=5\/kd=6)/\∃(j:Nat) (kx:Kt) (P:Kt->Bool),ks[j]? =BY kx/\(kx.a=a/\kx.b=b/\kx.c=c)/\Bp a b c ks=IS/\(∀k∈cmK ks j kx,P k=IN->elB a b c k=IN)/\ks'=(cmK ks j kx).filter λk=> !P k)\/
 (kd=7/\∃(j:Nat) (kx:Kt) (P:Kt->Bool),ks[j]? =BY kx/\(kx.a=a/\kx.b=b/\kx.c=c)/\Bp a b c ks=IS/\(∀k∈ks,P k=IN->k.p=kx.p)/\ks'=ks.filter λk=> !P k)\/
 (kd=8/\∃P:Kt->Bool,(∀k∈ks,P k=IN->drB a b c k=IN)/\ks'=ks.filter λk=> !P k)
section
variable {T M M':List Nat}{ks ks':List Kt}{fr fr' ps:List Nat}{kd a b c:Int}{l H:List Nat}{n p q k np i:Nat}{cs:List (Nat×List Nat)}{Q:Nat->Prop}
theorem I7:∀(ds:List AE9) (M:List Nat) (cs:List (Nat×List Nat)),M.length=64*n->AFG n cs->(∀y∈cs,Q y.1)->(∀d∈ds,lg n Q d)->
  (Be M cs ds).1.length=64*n/\(∀x,¬Q (x/64)->(Be M cs ds).1.getD x 0=M.getD x 0)/\∀y∈(Be M cs ds).2,Q y.1
 |[],M,cs,f,_,g,_=>⟨f,λ_ _=>rfl,g⟩
 |.w i l::ds,M,cs,f,h,g,j=>by
  obtain⟨p,q,r,s⟩:=j _ wJ;refine I7 ds M (cs++[(i,l)]) f (λy e=>?_) (λy e=>?_) λd k=>j d (wI _ k)
  ·rcases wd.1 e with e|e
   ·exact h y e
   ·rw[wP.1 e];exact⟨q,r,s⟩
  ·rcases wd.1 e with e|e
   ·exact g y e
   ·rw[wP.1 e];exact p
 |.f::ds,M,cs,f,h,g,j=>by
  obtain⟨a,b,c⟩:=I7 ds (FU M cs) [] (Fq f h) (λy e=>by cases e) (λy e=>by cases e) λd k=>j d (wI _ k)
  exact⟨a,λx m=>(b x m).trans (Iv f h λy e o=>m (by rw[o];exact g y e)),c⟩
theorem TL(M:List Nat)(cs:List (Nat×List Nat))(a b:List AE9):Be M cs (a++b)=Be (Be M cs a).1 (Be M cs a).2 b:=by
 rw[Ft,Ft,Ft,zp]
def IV(p:Nat)(l:List Nat):List AE9:=if l=[]then []else Gc p l
theorem ZV(e:p<np)(c:l.length<=100)(a:∀x∈l,x<256):∀d∈IV p l,lg (3*np) (λi=>i=3*p+1\/i=3*p+2) d:=λd hd=>by
 unfold IV at hd;split at hd
 ·cases hd
 ·unfold Gc at hd
  rcases wd.1 hd with hd|hd
  ·obtain⟨f,b,rfl⟩:=xA.1 hd
   have:=yg.1 b;exact⟨by omega,by omega,Cf _ _,Js a _⟩
  ·rw[wP.1 hd];trivial
theorem eM(M:List Nat):(Be M [] (IV p l)).2=[]:=by
 unfold IV;split
 ·rfl
 ·exact IY _ _ _
theorem PC:Dc T M p l H=F7 (Be M [] (IV p l)).1 (p*3) H:=by
 unfold Dc;rw[TL];have a:(Be M [] (Gc p l)).2=[]:=IY _ _ _;have b:(Be M [] (Gc p l)).1=(Be M [] (IV p l)).1:=by
  unfold IV;split
  ·rename_i c
   rw[c];rfl
  ·rfl
 rw[a,b];rfl
theorem Y0(m:AFR np T M ks (p::fr'))(iv:AFE np ks (p::fr'))(H:Com ks)(G:∀x∈l,x<256)(n:Dn ks (p::fr').length a b c l=By)(hi:i<(KU p l (AEc T a b c 1 l)).length)
  (hk:Kept (3*np) (Be M [] ((KU p l (AEc T a b c 1 l)).take i)).1 (Be M [] ((KU p l (AEc T a b c 1 l)).take i)).2 M'):
  AFR np T M' ks (p::fr')\/∃k':Kt,k'.core=⟨a,b,c,1,l,p⟩/\AFE np (B5 (ks++[k'])) fr'/\AFR np T M' (B5 (ks++[k'])) fr':=by
 have t:¬(AEh a b c 1 l.length=IS\/100<l.length):=λe=>by
  unfold Dn at n;rw[IT e]at n;cases n
 have O:AEh a b c 1 l.length=IN:=by
  cases w:AEh a b c 1 l.length
  ·exact absurd (.inl w) t
  ·rfl
 have A:l.length<=100:=ADD λe=>t (.inr e)
 have N:=m.pl p wJ;have L:(ks.map Kt.plc++(p::fr')).Nodup:=iv.plc.nodup_iff.2 zy;have J:∀k∈ks,k.p≠p:=λk hk e=>(yX.1 L).2.2 k.p (xA.2 ⟨k,hk,rfl⟩) p wJ e
 have y:∀j:List Nat,j.length=64*(3*np)->(∀x,¬(x/64=3*p+1\/x/64=3*p+2)->j.getD x 0=M.getD x 0)->AFR np T j ks (p::fr'):=λj E o=>
  m.like (E.trans m.len.symm) (λk hk x f=>o x (by have:=J k hk;omega)) λq w x f=>o x (by omega)
 have s:=ZV N A G;have D:KU p l (AEc T a b c 1 l)=IV p l++Dp p (AEc T a b c 1 l):=rfl;rw[D]at hi hk;by_cases K:i<=(IV p l).length
 ·rw[List.take_append_of_le_length K]at hk
  obtain⟨g1,g2,g3⟩:=I7 (Q:=λi=>i=3*p+1\/i=3*p+2) ((IV p l).take i) M [] m.len (λg d=>by cases d) (λg d=>by cases d) λB I=>s B (xk I)
  exact .inl (y M' hk.len λx f=>(hk.out λg d C=>f (by rw[<- C];exact g3 g d)).trans (g2 x f))
 ·have R:i<(IV p l).length+2:=by rw[wD]at hi;exact hi
  obtain rfl:i=(IV p l).length+1:=by omega
  rw[List.take_append,yU (by omega),show(IV p l).length+1 - (IV p l).length=1 by omega,TL,eM]at hk;obtain⟨g1,g2,g3⟩:=I7 (Q:=λi=>i=3*p+1\/i=3*p+2) (IV p l) M [] m.len (λg d=>by cases d) (λg d=>by cases d) s;have hk:Kept (3*np) (Be M [] (IV p l)).1 [(p*3,AEc T a b c 1 l)] M':=hk;have u:∀x,x/64≠3*p->M'.getD x 0=(Be M [] (IV p l)).1.getD x 0:=λx f=>hk.out λg d=>by
   rw[wP.1 d];show p*3≠x/64;omega
  rcases hk.sct (3*p)with e|⟨g,d,_,e⟩
  ·refine .inl (y M' hk.len λx f=>?_)
   rw[<- g2 x f];by_cases h:x/64=3*p
   ·exact e x h
   ·exact u x h
  ·right
   rw[wP.1 d]at e;have r:=EA (T:=T) O;have F:=C1 g1 (show p*3<3*np by omega) r;have P:∀k':Kt,k'.core=⟨a,b,c,1,l,p⟩->Ml T M ks (p::fr') 1 a b c l (Dc T M p l (AEc T a b c 1 l)) (B5 (ks++[k'])) fr':=λk' e=>.inl ⟨.inl rfl,n,p,k',rfl,rfl,e,rfl⟩
   have z:=P ⟨a,b,c,1,l,p,.pointer By⟩ rfl;refine⟨_,rfl,(G9 iv z).1,(Id iv m H z).1.like ?_ (λ_ _ x _=>?_) λ_ _ x _=>?_⟩
   ·rw[PC,F];exact hk.len
   all_goals
    rw[PC,Db g1 (by omega) r];by_cases h:x/64=3*p
    ·rw[IT (by omega)];exact e x h
    ·rw[If (by omega)];exact u x h
theorem Wu(ks:List Kt)(P P2:Kt->Bool):((ks.filter λk=> !P k).filter λk=> !P2 k)=ks.filter λk=> !(P k || P2 k):=by
 rw[List.filter_filter];refine ze λk _=>?_
 cases P k<;>cases P2 k<;>rfl
theorem Qg{ps:List Nat}{M:List Nat}(hi:i<ps.length+1):(Be M [] ((Ed ps).take i)).1=M/\∀y∈(Be M [] ((Ed ps).take i)).2,∃p∈ps,y=(p*3,BF):=by
 rw[PH ps i M [] (by omega)];refine⟨rfl,λy b=>?_⟩;obtain⟨p,a,rfl⟩:=xA.1 b;exact⟨p,xk a,rfl⟩
theorem Yl{q:List Nat×List (Nat×List Nat)}(m:AFR np T M ks fr)(iv:AFE np ks fr)(hc:Com ks)(hb:∀x∈l,x<256)(f:so T M ks fr kd a b c l q)(hk:Kept (3*np) q.1 q.2 M'):
  ∃ks' fr',AFE np ks' fr'/\AFR np T M' ks' fr'/\Aft ks fr kd a b c l ks':=by
 rcases f with ⟨h14,hz,p,fr2,i,rfl,hi,rfl⟩|⟨h56,j,kx,i,hj,AFW,hst,hi,rfl⟩|⟨h56,j,kx,i,hj,AFW,hst,hi,rfl⟩|⟨rfl,j,kx,i,hj,AFW,hst,hi,rfl⟩|⟨rfl,o1,x,o2,i,ho,hi,rfl⟩
 ·rcases Y0 m iv hc hb hz hi hk with h|⟨k',e,i2,m2⟩
  ·exact⟨ks,_,iv,h,.inl rfl⟩
  ·exact⟨_,_,i2,m2,.inr (.inl ⟨h14,hz,p,fr2,k',rfl,e,rfl⟩)⟩
 ·have hk2:=hk
  obtain⟨rfl,rfl,rfl⟩:=AFW;rcases Yz m iv hj hi hk with h|h
  ·exact⟨ks,fr,iv,h,.inl rfl⟩
  ·have i2:AFE np (cmK ks j kx) fr:=iv.set hj rfl rfl
   exact⟨cmK ks j kx,fr,i2,h,.inr (.inr (.inl ⟨h56,j,kx,λ_=>IS,hj,⟨rfl,rfl,rfl⟩,hst,(λ_ _ h=>by cases h),(yv.2 λ_ _=>rfl).symm⟩))⟩
 ·obtain⟨rfl,rfl,rfl⟩:=AFW
  obtain⟨e1,e2⟩:=Qg (ps:=cmO ks j kx) (M:=EX M kx.p (AEc T kx.a kx.b kx.c 2 kx.l)) hi;rw[e1]at hk;have i2:AFE np (cmK ks j kx) fr:=iv.set hj rfl rfl;obtain⟨P,hP,i3,m3⟩:=NR (RC m iv hj) i2 hk e2;refine⟨_,_,i3,m3,.inr (.inr (.inl ⟨h56,j,kx,P,hj,⟨rfl,rfl,rfl⟩,hst,λk hk2 hp=>?_,rfl⟩))⟩;obtain⟨y,hy,hyp⟩:=xA.1 (hP k hk2 hp);obtain⟨hy1,hy2⟩:=wb.1 hy;rw[<- DA i2.nd hy1 hk2 hyp];exact hy2
 ·obtain⟨e1,e2⟩:=Qg (ps:=[kx.p]) (M:=M) hi
  rw[e1]at hk;obtain⟨P,hP,i3,m3⟩:=NR m iv hk e2;exact⟨_,_,i3,m3,.inr (.inr (.inr (.inl ⟨rfl,j,kx,P,hj,AFW,hst,λk hk2 hp=>wP.1 (hP k hk2 hp),rfl⟩)))⟩
 ·obtain⟨e1,e2⟩:=Qg (ps:=[x.p]) (M:=Ex M o1) hi
  rw[e1,Im]at hk;rw[Im]at e2;have hO:∀z∈o1++x::o2,z∈ks/\drB a b c z=IN:=λz hz=>by
   rw[<- ho]at hz;exact wb.1 (zz.1 hz)
  have hin:∀z∈o1++x::o2,∀k∈ks,k.p=z.p->drB a b c k=IN:=λz hz k hk2 hp=>by
   obtain⟨h1,h2⟩:=hO z hz;rw[DA iv.nd hk2 h1 hp];exact h2
  let P1:Kt->Bool:=λk=>decide (k.p∈o1.map Kt.plc)
  have hP1:∀k∈ks,P1 k=IN->drB a b c k=IN:=λk hk2 hp=>by
   obtain⟨z,hz,hzp⟩:=xA.1 (of_decide_eq_true hp);exact hin z (xF _ hz) k hk2 hzp.symm
  have i1:=iv.fil P1;have m1:AFR np T (Gj M (o1.map Kt.plc)) (ks.filter λk=> !P1 k) (fr++(ks.filter P1).map Kt.plc):=m.cut (λk hk2=>?_) (λp hp=>?_) λp hp=>?_
  ·obtain⟨P2,hP2,i3,m3⟩:=NR m1 i1 hk e2
   rw[Wu]at i3 m3;refine⟨_,_,i3,m3,.inr (.inr (.inr (.inr ⟨rfl,λk=>P1 k || P2 k,λk hk2 hp=>?_,rfl⟩)))⟩;have hp:(P1 k || P2 k)=IN:=hp;cases h1:P1 k
   ·rw[h1,Bool.false_or]at hp
    have:=wP.1 (hP2 k (wb.2 ⟨hk2,by rw[h1];rfl⟩) hp);exact hin x (wz _ wJ) k hk2 this
   ·exact hP1 k hk2 h1
  ·obtain⟨h1,h2⟩:=wb.1 hk2
   refine⟨h1,λh=>?_⟩;have:P1 k=IN:=decide_eq_true h;rw[this]at h2;cases h2
  ·rcases wd.1 hp with h|h
   ·exact .inl h
   ·obtain⟨y,hy,rfl⟩:=xA.1 h
    exact .inr (of_decide_eq_true (wb.1 hy).2)
  ·obtain⟨y,hy,rfl⟩:=xA.1 hp
   exact iv.lt y (hO y (xF _ hy)).1
end
def AFi(np:Nat)(T M:List Nat)(cs:List (Nat×List Nat))(Q:List Kt->Prop):Prop:=∀a,Kept (3*np) M cs a->∃ks fr,AFE np ks fr/\AFR np T a ks fr/\Q ks
inductive St (h:Hp)(A:At)(np:Nat)(T:List Nat)(Q:List Kt->Prop):Prop
 |up (M:List Nat) (c0:Nat) (arm:Int) (ks:List Kt) (fr:List Nat) (lv fv:vz) (s:Sl h A T M c0 arm ks fr lv fv 0 IS) (iv:AFE np ks fr) (md:AFR np T M ks fr) (hc:Com ks) (a:AFH IN arm) (q:Q ks)
 |over (M:List Nat) (cs:List (Nat×List Nat)) (d:AFQ IN h A T M cs) (g:AFi np T M cs Q)
def Clo(e:Kt->Prop)(kd a b c:Int)(l:List Nat):Prop:=(Di kd->∀d:Kt,d.a=a->d.b=b->d.c=c->d.s=1->d.l=l->e d)/\((kd=5\/kd=6)->∀d:Kt,e d->d.a=a->d.b=b->d.c=c->e {d with s:=2})
section
variable {fa:Bool}{e:Env}{h h' h0:Hp}{A:At}{T M M':List Nat}{c0 m k p n np bd bm bc tb:Nat}{arm:Int}{ks ks':List Kt}{fr fr':List Nat}{lv fv kv:vz}{kd a b c z:Int}{l:List Nat}{cs:List (Nat×List Nat)}{ALI:Kt->Prop}{Q:List Kt->Prop}{bs:List Bool}
theorem dB:∀(n:Nat) (l:List Nat),l.Nodup->(∀x∈l,x<n)->l.length<=n
 |0,[],_,_=>wB _
 |0,x::l,_,h=>absurd (h x wJ) (zP _)
 |n+1,l,c,h=>by
  have f:=dB n (l.erase n) (c.erase _) λx d=>by
   have b:=h x (List.mem_of_mem_erase d);have g:x≠n:=λe=>(c.mem_erase_iff.1 d).1 e
   omega
  have b:=List.length_erase (a:=n) (l:=l);split at b<;>omega
theorem pK(hK:AFo cs)(hS:AFG n cs):cs.length<=n:=by
 have:=dB n (cs.map (·.1)) (QD hK) λx hx=>by
  obtain⟨y,hy,rfl⟩:=xA.1 hx;exact(hS y hy).1
 rwa [wF]at this
theorem RB{j:Nat}{a:Kt}(c:ks[j]? =BY a)(iv:AFE np ks fr)(b:∀k∈ks,ALI k)(e:Clo ALI 5 a.a a.b a.c l):∀k∈cmK ks j a,ALI k:=λk f=>by
 rcases Il iv c k f with rfl|⟨d,_⟩
 ·exact e.2 (.inl rfl) a (b a (wO c)) rfl rfl rfl
 ·exact b k d
theorem S3{k':Kt}(n:∀k∈ks,ALI k)(m:Clo ALI 1 a b c l)(e:k'.core=⟨a,b,c,1,l,p⟩):∀k∈B5 (ks++[k']),ALI k:=λk d=>by
 rw[FJ,wd,wP]at d;rcases d with d|rfl
 ·exact n k d
 ·obtain⟨f,g,h,i,j,_⟩:=EP (y:=⟨a,b,c,1,l,p,.pointer By⟩) e
  exact m.1 (.inl rfl) k f g h i j
theorem vL(iv:AFE np ks fr)(d:∀k∈ks,ALI k)(j:Clo ALI kd a b c l)(t:Aft ks fr kd a b c l ks'):∀k∈ks',ALI k:=by
 have q:Di kd->Clo ALI 1 a b c l:=λh=>⟨λ_=>j.1 h,λi=>by omega⟩
 have r:kd=5\/kd=6->Clo ALI 5 a b c l:=λh=>⟨λi=>by unfold Di at i;omega,λ_=>j.2 h⟩
 rcases t with rfl|⟨n,_,p,_,w,_,e,rfl⟩|⟨o,s,u,g,m,⟨rfl,rfl,rfl⟩,_,_,rfl⟩|⟨_,s,u,g,m,_,_,_,rfl⟩|⟨_,g,_,rfl⟩
 ·exact d
 ·exact S3 d (q n) e
 ·exact λk f=>RB m iv d (r o) k (wb.1 f).1
 ·exact λk f=>d k (wb.1 f).1
 ·exact λk f=>d k (wb.1 f).1
theorem uv(iv:AFE np ks fr)(f:∀k∈ks,ALI k)(i:Clo ALI kd a b c l)(t:Ml T M ks fr kd a b c l M' ks' fr'):∀k∈ks',ALI k:=by
 have o:Di kd->Clo ALI 1 a b c l:=λh=>⟨λ_=>i.1 h,λg=>by omega⟩
 have q:kd=5\/kd=6->Clo ALI 5 a b c l:=λh=>⟨λg=>by unfold Di at g;omega,λ_=>i.2 h⟩
 rcases t with ⟨m,_,p,u,_,rfl,e,_⟩|⟨n,r,s,j,⟨rfl,rfl,rfl⟩,_,rfl,_⟩|⟨_,r,s,j,_,_,rfl,_⟩|⟨_,rfl,_⟩
 ·exact S3 f (o m) e
 ·exact λk d=>RB j iv f (q n) k (wb.1 d).1
 ·exact λk d=>f k (by
   rcases wd.1 d with h|h
   ·exact xk h
   ·exact yx h)
 ·exact λk d=>f k (wb.1 d).1
theorem St.AIt(w:h0.Wf)(s:h0.Ext h)(l:∀b,A.D b->h0.next<=b)(J:St h A np T Q)(D:A.n=3*np)(O:np<=8)(t:KB h0 kv bs):
  ∃h' M' a ks fr,call AC (m+3) 14 [pt A.bd,kv] h=.ok AEU h'/\Fx (λb=>b=A.bd\/b=A.bm\/b=A.bc) h h'/\Dk h' A.bd A.bm A.bc A.n M' a [] (-1) IS/\h'.Row A.tb 0 (T.map wv)/\AFD T/\¬A.D A.tb/\AFE np ks fr/\AFR np T M' ks fr/\Q ks:=by
 have E:h0.next<=A.bd/\h0.next<=A.bm/\h0.next<=A.bc:=⟨l _ (.inr (.inl rfl)),l _ (.inr (.inr (.inl rfl))),l _ (.inr (.inr (.inr rfl)))⟩;have r:∀{M:List Nat} {c0:Nat} {cs:List (Nat×List Nat)} {arm:Int} {y:Bool},Dk h A.bd A.bm A.bc A.n M c0 cs arm y->AFo cs->AFG A.n cs->h.Row A.tb 0 (T.map wv)->¬A.D A.tb->∃h' M' a,call AC (m+3) 14 [pt A.bd,kv] h=.ok AEU h'/\Fx (λb=>b=A.bd\/b=A.bm\/b=A.bc) h h'/\Dk h' A.bd A.bm A.bc A.n M' a [] (-1) IS/\Kept (3*np) M cs M'/\h'.Row A.tb 0 (T.map wv):=λc p q u G=>by
  obtain⟨h',M',a,g,d,f,e⟩:=av (m:=m) w s E c p q (by have:=pK p q;omega) t;rw[D]at e;exact⟨h',M',a,g,d,f,e,d.row s.wf u λh=>G (.inr h)⟩
 rcases J with ⟨M,c0,arm,ks,fr,lv,fv,i,iv,j,N,L,F⟩|⟨M,cs,c,C⟩
 ·obtain⟨h',M',a,g,d,f,e,k⟩:=r i.dk (λP R K z h=>by cases h) (λK H=>by cases H) i.tab i.ne.2.2.2.1
  obtain⟨B,o⟩:=e.none j.len;exact⟨h',M',a,ks,fr,g,d,f,k,i.tok,i.ne.2.2.2.1,iv,j.like B (λ_ _ n _=>o n) (λ_ _ n _=>o n),F⟩
 ·obtain⟨_,x⟩:=c.dk
  obtain⟨h',M',a,g,d,f,e,k⟩:=r x c.key c.sec c.tab c.ne.2.2.2.1;obtain⟨ks,fr,iv,j,I⟩:=C M' e;exact⟨h',M',a,ks,fr,g,d,f,k,c.tok,c.ne.2.2.2.1,iv,j,I⟩
theorem Sr(u:h.Wf)(d:Dk h bd bm bc n M c0 [] arm IS)(t:h.Row tb 0 (T.map wv))(x:AFD T)(D:n=3*np)(E:1<=np/\np<=8)(z:tb≠bd/\tb≠bm/\tb≠bc)(iv:AFE np ks fr)(B:AFR np T M ks fr)(y:AFH fa arm):
  (∃h' bs M' i e lv fv a q c,call AC (m+8) 39 [pt bd,pt tb,AI AT 100] h=.ok (.tuple ⟨[pt bs,AI AT 0]⟩) h'/\Fx (λb=>b=bd\/b=bm\/b=bc) h h'/\
   Sl h' ⟨bs,bd,bm,bc,tb,n⟩ T M' i e a q lv fv 0 IS/\(c.map Kt.core).Perm (ks.map Kt.core)/\a=ES (B5 c) (B5 c)/\q=AFt a np/\M'=Gj M (AF7 a (mrk T M np) np)/\h.next<=bs/\AFH fa e)\/
  (∃h' j a c,call AC (m+8) 39 [pt bd,pt tb,AI AT 100] h=.ok (.tuple ⟨[.pointer By,AI AT 15]⟩) h'/\Fx (At.D ⟨h.next,bd,bm,bc,tb,n⟩) h h'/\j<(AF7 a (mrk T M np) np).length+1/\
   AFQ fa h' ⟨h.next,bd,bm,bc,tb,n⟩ T (Be M [] ((Ed (AF7 a (mrk T M np) np)).take j)).1 (Be M [] ((Ed (AF7 a (mrk T M np) np)).take j)).2/\(c.map Kt.core).Perm (ks.map Kt.core)/\a=ES (B5 c) (B5 c)):=by
 have f:n/3=np:=by omega
 obtain⟨g,C,F⟩:=B.find iv;rcases dq (m:=m) (fa:=fa) u d t x (by omega) z (λks' r=>by
  rw[f]at r;rw[QH,r];exact(g.map rG).nodup_iff.2 (by rw[<- QH];exact iv.key)) (by
  rw[f,g.length_eq,wF];have:=iv.len;omega) y with ⟨h',bs,i,e,lv,fv,a,c,o,l,s1,e0,k,A,w⟩|⟨h',j,a,c,o,l,s,p,e0,k⟩
 ·rw[f]at s1 e0
  rw[C]at s1;exact .inl ⟨h',bs,_,i,e,lv,fv,a,_,c,o,l,s1,by rw[e0];exact g,k,rfl,rfl,A,w⟩
 ·rw[f]at p s e0
  exact .inr ⟨h',j,a,c,o,l,s,p,by rw[e0];exact g,k⟩
end
def Cg(X Y:List Kt):Prop:=X.map Kt.core=Y.map Kt.core
def OnC(P:Kt->Bool):Prop:=∀a b:Kt,a.core=b.core->P a=P b
section
variable {X Y Z:List Kt}{x y:Kt}{P:Kt->Bool}{f:Kt->Kt}{a b c:Int}
theorem HI:Cg (x::X) (y::Y)↔x.core=y.core/\Cg X Y:=by
 unfold Cg;rw[yA,yA,List.cons.injEq]
theorem Cg.trans(h:Cg X Y)(h2:Cg Y Z):Cg X Z:=Eq.trans h h2
theorem Cg.symm(h:Cg X Y):Cg Y X:=Eq.symm h
theorem Cg.len(h:Cg X Y):X.length=Y.length:=by
 have:=congrArg zo h
 rwa [wF,wF]at this
theorem Cg.fil(c:OnC P):∀{X Y:List Kt},Cg X Y->Cg (X.filter P) (Y.filter P)
 |[],[],_=>rfl
 |[],y::Y,a=>by cases a
 |x::X,[],a=>by cases a
 |x::X,y::Y,a=>by
  obtain⟨d,e⟩:=HI.1 a;have f:=c x y d;cases b:P y
  ·rw[xp (by rw[f,b];decide),xp (by rw[b];decide)];exact Cg.fil c e
  ·rw[xn (f.trans b),xn b];exact HI.2 ⟨d,Cg.fil c e⟩
theorem Cg.find(d:OnC P):∀{X Y:List Kt},Cg X Y->(X.find? P).map Kt.core=(Y.find? P).map Kt.core
 |[],[],_=>rfl
 |[],y::Y,a=>by cases a
 |x::X,[],a=>by cases a
 |x::X,y::Y,a=>by
  obtain⟨c,f⟩:=HI.1 a;have e:=d x y c;cases b:P y
  ·rw[zl (by rw[e,b];decide),zl (by rw[b];decide)];exact Cg.find d f
  ·rw[AAh (e.trans b),AAh b];exact congrArg BY c
theorem Cg.mp(b:∀x y:Kt,x.core=y.core->(f x).core=(f y).core):∀{X Y:List Kt},Cg X Y->Cg (X.map f) (Y.map f)
 |[],[],_=>rfl
 |[],y::Y,a=>by cases a
 |x::X,[],a=>by cases a
 |x::X,y::Y,a=>by
  obtain⟨c,d⟩:=HI.1 a;exact HI.2 ⟨b x y c,Cg.mp b d⟩
theorem Cg.app{a Y2:List Kt}(h:Cg X Y)(h2:Cg a Y2):Cg (X++a) (Y++Y2):=by
 unfold Cg at *;rw[w9,w9,h,h2]
theorem Cg.frE:∀{X Y:List Kt} {fr:List Nat},Cg X Y->Go.Proofs.YtldjiljipddebaaGreat.frE fr X=Go.Proofs.YtldjiljipddebaaGreat.frE fr Y
 |[],[],_,_=>rfl
 |[],y::Y,_,a=>by cases a
 |x::X,[],_,a=>by cases a
 |x::X,y::Y,fr,a=>by
  obtain⟨b,c⟩:=HI.1 a;have d:x.p=y.p:=congrArg Kc.p b;show Go.Proofs.YtldjiljipddebaaGreat.frE (EZ (fr++[x.p])) X=Go.Proofs.YtldjiljipddebaaGreat.frE (EZ (fr++[y.p])) Y;rw[d];exact Cg.frE c
theorem OnC.not(h:OnC P):OnC λk=> !P k:=λx y a=>by show(!P x)= !P y;rw[h x y a]
theorem Lb:OnC (BI a b c):=λx y d=>by
 obtain⟨e,f,g,_⟩:=EP d;unfold BI;rw[e,f,g]
theorem uc:OnC (LW a b):=λx y c=>by
 obtain⟨d,e,g,f,_⟩:=EP c;unfold LW;rw[d,e,f]
theorem ub:OnC (elB a b c):=λx y d=>by
 obtain⟨e,f,g,_⟩:=EP d;unfold elB;rw[e,f,g]
theorem ua:OnC (drB a b c):=λx y d=>by
 obtain⟨e,f,g,_⟩:=EP d;unfold drB;rw[e,f,g]
def LtC(x y:Kc):Prop:=x.a<y.a\/(x.a=y.a/\(x.b<y.b\/(x.b=y.b/\(x.c<y.c\/(x.c=y.c/\x.p<y.p)))))
def LtK(x y:Kt):Prop:=LtC x.core y.core
theorem QV{z:Int}{l:List Int}:orZ (z::l)<0↔z<0\/(z=0/\orZ l<0):=by
 have c:orZ (z::l)=if z=0 then orZ l else z:=rfl
 rw[c];split
 ·rename_i b
  exact⟨λa=>.inr ⟨b,a⟩,λa=>a.elim (λa=>by omega) λa=>a.2⟩
 ·rename_i b
  exact⟨.inl,λa=>a.elim id λa=>absurd a.1 b⟩
theorem Ph{a b:Int}:DF a b<0↔a<b:=by
 unfold DF;split
 ·omega
 ·split<;>omega
theorem Pg{a b:Int}:DF a b=0↔a=b:=by
 unfold DF;split
 ·omega
 ·split<;>omega
theorem Xp:HV x y<0↔LtK x y:=by
 unfold HV LtK LtC;rw[QV,QV,QV,QV,Ph,Ph,Ph,Ph,Pg,Pg,Pg,Pg];show x.a<y.a\/x.a=y.a/\(x.b<y.b\/x.b=y.b/\(x.c<y.c\/x.c=y.c/\((x.p:Int)<(y.p:Int)\/(x.p:Int)=(y.p:Int)/\(0:Int)<0)))↔x.a<y.a\/(x.a=y.a/\(x.b<y.b\/(x.b=y.b/\(x.c<y.c\/(x.c=y.c/\x.p<y.p)))));omega
theorem LtC.asym{x y:Kc}(h:LtC x y)(h2:LtC y x):False:=by
 unfold LtC at *;omega
theorem LtK.tot(h:x.key≠y.key):LtK x y\/LtK y x:=by
 have b:¬(x.a=y.a/\x.b=y.b/\x.c=y.c):=λa=>h (by show(x.a,x.b,x.c)=(y.a,y.b,y.c);rw[a.1,a.2.1,a.2.2])
 show(x.a<y.a\/(x.a=y.a/\(x.b<y.b\/(x.b=y.b/\(x.c<y.c\/(x.c=y.c/\x.p<y.p))))))\/(y.a<x.a\/(y.a=x.a/\(y.b<x.b\/(y.b=x.b/\(y.c<x.c\/(y.c=x.c/\y.p<x.p))))));omega
theorem LtK.tr{z:Kt}(h:LtK x y)(h2:LtK y z):LtK x z:=by
 unfold LtK LtC at *;omega
theorem On:∀{l:List Kt},l.Pairwise (λu v=>LtK v u)->(∀y∈l,x.key≠y.key)->(JD x l).Pairwise (λu v=>LtK v u)
 |[],_,_=>AAY _ _
 |y::j,d,f=>by
  obtain⟨e,i⟩:=yV.1 d;rw[LQ];split
  ·rename_i c
   refine yV.2 ⟨λb a=>?_,On i λb a=>f b (wI _ a)⟩;rcases NL.1 a with rfl|a
   ·exact Xp.1 c
   ·exact e b a
  ·rename_i c
   have g:LtK y x:=(LtK.tot (f y wJ)).resolve_left λh=>c (Xp.2 h)
   refine yV.2 ⟨λb a=>?_,d⟩;rcases wS.1 a with rfl|a
   ·exact g
   ·exact(e b a).tr g
theorem cM{A:List Kt}(h:A.Pairwise LtK)(hk:∀y∈A,x.key≠y.key):(HM A x).Pairwise LtK:=by
 unfold HM;exact ACN.2 (On (ACN.2 h) λy a=>hk y (zz.1 a))
theorem YA:∀(B A:List Kt),A.Pairwise LtK->((A++B).map Kt.key).Nodup->(srt A B).Pairwise LtK
 |[],A,a,_=>a
 |x::B,A,a,b=>by
  show(srt (HM A x) B).Pairwise LtK;have e:((HM A x++B).map Kt.key).Perm ((A++x::B).map Kt.key):=(((Ou A x).append_right B).trans List.perm_middle.symm).map _;refine YA B _ (cM a λy d c=>?_) (e.nodup_iff.2 b);rw[w9,yX]at b;exact b.2.2 y.key (xA.2 ⟨y,d,rfl⟩) x.key (xA.2 ⟨x,wJ,rfl⟩) c.symm
theorem I9(a:(X.map Kt.key).Nodup):(B5 X).Pairwise LtK:=by
 unfold B5;refine YA _ _ ?_ (by rw[yE];exact a);cases X with
 |nil=>exact .nil
 |cons x b=>exact AAY _ _
theorem Tc(e:X.Pairwise LtK)(f:Y.Pairwise LtK)(p:(X.map Kt.core).Perm (Y.map Kt.core)):Cg X Y:=
 AEN (le:=LtC) (λa b _ _ c d=>(c.asym d).elim) (zS.2 e) (zS.2 f) p
theorem NS(p:(X.map Kt.core).Perm (Y.map Kt.core))(a:(Y.map Kt.key).Nodup):(X.map Kt.key).Nodup:=by
 rw[QH]at *;exact(p.map rG).nodup_iff.2 a
theorem Cg.key(h:Cg X Y)(a:(Y.map Kt.key).Nodup):(X.map Kt.key).Nodup:=NS (by rw[show X.map Kt.core=Y.map Kt.core from h]) a
theorem eu(p:(X.map Kt.core).Perm (Y.map Kt.core))(b:(Y.map Kt.key).Nodup)(a:Y.Pairwise LtK):Cg (B5 X) Y:=
 Tc (I9 (NS p b)) a (((EV X).map _).trans p)
theorem Cg.sort(h:Cg X Y)(a:(Y.map Kt.key).Nodup):Cg (B5 X) (B5 Y):=
 eu (((show X.map Kt.core=Y.map Kt.core from h) ▸ .refl _:(X.map Kt.core).Perm (Y.map Kt.core)).trans ((EV Y).map _).symm) (((EV Y).map Kt.key).nodup_iff.2 a) (I9 a)
theorem Cg.asc(h:Cg X Y)(b:Y.Pairwise LtK):X.Pairwise LtK:=by
 have:(X.map Kt.core).Pairwise LtC:=by
  rw[show X.map Kt.core=Y.map Kt.core from h];exact zS.2 b
 have a:X.Pairwise λx y=>LtC x.core y.core:=zS.1 this
 exact a
end
def cmF(a b c:Int)(k:Kt):Kt:=if BI a b c k=IN then {k with s:=2}else k
def nxt(ks:List Kt)(fr:List Nat)(kd a b c:Int)(l:List Nat):List Kt×List Nat:=
 if 1<=kd/\kd<=4 then(match Dn ks fr.length a b c l with
  |some _=>(ks,fr)
  |none=>(B5 (ks++[⟨a,b,c,1,l,fr.headD 0,AEW⟩]),fr.tail))
 else if kd=5\/kd=6 then(match Fe ks a b c with
  |some _=>(ks,fr)
  |none=>((ks.map (cmF a b c)).filter λd=> !elB a b c d,frE fr ((ks.map (cmF a b c)).filter (elB a b c))))
 else if kd=7 then(match abE ks a b c with
  |some _=>(ks,fr)
  |none=>(ks.filter λd=> !BI a b c d,frE fr (ks.filter (BI a b c))))
 else if kd=8 then(ks.filter λd=> !drB a b c d,frE fr (drO a b c ks))
 else(ks,fr)
section
variable {T M M':List Nat}{X Y ks ks':List Kt}{fr fr':List Nat}{kd a b c z:Int}{l:List Nat}{n np j:Nat}{x y kx:Kt}{P:Kt->Bool}
theorem QJ(d:((x::ks).map Kt.key).Nodup)(f:BI a b c x=IN):∀z∈ks,BI a b c z=IS:=λz g=>by
 rw[yA,yO]at d;cases e:BI a b c z
 ·rfl
 ·exact absurd (xA.2 ⟨z,g,(Fy e).trans (Fy f).symm⟩) d.1
theorem Pf:∀{ks:List Kt} {j:Nat} {kx:Kt},(ks.map Kt.key).Nodup->ks[j]? =BY kx->BI a b c kx=IN->cmK ks j kx=ks.map (cmF a b c)
 |[],j,kx,_,d,_=>by cases d
 |x::ks,0,kx,f,d,e=>by
  have g:x=kx:=Option.some.inj d;subst g;show({x with s:=2}:Kt)::ks=cmF a b c x::ks.map (cmF a b c);have h:cmF a b c x={x with s:=2}:=IT e;have i:ks.map (cmF a b c)=ks:=(List.map_congr_left λz l=>show cmF a b c z=id z from If (by rw[QJ f e z l];decide)).trans (List.map_id ks);rw[h,i]
 |x::ks,j+1,kx,f,d,e=>by
  have d:ks[j]? =BY kx:=d;have k:BI a b c x=IS:=by
   cases m:BI a b c x
   ·rfl
   ·have:=QJ f m kx (wO d)
    rw[e]at this;cases this
  show x::cmK ks j kx=cmF a b c x::ks.map (cmF a b c);rw[yA,yO]at f;rw[Pf f.2 d e,show cmF a b c x=x from If (by rw[k];decide)]
theorem WX:∀{ks:List Kt} {j:Nat} {kx:Kt},(ks.map Kt.key).Nodup->ks[j]? =BY kx->BI a b c kx=IN->ks.take j++ks.drop (j+1)=(ks.filter λk=> !BI a b c k)/\ks.filter (BI a b c)=[kx]
 |[],j,kx,_,d,_=>by cases d
 |x::ks,0,kx,f,d,e=>by
  have l:x=kx:=Option.some.inj d;subst l;have g:=QJ f e;rw[xp (by rw[e];decide),xn e];exact⟨(yv.2 λz h=>by rw[g z h];rfl).symm,by rw[zm.2 λz h=>by rw[g z h];decide]⟩
 |x::ks,j+1,kx,f,d,e=>by
  have d:ks[j]? =BY kx:=d;have i:BI a b c x=IS:=by
   cases n:BI a b c x
   ·rfl
   ·have:=QJ f n kx (wO d)
    rw[e]at this;cases this
  rw[yA,yO]at f;obtain⟨g,m⟩:=WX f.2 d e;rw[xn (by rw[i];rfl),xp (by rw[i];decide)];exact⟨congrArg (x:: ·) g,m⟩
theorem IQ(h:Di kd):nxt ks fr kd a b c l=(match Dn ks fr.length a b c l with
  |some _=>(ks,fr)
  |none=>(B5 (ks++[⟨a,b,c,1,l,fr.headD 0,AEW⟩]),fr.tail)):=by
 unfold Di at h;exact IT (by omega)
theorem FX(h:kd=5\/kd=6):nxt ks fr kd a b c l=(match Fe ks a b c with
  |some _=>(ks,fr)
  |none=>((ks.map (cmF a b c)).filter λk=> !elB a b c k,frE fr ((ks.map (cmF a b c)).filter (elB a b c)))):=by
 unfold nxt;rw[If (by omega),IT h]
theorem IO:nxt ks fr 7 a b c l=(match abE ks a b c with
  |some _=>(ks,fr)
  |none=>(ks.filter λk=> !BI a b c k,frE fr (ks.filter (BI a b c)))):=by
 unfold nxt;rw[If (by omega),If (by omega),IT rfl]
theorem IP:nxt ks fr 8 a b c l=(ks.filter λk=> !drB a b c k,frE fr (drO a b c ks)):=by
 unfold nxt;rw[If (by omega),If (by omega),If (by omega),IT rfl]
theorem Nb(d:¬Di kd)(g:kd≠5)(h:kd≠6)(e:kd≠7)(f:kd≠8):nxt ks fr kd a b c l=(ks,fr):=by
 unfold Di at d;unfold nxt;rw[If (by omega),If (by omega),If e,If f]
theorem ZW(q:Zt ks fr.length kd a b c l z):nxt ks fr kd a b c l=(ks,fr):=by
 rcases q with ⟨n,d⟩|⟨m,d⟩|⟨rfl,d⟩|⟨rfl,d,_⟩|⟨g,h,i,j,k,_⟩
 ·rw[IQ n,d]
 ·rw[FX m,d]
 ·rw[IO,d]
 ·rw[IP,d]
  have e:ks.filter (drB a b c)=[]:=List.reverse_eq_nil_iff.1 d;rw[yv.2 λz o=>by
   cases f:drB a b c z
   ·rfl
   ·exact absurd f (zm.1 e z o)]
  rfl
 ·exact Nb g h i j k
theorem WW(iv:AFE np ks fr)(l:Com ks)(m:ks[j]? =BY kx)(d:BI a b c kx=IN)(f:Bp a b c ks=IS):Fe ks a b c=By:=by
 have e:=wO m;obtain⟨g,h,n⟩:=Gr d;have k:=H3 (a:=a) (b:=b) (c:=c) iv.key e (Fy d);unfold Fe;rw[k];show(if kx.s=2 then BY 0 else if Bp a b c ks=IN then BY 61 else By)=By;rw[If λi=>by have:=Ib l f kx e g h i;omega,If (by rw[f];decide)]
theorem Tg(iv:AFE np ks fr)(u:Com ks)(t:Ml T M ks fr kd a b c l M' ks' fr'):Cg ks' (nxt ks fr kd a b c l).1/\fr'=(nxt ks fr kd a b c l).2:=by
 have x:=(G9 iv t).1;rcases t with ⟨w,g,y,o,e,f,m,_⟩|⟨m,j,kx,i,d,n,f,e,_⟩|⟨rfl,j,kx,i,d,n,f,e,_⟩|⟨rfl,f,e,_⟩
 ·rw[IQ w,g]
  subst f e;have r:((ks++[o]).map Kt.key).Nodup:=((EV (ks++[o])).map Kt.key).nodup_iff.1 x.key;have p:Cg (ks++[o]) (ks++[⟨a,b,c,1,l,y,AEW⟩]):=Cg.app (X:=ks) (Y:=ks) rfl (HI.2 ⟨m,rfl⟩);exact⟨p.sort (p.symm.key r),rfl⟩
 ·have h:BI a b c kx=IN:=E7 (by show(kx.a,kx.b,kx.c)=_;rw[d.1,d.2.1,d.2.2])
  have g:=WW iv u i h n;have k:ks.set j {kx with s:=2}=ks.map (cmF a b c):=Pf iv.key i h;rw[FX m,g,f,e,k];exact⟨rfl,rfl⟩
 ·have h:BI a b c kx=IN:=E7 (by show(kx.a,kx.b,kx.c)=_;rw[d.1,d.2.1,d.2.2])
  have g:abE ks a b c=By:=by
   unfold abE;rw[If (by rw[n];decide),H3 (a:=a) (b:=b) (c:=c) iv.key (wO i) (Fy h)]
  obtain⟨k,q⟩:=WX iv.key i h;rw[IO,g,f,e,k,q];exact⟨rfl,rfl⟩
 ·rw[IP,f,e]
  exact⟨rfl,rfl⟩
theorem MR(d:OnC P)(h:Cg X Y):(X.find? P=By/\Y.find? P=By)\/∃x y,X.find? P=BY x/\Y.find? P=BY y/\x.core=y.core:=by
 have a:=h.find d;cases c:X.find? P with
 |none=>
  rw[c]at a;cases b:Y.find? P with
  |none=>exact .inl ⟨rfl,rfl⟩
  |some y=>rw[b]at a;cases a
 |some x=>
  rw[c]at a;cases b:Y.find? P with
  |none=>rw[b]at a;cases a
  |some y=>rw[b]at a;exact .inr ⟨x,y,rfl,rfl,Option.some.inj a⟩
theorem Kj(h:Cg X Y):Bp a b c X=Bp a b c Y:=by
 unfold Bp;rcases MR (uc (a:=a) (b:=b)) h with ⟨d,e⟩|⟨x,y,d,e,f⟩
 ·rw[d,e]
 ·rw[d,e]
  show decide (c<=x.c)=decide (c<=y.c);rw[(EP f).2.2.1]
theorem eK(h:Cg X Y):Dn X n a b c l=Dn Y n a b c l:=by
 unfold Dn;split
 ·rfl
 ·rcases MR (Lb (a:=a) (b:=b) (c:=c)) h with ⟨d,e⟩|⟨x,y,d,e,f⟩
  ·rw[d,e,Kj h]
  ·rw[d,e]
   show(if x.l=l then BY 0 else BY 60)=if y.l=l then BY 0 else BY 60
   rw[(EP f).2.2.2.2.1]
theorem aj(h:Cg X Y):Fe X a b c=Fe Y a b c:=by
 unfold Fe;rcases MR (Lb (a:=a) (b:=b) (c:=c)) h with ⟨d,e⟩|⟨x,y,d,e,f⟩
 ·rw[d,e,Kj h]
 ·rw[d,e,Kj h]
  show(if x.s=2 then BY 0 else if Bp a b c Y=IN then BY 61 else By)=if y.s=2 then BY 0 else if Bp a b c Y=IN then BY 61 else By
  rw[(EP f).2.2.2.1]
theorem mJ(h:Cg X Y):abE X a b c=abE Y a b c:=by
 unfold abE;rw[Kj h];rcases MR (Lb (a:=a) (b:=b) (c:=c)) h with ⟨d,e⟩|⟨x,y,d,e,f⟩<;>rw[d,e]
theorem ac(e:x.core=y.core):(cmF a b c x).core=(cmF a b c y).core:=by
 have j:=Lb (a:=a) (b:=b) (c:=c) x y e;obtain⟨d,f,g,k,h,i⟩:=EP e;unfold cmF;rw[j];split
 ·show(⟨x.a,x.b,x.c,2,x.l,x.p⟩:Kc)=⟨y.a,y.b,y.c,2,y.l,y.p⟩
  rw[d,f,g,h,i]
 ·exact e
theorem Cg.rev(h:Cg X Y):Cg X.reverse Y.reverse:=by
 unfold Cg;rw[ACz,ACz,show X.map Kt.core=Y.map Kt.core from h]
theorem Xt{k:Kt}(i:(ks.map Kt.key).Nodup)(d:Dn ks n a b c l=By)(hk:k.key=(a,b,c)):((ks++[k]).map Kt.key).Nodup:=by
 have h:ks.find? (BI a b c)=By:=by
  unfold Dn at d;split at d
  ·cases d
  ·cases g:ks.find? (BI a b c)with
   |none=>rfl
   |some k=>
    rw[g]at d;have d:(if k.l=l then BY (0:Int)else BY 60)=By:=d;split at d<;>cases d
 rw[w9,yX];refine⟨i,yO.2 ⟨ACx,.nil⟩,λx o y e f=>?_⟩;obtain⟨p,j,m⟩:=xA.1 o;have e:y=k.key:=wP.1 e;exact absurd (E7 (by rw[m,f,e,hk])) (zE.1 h p j)
theorem rZ(h:Cg X Y)(n:(Y.map Kt.key).Nodup):Cg (nxt X fr kd a b c l).1 (nxt Y fr kd a b c l).1/\(nxt X fr kd a b c l).2=(nxt Y fr kd a b c l).2:=by
 by_cases f:Di kd
 ·rw[IQ f,IQ f,eK h]
  cases j:Dn Y fr.length a b c l with
  |some m=>exact⟨h,rfl⟩
  |none=>exact⟨(h.app rfl).sort (Xt n j rfl),rfl⟩
 by_cases e:kd=5\/kd=6
 ·rw[FX e,FX e,aj h]
  have k:Cg (X.map (cmF a b c)) (Y.map (cmF a b c)):=h.mp λx y d=>ac d
  cases j:Fe Y a b c with
  |some m=>exact⟨h,rfl⟩
  |none=>exact⟨k.fil ub.not,(k.fil ub).frE⟩
 by_cases g:kd=7
 ·subst g
  rw[IO,IO,mJ h];cases j:abE Y a b c with
  |some m=>exact⟨h,rfl⟩
  |none=>exact⟨h.fil Lb.not,(h.fil Lb).frE⟩
 by_cases i:kd=8
 ·subst i
  rw[IP,IP];exact⟨h.fil ua.not,(h.fil ua).rev.frE⟩
 ·rw[Nb f (λd=>e (.inl d)) (λd=>e (.inr d)) g i,Nb f (λd=>e (.inl d)) (λd=>e (.inr d)) g i]
  exact⟨h,rfl⟩
theorem Xe(h:X.Pairwise LtK)(q:(X.map Kt.key).Nodup):(nxt X fr kd a b c l).1.Pairwise LtK:=by
 by_cases g:Di kd
 ·rw[IQ g]
  cases f:Dn X fr.length a b c l with
  |some k=>exact h
  |none=>exact I9 (Xt q f rfl)
 by_cases e:kd=5\/kd=6
 ·rw[FX e]
  cases f:Fe X a b c with
  |some k=>exact h
  |none=>
   refine ADr _ (zS.2 (h.imp λ{x y} r=>?_));have d:∀x:Kt,(cmF a b c x).a=x.a/\(cmF a b c x).b=x.b/\(cmF a b c x).c=x.c/\(cmF a b c x).p=x.p:=λx=>by
    unfold cmF;split<;>exact⟨rfl,rfl,rfl,rfl⟩
   obtain⟨m,n,o,p⟩:=d x;obtain⟨g1,g2,g3,g4⟩:=d y;unfold LtK LtC at *;show(cmF a b c x).a<(cmF a b c y).a\/((cmF a b c x).a=(cmF a b c y).a/\((cmF a b c x).b<(cmF a b c y).b\/((cmF a b c x).b=(cmF a b c y).b/\((cmF a b c x).c<(cmF a b c y).c\/((cmF a b c x).c=(cmF a b c y).c/\(cmF a b c x).p<(cmF a b c y).p)))));rw[m,n,o,p,g1,g2,g3,g4];exact r
 by_cases i:kd=7
 ·subst i
  rw[IO];cases f:abE X a b c with
  |some k=>exact h
  |none=>exact h.filter _
 by_cases j:kd=8
 ·subst j
  rw[IP];exact h.filter _
 ·rw[Nb g (λd=>e (.inl d)) (λd=>e (.inr d)) i j]
  exact h
end
def kOf(c:Kc):Kt:=⟨c.a,c.b,c.c,c.s,c.l,c.p,.pointer By⟩
section
variable {X Y Z ks ks0 B:List Kt}{fr fr':List Nat}{kd a b c:Int}{l:List Nat}{np j:Nat}{x y kx:Kt}{P:Kt->Bool}
theorem cF{x x' y a:Kt}(e:x.core=x'.core)(g:y.core=a.core):Ew x y=Ew x' a:=by
 obtain⟨b,c,d,f,_,h⟩:=EP e;obtain⟨g1,g2,g3,g4,_,g6⟩:=EP g;refine decide_eq_decide.2 ?_;unfold Uf;rw[b,c,d,f,h,g1,g2,g3,g4,g6]
theorem YS{x':Kt}(b:(X.map Kt.core).Perm (Y.map Kt.core))(e:x.core=x'.core):X.any (Ew x)=Y.any (Ew x'):=by
 have a:∀(X:List Kt) (x:Kt),X.any (Ew x)=(X.map Kt.core).any λc=>Ew x (kOf c):=λX x=>by
  rw[List.any_map];rfl
 rw[a X x,a Y x',b.any_eq];exact congrArg (List.any _) (funext λc=>cF e rfl)
theorem dr(pm:(ks0.map Kt.core).Perm (X.map Kt.core))(hY:Y=ES (B5 ks0) (B5 ks0)):(Y.map Kt.core).Perm ((ES X X).map Kt.core):=by
 have hs:((B5 ks0).map Kt.core).Perm (X.map Kt.core):=((EV ks0).map _).trans pm;have h:∀S:List Kt,(S.map Kt.core).Perm (X.map Kt.core)->(ES S S).map Kt.core=(S.map Kt.core).filter λc=> !X.any (Ew (kOf c)):=λS q=>by
  rw[List.filter_map];unfold ES;refine congrArg _ (ze λx _=>?_);show(!S.any (Ew x))= !X.any (Ew (kOf x.core));rw[YS q (x:=x) (x':=kOf x.core) rfl]
 rw[hY,h _ hs,h X (.refl _)];exact hs.filter _
theorem rn(b:(ks0.map Kt.core).Perm (X.map Kt.core))(d:(X.map Kt.key).Nodup)(a:Y=ES (B5 ks0) (B5 ks0))(c:Z.Pairwise LtK)(e:(Z.map Kt.core).Perm ((ES X X).map Kt.core)):Cg Y Z:=
 Tc (by rw[a];exact(I9 (NS b d)).filter _) c ((dr b a).trans e.symm)
theorem dF(e:(X.map Kt.key).Nodup)(c:Com X)(a:x∈X)(b:y∈X):¬Uf x y:=by
 rintro⟨g1,g2,g3,g4,g5⟩;have f:=c x a y b g1 g2 g4;have d:y.c=x.c:=by
  rcases g5 with g5|g5
  ·omega
  ·exact g5.1
 exact g3 (by rw[DA e b a (by show(y.a,y.b,y.c)=(x.a,x.b,x.c);rw[g1,g2,d])])
theorem HJ(b:(X.map Kt.key).Nodup)(a:Com X):ES X X=X:=yv.2 λx c=>by
 have:X.any (Ew x)=IS:=ABO.2 λy d=>by
  unfold Ew;rw[decide_eq_false (dF b a c d)];decide
 rw[this];rfl
theorem Com.fil(a:Com X):Com (X.filter P):=λx b y c=>a x (wb.1 b).1 y (wb.1 c).1
theorem tQ{y:Kt}(a:ks[j]? =BY kx):y∈ks.set j y:=wO (i:=j) (by
 rw[List.getElem?_set_self (wW.1 a).1])
theorem ag(iv:AFE np B fr)(hc:Com B)(hj:B[j]? =BY kx)(hst:Bp kx.a kx.b kx.c B=IS)(hP:∀k∈cmK B j kx,P k=IN->elB kx.a kx.b kx.c k=IN)(hX:X=(cmK B j kx).filter λk=> !P k):
  ES X X=(cmK B j kx).filter λk=> !elB kx.a kx.b kx.c k:=by
 have hm:=wO hj;have hq:({kx with s:=2}:Kt)∈cmK B j kx:=tQ hj;have hel:∀k:Kt,elB kx.a kx.b kx.c k=IN↔k.a=kx.a/\k.b=kx.b/\k.c<kx.c:=λk=>by
  unfold elB;rw[wV,wV,decide_eq_true_iff,decide_eq_true_iff,decide_eq_true_iff];exact⟨λh=>⟨h.1.1,h.1.2,h.2⟩,λh=>⟨⟨h.1,h.2.1⟩,h.2.2⟩⟩
 have hqX:({kx with s:=2}:Kt)∈X:=by
  rw[hX];refine wb.2 ⟨hq,?_⟩;cases h:P {kx with s:=2}
  ·rfl
  ·have:=((hel _).1 (hP _ hq h)).2.2
   have:kx.c<kx.c:=this;omega
 have key:∀x∈cmK B j kx,X.any (Ew x)=elB kx.a kx.b kx.c x:=λx hx=>by
  cases he:elB kx.a kx.b kx.c x
  ·refine ABO.2 λy hy h=>?_
   rw[hX]at hy;obtain⟨g1,g2,g3,g4,g5⟩:Uf x y:=of_decide_eq_true h;have hne:¬(x.a=kx.a/\x.b=kx.b/\x.c<kx.c):=λq=>by rw[(hel x).2 q]at he;cases he
   rcases Il iv hj y (wb.1 hy).1 with rfl|⟨hyB,hyp⟩
   ·have g1:kx.a=x.a:=g1
    have g2:kx.b=x.b:=g2;have g5:x.c<kx.c\/kx.c=x.c/\x.s=1:=g5;rcases g5 with g5|⟨g5,g6⟩
    ·exact hne ⟨g1.symm,g2.symm,g5⟩
    ·rcases Il iv hj x hx with rfl|⟨hxB,hxp⟩
     ·have g6:(2:Nat)=1:=g6
      omega
     ·exact hxp (by rw[DA iv.key hxB hm (by show(x.a,x.b,x.c)=(kx.a,kx.b,kx.c);rw[g1,g2,g5])])
   ·rcases Il iv hj x hx with rfl|⟨hxB,hxp⟩
    ·have g1:y.a=kx.a:=g1
     have g2:y.b=kx.b:=g2;have:=Ib hc hst y hyB g1 g2 g4;have g5:kx.c<y.c\/y.c=kx.c/\(2:Nat)=1:=g5;omega
    ·exact dF iv.key hc hxB hyB ⟨g1,g2,g3,g4,g5⟩
  ·obtain⟨e1,e2,e3⟩:=(hel x).1 he
   refine List.any_eq_true.2 ⟨_,hqX,decide_eq_true ⟨e1.symm,e2.symm,λh=>?_,rfl,.inl e3⟩⟩;have h:kx.p=x.p:=h;rcases Il iv hj x hx with rfl|⟨hxB,hxp⟩
   ·have:kx.c<kx.c:=e3
    omega
   ·exact hxp h.symm
 have e1:ES X X=X.filter λx=> !X.any (Ew x):=rfl
 rw[e1];generalize hQ:(λx=>X.any (Ew x))=Q;have hQ:∀x,X.any (Ew x)=Q x:=λx=>congrFun hQ x
 rw[show(X.filter λx=> !X.any (Ew x))=X.filter λx=> !Q x from ze λx _=>by rw[hQ],hX,Wu];refine ze λk hk=>?_
 have h1:=key k hk;rw[hQ]at h1;rw[h1];cases hp:P k
 ·rfl
 ·rw[hP k hk hp];rfl
theorem gA(iv:AFE np B fr)(hc:Com B)(t:Aft B fr kd a b c l X)(ix:AFE np X fr'):
  (kd≠8/\((ES X X).map Kt.core).Perm (B.map Kt.core))\/(kd≠8/\((ES X X).map Kt.core).Perm ((nxt B fr kd a b c l).1.map Kt.core))\/(kd=8/\∃P:Kt->Bool,(∀k∈B,P k=IN->drB a b c k=IN)/\ES X X=B.filter λk=> !P k):=by
 rcases t with rfl|⟨h14,hz,p,fr2,k',hf,hk,hX⟩|⟨h56,j,kx,P,hj,⟨rfl,rfl,rfl⟩,hst,hP,hX⟩|⟨rfl,j,kx,P,hj,⟨rfl,rfl,rfl⟩,hst,hP,hX⟩|⟨rfl,P,hP,hX⟩
 ·by_cases h8:kd=8
  ·exact .inr (.inr ⟨h8,λ_=>IS,(λ_ _ h=>by cases h),by
    rw[HJ iv.key hc];exact(yv.2 λ_ _=>rfl).symm⟩)
  ·exact .inl ⟨h8,by rw[HJ iv.key hc]⟩
 ·have h8:kd≠8:=by unfold Di at h14;omega
  have t:Ml [] [] B fr kd a b c l (Dc [] [] p l (AEc [] a b c 1 l)) X fr2:=.inl ⟨h14,hz,p,k',hf,hX,hk,rfl⟩;have h1:=(Tg iv hc t).1;have hcX:Com X:=λx hx y hy e1 e2 e3=>by
   rw[hX,FJ,wd,wP]at hx hy;obtain⟨q1,q2,q3,q4,_,_⟩:=EP (y:=⟨a,b,c,1,l,p,.pointer By⟩) hk;have q1:k'.a=a:=q1;have q2:k'.b=b:=q2;have q3:k'.c=c:=q3;have q4:k'.s=1:=q4;have hyB:y∈B:=by
    rcases hy with hy|rfl
    ·exact hy
    ·rw[q4]at e3;cases e3
   rcases hx with hx|rfl
   ·exact hc x hx y hyB e1 e2 e3
   ·have hst:Bp a b c B=IS:=by
     unfold Dn at hz;split at hz
     ·cases hz
     ·cases hf:B.find? (BI a b c)with
      |some k=>
       rw[hf]at hz;have hz:(if k.l=l then BY (0:Int)else BY 60)=By:=hz;split at hz<;>cases hz
      |none=>
       rw[hf]at hz;cases hs:Bp a b c B
       ·rfl
       ·rw[hs]at hz;cases hz
    have:=Ib hc hst y hyB (e1.trans q1) (e2.trans q2) e3;omega
  exact .inr (.inl ⟨h8,by rw[HJ ix.key hcX,show X.map Kt.core=(nxt B fr kd a b c l).1.map Kt.core from h1]⟩)
 ·have h8:kd≠8:=by omega
  have hf:BI kx.a kx.b kx.c kx=IN:=E7 rfl;refine .inr (.inl ⟨h8,?_⟩);rw[FX h56,WW iv hc hj hf hst,ag iv hc hj hst hP hX,Pf iv.key hj hf]
 ·have h8:(7:Int)≠8:=by omega
  have hf:BI kx.a kx.b kx.c kx=IN:=E7 rfl;have hm:=wO hj;have hcX:Com X:=by rw[hX];exact hc.fil
  have hone:∀k∈B,P k=IN->k=kx:=λk hk h=>DA iv.nd hk hm (hP k hk h)
  have ab:abE B kx.a kx.b kx.c=By:=by
   unfold abE;rw[If (by rw[hst];decide),H3 (a:=kx.a) (b:=kx.b) (c:=kx.c) iv.key hm rfl]
  cases hp:P kx
  ·refine .inl ⟨h8,?_⟩
   rw[HJ ix.key hcX,hX,yv.2 λk hk=>by
    cases h:P k
    ·rfl
    ·rw[hone k hk h,hp]at h;cases h]
  ·refine .inr (.inl ⟨h8,?_⟩)
   rw[HJ ix.key hcX,hX,IO,ab];show((B.filter λk=> !P k).map Kt.core).Perm ((B.filter λk=> !BI kx.a kx.b kx.c k).map Kt.core);rw[ze λk hk=>show(!P k)= !BI kx.a kx.b kx.c k by
    cases h:P k
    ·cases h2:BI kx.a kx.b kx.c k
     ·rfl
     ·have:=DA iv.key hk hm (Fy h2)
      rw[this,hp]at h;cases h
    ·rw[hone k hk h,hf]]
 ·refine .inr (.inr ⟨rfl,P,hP,?_⟩)
  have hcX:Com X:=by rw[hX];exact hc.fil
  rw[HJ ix.key hcX,hX]
end
structure Kps (A:At)(T:List Nat)(P:(Nat->Prop)->Hp->Prop):Prop where
 ext:∀{X:Nat->Prop} {h h':Hp},P X h->h.Wf->h.Ext h'->P X h'
 same:∀{X:Nat->Prop} {h h':Hp},P X h->h'.bl=h.bl->P X h'
 more:∀{X:Nat->Prop} {h:Hp} {r:Nat},P X h->h.Wf->h.next<=r->P (λb=>X b\/b=r) h
 less:∀{X S:Nat->Prop} {h:Hp},P X h->(∀b,S b->X b)->P S h
 wr:∀{X:Nat->Prop} {h h':Hp} {r:Nat} {L L':List vz},h.Wf->P X h->X r->h.Row r 0 L->h'.Row r 0 L'->Fx (λb=>b=r) h h'->¬A.D r->A.tb≠r->Odd L->P X h'
 lt:∀{X:Nat->Prop} {h:Hp},P X h->h.Wf->∀b,A.D b->b<h.next
 tab:∀{X:Nat->Prop} {h:Hp},P X h->h.Row A.tb 0 (T.map wv)/\AFD T/\¬A.D A.tb
section
variable {fa:Bool}{h h':Hp}{R:Int->Prop}{X:Nat->Prop}{P Q:(Nat->Prop)->Hp->Prop}{A:At}{T M:List Nat}{c0 bad m k n r:Nat}{arm a b c z kd:Int}{ks ks':List Kt}{fr fr' l:List Nat}{lv fv u:vz}{cs:List (Nat×List Nat)}
theorem kpU:Kps A T λX h=>UpP R X h A T ks fr:=
 ⟨λa b n=>a.ext b n,λa j=>a.same j,λa b k=>a.more b k,λa g=>a.less g,λb a i d c e f l m=>a.wr b i d c e f l m,λa b=>a.lt b,λa=>a.tab⟩
theorem kpD:Kps A T λ_ h=>AFQ fa h A T M cs:=
 ⟨λa c t=>a.ext c t,λa f=>a.same f,λa _ _=>a,λa _=>a,λc a _ _ _ e d l _=>by
  obtain⟨⟨lv,fv,bad,r⟩,⟨c0,k⟩,s,m,n,o,p,q⟩:=a;exact⟨⟨lv,fv,bad,e.row c r λh=>d (by rw[<- h];exact .inl rfl)⟩,⟨c0,k.fr c e (λh=>d (by rw[<- h];exact .inr (.inl rfl))) (λh=>d (by rw[<- h];exact .inr (.inr (.inl rfl)))) (λh=>d (by rw[<- h];exact .inr (.inr (.inr rfl))))⟩,e.row c s l,m,n,o,p,q⟩,λa c b f=>by
  obtain⟨⟨lv,fv,bad,r⟩,⟨c0,k⟩,_⟩:=a;obtain⟨g,i,j⟩:=k.lt c;rcases f with rfl|rfl|rfl|rfl
  ·exact r.lt c
  ·exact g
  ·exact i
  ·exact j,λa=>⟨a.tab,a.tok,a.ne.2.2.2.1⟩⟩
theorem Kps.ex{p:Type}{P:p->(Nat->Prop)->Hp->Prop}(K:∀i,Kps A T (P i)):Kps A T λX h=>∃i,P i X h:=
 ⟨λ⟨i,a⟩ b o=>⟨i,(K i).ext a b o⟩,λ⟨i,a⟩ k=>⟨i,(K i).same a k⟩,λ⟨i,a⟩ b l=>⟨i,(K i).more a b l⟩,λ⟨i,a⟩ g=>⟨i,(K i).less a g⟩,λb ⟨i,a⟩ j d c e f m n=>⟨i,(K i).wr b a j d c e f m n⟩,λ⟨i,a⟩ b=>(K i).lt a b,λ⟨i,a⟩=>(K i).tab a⟩
theorem Kps.or(K:Kps A T P)(c:Kps A T Q):Kps A T λX h=>P X h\/Q X h:=
 ⟨λa b o=>a.imp (λa=>K.ext a b o) λa=>c.ext a b o,λa k=>a.imp (λa=>K.same a k) λa=>c.same a k,λa b l=>a.imp (λa=>K.more a b l) λa=>c.more a b l,λa i=>a.imp (λa=>K.less a i) λa=>c.less a i,λb a j e d f g m n=>a.imp (λa=>K.wr b a j e d f g m n) λa=>c.wr b a j e d f g m n,λa b=>a.elim (λa=>K.lt a b) λa=>c.lt a b,λa=>a.elim (λa=>K.tab a) λa=>c.tab a⟩
theorem Kps.an{p:Prop}(K:Kps A T P):Kps A T λX h=>P X h/\p:=
 ⟨λ⟨a,b⟩ c o=>⟨K.ext a c o,b⟩,λ⟨a,b⟩ k=>⟨K.same a k,b⟩,λ⟨a,b⟩ c l=>⟨K.more a c l,b⟩,λ⟨a,b⟩ i=>⟨K.less a i,b⟩,λc ⟨a,b⟩ j e d f g m n=>⟨K.wr c a j e d f g m n,b⟩,λ⟨a,_⟩ c=>K.lt a c,λ⟨a,_⟩=>K.tab a⟩
def Rs(fa:Bool)(A:At)(T:List Nat)(ks:List Kt)(fr:List Nat)(kd a b c:Int)(l:List Nat)(z:Int)(X:Nat->Prop)(h:Hp):Prop:=
 (∃ks':List Kt,∃fr':List Nat,UpP (AFH fa) X h A T ks' fr'/\Stp T ks fr kd a b c l z ks' fr')\/(∃M:List Nat,∃cs:List (Nat×List Nat),AFQ fa h A T M cs/\(z=15/\AFi 8 T M cs (Aft ks fr kd a b c l)))
theorem jE:Kps A T (Rs fa A T ks fr kd a b c l z):=(Kps.ex λ_=>Kps.ex λ_=>kpU.an).or (Kps.ex λ_=>Kps.ex λ_=>kpD.an)
theorem KY{q:List Nat×List (Nat×List Nat)}(j:AFR 8 T M ks fr)(iv:AFE 8 ks fr)(g:Com ks)(e:∀x∈l,x<256)(f:so T M ks fr kd a b c l q)(d:AFQ fa h A T q.1 q.2):Rs fa A T ks fr kd a b c l 15 X h:=
 .inr ⟨q.1,q.2,d,rfl,λk i=>Yl j iv g e f i⟩
theorem sD(k:h.Wf)(Y:A.n=24)(I:UpP (AFH fa) X h A T ks fr)(O:∀b,X b->b<h.next)(t:h.VE u (l.map bv))(e:∀x∈l,x<256)(C:l.length<=1000):
  ∃z h',call AC (m+8) 54 [pt A.bs,AI AT a,AI AT b,AI AT c,u] h=.ok (AI AT z) h'/\Fx A.D h h'/\Rs fa A T ks fr 1 a b c l z X h':=by
 obtain⟨⟨M,c0,arm,lv,fv,q,iv,p,o,B⟩,D⟩:=I;have Z:=iv.len;cases f:Dn ks fr.length a b c l with
 |some z=>
  obtain⟨d,g,G⟩:=eL (m:=m) k q t C f;exact⟨z,d,g,.of G,.inl ⟨ks,fr,⟨⟨M,c0,arm,lv,fv,q.ext k G,iv,p,o,B⟩,D⟩,.inl ⟨.inl ⟨.inl rfl,f⟩,rfl,rfl⟩⟩⟩
 |none=>
  obtain⟨j,i,rfl,r⟩:=ZU (m:=m) k q t e C (by omega) B f;rcases r with ⟨d,K,H,V,N,F,g,n,s2,Q,J,S⟩|⟨U,d,R,g,n,L⟩
  ·have s:Ml T M ks (j::i) 1 a b c l (Dc T M j l (AEc T a b c 1 l)) (B5 (ks++[F])) i:=.inl ⟨.inl rfl,f,j,F,rfl,rfl,Q,rfl⟩
   obtain⟨W,P,_⟩:=Id iv p o s;refine⟨0,d,g,n,.inl ⟨_,i,⟨⟨_,K,H,V,N,s2,(G9 iv s).1,W,P,J⟩,λx E b e y=>?_⟩,.inr ⟨rfl,M,_,s⟩⟩⟩;rw[FJ,wd,wP]at E;rcases E with w|rfl
   ·exact D x w b e y
   ·have w:=S b e
    have d:=O b y;omega
  ·exact⟨15,d,g,n,KY p iv o e (.inl ⟨.inl rfl,f,j,i,U,rfl,R,rfl⟩) L⟩
theorem sB(s:h.Wf)(L:A.n=24)(G:UpP (AFH fa) X h A T ks fr)(a b c:Int):
  ∃z h',call AC (m+8) 55 [pt A.bs,AI AT a,AI AT b,AI AT c] h=.ok (AI AT z) h'/\Fx A.D h h'/\Rs fa A T ks fr 5 a b c [] z X h':=by
 have D:∀q∈([]:List Nat),q<256:=λq j=>by cases j
 obtain⟨⟨M,c0,arm,lv,fv,y,iv,p,o,C⟩,j⟩:=G;have S:=iv.len;cases l:Fe ks a b c with
 |some z=>
  obtain⟨e,f,E⟩:=aq (m:=m) s y l;exact⟨z,e,f,.of E,.inl ⟨ks,fr,⟨⟨M,c0,arm,lv,fv,y.ext s E,iv,p,o,C⟩,j⟩,.inl ⟨.inr (.inl ⟨.inl rfl,l⟩),rfl,rfl⟩⟩⟩
 |none=>
  obtain⟨g,d,n,R,U,x,r⟩:=ai (m:=m) s y (a:=a) (b:=b) (c:=c) (by omega) (λz l=>by rw[L];exact iv.lt z l) iv.nd C l;obtain⟨rfl,rfl,rfl⟩:=R;rcases r with ⟨e,I,F,P,J,f,i,s2,H⟩|⟨w,e,u,f,i,t⟩|⟨w,e,u,f,i,t⟩
  ·have B:Ml T M ks fr 5 d.a d.b d.c [] (Gj (EX M d.p (AEc T d.a d.b d.c 2 d.l)) (cmO ks g d)) ((cmK ks g d).filter λk=> !elB d.a d.b d.c k) (frE fr ((cmK ks g d).filter (elB d.a d.b d.c))):=.inr (.inl ⟨.inl rfl,g,d,n,⟨rfl,rfl,rfl⟩,x,rfl,rfl,rfl⟩)
   obtain⟨Q,N,_⟩:=Id iv p o B;refine⟨0,e,f,i,.inl ⟨_,_,⟨⟨_,I,F,P,J,s2,(G9 iv B).1,Q,N,H⟩,λq O=>?_⟩,.inr ⟨rfl,M,_,B⟩⟩⟩;rcases mem_set n (wb.1 O).1 with rfl|K
   ·exact j d (wO n)
   ·exact j q K
  ·exact⟨15,e,f,i,KY p iv o D (.inr (.inl ⟨.inl rfl,g,d,w,n,⟨rfl,rfl,rfl⟩,x,u,rfl⟩)) t⟩
  ·exact⟨15,e,f,i,KY p iv o D (.inr (.inr (.inl ⟨.inl rfl,g,d,w,n,⟨rfl,rfl,rfl⟩,x,u,rfl⟩))) t⟩
theorem sA(j:h.Wf)(I:A.n=24)(D:UpP (AFH fa) X h A T ks fr)(a b c:Int):
  ∃z h',call AC (m+9) 56 [pt A.bs,AI AT a,AI AT b,AI AT c] h=.ok (AI AT z) h'/\Fx A.D h h'/\Rs fa A T ks fr 7 a b c [] z X h':=by
 have J:∀i∈([]:List Nat),i<256:=λi g=>by cases g
 obtain⟨⟨M,c0,arm,lv,fv,p,iv,o,n,s⟩,g⟩:=D;have R:=iv.len;cases e:abE ks a b c with
 |some z=>
  obtain⟨d,f,B⟩:=mK (m:=m) j p e;exact⟨z,d,f,.of B,.inl ⟨ks,fr,⟨⟨M,c0,arm,lv,fv,p.ext j B,iv,o,n,s⟩,g⟩,.inl ⟨.inr (.inr (.inl ⟨rfl,e⟩)),rfl,rfl⟩⟩⟩
 |none=>
  obtain⟨t,u,w,x,y,r⟩:=YQ (m:=m) j p (a:=a) (b:=b) (c:=c) (by omega) (λz e=>by rw[I];exact iv.lt z e) s e;rcases r with ⟨d,F,C,P,H,f,k,s2,E⟩|⟨O,d,L,f,k,G⟩
  ·have q:Ml T M ks fr 7 a b c [] _ _ _:=.inr (.inr (.inl ⟨rfl,t,u,w,x,y,rfl,rfl,rfl⟩))
   obtain⟨Q,K,_⟩:=Id iv o n q;refine⟨0,d,f,k,.inl ⟨_,_,⟨⟨_,F,C,P,H,s2,(G9 iv q).1,Q,K,E⟩,λi N=>g i ?_⟩,.inr ⟨rfl,M,_,q⟩⟩⟩;rcases wd.1 N with l|l
   ·exact xk l
   ·exact yx l
  ·exact⟨15,d,f,k,KY o iv n J (.inr (.inr (.inr (.inl ⟨rfl,t,u,O,w,x,y,L,rfl⟩)))) G⟩
theorem sC(p:h.Wf)(u:A.n=24)(o:UpP (AFH fa) X h A T ks fr)(a b c:Int):
  ∃z h',call AC (m+9) 63 [pt A.bs,AI AT a,AI AT b,AI AT c] h=.ok (AI AT z) h'/\Fx A.D h h'/\Rs fa A T ks fr 8 a b c [] z X h':=by
 have x:∀d∈([]:List Nat),d<256:=λd g=>by cases g
 obtain⟨⟨M,c0,arm,lv,fv,K,iv,l,k,w⟩,g⟩:=o;have L:=iv.len;rcases ba (m:=m) p K a b c (by omega) (λz E=>by rw[u];exact iv.lt z E) w with ⟨f,r,n,G,t,i,e,s2,q⟩|⟨f,I,d,J,F,i,C,B,e,s⟩
 ·have j:Ml T M ks fr 8 a b c [] _ _ _:=.inr (.inr (.inr ⟨rfl,rfl,rfl,rfl⟩))
  obtain⟨H,y,_⟩:=Id iv l k j;exact⟨0,f,i,e,.inl ⟨_,_,⟨⟨_,r,n,G,t,s2,(G9 iv j).1,H,y,q⟩,λd D=>g d (wb.1 D).1⟩,.inr ⟨rfl,M,_,j⟩⟩⟩
 ·exact⟨15,f,i,e,KY l iv k x (.inr (.inr (.inr (.inr ⟨rfl,I,d,J,F,C,B,rfl⟩)))) s⟩
end
section
variable {F:AES}{e:Env}{h h' g:Hp}{S X:Nat->Prop}{P:(Nat->Prop)->Hp->Prop}{Q:Int->(Nat->Prop)->Hp->Prop}{A:At}{T:List Nat}{m n nb op:Nat}{AEl lf sq a b c z err room:Int}{l:List Nat}{v u iv bw:vz}
theorem vX(K:Kps A T P)(s:∀z,Kps A T (Q z))(i:h.Wf)(U:h.Row nb 0 (AEq A.bd A.tb A.bs AEl))(w:P X h)(hX:∀b,X b->b<h.next)(a0:h.VE u (l.map bv))
  (sl:∀(g:Hp) (Y:Nat->Prop),g.Wf->P Y g->(∀b,Y b->b<g.next)->g.VE u (l.map bv)->∃z x,call AC (m+9) 54 [pt A.bs,AI AT a,AI AT b,AI AT c,u] g=.ok (AI AT z) x/\Fx A.D g x/\Q z Y x):
  ∃z h',call AC (m+10) 29 [pt nb,DJ lf sq op a b c u] h=.ok (Bs 0 0 0 z AEW AEW 0) h'/\Fx A.D h h'/\Q z X h':=by
 have M:=λ(F:AES) (e:Env) (he:J 1 e=DJ lf sq op a b c u)=>Fg (F:=F) i he
 have j:=(Hp.Ext.refl i).AER 0 (CW lf sq op a b c u);have D:=Hp.Row.new i 0 (CW lf sq op a b c u);have n1:(h.AER 0 (CW lf sq op a b c u)).next=h.next+1:=rfl;generalize h.AER 0 (CW lf sq op a b c u)=d at M j D n1;have L:=λ(F:AES) (e:Env)=>BU (F:=F) (e:=e) j.wf (n:=7) (t:=Cq)
 have H:=Hp.Row.alloc j.wf Ev (show Dz.length=7 from rfl);have r:d.Ext (d.push (.cells Cq 7 0)):=(Hp.Ext.refl j.wf).push _;have n2:(d.push (.cells Cq 7 0)).next=d.next+1:=rfl;generalize d.push (.cells Cq 7 0)=f at L H r n2;have B:=j.trans r;have V:=K.ext (K.more (K.ext w i j) j.wf (wB d.next)) j.wf r;obtain⟨_,_,_,l3,l4,l5,l6,_⟩:=B3 ((D.ext j.wf r).same (h':=f.marked) rfl);obtain⟨_,_,nd,_⟩:=CB ((U.ext i B).same (h':=f.marked) rfl);have C:=B.marked;obtain⟨z,g,k3,f3,W⟩:=sl f.marked.quiet (λb=>X b\/b=d.next) C.quiet.wf (K.same (h':=f.marked.quiet) V rfl) (λb k=>by
  show b<f.next;rcases k with k|k
  ·have:=hX b k
   omega
  ·omega) ((a0.ext i B).same rfl)
 have R:∀e:Env,J 8 e=pt A.bs->J 10 e=AI AT a->J 12 e=AI AT b->J 14 e=AI AT c->J 16 e=u->AZ .free (AU 54 [J 8,J 10,J 12,J 14,J 16]) (call AC (m+9)) e f.marked=.ok (AI AT z) (f.marked.back g):=λe p o e3 e4 e5=>by
  refine BE ?_;rw[BG,AS,AS,AS,AS,AS,Av,p,o,e3,e4,e5];exact k3
 have q:=f3.back;have I:=(s z).same (h':=f.marked.back g) W rfl;generalize f.marked.back g=h3 at R q I;have O:¬A.D d.next:=λk=>by
  have:=K.lt w i _ k;omega
 have E:=q.row C.wf ((H.same (h':=f.marked) rfl)) O;have a3:=i.big;obtain⟨y,q4,N,G⟩:=GC (lf:=0) (sq:=0) (op:=0) (err:=z) (iv:=AEW) (bw:=AEW) (room:=0) q.wf E rfl (by omega) rfl rfl;have Z:=(s z).less (S:=X) ((s z).wr q.wf I (.inr rfl) E G N O (λe=>by
  have:=(K.tab w).1.lt i;omega) Dx) λb k=>.inl k
 refine⟨z,y,?_,Fx.new C q N (by omega),Z⟩;have bd:=λ(F:AES) (e:Env) (p:J 17 e=AI AT z)=>Ij (F:=F) (h:=h3) p
 have a2:=λ(F:AES) (e:Env) (p:J 4 e=pt d.next) (o:J 18 e=Bs 0 0 0 z AEW AEW 0)=>q4 F e (J 4) (J 18) p o
 have a1:∃o,d29 (call AC (m+9)) (Ay e0 0 [pt nb,DJ lf sq op a b c u]) h=.ret o y/\J 4 o=pt d.next:=by
  unfold d29;simp only[iN,wA,sT,sh,OF,reduceIte,M,L,Ar,An,AX,AH,AN,wC,AJ,AP,nd,l3,l4,l5,l6,R,bd,a2];exact⟨_,rfl,by simp[AG]⟩
 obtain⟨o,r1,r2⟩:=a1;rw[nl rfl,r1,A7,Df (h':=y) (v:=Bs 0 0 0 z AEW AEW 0) (by rw[r2];exact CY G)]
theorem vY(K:Kps A T P)(r:∀z,Kps A T (Q z))(j:h.Wf)(R:h.Row nb 0 (AEq A.bd A.tb A.bs AEl))(s:P X h)(hX:∀b,X b->b<h.next)
  (sl:∀(g:Hp) (Y:Nat->Prop),g.Wf->P Y g->(∀b,Y b->b<g.next)->∃z w,call AC (m+9) 55 [pt A.bs,AI AT a,AI AT b,AI AT c] g=.ok (AI AT z) w/\Fx A.D g w/\Q z Y w):
  ∃z h',call AC (m+10) 30 [pt nb,DJ lf sq op a b c u] h=.ok (Bs 0 0 0 z AEW AEW 0) h'/\Fx A.D h h'/\Q z X h':=by
 have I:=λ(F:AES) (e:Env) (he:J 1 e=DJ lf sq op a b c u)=>Fg (F:=F) j he
 have i:=(Hp.Ext.refl j).AER 0 (CW lf sq op a b c u);have B:=Hp.Row.new j 0 (CW lf sq op a b c u);have n1:(h.AER 0 (CW lf sq op a b c u)).next=h.next+1:=rfl;generalize h.AER 0 (CW lf sq op a b c u)=d at I i B n1;have H:=λ(F:AES) (e:Env)=>BU (F:=F) (e:=e) i.wf (n:=7) (t:=Cq)
 have E:=Hp.Row.alloc i.wf Ev (show Dz.length=7 from rfl);have q:d.Ext (d.push (.cells Cq 7 0)):=(Hp.Ext.refl i.wf).push _;have n2:(d.push (.cells Cq 7 0)).next=d.next+1:=rfl;generalize d.push (.cells Cq 7 0)=f at H E q n2;have O:=i.trans q;have U:=K.ext (K.more (K.ext s j i) i.wf (wB d.next)) i.wf q;obtain⟨_,_,_,l3,l4,l5,l6,_⟩:=B3 ((B.ext i.wf q).same (h':=f.marked) rfl);obtain⟨_,_,nd,_⟩:=CB ((R.ext j O).same (h':=f.marked) rfl);have y:=O.marked;obtain⟨z,g,k3,f3,V⟩:=sl f.marked.quiet (λb=>X b\/b=d.next) y.quiet.wf (K.same (h':=f.marked.quiet) U rfl) (λb k=>by
  show b<f.next;rcases k with k|k
  ·have:=hX b k
   omega
  ·omega)
 have N:∀e:Env,J 8 e=pt A.bs->J 10 e=AI AT a->J 12 e=AI AT b->J 14 e=AI AT c->AZ .free (AU 55 [J 8,J 10,J 12,J 14]) (call AC (m+9)) e f.marked=.ok (AI AT z) (f.marked.back g):=λe o l e3 e4=>by
  refine BE ?_;rw[BG,AS,AS,AS,AS,Av,o,l,e3,e4];exact k3
 have p:=f3.back;have G:=(r z).same (h':=f.marked.back g) V rfl;generalize f.marked.back g=h3 at N p G;have M:¬A.D d.next:=λk=>by
  have:=K.lt s j _ k;omega
 have C:=p.row y.wf ((E.same (h':=f.marked) rfl)) M;have a2:=j.big;obtain⟨x,q4,L,D⟩:=GC (lf:=0) (sq:=0) (op:=0) (err:=z) (iv:=AEW) (bw:=AEW) (room:=0) p.wf C rfl (by omega) rfl rfl;have W:=(r z).less (S:=X) ((r z).wr p.wf G (.inr rfl) C D L M (λe=>by
  have:=(K.tab s).1.lt j;omega) Dx) λb k=>.inl k
 refine⟨z,x,?_,Fx.new y p L (by omega),W⟩;have Z:=λ(F:AES) (e:Env) (o:J 15 e=AI AT z)=>Ij (F:=F) (h:=h3) o
 have a1:=λ(F:AES) (e:Env) (o:J 4 e=pt d.next) (l:J 16 e=Bs 0 0 0 z AEW AEW 0)=>q4 F e (J 4) (J 16) o l
 have a0:∃l,d30 (call AC (m+9)) (Ay e0 0 [pt nb,DJ lf sq op a b c u]) h=.ret l x/\J 4 l=pt d.next:=by
  unfold d30;simp only[iN,wA,sT,sh,OF,reduceIte,I,H,Ar,An,AX,AH,AN,wC,AJ,AP,nd,l3,l4,l5,l6,N,Z,a1];exact⟨_,rfl,by simp[AG]⟩
 obtain⟨l,r1,r2⟩:=a0;rw[nr rfl,r1,A7,Df (h':=x) (v:=Bs 0 0 0 z AEW AEW 0) (by rw[r2];exact CY D)]
theorem vZ(K:Kps A T P)(r:∀z,Kps A T (Q z))(j:h.Wf)(R:h.Row nb 0 (AEq A.bd A.tb A.bs AEl))(s:P X h)(hX:∀b,X b->b<h.next)
  (sl:∀(g:Hp) (Y:Nat->Prop),g.Wf->P Y g->(∀b,Y b->b<g.next)->∃z w,call AC (m+9) 56 [pt A.bs,AI AT a,AI AT b,AI AT c] g=.ok (AI AT z) w/\Fx A.D g w/\Q z Y w):
  ∃z h',call AC (m+10) 31 [pt nb,DJ lf sq op a b c u] h=.ok (Bs 0 0 0 z AEW AEW 0) h'/\Fx A.D h h'/\Q z X h':=by
 have I:=λ(F:AES) (e:Env) (he:J 1 e=DJ lf sq op a b c u)=>Fg (F:=F) j he
 have i:=(Hp.Ext.refl j).AER 0 (CW lf sq op a b c u);have B:=Hp.Row.new j 0 (CW lf sq op a b c u);have n1:(h.AER 0 (CW lf sq op a b c u)).next=h.next+1:=rfl;generalize h.AER 0 (CW lf sq op a b c u)=d at I i B n1;have H:=λ(F:AES) (e:Env)=>BU (F:=F) (e:=e) i.wf (n:=7) (t:=Cq)
 have E:=Hp.Row.alloc i.wf Ev (show Dz.length=7 from rfl);have q:d.Ext (d.push (.cells Cq 7 0)):=(Hp.Ext.refl i.wf).push _;have n2:(d.push (.cells Cq 7 0)).next=d.next+1:=rfl;generalize d.push (.cells Cq 7 0)=f at H E q n2;have O:=i.trans q;have U:=K.ext (K.more (K.ext s j i) i.wf (wB d.next)) i.wf q;obtain⟨_,_,_,l3,l4,l5,l6,_⟩:=B3 ((B.ext i.wf q).same (h':=f.marked) rfl);obtain⟨_,_,nd,_⟩:=CB ((R.ext j O).same (h':=f.marked) rfl);have y:=O.marked;obtain⟨z,g,k3,f3,V⟩:=sl f.marked.quiet (λb=>X b\/b=d.next) y.quiet.wf (K.same (h':=f.marked.quiet) U rfl) (λb k=>by
  show b<f.next;rcases k with k|k
  ·have:=hX b k
   omega
  ·omega)
 have N:∀e:Env,J 8 e=pt A.bs->J 10 e=AI AT a->J 12 e=AI AT b->J 14 e=AI AT c->AZ .free (AU 56 [J 8,J 10,J 12,J 14]) (call AC (m+9)) e f.marked=.ok (AI AT z) (f.marked.back g):=λe o l e3 e4=>by
  refine BE ?_;rw[BG,AS,AS,AS,AS,Av,o,l,e3,e4];exact k3
 have p:=f3.back;have G:=(r z).same (h':=f.marked.back g) V rfl;generalize f.marked.back g=h3 at N p G;have M:¬A.D d.next:=λk=>by
  have:=K.lt s j _ k;omega
 have C:=p.row y.wf ((E.same (h':=f.marked) rfl)) M;have a2:=j.big;obtain⟨x,q4,L,D⟩:=GC (lf:=0) (sq:=0) (op:=0) (err:=z) (iv:=AEW) (bw:=AEW) (room:=0) p.wf C rfl (by omega) rfl rfl;have W:=(r z).less (S:=X) ((r z).wr p.wf G (.inr rfl) C D L M (λe=>by
  have:=(K.tab s).1.lt j;omega) Dx) λb k=>.inl k
 refine⟨z,x,?_,Fx.new y p L (by omega),W⟩;have Z:=λ(F:AES) (e:Env) (o:J 15 e=AI AT z)=>Ij (F:=F) (h:=h3) o
 have a1:=λ(F:AES) (e:Env) (o:J 4 e=pt d.next) (l:J 16 e=Bs 0 0 0 z AEW AEW 0)=>q4 F e (J 4) (J 16) o l
 have a0:∃l,d31 (call AC (m+9)) (Ay e0 0 [pt nb,DJ lf sq op a b c u]) h=.ret l x/\J 4 l=pt d.next:=by
  unfold d31;simp only[iN,wA,sT,sh,OF,reduceIte,I,H,Ar,An,AX,AH,AN,wC,AJ,AP,nd,l3,l4,l5,l6,N,Z,a1];exact⟨_,rfl,by simp[AG]⟩
 obtain⟨l,r1,r2⟩:=a0;rw[nt rfl,r1,A7,Df (h':=x) (v:=Bs 0 0 0 z AEW AEW 0) (by rw[r2];exact CY D)]
theorem va(K:Kps A T P)(r:∀z,Kps A T (Q z))(j:h.Wf)(R:h.Row nb 0 (AEq A.bd A.tb A.bs AEl))(s:P X h)(hX:∀b,X b->b<h.next)
  (sl:∀(g:Hp) (Y:Nat->Prop),g.Wf->P Y g->(∀b,Y b->b<g.next)->∃z w,call AC (m+9) 63 [pt A.bs,AI AT a,AI AT b,AI AT c] g=.ok (AI AT z) w/\Fx A.D g w/\Q z Y w):
  ∃z h',call AC (m+10) 34 [pt nb,DJ lf sq op a b c u] h=.ok (Bs 0 0 0 z AEW AEW 0) h'/\Fx A.D h h'/\Q z X h':=by
 have I:=λ(F:AES) (e:Env) (he:J 1 e=DJ lf sq op a b c u)=>Fg (F:=F) j he
 have i:=(Hp.Ext.refl j).AER 0 (CW lf sq op a b c u);have B:=Hp.Row.new j 0 (CW lf sq op a b c u);have n1:(h.AER 0 (CW lf sq op a b c u)).next=h.next+1:=rfl;generalize h.AER 0 (CW lf sq op a b c u)=d at I i B n1;have H:=λ(F:AES) (e:Env)=>BU (F:=F) (e:=e) i.wf (n:=7) (t:=Cq)
 have E:=Hp.Row.alloc i.wf Ev (show Dz.length=7 from rfl);have q:d.Ext (d.push (.cells Cq 7 0)):=(Hp.Ext.refl i.wf).push _;have n2:(d.push (.cells Cq 7 0)).next=d.next+1:=rfl;generalize d.push (.cells Cq 7 0)=f at H E q n2;have O:=i.trans q;have U:=K.ext (K.more (K.ext s j i) i.wf (wB d.next)) i.wf q;obtain⟨_,_,_,l3,l4,l5,l6,_⟩:=B3 ((B.ext i.wf q).same (h':=f.marked) rfl);obtain⟨_,_,nd,_⟩:=CB ((R.ext j O).same (h':=f.marked) rfl);have y:=O.marked;obtain⟨z,g,k3,f3,V⟩:=sl f.marked.quiet (λb=>X b\/b=d.next) y.quiet.wf (K.same (h':=f.marked.quiet) U rfl) (λb k=>by
  show b<f.next;rcases k with k|k
  ·have:=hX b k
   omega
  ·omega)
 have N:∀e:Env,J 8 e=pt A.bs->J 10 e=AI AT a->J 12 e=AI AT b->J 14 e=AI AT c->AZ .free (AU 63 [J 8,J 10,J 12,J 14]) (call AC (m+9)) e f.marked=.ok (AI AT z) (f.marked.back g):=λe o l e3 e4=>by
  refine BE ?_;rw[BG,AS,AS,AS,AS,Av,o,l,e3,e4];exact k3
 have p:=f3.back;have G:=(r z).same (h':=f.marked.back g) V rfl;generalize f.marked.back g=h3 at N p G;have M:¬A.D d.next:=λk=>by
  have:=K.lt s j _ k;omega
 have C:=p.row y.wf ((E.same (h':=f.marked) rfl)) M;have a2:=j.big;obtain⟨x,q4,L,D⟩:=GC (lf:=0) (sq:=0) (op:=0) (err:=z) (iv:=AEW) (bw:=AEW) (room:=0) p.wf C rfl (by omega) rfl rfl;have W:=(r z).less (S:=X) ((r z).wr p.wf G (.inr rfl) C D L M (λe=>by
  have:=(K.tab s).1.lt j;omega) Dx) λb k=>.inl k
 refine⟨z,x,?_,Fx.new y p L (by omega),W⟩;have Z:=λ(F:AES) (e:Env) (o:J 15 e=AI AT z)=>Ij (F:=F) (h:=h3) o
 have a1:=λ(F:AES) (e:Env) (o:J 4 e=pt d.next) (l:J 16 e=Bs 0 0 0 z AEW AEW 0)=>q4 F e (J 4) (J 16) o l
 have a0:∃l,d34 (call AC (m+9)) (Ay e0 0 [pt nb,DJ lf sq op a b c u]) h=.ret l x/\J 4 l=pt d.next:=by
  unfold d34;simp only[iN,wA,sT,sh,OF,reduceIte,I,H,Ar,An,AX,AH,AN,wC,AJ,AP,nd,l3,l4,l5,l6,N,Z,a1];exact⟨_,rfl,by simp[AG]⟩
 obtain⟨l,r1,r2⟩:=a0;rw[nw rfl,r1,A7,Df (h':=x) (v:=Bs 0 0 0 z AEW AEW 0) (by rw[r2];exact CY D)]
end
section
variable {fa:Bool}{F:AES}{e:Env}{h h' g:Hp}{R:Int->Prop}{S X:Nat->Prop}{A:At}{T M:List Nat}{bad m k n nb r r4 r6 r8 op:Nat}{AEl lf sq a b c z err room:Int}{ks ks':List Kt}{fr fr':List Nat}{v lv fv u w iv bw:vz}{x:Kt}{cs:List (Nat×List Nat)}
theorem lG{a:List vz}(f:g.Wf)(m:g.Row r 0 a)(o:a.length=7)(q:256<=r):
  ∃j,(∀(F:AES) (e:Env) (x y:O),x e=pt r->y e=Bs 0 0 0 0 AEW AEW 0->Ja x (Ad 7 x y) F e g=.ok AEU j)/\j.Row r 0 Dz/\Fx (λb=>b=r) g j:=by
 have d:g.quiet.Row r 0 a:=m.same rfl;have h:0+Dz.length<=a.length:=by rw[o];exact wB _
 have i:=d.AEa (n:=7) (off:=0) f.quiet q (v:=Bs 0 0 0 0 AEW AEW 0) rfl h (KR rfl rfl);have wr:=d.AEf f.quiet h;rw[FF (show a.length=Dz.length from o)]at wr;have fx:=Fx.wr (S:=λb=>b=r) f.quiet d h rfl;obtain⟨u,_,p,_⟩:=d.AFf h;have l:(g.quiet.wr r 0 Dz).low=r:=by
  rw[p];show B9 g.next r=r;have:=m.lt f;rw[BV];omega
 have k:(g.quiet.wr r 0 Dz).high=r:=by
  rw[p];show Cu 0 r=r;rw[Bz];omega
 have i:AEa 7 (pt r) (Bs 0 0 0 0 AEW AEW 0) g.quiet=.ok AEU (g.quiet.wr r 0 Dz):=i;generalize g.quiet.wr r 0 Dz=c at i wr fx l k;refine⟨g.back c,λF e x y s t=>?_,wr.same rfl,fx.back⟩;show(match Ad 7 x y F e g.quiet with|.ok v h'=>bif Hr (AE0 (x e)) g h'.low h'.high then DK g v h' else .no|.no=>.no)=_;rw[AV,s,t,i];show(bif Hr (.ok r) g c.low c.high then DK g AEU c else .no)=_;rw[l,k];have:Hr (.ok r) g r r=IN:=by
  show(bif wY r r then wY r r else IS)=IN;rw[Am.2 (wB r)];rfl
 rw[this];show DK g AEU c=_;unfold DK;simp only[Ae];rfl
theorem Zj(c:h.Wf)(o:h.Row nb 0 (AEq A.bd A.tb A.bs AEl))(d:AFQ fa h A T M cs)(u:¬A.D r6)(w:A.tb≠r6)(j:h.Row r6 0 Dz)(n:h.Row r8 0 (Ea 0 0 0 z iv bw 0))(H:r6≠r8)(t:256<=r6)
  (s0:J 0 e=pt nb)(s6:J 6 e=pt r6)(s8:J 8 e=pt r8):
  ∃f h',tdE (call AC (m+2)) e h=.ret f h'/\J 6 f=pt r6/\J 7 f=AI AT z/\Fx (λb=>b=r6) h h'/\h'.Row r6 0 Dz/\AFQ fa h' A T M cs:=by
 obtain⟨lv,fv,bad,Rs⟩:=d.row;obtain⟨_,_,y,_⟩:=CB o;have x:call AC (m+2) 35 [pt A.bs] h=.ok (.bool IN) h:=MX (m:=m+1) Rs;have p:=c.marked;obtain⟨G,_⟩:=N6 (n.same (h':=h.marked) rfl);have q:=λ(F:AES) (e:Env)=>V8 (F:=F) (e:=e) (h:=h.marked)
 obtain⟨i,D,l,s⟩:=lG p (j.same (h':=h.marked) rfl) rfl t;have E:=λ(F:AES) (e:Env) (a:J 6 e=pt r6) (g:J 31 e=Bs 0 0 0 0 AEW AEW 0)=>D F e (J 6) (J 31) a g
 have r:∀{k:C} {F:AES} {e:Env},J 6 e=.pointer (BY ⟨r6,0,By⟩)->J 32 e=.pointer (BY ⟨r8,3,By⟩)->Ck (J 6) [J 32] k F e h.marked=k F e h.marked:=λa g=>aK a g (by omega)
 have fx:Fx (λb=>b=r6) h i:=(Fx.of (Hp.Ext.refl c).marked).trans s;obtain⟨a,B,t6,t7⟩:∃a,tdE (call AC (m+2)) e h=.ret a i/\J 6 a=pt r6/\J 7 a=AI AT z:=by
  unfold tdE;simp only[sT,sh,OF,reduceIte,An,s0,AX,AH,AN,wC,AJ,AP,y,cA0,x,Ar,q,s8,G,r,s6,E];exact⟨_,rfl,by simp[AG,s6]⟩
 exact⟨a,i,B,t6,t7,fx,l,kpD.wr (X:=λb=>b=r6) c d rfl j l fx u w Dx⟩
theorem uu(n:h.Wf)(Rn:h.Row nb 0 (AEq A.bd A.tb A.bs AEl))(G:UpP R X h A T ks fr)(hX:∀b,X b->b<h.next)(b1:X nb)(a3:¬A.D nb)(b2:A.tb≠nb)(a6:256<=nb)(c2:AEl<=lf){f:Nat}{Y1:List Kt->List Nat->Int->Prop}{Y2:List Nat->List (Nat×List Nat)->Prop}
  (ap:∀(g:Hp) (Y:Nat->Prop),g.Wf->g.Row nb 0 (AEq A.bd A.tb A.bs lf)->UpP R Y g A T ks fr->(∀b,Y b->b<g.next)->Fx (λb=>b=nb) h g->∃z iv bw y,call AC (m+2) f [pt nb,DJ lf sq op a b c u] g=.ok (Bs 0 0 0 z iv bw 0) y/\Fx A.D g y/\oneCell iv=IN/\oneCell bw=IN/\((∃ks' fr',UpP R Y y A T ks' fr'/\Y1 ks' fr' z)\/∃M cs,AFQ fa y A T M cs/\z=15/\Y2 M cs)):
  (∃z iv bw h' ks' fr',call AC (m+3) 28 [pt nb,DJ lf sq op a b c u,.func (.func f) ⟨[]⟩ ⟨[]⟩] h=.ok (.tuple ⟨[Bs lf sq op z iv bw (fr'.length:Int),AI AT 0]⟩) h'/\Fx (λb=>A.D b\/b=nb) h h'/\h'.Row nb 0 (AEq A.bd A.tb A.bs lf)/\oneCell iv=IN/\oneCell bw=IN/\UpP R X h' A T ks' fr'/\Y1 ks' fr' z)\/
  (∃h' M cs,call AC (m+3) 28 [pt nb,DJ lf sq op a b c u,.func (.func f) ⟨[]⟩ ⟨[]⟩] h=.ok (.tuple ⟨[Bs 0 0 0 0 AEW AEW 0,AI AT 15]⟩) h'/\Fx (λb=>A.D b\/b=nb) h h'/\h'.Row nb 0 (AEq A.bd A.tb A.bs lf)/\AFQ fa h' A T M cs/\Y2 M cs):=by
 obtain⟨e1,k,r4,r6,r8,p1,p2,p3,p4,p5,p6,U,V,R6,R8,l4,O,C,b6,a4,U4,m6,m8⟩:=N7 (m:=m+2) (nb:=nb) (lf:=lf) (sq:=sq) (op:=op) (a:=a) (b:=b) (c:=c) (u:=u) (w:=.func (.func f) ⟨[]⟩ ⟨[]⟩) n G hX;have W4:=U.wf;have F:=Rn.ext n U;have c0:=n.big;have hD:=G.lt n;have hn:=Rn.lt n;obtain⟨b4,_,ht⟩:=G.tab;have c3:=b4.lt n;obtain⟨a0,_⟩:=B3 (V.same (h':=k.marked) rfl);obtain⟨_,_,_,b7⟩:=CB (F.same (h':=k.marked) rfl);have c1:iGe lf AEl=IN:=F0 (by omega);have xm:=(Hp.Ext.refl W4).marked;have q:=xm.wf;obtain⟨B,b8,p,a5,i,_⟩:=D9 (v:=AI AT lf) q (F.same (h':=k.marked) rfl) (off:=3) (by show 3<4;omega) a6 rfl rfl;have p:B.Row nb 0 (AEq A.bd A.tb A.bs lf):=p;have a5:B.next=k.next:=a5;have U5:=UpP.wr q (U4.same (h':=k.marked) rfl) (.inl (.inl b1)) (F.same (h':=k.marked) rfl) p i a3 b2 da;have a1:Fx (λb=>b=nb) h B:=(Fx.of (U.trans xm)).trans i;obtain⟨z,iv,bw,h6,k6,e,L,d,H⟩:=ap B _ i.wf p U5 (λb d=>by
  rcases d with (d|d)|d
  ·have:=hX b d
   omega
  ·omega
  ·omega) a1
 have l:∀r,h.next<=r->¬A.D r:=λr hr h=>by have:=hD _ h;omega
 have W:=i.row q (V.same (h':=k.marked) rfl) (by omega);have a7:=e.row i.wf W (l _ l4);have a9:=e.row i.wf (i.row q (R6.same (h':=k.marked) rfl) (by omega)) (l _ O);have E:=e.row i.wf (i.row q (R8.same (h':=k.marked) rfl) (by omega)) (l _ C);have b0:=e.row i.wf p a3;obtain⟨I,b9,j,t⟩:=D0 (lf:=0) (sq:=0) (op:=0) (err:=z) (iv:=iv) (bw:=bw) (room:=0) e.wf E rfl (by omega) L d;have a8:=j.row e.wf a7 (by omega);have Z:=j.row e.wf a9 (by omega);have x:=j.row e.wf b0 (by omega);obtain⟨_,_,_,_,_,_,_,b5⟩:=B3 W;have b3:∃o,tdM (call AC (m+2)) e1 k=tdE (call AC (m+2)) o I/\J 0 o=pt nb/\J 4 o=pt r4/\J 6 o=pt r6/\J 8 o=pt r8:=by
  rw[fM];unfold lF tdA;simp only[sT,sh,OF,reduceIte,Ar,p4,p2,p3,p6,AH,AN,wC,AJ,AP,a0,b7,An,AX,AM,AK,c1,AV,b8,Ai,Ac,b5,CN,CJ,AS,Av,xI,wT,k6,b9];exact⟨_,rfl,by simp[AG,p2,p4,p5,p6]⟩
 obtain⟨o,q1,q2,q4,q5,q6⟩:=b3;have a2:Fx (λb=>(A.D b\/b=nb)\/h.next<=b) h I:=((a1.mono λb d=>.inl (.inr d)).trans (e.mono λb d=>.inl (.inl d))).trans (j.mono λb d=>.inr (by omega));rcases H with ⟨ks',fr',H,N⟩|⟨M,cs,d6,rfl,N⟩
 ·have U7:=UpP.wr e.wf H (.inr rfl) E t j (l _ C) (by omega) Dx
  obtain⟨e3,K,P,Q,S,s,D,U8⟩:=Te (m:=m) j.wf x U7 ⟨.inl (.inr rfl),.inr rfl⟩ ⟨l _ O,l _ C⟩ ⟨by omega,by omega⟩ a8 Z t b6 a4 (by omega) (by omega) L d q2 q4 q5 q6;refine .inl ⟨z,iv,bw,K,ks',fr',?_,Fx.drop (a2.trans (s.mono λb d=>.inr (by rcases d with rfl|rfl<;>omega))),s.row j.wf x (by omega),L,d,U8.less λb d=>.inl (.inl d),N⟩;rw[UG rfl,p1,q1,P,A7,EY (v:=Bs lf sq op z iv bw fr'.length) (by rw[Q];exact CY D),S]
 ·have d7:AFQ fa I A T M cs:=kpD.wr (X:=λb=>b=r8) e.wf d6 rfl E t j (l _ C) (by omega) Dx
  obtain⟨e3,K,P,Q,S,s,D,d8⟩:=Zj (m:=m) j.wf x d7 (l _ O) (by omega) Z t a4 (by omega) q2 q5 q6;refine .inr ⟨K,M,cs,?_,Fx.drop (a2.trans (s.mono λb d=>.inr (by omega))),s.row j.wf x (by omega),d8,N⟩;rw[UG rfl,p1,q1,P,A7,EY (v:=Bs 0 0 0 0 AEW AEW 0) (by rw[Q];exact CY D),S]
end
def lO(op:Nat)(l:List Nat):List Nat:=if op=1 then l else []
def DoS(T:List Nat)(ks:List Kt)(fr:List Nat)(op:Nat)(a b c:Int)(l:List Nat)(e:List Kt)(d:List Nat):Prop:=
 ((op=4\/op=5)/\e=ks/\d=fr)\/((op≠4/\op≠5)/\∃f,Stp T ks fr (kdO op) a b c (lO op l) f e d)
def Zx(f:vz):Prop:=∃b e c g iv a d,f=Bs b e c g iv a d/\oneCell iv=IN/\oneCell a=IN
section
variable {fa:Bool}{h h' g:Hp}{X:Nat->Prop}{A:At}{T M:List Nat}{c0 m n nb r r3 r4 op:Nat}{arm AEl lf sq a b c z kd err room:Int}{ks ks':List Kt}{fr fr' l:List Nat}{v lv fv u iv bw:vz}{x:Kt}{cs:List (Nat×List Nat)}
theorem vW(i:h.Wf)(q:A.n=24)(o:h.Row nb 0 (AEq A.bd A.tb A.bs AEl))(f:UpP (AFH fa) X h A T ks fr)(r:∀b,X b->b<h.next)(H:h.VE u (l.map bv))(N:∀x∈l,x<256)(P:l.length<=1000)(Z:1<=op)(h6:op<=6):
  ∃z iv bw h',call AC (m+10) (fnO op) [pt nb,DJ lf sq op a b c u] h=.ok (Bs 0 0 0 z iv bw 0) h'/\Fx A.D h h'/\oneCell iv=IN/\oneCell bw=IN/\((∃ks' fr',UpP (AFH fa) X h' A T ks' fr'/\DoS T ks fr op a b c l ks' fr')\/∃M cs,AFQ fa h' A T M cs/\z=15/\(op≠4/\op≠5)/\AFi 8 T M cs (Aft ks fr (kdO op) a b c (lO op l))):=by
 have fin:∀{z:Int} {h':Hp} {kd:Int} {B:List Nat},op≠4->op≠5->kdO op=kd->lO op l=B->Rs fa A T ks fr kd a b c B z X h'->((∃ks' fr',UpP (AFH fa) X h' A T ks' fr'/\DoS T ks fr op a b c l ks' fr')\/∃M cs,AFQ fa h' A T M cs/\z=15/\(op≠4/\op≠5)/\AFi 8 T M cs (Aft ks fr (kdO op) a b c (lO op l))):=λ{z h' kd B} D E K L W=>by
  subst K L;rcases W with ⟨ks',fr',G,p⟩|⟨M,cs,J,U,g⟩
  ·exact .inl ⟨ks',fr',G,.inr ⟨⟨D,E⟩,z,p⟩⟩
  ·exact .inr ⟨M,cs,J,U,⟨D,E⟩,g⟩
 have S:op=1\/op=2\/op=3\/op=4\/op=5\/op=6:=by omega
 rcases S with rfl|rfl|rfl|rfl|rfl|rfl
 ·obtain⟨z,h',e,d,n⟩:=vX (m:=m) (lf:=lf) (sq:=sq) (op:=1) (a:=a) (b:=b) (c:=c) (u:=u) (l:=l) (Q:=λz=>Rs fa A T ks fr 1 a b c l z) kpU (λz=>jE) i o f r H λg w k j s I=>sD (m:=m+1) k q j s I N P
  exact⟨z,_,_,h',e,d,rfl,rfl,fin (by omega) (by omega) rfl rfl n⟩
 ·obtain⟨z,h',e,d,n⟩:=vY (m:=m) (lf:=lf) (sq:=sq) (op:=2) (a:=a) (b:=b) (c:=c) (u:=u) (Q:=λz=>Rs fa A T ks fr 5 a b c [] z) kpU (λz=>jE) i o f r λg w k j s=>sB (m:=m+1) k q j a b c
  exact⟨z,_,_,h',e,d,rfl,rfl,fin (by omega) (by omega) rfl rfl n⟩
 ·obtain⟨z,h',e,d,n⟩:=vZ (m:=m) (lf:=lf) (sq:=sq) (op:=3) (a:=a) (b:=b) (c:=c) (u:=u) (Q:=λz=>Rs fa A T ks fr 7 a b c [] z) kpU (λz=>jE) i o f r λg w k j s=>sA (m:=m) k q j a b c
  exact⟨z,_,_,h',e,d,rfl,rfl,fin (by omega) (by omega) rfl rfl n⟩
 ·obtain⟨⟨M,c0,arm,lv,fv,p,t,F,_⟩,_⟩:=id f
  have R:=t.len;obtain⟨h',V,z,iv,bw,e,d,O,C,Y,q6⟩:=tZ (m:=m) (lf:=lf) (sq:=sq) (op:=4) (a:=a) (b:=b) (c:=c) (u:=u) i o p (by omega) (λx y=>F.AIi y) (λx y=>by have:=t.lt x y;omega);exact⟨z,iv,bw,h',e,.of d,C,Y,.inl ⟨ks,fr,f.ext i d,.inl ⟨.inl rfl,rfl,rfl⟩⟩⟩
 ·obtain⟨⟨M,c0,arm,lv,fv,p,t,F,_⟩,_⟩:=id f
  have R:=t.len;obtain⟨h',V,iv,e,d,O,C⟩:=tW (m:=m) (lf:=lf) (sq:=sq) (op:=5) (a:=a) (b:=b) (c:=c) (u:=u) i o p (by omega);exact⟨0,iv,_,h',e,.of d,(Uh C).2.2,rfl,.inl ⟨ks,fr,f.ext i d,.inl ⟨.inr rfl,rfl,rfl⟩⟩⟩
 ·obtain⟨z,h',e,d,n⟩:=va (m:=m) (lf:=lf) (sq:=sq) (op:=6) (a:=a) (b:=b) (c:=c) (u:=u) (Q:=λz=>Rs fa A T ks fr 8 a b c [] z) kpU (λz=>jE) i o f r λg w k j s=>sC (m:=m) k q j a b c
  exact⟨z,_,_,h',e,d,rfl,rfl,fin (by omega) (by omega) rfl rfl n⟩
theorem doK(j:h.Wf)(hA:A.n=24)(y:h.Row nb 0 (AEq A.bd A.tb A.bs AEl))(C:UpP (AFH fa) X h A T ks fr)(hX:∀b,X b->b<h.next)(a0:X nb)(a3:¬A.D nb)(a4:A.tb≠nb)(V:256<=nb)(O:h.VE u (l.map bv))(d:∀x∈l,x<256)(hl:l.length<=1000)(a6:∀b,AEu u b->b≠nb)(D:Es lf sq op a b c l.length=IN)(a2:AEl<=lf):
  (∃p h' ks' fr',call AC (m+12) 9 [pt nb,DJ lf sq op a b c u] h=.ok (.tuple ⟨[p,AI AT 0]⟩) h'/\Fx (λb=>A.D b\/b=nb) h h'/\h'.Row nb 0 (AEq A.bd A.tb A.bs lf)/\UpP (AFH fa) X h' A T ks' fr'/\DoS T ks fr op a b c l ks' fr'/\Zx p)\/
  (∃p h' M cs,call AC (m+12) 9 [pt nb,DJ lf sq op a b c u] h=.ok (.tuple ⟨[p,AI AT 15]⟩) h'/\Fx (λb=>A.D b\/b=nb) h h'/\h'.Row nb 0 (AEq A.bd A.tb A.bs lf)/\AFQ fa h' A T M cs/\(op≠4/\op≠5)/\AFi 8 T M cs (Aft ks fr (kdO op) a b c (lO op l))/\Zx p):=by
 obtain⟨F,o6,_⟩:=Lg D;obtain⟨e1,h4,r3,r4,G,R,S,U,i,L,N,l3,w,b0,Y,m4,b1⟩:=M7 (m:=m+8) (lf:=lf) (sq:=sq) (op:=op) (a:=a) (b:=b) (c:=c) j y C (by omega) (λg=>O.bl g);rw[D,IT rfl]at G;have a8:=j.big;have hD:=C.lt j;have hn:=y.lt j;obtain⟨a5,_,ht⟩:=C.tab;have a9:=a5.lt j;have s:∀r,h.next<=r->¬A.D r:=λr D h=>by have:=hD _ h;omega
 have a1:∀b,(X b\/b=r4)->b<h4.next:=λb d=>by
  have:=i.next;rcases d with d|d
  ·have:=hX b d
   omega
  ·omega
 rcases uu (fa:=fa) (m:=m+8) (lf:=lf) (sq:=sq) (op:=op) (a:=a) (b:=b) (c:=c) (u:=u) (f:=fnO op) (Y1:=λks' fr' z=>DoS T ks fr op a b c l ks' fr') (Y2:=λM cs=>(op≠4/\op≠5)/\AFi 8 T M cs (Aft ks fr (kdO op) a b c (lO op l))) i.wf (y.ext j i) Y a1 (.inl a0) a3 a4 V a2 λg a7 Wg W Ug hY fg=>vW (m:=m) Wg hA W Ug hY ((O.ext j i).fx i.wf fg a6) d hl F o6 with ⟨z,iv,bw,h5,ks',fr',E,e,B,P,Q,Z,t⟩|⟨h5,M,cs,E,e,B,d5,t⟩
 ·have n:=e.row i.wf N (λh=>by
   rcases h with h|h
   ·exact s _ w h
   ·omega)
  obtain⟨q,K,k,o⟩:=D0 (lf:=lf) (sq:=sq) (op:=op) (err:=z) (iv:=iv) (bw:=bw) (room:=(fr'.length:Int)) e.wf n rfl (by omega) P Q;obtain⟨e2,H,I,J⟩:=UV (m:=m+8) L F o6 R S U E K;have U6:=UpP.wr e.wf Z (.inr rfl) n o k (s _ w) (by omega) Dx;refine .inl ⟨Bs lf sq op z iv bw fr'.length,q,ks',fr',?_,Fx.drop (((Fx.of i).trans (e.mono λb d=>.inl d)).trans (k.mono λb d=>.inr (by omega))),k.row e.wf B (by omega),U6.less λb d=>.inl d,t,_,_,_,_,_,_,_,rfl,P,Q⟩;rw[WQ rfl,G,H,A7,EY (v:=Bs lf sq op z iv bw fr'.length) (by rw[I];exact CY o),J]
 ·have n:=e.row i.wf N (λh=>by
   rcases h with h|h
   ·exact s _ w h
   ·omega)
  obtain⟨q,K,k,o⟩:=D0 (lf:=0) (sq:=0) (op:=0) (err:=0) (iv:=AEW) (bw:=AEW) (room:=0) e.wf n rfl (by omega) rfl rfl;obtain⟨e2,H,I,J⟩:=UV (m:=m+8) L F o6 R S U E K;have d6:AFQ fa q A T M cs:=kpD.wr (X:=λb=>b=r4) e.wf d5 rfl n o k (s _ w) (by omega) Dx;refine .inr ⟨Bs 0 0 0 0 AEW AEW 0,q,M,cs,?_,Fx.drop (((Fx.of i).trans (e.mono λb d=>.inl d)).trans (k.mono λb d=>.inr (by omega))),k.row e.wf B (by omega),d6,t.1,t.2,_,_,_,_,_,_,_,rfl,rfl,rfl⟩;rw[WQ rfl,G,H,A7,EY (v:=Bs 0 0 0 0 AEW AEW 0) (by rw[I];exact CY o),J]
end
def rgt(x:Ak):Bool:=Es x.lf x.sq x.op x.a x.b x.c x.l.length
def kdR(op:Nat):Int:=if op=4\/op=5 then 0 else kdO op
structure Nst where
 AEl:Int
 ks:List Kt
 fr:List Nat
def nxK(p:Nst)(x:Ak):Nst:=if rgt x=IN/\p.AEl<=x.lf then⟨x.lf,(nxt p.ks p.fr (kdR x.op) x.a x.b x.c x.l).1,(nxt p.ks p.fr (kdR x.op) x.a x.b x.c x.l).2⟩else p
def AGf(xs:List Ak):Nst:=xs.foldl nxK ⟨0,[],xx 8⟩
def Nst.Al(p q:Nst):Prop:=p.AEl=q.AEl/\Cg p.ks q.ks/\p.fr=q.fr
section
variable {fa:Bool}{e:Env}{h h' g:Hp}{X:Nat->Prop}{A:At}{T M:List Nat}{m n nb r op:Nat}{AEl lf sq a b c z:Int}{ks ks':List Kt}{fr fr' l:List Nat}{u:vz}{x:Ak}{xs:List Ak}{p q:Nst}{cs:List (Nat×List Nat)}
theorem dK:nxt ks fr (kdO op) a b c (lO op l)=nxt ks fr (kdO op) a b c l:=by
 by_cases d:op=1
 ·subst d;rfl
 ·have e:lO op l=[]:=If d
  rw[e];have h:kdO op=5\/kdO op=7\/kdO op=8:=by
   unfold kdO;rw[If d];split
   ·exact .inl rfl
   ·split
    ·exact .inr (.inl rfl)
    ·exact .inr (.inr rfl)
  rcases h with h|h|h<;>rw[h]
  ·rw[FX (.inl rfl),FX (.inl rfl)]
  ·rw[IO,IO]
  ·rw[IP,IP]
theorem kr{kd:Int}(iv:AFE 8 ks fr)(d:Com ks)(s:Stp T ks fr kd a b c l z ks' fr'):Cg ks' (nxt ks fr kd a b c l).1/\fr'=(nxt ks fr kd a b c l).2:=by
 rcases s with ⟨q,rfl,rfl⟩|⟨_,M,f,e⟩
 ·rw[ZW q]
  exact⟨rfl,rfl⟩
 ·exact Tg iv d e
theorem iW(iv:AFE 8 ks fr)(d:Com ks)(s:DoS T ks fr op a b c l ks' fr'):Cg ks' (nxt ks fr (kdR op) a b c l).1/\fr'=(nxt ks fr (kdR op) a b c l).2:=by
 rcases s with ⟨h,rfl,rfl⟩|⟨⟨f,g⟩,z,s⟩
 ·have e:kdR op=0:=IT h
  rw[e,Nb (by unfold Di;omega) (by omega) (by omega) (by omega) (by omega)];exact⟨rfl,rfl⟩
 ·have e:kdR op=kdO op:=If (by omega)
  rw[e,<- dK];exact kr iv d s
theorem Nst.Al.trans{r:Nst}(h:p.Al q)(h2:q.Al r):p.Al r:=⟨h.1.trans h2.1,h.2.1.trans h2.2.1,h.2.2.trans h2.2.2⟩
theorem Ux(h:p.Al q)(g:(q.ks.map Kt.key).Nodup):(nxK p x).Al (nxK q x):=by
 obtain⟨d,e,f⟩:=h;unfold nxK;rw[d,f];split
 ·obtain⟨g1,g2⟩:=rZ (fr:=q.fr) (kd:=kdR x.op) (a:=x.a) (b:=x.b) (c:=x.c) (l:=x.l) e g
  exact⟨rfl,g1,g2⟩
 ·exact⟨d,e,f⟩
theorem Iy:AGf (xs++[x])=nxK (AGf xs) x:=by
 unfold AGf;rw[zp];rfl
theorem jY(h:p.ks.Pairwise LtK)(a:(p.ks.map Kt.key).Nodup):(nxK p x).ks.Pairwise LtK:=by
 unfold nxK;split
 ·exact Xe h a
 ·exact h
theorem sv(c:h.Wf)(B:A.n=24)(k:h.Row nb 0 (AEq A.bd A.tb A.bs AEl))(j:UpP (AFH fa) X h A T ks fr)(t:∀b,X b->b<h.next)(C:X nb)(H:¬A.D nb)(I:A.tb≠nb)(w:256<=nb)(ok:AF2 h x)(F:x.l.length<=1000)(K:∀b,AEu x.u b->b≠nb):
  (∃a h',∃p:Nst,call AC (m+12) 9 [pt nb,x.val] h=.ok (.tuple ⟨[a,AI AT (if rgt x=IN then 0 else 110)]⟩) h'/\Fx (λb=>A.D b\/b=nb) h h'/\h'.Row nb 0 (AEq A.bd A.tb A.bs p.AEl)/\UpP (AFH fa) X h' A T p.ks p.fr/\p.Al (nxK ⟨AEl,ks,fr⟩ x)/\Zx a)\/
  (∃a h' M cs,call AC (m+12) 9 [pt nb,x.val] h=.ok (.tuple ⟨[a,AI AT 15]⟩) h'/\Fx (λb=>A.D b\/b=nb) h h'/\h'.Row nb 0 (AEq A.bd A.tb A.bs x.lf)/\AFQ fa h' A T M cs/\(rgt x=IN/\AEl<=x.lf)/\(x.op≠4/\x.op≠5)/\AFi 8 T M cs (Aft ks fr (kdO x.op) x.a x.b x.c (lO x.op x.l))/\Zx a):=by
 obtain⟨o,D,O,u⟩:=ok;cases l:Es x.lf x.sq x.op x.a x.b x.c x.l.length
 ·have e:rgt x=IS:=l
  obtain⟨a,d,f,i,rfl⟩:=qO (m:=m+8) c k j u (λg=>o.bl g) l;refine .inl ⟨_,d,⟨AEl,ks,fr⟩,by rw[If (by rw[e];decide)];exact f,.of i,k.ext c i,j.ext c i,?_,_,_,_,_,_,_,_,rfl,rfl,rfl⟩;unfold nxK;rw[If (by rw[e];exact λh=>by cases h.1)];exact⟨rfl,rfl,rfl⟩
 ·have e:rgt x=IN:=l
  by_cases G:x.lf<AEl
  ·obtain⟨P,d,f,i,N⟩:=qP (m:=m+8) c k j t u (λg=>o.bl g) l G
   refine .inl ⟨_,d,⟨AEl,ks,fr⟩,by rw[IT e];exact f,.of i,k.ext c i,j.ext c i,?_,_,_,_,_,_,_,_,rfl,rfl,rfl⟩;unfold nxK;rw[If (λh=>by have:=h.2;have:AEl<=x.lf:=this;omega)];exact⟨rfl,rfl,rfl⟩
  ·have r:AEl<=x.lf:=by omega
   obtain⟨⟨_,_,_,_,_,_,iv,_,E,_⟩,_⟩:=id j;rcases doK (m:=m) c B k j t C H I w o D F K l r with ⟨a,d,ks',fr',f,q,n,y,L,s⟩|⟨a,d,M,cs,f,q,n,z,J,g,s⟩
   ·refine .inl ⟨a,d,⟨x.lf,ks',fr'⟩,by rw[IT e];exact f,q,n,y,?_,s⟩
    obtain⟨g1,g2⟩:=iW iv E L;unfold nxK;rw[IT ⟨e,r⟩];exact⟨rfl,g1,g2⟩
   ·exact .inr ⟨a,d,M,cs,f,q,n,z,⟨e,r⟩,J,g,s⟩
end
theorem vH:lM.zero=[.pointer By,.pointer By,.pointer By,AI AT 0]:=by kernel_rfl
section
variable {F:AES}{e:Env}{h h':Hp}{A:At}{T M:List Nat}{c0 bad m k nb r bd bs tb:Nat}{arm AEl:Int}{ks:List Kt}{fr:List Nat}{v lv fv:vz}{ov:Bool}
theorem rB:vO [] [0,1,2,3,4,5,6,7]:=⟨ADO,.refl _⟩
theorem tS:Med T Y6 [] [0,1,2,3,4,5,6,7]:=by
 refine⟨yI,λk a=>(by cases a),λk a=>(by cases a),λc _ r _=>Nv,λk a=>(by cases a),λc b=>?_⟩;simp only[wS,ACx,or_false]at b;omega
theorem jK(a:h.Row nb 0 (AEq bd tb bs AEl)):call AC (m+1) 16 [pt nb] h=.ok (AI AT AEl) h:=by
 obtain⟨_,_,_,c⟩:=CB a;have d:∀e:Env,J 0 e=pt nb->oEq OM.k IS (J 0) (W (.pointer By)) (call AC m) e h=.ok (.bool IS) h:=λe b=>Eo YI b
 rw[nc rfl];unfold d16;simp only[iN,wA,sT,sh,OF,reduceIte,d,An,AX,AH,AN,wC,AJ,AP,c,lV0]
theorem Xd(g:h.Wf)(d:h.Row nb 0 (AEq A.bd A.tb A.bs AEl))(s:Sl h A T M c0 arm ks fr lv fv bad ov):∃h' v,call AC (m+5) 17 [pt nb] h=.ok v h'/\h.Ext h'/\h'.AL h.next v ks:=by
 obtain⟨_,_,j,_⟩:=CB d;have k:∀e:Env,J 0 e=pt nb->oEq OM.k IS (J 0) (W (.pointer By)) (call AC (m+4)) e h=.ok (.bool IS) h:=λe i=>Eo YI i
 obtain⟨b,c,a,l,f⟩:=Vv (m:=m) g s.row s.ls (Sl.all s) s.le.1;have a:call AC (m+4) 40 [pt A.bs] h=.ok c b:=a;refine⟨b,c,?_,l,f⟩;rw[nf rfl];unfold d17;simp only[iN,wA,sT,sh,OF,reduceIte,k,An,AX,AH,AN,wC,AJ,AP,j,cA0,a,lV0]
theorem aH{g1 g2 g3:O}(a:g1 e=pt bd)(h2:g2 e=pt tb)(b:g3 e=pt bs):BW lM.zero [(0,1,g1),(1,1,g2),(2,1,g3)] F e h=.ok (.agg ⟨AEq bd tb bs 0⟩) h:=by
 rw[Cx,vH,A3 (hk:=by rw[a];rfl),a,A3 (hk:=by rw[h2];rfl),h2,A3 (hk:=by rw[b];rfl),b];rfl
end
def li(B:List Kt)(fr:List Nat)(kd a b c:Int)(l:List Nat)(ov:Bool)(ks:List Kt):Prop:=
 (ov=IS/\Cg ks B)\/(ov=IN/\kd≠8/\(Cg ks B\/Cg ks (nxt B fr kd a b c l).1))\/(ov=IN/\kd=8/\∃P:Kt->Bool,(∀k∈B,P k=IN->drB a b c k=IN)/\Cg ks (B.filter λk=> !P k))
def AGK(X:Nat->Prop)(h:Hp)(A:At)(T:List Nat)(B:List Kt)(fr:List Nat)(kd a b c:Int)(l:List Nat)(f:Bool):Prop:=
 (f=IS/\UpP (AFH IN) X h A T B fr)\/(f=IN/\∃d e,AFQ IN h A T d e/\AFi 8 T d e (Aft B fr kd a b c l))
section
variable {F:AES}{e:Env}{h h' h0:Hp}{X:Nat->Prop}{A:At}{T M:List Nat}{c0 m n nb:Nat}{a b c kd:Int}{ks B:List Kt}{fr l:List Nat}{lv fv kv:vz}{ov:Bool}{bs:List Bool}
theorem fN{X Y ks0:List Kt}{fr1:List Nat}(iv:AFE 8 B fr)(hc:Com B)(hA:B.Pairwise LtK)(ix:AFE 8 X fr1)(q:(ov=IS/\X=B)\/(ov=IN/\Aft B fr kd a b c l X))(pm:(ks0.map Kt.core).Perm (X.map Kt.core))(hY:Y=ES (B5 ks0) (B5 ks0)):li B fr kd a b c l ov Y:=by
 have go:∀{Z:List Kt},Z.Pairwise LtK->((ES X X).map Kt.core).Perm (Z.map Kt.core)->Cg Y Z:=λhZ hz=>rn pm ix.key hY hZ hz.symm
 rcases q with ⟨h1,rfl⟩|⟨h1,t⟩
 ·exact .inl ⟨h1,go hA (by rw[HJ iv.key hc])⟩
 ·rcases gA iv hc t ix with ⟨h8,p⟩|⟨h8,p⟩|⟨h8,P,hP,e⟩
  ·exact .inr (.inl ⟨h1,h8,.inl (go hA p)⟩)
  ·exact .inr (.inl ⟨h1,h8,.inr (go (Xe hA iv.key) p)⟩)
  ·exact .inr (.inr ⟨h1,h8,P,hP,go (hA.filter _) (by rw[e])⟩)
theorem Yb(W0:h0.Wf)(x0:h0.Ext h)(hD0:∀b,A.D b->h0.next<=b)(hA:A.n=24)(Kb:KB h0 kv bs)(iv:AFE 8 B fr)(hc:Com B)(hs:B.Pairwise LtK)(E:AGK X h A T B fr kd a b c l ov):
  ∃h1 h' bs2 nb ks M c1 arm fr3 lv fv,call AC (m+9) 14 [pt A.bd,kv] h=.ok AEU h1/\call AC (m+9) 15 [pt A.bd,pt A.tb,AI AT 100] h1=.ok (.tuple ⟨[pt nb,AI AT 0]⟩) h'/\Fx (λb=>b=A.bd\/b=A.bm\/b=A.bc) h h'/\
   Sl h' ⟨bs2,A.bd,A.bm,A.bc,A.tb,A.n⟩ T M c1 arm ks fr3 lv fv 0 IS/\ks.length<=8/\h'.Row nb 0 (AEq A.bd A.tb bs2 0)/\li B fr kd a b c l ov ks:=by
 have W:=x0.wf;have st:St h A 8 T λZ=>(ov=IS/\Z=B)\/(ov=IN/\Aft B fr kd a b c l Z):=by
  rcases E with ⟨h1,⟨M,c0,arm,lv,fv,s,iv,md,hc,hb⟩,_⟩|⟨h1,M,cs,d,gd⟩
  ·exact .up M c0 arm B fr lv fv s iv md hc hb (.inl ⟨h1,rfl⟩)
  ·exact .over M cs d λM' hk=>by
    obtain⟨ks,fr,i,md,t⟩:=gd M' hk;exact⟨ks,fr,i,md,.inr ⟨h1,t⟩⟩
 obtain⟨h1,M1,c1,Z,fr1,k1,f1,d1,R1,hT,htD,i1,m1,qX⟩:=St.AIt (m:=m+6) W0 x0 hD0 st hA (wB _) Kb;have k1:call AC (m+9) 14 [pt A.bd,kv] h=.ok AEU h1:=k1;have htb:A.tb≠A.bd/\A.tb≠A.bm/\A.tb≠A.bc:=⟨λe=>htD (.inr (.inl e)),λe=>htD (.inr (.inr (.inl e))),λe=>htD (.inr (.inr (.inr e)))⟩;have W1:=f1.wf;rcases Sr (m:=m) (fa:=IS) W1 d1 R1 hT hA ⟨by omega,by omega⟩ htb i1 m1 ⟨⟨by omega,by omega⟩,λ_=>by omega⟩with ⟨h2,bs2,M2,c2,a2,lv2,fv2,ks3,fr3,ks0,k2,f2,s2,pm,e3,_,_,l2,_⟩|⟨_,_,_,_,_,_,_,dd,_⟩
 case inr=>cases dd.may
 have k2:call AC (m+8) 39 [pt A.bd,pt A.tb,AI AT 100] h1=.ok (.tuple ⟨[pt bs2,AI AT 0]⟩) h2:=k2;have W2:=f2.wf;have c00:iNe 0 0=IS:=CE rfl;have y3:=(Hp.Ext.refl W2).AER 0 (AEq A.bd A.tb bs2 0);have R3:=Hp.Row.new W2 0 (AEq A.bd A.tb bs2 0);have k3:call AC (m+9) 15 [pt A.bd,pt A.tb,AI AT 100] h1=.ok (.tuple ⟨[pt h2.next,AI AT 0]⟩) (h2.AER 0 (AEq A.bd A.tb bs2 0)):=by
  have bn:=λ(F:AES) (e:Env) (e1:J 0 e=pt A.bd) (e2:J 1 e=pt A.tb) (e3:J 8 e=pt bs2)=>aH (F:=F) (h:=h2) e1 e2 e3
  have bx:=λ(F:AES) (e:Env) (he:J 23 e=.agg ⟨AEq A.bd A.tb bs2 0⟩)=>(show CT (J 23) F e h2=.ok (pt h2.next) (h2.AER 0 (AEq A.bd A.tb bs2 0))by rw[EQ,he,EO W2];rfl)
  rw[aO rfl];unfold d15;simp only[iN,wA,sT,sh,OF,reduceIte,cA0,k2,Az,A8,A9,AM,AK,c00,bn,bx,A7,C0]
 have t:=fN iv hc hs i1 qX pm e3;have hl:ks3.length<=8:=by
  have h3:ks3.length<=ks0.length:=by
   rw[e3];unfold ES;have:=yT (λx=> !(B5 ks0).any (Ew x)) (B5 ks0);rw[G6]at this;exact this
  have h4:ks0.length=Z.length:=by have:=pm.length_eq;rwa [wF,wF]at this
  have:=i1.len;omega
 exact⟨h1,_,bs2,h2.next,ks3,M2,c2,a2,fr3,lv2,fv2,k1,k3,(f1.trans f2).trans (.of y3),s2.ext W2 y3,hl,R3,t⟩
end
structure Kq (h h':Hp):Prop where
 row:∀b el L,el≠38->h.Row b el L->h'.Row b el L
 map:∀b es c,h.bl.get b=.map es c->h'.bl.get b=.map es c
section
variable {fa:Bool}{h h':Hp}{R:Int->Prop}{X:Nat->Prop}{A:At}{T M:List Nat}{c0 bad k:Nat}{arm:Int}{ks:List Kt}{fr:List Nat}{v lv fv:vz}{ov:Bool}{cs:List (Nat×List Nat)}
theorem Kq.of{xs:List Ak}(i:h.Wf)(o:h.KL k v xs)(f:Fx (AEu v) h h'):Kq h h':=by
 have no:∀{b:Nat},(∀e,¬h.Row b 38 e)->¬AEu v b:=λm ⟨_,_,_,a⟩=>by
  rcases o with ⟨c,_⟩|⟨q,c,j,_⟩
  ·rw[c]at a;cases a
  ·rw[c]at a
   injection a with a
   injection a with a
   injection a with a
   exact m _ (a ▸ j)
 refine⟨λb s e l d=>f.row i d (no λp n=>EC d n l rfl),λb t r g=>?_⟩;rw[f.get b ?_ (no λe d=>I6 d g rfl),g];rcases wh b h.next with c|c
 ·exact c
 ·have:=i.fresh b c
  rw[g]at this;cases this
theorem Sl.kq(s:Sl h A T M c0 arm ks fr lv fv bad ov)(p:Kq h h'):Sl h' A T M c0 arm ks fr lv fv bad ov:=by
 refine⟨p.row _ _ _ (by omega) s.row,⟨p.row _ _ _ (by omega) s.dk.disk,p.row _ _ _ (by omega) s.dk.med,s.dk.len,s.dk.byt,p.map _ _ _ s.dk.map,s.dk.big,s.dk.n1⟩,p.row _ _ _ (by omega) s.tab,s.tok,?_,λk n=>⟨?_,(s.ko k n).2⟩,?_,s.ne,s.le⟩
 ·rcases s.ls with a|⟨b,i,c,g,a,d,e,f,j,l,m⟩
  ·exact .inl a
  ·exact .inr ⟨b,i,c,g,a,d,p.row _ _ _ (by omega) e,f,j,l,m⟩
 ·rcases (s.ko k n).1 with a|⟨b,o,i,c,g,a,d,e,f,j,l,m⟩
  ·exact .inl a
  ·exact .inr ⟨b,o,i,c,g,a,d,p.row _ _ _ (by omega) e,f,j,l,m⟩
 ·rcases s.fs with a|⟨b,c,a,d,e,f⟩
  ·exact .inl a
  ·exact .inr ⟨b,c,a,p.row _ _ _ (by omega) d,e,f⟩
theorem UpP.kq(a:UpP R X h A T ks fr)(p:Kq h h'):UpP R X h' A T ks fr:=by
 obtain⟨⟨M,c0,arm,lv,fv,d,c⟩,b⟩:=a;exact⟨⟨M,c0,arm,lv,fv,d.kq p,c⟩,b⟩
theorem AFQ.kq(d:AFQ fa h A T M cs)(p:Kq h h'):AFQ fa h' A T M cs:=by
 obtain⟨lv,fv,bad,b⟩:=d.row;obtain⟨c0,a⟩:=d.dk;exact⟨⟨lv,fv,bad,p.row _ _ _ (by omega) b⟩,⟨c0,p.row _ _ _ (by omega) a.disk,p.row _ _ _ (by omega) a.med,a.len,a.byt,p.map _ _ _ a.map,a.big,a.n1⟩,p.row _ _ _ (by omega) d.tab,d.tok,d.key,d.sec,d.ne,d.may⟩
end
section
variable {h:Hp}{T:List Nat}{m k tb:Nat}
theorem Nl(W:h.Wf)(Rt:h.Row tb 0 (T.map wv))(hT:AFD T):
  ∃h' bs bd bm bc nb,call AC (m+10) 6 [pt tb] h=.ok (.tuple ⟨[pt bd,pt nb,.bool IN]⟩) h'/\h.Ext h'/\UpP (AFH IS) (λb=>b=nb) h' ⟨bs,bd,bm,bc,tb,24⟩ T [] [0,1,2,3,4,5,6,7]/\h'.Row nb 0 (AEq bd tb bs 0)/\(∀b,At.D ⟨bs,bd,bm,bc,tb,24⟩ b->h.next<=b/\b<nb)/\h.next<=nb:=by
 obtain⟨h1,bd,bm,bc,k1,x1,d,l1,l2,l3⟩:=iU (m:=m+8) (n:=24) W (by omega);have htb:=Rt.lt W;have d:Dk h1 bd bm bc 24 Y6 0 [] (-1) IS:=d;have md:Med T Y6 [] [0,1,2,3,4,5,6,7]:=tS;rcases Sr (m:=m) (fa:=IS) (np:=8) x1.wf d (Rt.ext W x1) hT rfl ⟨by omega,by omega⟩ ⟨by omega,by omega,by omega⟩ rB md ⟨⟨by omega,by omega⟩,λ_=>by omega⟩with ⟨h2,bs,M2,c1,AEv,lv,fv,ks3,fr3,ks0,k2,f2,s2,pm,e3,rfl,rfl,l4,ha⟩|⟨_,_,_,_,_,_,_,dd,_⟩
 case inr=>cases dd.may
 obtain rfl:ks0=[]:=List.map_eq_nil_iff.1 (List.perm_nil.1 pm);obtain rfl:ks3=[]:=e3;have ho:AF7 [] (mrk T Y6 8) 8=[]:=zm.2 λp hp hb=>by
  rw[wV]at hb;obtain⟨k,hk,_⟩:=(md.find rB).2.2 p (of_decide_eq_true hb.2);cases hk
 rw[ho]at s2;have s2:Sl h2 ⟨bs,bd,bm,bc,tb,24⟩ T Y6 c1 AEv [] [0,1,2,3,4,5,6,7] lv fv 0 IS:=s2;have k2:call AC (m+8) 39 [pt bd,pt tb,AI AT 100] h1=.ok (.tuple ⟨[pt bs,AI AT 0]⟩) h2:=k2;have k1:call AC (m+9) 25 [AI AT 24] h=.ok (.tuple ⟨[pt bd,AI AT 0]⟩) h1:=k1;have x2:h.Ext h2:=Fx.AKV x1 f2 λb hb=>by rcases hb with rfl|rfl|rfl<;>assumption
 have W2:=x2.wf;have hn1:=x1.next;have c0:iEq 0 0=IN:=CZ rfl;have c00:iNe 0 0=IS:=CE rfl;have y3:=(Hp.Ext.refl W2).AER 0 (AEq bd tb bs 0);have R3:=Hp.Row.new W2 0 (AEq bd tb bs 0);have k3:call AC (m+9) 15 [pt bd,pt tb,AI AT 100] h1=.ok (.tuple ⟨[pt h2.next,AI AT 0]⟩) (h2.AER 0 (AEq bd tb bs 0)):=by
  have bn:=λ(F:AES) (e:Env) (e1:J 0 e=pt bd) (e2:J 1 e=pt tb) (e3:J 8 e=pt bs)=>aH (F:=F) (h:=h2) e1 e2 e3
  have bx:=λ(F:AES) (e:Env) (he:J 23 e=.agg ⟨AEq bd tb bs 0⟩)=>(show CT (J 23) F e h2=.ok (pt h2.next) (h2.AER 0 (AEq bd tb bs 0))by rw[EQ,he,EO W2];rfl)
  rw[aO rfl];unfold d15;simp only[iN,wA,sT,sh,OF,reduceIte,cA0,k2,Az,A8,A9,AM,AK,c00,bn,bx,A7,C0]
 have D2:=s2.AG9 W2;have s3:=s2.ext W2 y3;refine⟨_,bs,bd,bm,bc,h2.next,?_,x2.trans y3,⟨⟨Y6,c1,AEv,lv,fv,s3,rB,tS,λx hx=>(by cases hx),ha⟩,λx hx=>(by cases hx)⟩,R3,λb hb=>⟨?_,D2 b hb⟩,x2.next⟩
 ·rw[tB rfl]
  unfold d6;simp only[iN,wA,sT,sh,OF,reduceIte,gD,cA0,k1,Az,A8,A9,k3,AM,AK,c0,A7,NC]
 ·rcases hb with h1|h1|h1|h1<;>rw[h1]
  ·exact wy hn1 l4
  ·exact l1
  ·exact l2
  ·exact l3
end
end
end Go.Proofs.YtldjiljipddebaaGreat

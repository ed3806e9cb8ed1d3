/-
  Part ZF of what Lawnk stands on: printed by program, names and spaces cut.
-/
import Derived.Test.YtldjiljipddebaaGreatZE
open Bool renaming true→IN,false→IS
open Option renaming none→By,some→BY
open Go.Value renaming int→AI
open Go.IntKind renaming i64→AT
open Nat renaming reduceEqDiff→OF,reduceLT→sh,reduceAdd→wA,le_refl→wB,zero_add→wC,succ→wQ,beq→wU,ble→wY,zero_le→wl,le_trans→wy,eq_zero_or_pos→xL,mul→xW,add_zero→xy,mul_comm→yR,reduceLeDiff→yn,mul_one→yp,min_le_right→zN,min_le_left→AAJ,sub_self→ABv,mul_zero→ABw,one_pos→AEB,le_min→AEI
open Go renaming Value→vz
open List renaming length_append→wD,getElem?_eq_getElem→wE,length_map→wF,getD_eq_getElem?_getD→wG,mem_cons_of_mem→wI,mem_cons_self→wJ,length_cons→wK,mem_of_getElem?→wO,mem_singleton→wP,replicate→wR,mem_cons→wS,append_nil→wT,getElem?_eq_some_iff→wW,getElem?_append_left→wX,append_assoc→wa,mem_filter→wb,mem_append→wd,getElem?_append_right→wi,length_take→wu,mem_append_right→wz,map_append→w9,mem_map→xA,length_nil→xD,mem_append_left→xF,eq_nil_of_length_eq_zero→xH,nil_append→xI,length_singleton→xM,length_drop→xT,drop_of_length_le→xV,drop_zero→xa,getElem?_map→xc,filter_cons_of_pos→xn,filter_cons_of_neg→xp,range→xx,take_length→xz,map_cons→yA,take_append_drop→yE,nodup_cons→yO,drop_eq_getElem_cons→yP,cons_append→yS,length_filter_le→yT,take_of_length_le→yU,nodup_append→yX,getElem?_take→yY,filter_append→yk,reverse_append→yr,drop_length_add_append→zC,find?_eq_none→zE,reverse_perm→zI,append_eq→zK,reverse_reverse→zL,mem_iff_getElem?→zM,take_add_one→zR,filter_eq_nil_iff→zm,perm_middle→zn,length→zo,foldl_append→zp,nodup_range→zy,mem_reverse→zz,length_reverse→AAA,mem_of_find?_eq_some→AAK,find?_some→AAL,filter_nil→AAM,reverse_cons→AAS,drop→AAZ,mem_nil_iff→AAr,take→AAw,map_eq_nil_iff→AA6,flatMap_append→ABN,map_set→ABS,take_append_of_le_length→ABW,getElem?_replicate→AB4,take_left→ACL,perm_append_comm→ACM,mem_flatMap→ACy,ext_getElem→AC1,mem_set→ADp
open Bool renaming and_eq_true→wV,not_true→xK,not_false→xP,false_and→yy,true_and→AAF,and_false→AAN
open Int renaming sub→xO,ofNat→xR,toNat_of_nonneg→AAU,sub_zero→AD3
open Go.Value renaming int→xd,slice→ABZ
open List.Pairwise renaming sublist→AA7
open List.Perm renaming trans→ACO
set_option linter.unusedVariables false
set_option linter.unusedSimpArgs false
namespace Go.Proofs.YtldjiljipddebaaGreat
set_option maxRecDepth 100000
noncomputable section
open Go
theorem Tl:Hs.k=.ptr 118:=by kernel_rfl
theorem YJ:Vb.k=.slice 3:=by kernel_rfl
theorem VY:PQ.k=.slice 124:=by kernel_rfl
def AEc(T:List Nat)(a b c:Int)(s:Nat)(l:List Nat):List Nat:=Et T (MB (CM a.toNat b.toNat c.toNat s l.length (CC T l)))
theorem Dy{a b c:Int}{s n:Nat}(h:AEh a b c s n=IN):0<=a/\a<=1099511627776/\0<=b/\b<255/\1<=c/\c<=1099511627776/\(s=1\/s=2)/\n<=65536:=of_decide_eq_true h
theorem EA{T:List Nat}{a b c:Int}{s:Nat}{l:List Nat}(h:AEh a b c s l.length=IN):(AEc T a b c s l).length=64:=by
 obtain⟨e,f,g,i,j,k,n,d⟩:=Dy h;unfold AEc MB;rw[I8,Nn];have:=O6 (a:=a.toNat) (b:=b.toNat) (c:=c.toNat) (s:=s) (m:=l.length) (t:=CC T l) (by omega) (by omega) (by omega) (by omega) d (JB T l);omega
theorem NH{T:List Nat}{a b c:Int}{s:Nat}{l:List Nat}:∀x∈AEc T a b c s l,x<256:=TN (Xs PR)
theorem Q8{l:List Nat}(h:l.length=64):C4 l 0=l:=by
 unfold C4;rw[ABw,xa,yU (by omega),h];exact wT l
def Gc(p:Nat)(l:List Nat):List AE9:=(xx ((l.length+63)/64)).map (λa=>AE9.w (p*3+1+a) (C4 l a))++[.f]
def Dp(p:Nat)(H:List Nat):List AE9:=[.w (p*3) H,.f]
theorem IY:∀(ds:List AE9) (M:List Nat) (cs:List (Nat×List Nat)),(Be M cs (ds++[.f])).2=[]
 |[],M,cs=>rfl
 |.w a b::ds,M,cs=>IY ds _ _
 |.f::ds,M,cs=>IY ds _ _
theorem kD{n p:Nat}{l:List Nat}(f:3*p+3<=n)(e:1<=l.length/\l.length<=100)(b:∀x∈l,x<256){H:List Nat}(c:H.length=64)(d:∀x∈H,x<256):Dm n [] (Gc p l++Dp p H):=by
 have hk:(l.length+63)/64=1\/(l.length+63)/64=2:=by omega
 unfold Gc Dp;rcases hk with hk|hk<;>rw[hk]
 ·exact⟨λx a=>(by cases a),by show p*3+1+0<n;omega,Cf _ _,Js b _,by simp,by simp,λx a=>(by cases a),by omega,c,d,by simp,by simp,No⟩
 ·refine⟨λx a=>(by cases a),by show p*3+1+0<n;omega,Cf _ _,Js b _,λx a=>?_,by show p*3+1+1<n;omega,Cf _ _,Js b _,by simp,by simp,λx a=>(by cases a),by omega,c,d,by simp,by simp,No⟩
  have:=wP.1 a;rw[this];show p*3+1+0≠p*3+1+1;omega
theorem Xj{n p:Nat}(d:3*p+3<=n){H:List Nat}(a:H.length=64)(b:∀x∈H,x<256):Dm n [] (Dp p H):=⟨λx c=>(by cases c),by omega,a,b,by simp,by simp,No⟩
def Dc(T M:List Nat)(p:Nat)(l H:List Nat):List Nat:=(Be M [] (Gc p l++Dp p H)).1
def EX(M:List Nat)(p:Nat)(H:List Nat):List Nat:=(Be M [] (Dp p H)).1
section
variable {F:AES}{e:Env}{h h' h0:Hp}{S:Nat->Prop}{A:At}{T M:List Nat}{c0 bad m k p:Nat}{arm:Int}{ks:List Kt}{fr:List Nat}{v lv fv:vz}{ov:Bool}
theorem OA(R:h.Row A.bs 0 (slL A.bd A.tb lv fv bad IS)):call AC (m+1) 89 [pt A.bs] h=.ok (AI AT 0) h:=by
 obtain⟨b,_,_,_,_,_,c⟩:=BB R;have d:∀e:Env,J 0 e=pt A.bs->oEq Hs.k IS (J 0) (W (.pointer By)) (call AC m) e h=.ok (.bool IS) h:=λe a=>Eo Tl a
 have f:∀e:Env,J 10 e=pt A.bd->oEq VZ.k IS (J 10) (W (.pointer By)) (call AC m) e h=.ok (.bool IS) h:=λe a=>Eo fR a
 rw[aU rfl];unfold d89;simp only[iN,wA,sT,sh,OF,reduceIte,gD,d,An,AX,AH,AN,wC,AJ,AP,b,f,c,lV0]
theorem pD{n:Nat}{h:Hp}(a:h.Wf){u:vz}{xs:List vz}(g:h.AEs u xs)(D:Bd xs=IN)(I:xs.length<=1000000):
  ∃h' v,call AC (n+1) 99 [u] h=.ok v h'/\h.Ext h'/\h'.WI (λb=>h.next<=b) v xs:=by
 rcases g with ⟨rfl,rfl⟩|⟨b,off,z,A,p,o,j,B,C⟩
 ·have f:∀e:Env,J 0 e=.slice By 0 0->oEq Vb.k IS (J 0) (W (.slice By 0 0)) (call AC n) e h=.ok (.bool IN) h:=λe l=>KH (t:=0) YJ l
  refine⟨h,AEW,?_,.refl a,.inl ⟨rfl,rfl⟩⟩;rw[LA rfl];unfold d99;simp only[iN,wA,sT,sh,OF,reduceIte,f,lV0]
 ·have g:h.AEs u xs:=.inr ⟨b,off,z,A,p,o,j,B,C⟩
  have c:=(Hp.Ext.refl a).AER 0 [];have R:=Hp.Row.new a 0 [];have es:=λ(e:Env) (t:List vz)=>LH (F:=call AC n) (e:=e) (t:=t) a
  have E:(h.AER 0 []).next=h.next+1:=rfl;generalize h.AER 0 []=i at c R es E;have f:∀e:Env,J 0 e=u->oEq Vb.k IS (J 0) (W (.slice By 0 0)) (call AC n) e h=.ok (.bool IS) h:=λe l=>KG (t:=0) YJ (l.trans o)
  have d:=g.ext a c;have y:=a.big;rcases xL xs.length with m|m
  ·obtain rfl:xs=[]:=xH m
   have x:DX 1 8 3 (.slice (BY ⟨h.next,0,By⟩) 0 0) u i=.ok (.slice (BY ⟨h.next,0,By⟩) 0 0) (i.wr h.next 0 []):=IM c.wf y R (λk=>d.src rfl k) d.lenV;have q:=R.AEf c.wf (off:=0) (vs:=[]) (wB _);refine⟨_,.slice (BY ⟨h.next,0,By⟩) 0 0,?_,R.AEy c (wB _) (off:=0) (vs:=[]) (wB _),.inr ⟨h.next,0,rfl,q,.inr rfl,wB _⟩⟩;rw[LA rfl];unfold d99;simp only[iN,wA,sT,sh,OF,reduceIte,f,es,BD,x,lV0]
  ·obtain⟨j,r,s,w,G,H⟩:=FC (eb:=8) (en:=3) c R (es:=1) (λk=>d.src rfl k) d.lenV (by omega) m D (by omega)
   refine⟨j,_,?_,s,.inr ⟨i.next,3+1,rfl,w,.inl rfl,by omega⟩⟩;rw[LA rfl];unfold d99;simp only[iN,wA,sT,sh,OF,reduceIte,f,es,BD,r,lV0]
theorem UN(b:h.Wf)(K:h.KS S v ks)(H:∀k∈ks,oneCell k.u=IN)(h0:ks=[]->v=.slice By 0 0)(G:ks.length<=10000):
  ∃h' w,call AC (m+1) 100 [v] h=.ok w h'/\h.Ext h'/\h'.KO h.next w ks:=by
 rcases K with ⟨rfl,rfl⟩|⟨U,c,X,P,d,E,p,C,r,Z,Y⟩
 ·have j:∀e:Env,J 0 e=.slice By 0 0->oEq PQ.k IS (J 0) (W (.slice By 0 0)) (call AC m) e h=.ok (.bool IN) h:=λe g=>KH (t:=0) VY g
  refine⟨h,AEW,?_,.refl b,.inl ⟨rfl,rfl⟩⟩;rw[Pd rfl];unfold az;simp only[iN,wA,sT,sh,OF,reduceIte,j,lV0]
 ·have q:0<ks.length:=by
   rcases xL ks.length with i|i
   ·have:=h0 (xH i)
    rw[this]at d;cases d
   ·exact i
  have l:=(Hp.Ext.refl b).AER 0 [];have R:=Hp.Row.new b 0 [];have es:=λ(e:Env) (t:List vz)=>LH (F:=call AC m) (e:=e) (t:=t) b
  have N:(h.AER 0 []).next=h.next+1:=rfl;generalize h.AER 0 []=A at l R es N;have j:∀e:Env,J 0 e=v->oEq PQ.k IS (J 0) (W (.slice By 0 0)) (call AC m) e h=.ok (.bool IS) h:=λe g=>KG (t:=0) VY (g.trans d)
  have o:=p.ext b l;have D:Bd (flK ks)=IN:=by
   clear d p o G q h0 E C r
   induction ks with
   |nil=>rfl
   |cons k a0 ih=>
    refine QT λO L=>?_
    obtain⟨a,M,f⟩:=ACy.1 L;have I:=H a M;have f:O∈[xd .i64 a.a,AI AT a.b,AI AT a.c,.int .u8 (a.s:Int),a.u,AI AT (a.p:Int)]:=f;simp only[wS,AAr,or_false]at f;rcases f with rfl|rfl|rfl|rfl|rfl|rfl
    all_goals first|exact I|rfl
  have V:=b.big;obtain⟨B,s,x,y,Q,T⟩:=FC (eb:=64) (en:=124) (u:=v) (cs:=flK ks) (n:=ks.length) l R (es:=6) (λK=>by
   have z:=o.AGd (es:=6) (off:=0) (n:=ks.length) (sl:=ks.length) (c:=c) (k:=K) (by omega);rw[d,z,xa,yR ks.length 6,r]) (by rw[d];rfl) (by rw[Ca];omega) q D (by omega)
  refine⟨B,_,?_,x,.inr ⟨A.next,rfl,y,by omega,by omega⟩⟩;rw[Pd rfl];unfold az;simp only[iN,wA,sT,sh,OF,reduceIte,j,es,BD,s,lV0]
def Hp.KN(h:Hp)(k:Nat)(v:vz)(ks:List Kt):Prop:=h.KO k v ks\/(ks=[]/\∃a,v=.slice (BY ⟨a,0,By⟩) 0 0/\h.Row a 0 []/\k<=a/\256<=a)
theorem WU(a:h.Wf)(K:h.KS S v ks)(o:∀k∈ks,oneCell k.u=IN)(l:ks.length<=10000):
  ∃h' w,call AC (m+1) 100 [v] h=.ok w h'/\h.Ext h'/\h'.KN h.next w ks:=by
 have K0:=K;rcases K with ⟨rfl,rfl⟩|⟨d,c,A,z,i,D,u,C,G,E,B⟩
 ·obtain⟨h',w,g,d,c⟩:=UN (m:=m) a K0 o (λ_=>rfl) l
  exact⟨h',w,g,d,.inl c⟩
 ·rcases xL ks.length with f|f
  ·obtain rfl:ks=[]:=xH f
   have b:=(Hp.Ext.refl a).AER 0 [];have R:=Hp.Row.new a 0 [];have es:=λ(e:Env) (t:List vz)=>LH (F:=call AC m) (e:=e) (t:=t) a
   generalize h.AER 0 []=j at b R es;have y:∀e:Env,J 0 e=v->oEq PQ.k IS (J 0) (W (.slice By 0 0)) (call AC m) e h=.ok (.bool IS) h:=λe x=>KG (t:=0) VY (x.trans i)
   have p:=u.ext a b;have r:DX 6 64 124 (.slice (BY ⟨h.next,0,By⟩) 0 0) v j=.ok (.slice (BY ⟨h.next,0,By⟩) 0 0) (j.wr h.next 0 []):=IM b.wf a.big R (λK=>by
    have s:=p.AGd (es:=6) (off:=0) (n:=0) (sl:=0) (c:=c) (k:=K) (by omega);rw[i];exact s) (by rw[i];rfl)
   have q:=R.AEf b.wf (off:=0) (vs:=[]) (wB _);refine⟨_,.slice (BY ⟨h.next,0,By⟩) 0 0,?_,R.AEy b (wB _) (off:=0) (vs:=[]) (wB _),.inr ⟨rfl,h.next,rfl,q,wB _,a.big⟩⟩;rw[Pd rfl];unfold az;simp only[iN,wA,sT,sh,OF,reduceIte,y,es,BD,r,lV0]
  ·obtain⟨h',w,g,d,c⟩:=UN (m:=m) a K0 o (λh=>by rw[h]at f;exact absurd f (Nat.lt_irrefl 0)) l
   exact⟨h',w,g,d,.inl c⟩
theorem gv{xs:List vz}{z:vz}(o:h.WI S v (z::xs)):∃w,h.AEs w xs/\∀(F:AES) (e:Env) (x:O),x e=v->EL 3 1 x (BY (W (AI AT 1))) By By F e h=.ok w h:=by
 rcases o with ⟨_,n⟩|⟨b,g,t,d,q,_⟩
 ·cases n
 ·have s:(z::xs).length=xs.length+1:=rfl
  have key:∀(F:AES) (e:Env) (x:O),x e=v->EL 3 1 x (BY (W (AI AT 1))) By By F e h=Bq (BY ⟨b,0,By⟩) 1 1 (xs.length+1) (xs.length+1) h:=λF e x c=>by
   show(match x e with|.slice i y j=>Dr e y j (BY (W (AI AT 1))) By By (λu r m=>Eh 3 1 i IS u r m h)|_=>.no)=_;rw[c,t,s];show(bif wY 1 (xs.length+1)then Eh 3 1 (BY ⟨b,0,By⟩) IS 1 (xs.length+1) (xs.length+1) h else .no)=_;rw[Am.2 (show 1<=xs.length+1 by omega)];show(bif FR 3 (BY ⟨b,0,By⟩) h then Bq (BY ⟨b,0,By⟩) 1 1 (xs.length+1) (xs.length+1) h else .no)=_;have:FR 3 (BY ⟨b,0,By⟩) h=IN:=by
    obtain⟨A,p,_⟩:=d.rowOf;unfold FR;simp only[p];rcases q with rfl|rfl<;>rfl
   rw[this];rfl
  cases xs with
  |nil=>
   refine⟨.slice (BY ⟨b,0,By⟩) 0 0,.inr ⟨b,0,0,g,_,rfl,d,wl _,rfl⟩,λF e x c=>?_⟩;rw[key F e x c];rfl
  |cons f a=>
   refine⟨.slice (BY ⟨b,1,By⟩) (a.length+1) (a.length+1),.inr ⟨b,1,a.length+1,g,_,rfl,d,?_,?_⟩,λF e x c=>?_⟩
   ·show 1+(a.length+1)<=a.length+1+1
    omega
   ·show((z::f::a).drop 1).take (f::a).length=f::a
    exact xz
   ·rw[key F e x c]
    show Bq (BY ⟨b,0,By⟩) 1 1 (a.length+1+1) (a.length+1+1) h=_;unfold Bq;simp only[Ae];have k:wU (a.length+1+1) 1=IS:=rfl;have l:Nat.sub (a.length+1+1) 1=a.length+1:=rfl;simp only[k,l]
theorem Q6{g1 g2 g3 g5:O}{a b c:Int}{u:vz}(d:g1 e=AI AT a)(h2:g2 e=AI AT b)(f:g3 e=AI AT c)(g:g5 e=u)(i:cellsOf u=[u])(hk:known u=IN):
  BW JE.zero [(0,1,g1),(1,1,g2),(2,1,g3),(3,1,W (.int .u8 1)),(4,1,g5)] F e h=.ok (Bn a b c 1 u) h:=by
 rw[Cx,Vf,A3 (hk:=by rw[d];rfl),d,A3 (hk:=by rw[h2];rfl),h2,A3 (hk:=by rw[f];rfl),f,A3,A3 (hk:=by rw[g];exact hk),g,i];simp only[Gw,Cr,xM,wK,xD,A5,over,AAw,AAZ,zK,xI,yS,wA,yn,if_true,Bw,reduceIte];rfl
theorem Sl.bsx{c:List Kt}{a:List Nat}{f e:vz}{d:Nat}{i:Bool}(s:Sl h A T M c0 arm ks fr lv fv bad ov)(g:h.Wf)(x:Fx (λb=>b=A.bs) h h')(row:h'.Row A.bs 0 (slL A.bd A.tb f e d i))(m:h'.KS (λb=>¬A.D b) f c)(l:∀k∈c,AGt h' (λb=>¬A.D b) k)
  (j:h'.WI (λb=>¬A.D b) e (ints .i64 (a.map xR)))(le:c.length<=1000/\a.length<=1000/\d<=1000/\∀p∈a,3*p+3<=A.n):Sl h' A T M c0 arm c a f e d i:=
 ⟨row,s.dk.fr g x (λh=>s.ne.1 h.symm) (λh=>s.ne.2.1 h.symm) (λh=>s.ne.2.2.1 h.symm),x.row g s.tab (λh=>s.ne.2.2.2.1 (.inl h)),s.tok,m,l,j,s.ne,le⟩
end
theorem Pp:∀(ks:List Kt) (j:Nat) (x:Kt),j<ks.length->over (flK ks) (6*j) (AY x)=flK (ks.set j x)
 |[],j,x,a=>by cases a
 |k::ks,0,x,a=>by
  show over (AY k++flK ks) 0 (AY x)=AY x++flK ks;exact Nm rfl
 |k::ks,j+1,x,a=>by
  have d:=Pp ks j x (by simpa using a);show over (AY k++flK ks) (6*(j+1)) (AY x)=AY k++flK (ks.set j x);rw[<- d];unfold over;have b:6*(j+1)=(AY k).length+6*j:=by show _=6+_;omega
  have c:6*(j+1)+(AY x).length=(AY k).length+(6*j+(AY x).length):=by rw[b];omega
  rw[c,zC,b,List.take_length_add_append,wa,wa,wa]
def JD(x:Kt):List Kt->List Kt
 |[]=>[x]
 |y::a=>if HV x y<0 then y::JD x a else x::y::a
def HM(A:List Kt)(x:Kt):List Kt:=(JD x A.reverse).reverse
def srt:List Kt->List Kt->List Kt
 |A,[]=>A
 |A,b::a=>srt (HM A b) a
theorem LQ(x y:Kt)(r:List Kt):JD x (y::r)=if HV x y<0 then y::JD x r else x::y::r:=rfl
theorem SD(x:Kt):∀l:List Kt,(JD x l).length=l.length+1
 |[]=>rfl
 |y::a=>by
  unfold JD;split
  ·rw[wK,SD x a,wK]
  ·rfl
theorem NM(A:List Kt)(x:Kt):(HM A x).length=A.length+1:=by
 unfold HM;rw[AAA,SD,AAA]
theorem NL{x z:Kt}:∀{l:List Kt},z∈JD x l↔z=x\/z∈l
 |[]=>by simp[JD]
 |y::a=>by
  unfold JD;split
  ·rw[wS,NL,wS]
   constructor
   ·rintro (h|h|h)
    ·exact .inr (.inl h)
    ·exact .inl h
    ·exact .inr (.inr h)
   ·rintro (h|h|h)
    ·exact .inr (.inl h)
    ·exact .inl h
    ·exact .inr (.inr h)
  ·exact wS
theorem SE{A:List Kt}{x z:Kt}:z∈HM A x↔z=x\/z∈A:=by
 unfold HM;rw[zz,NL,zz]
theorem Oo{x:Kt}:∀{R Q:List Kt},(∀y∈R,HV x y<0)->JD x (R++Q)=R++JD x Q
 |[],Q,_=>rfl
 |y::R,Q,a=>by
  rw[yS,LQ,IT (a y wJ),Oo λc b=>a c (wI _ b)];rfl
theorem XQ{x:Kt}{P Q:List Kt}(e:∀y∈Q,HV x y<0)(d:P=[]\/∃a y,P=a++[y]/\¬HV x y<0):HM (P++Q) x=P++x::Q:=by
 unfold HM;rw[yr,Oo λy b=>e y (zz.1 b)];have c:JD x P.reverse=x::P.reverse:=by
  rcases d with rfl|⟨a,y,rfl,b⟩
  ·rfl
  ·rw[yr]
   show JD x (y::a.reverse)=_;unfold JD;rw[If b];rfl
 rw[c,yr,AAS,zL,zL,wa];rfl
theorem Kg{a:Type}{x y:a}:∀{P R:List a},(P++x::R).set P.length y=P++y::R
 |[],R=>rfl
 |z::P,R=>by
  show z::(P++x::R).set P.length y=_;rw[Kg];rfl
theorem PB{l Z vs:List vz}{o:Nat}(h:o+vs.length<=l.length):over (l++Z) o vs=over l o vs++Z:=by
 unfold over;rw[ABW (by omega),List.drop_append_of_le_length h,wa,wa,wa]
theorem GV{a:Type}{x:a}{P R:List a}:(P++x::R)[P.length]? =BY x:=by
 rw[wi (wB _),ABv];rfl
theorem KI{a:Type}{x y:a}{P R:List a}:(P++y::x::R)[P.length+1]? =BY x:=by
 rw[wi (by omega),show P.length+1 - P.length=1 by omega];rfl
section
variable {F:AES}{e:Env}{h h':Hp}{S:Nat->Prop}{bl n c:Nat}{ks:List Kt}{Z:List vz}
theorem Qb(R:h.Row bl 125 (flK ks++Z))(d:n=ks.length)(a:ks.length<=c):h.KS (λb=>b=bl) (.slice (BY ⟨bl,0,By⟩) n c) ks:=by
 subst d;exact .inr ⟨bl,c,_,_,rfl,a,R,by rw[wD,Ca];omega,by rw[ABW (by rw[Ca];omega),<- Ca,xz],.inl rfl,rfl⟩
theorem cf(f:h.Wf)(R:h.Row bl 125 (flK ks++Z))(l:256<=bl){j:Nat}(q:j<ks.length){x:Kt}(r:oneCell x.u=IN):
  ∃h',(∀(F:AES) (e:Env) (g i:O),g e=.pointer (BY ⟨bl,6*j,By⟩)->i e=ktV x->AZ .free (Ad 6 g i) F e h=.ok AEU h')/\Fx (λb=>b=bl) h h'/\h'.Row bl 125 (flK (ks.set j x)++Z)/\h'.next=h.next/\h'.mark=h.mark:=by
 have a:h.quiet.Row bl 125 (flK ks++Z):=R.same rfl;have m:6*j+(AY x).length<=(flK ks).length:=by rw[Ca];show 6*j+6<=_;omega
 have c:6*j+(AY x).length<=(flK ks++Z).length:=by rw[wD];omega
 have d:=a.AEa (n:=6) (off:=6 * j) (v:=ktV x) f.quiet l rfl c (HH r);have wr:=a.AEf f.quiet c;rw[PB m,Pp ks j x q]at wr;have fx:=Fx.wr (S:=λb=>b=bl) f.quiet a c rfl;have k:=a.AE7 c;have d:AEa 6 (.pointer (BY ⟨bl,6 * j,By⟩)) (ktV x) h.quiet=.ok AEU (h.quiet.wr bl (6 * j) (AY x)):=d;generalize h.quiet.wr bl (6 * j) (AY x)=s at d wr fx k;exact⟨h.back s,λF e g i o p=>BE (by rw[AV,o,p];exact d),(fx.from (h:=h) rfl rfl).same rfl rfl,wr.same rfl,k,rfl⟩
theorem Uk:jnB=Yu:=rfl
theorem lC(W:h.Wf){P R:List Kt}{x y:Kt}(hks:ks=P++y::x::R)(Rw:h.Row bl 125 (flK ks++Z))(AEd:256<=bl)(hn:n=ks.length)(hc:ks.length<=c)(hl:ks.length<=100000)(ux:oneCell x.u=IN)(uy:oneCell y.u=IN)
  (s0:J 0 e=.slice (BY ⟨bl,0,By⟩) n c)(s9:J 9 e=AI AT ((P.length+1:Nat):Int)):
  ∃e' h',swB F e h=.norm e' h'/\Fx (λb=>b=bl) h h'/\h'.Row bl 125 (flK (P++x::y::R)++Z)/\∀j,j=0\/j=1\/j=2\/j=3\/j=8\/j=9->J j e'=J j e:=by
 have lk:ks.length=P.length+1+1+R.length:=by rw[hks,wD,wK,wK];omega
 have K:=Qb (Rw.same (h':=h.marked) rfl) hn hc;obtain⟨b,rfl,ix,ld,_⟩:=K.at (i:=P.length+1) (k:=x) (by rw[hks];exact KI);obtain⟨b',hb',iy,ldy,_⟩:=K.at (i:=P.length) (k:=y) (by rw[hks];exact GV);have hb':b'=b:=hb';subst hb';have a1:Ge xO .i64 (AI AT ((P.length+1:Nat):Int)) (AI AT 1) h.marked=.ok (AI AT (P.length:Int)) h.marked:=by
  have:xO ((P.length+1:Nat):Int) 1=(P.length:Int):=by
   show((P.length+1:Nat):Int) - 1=_;omega
  rw[Co,this,Bl (by omega)]
 obtain⟨h1,q1,f1,R1,n1,mk1⟩:=cf (j:=P.length+1) W.marked (Rw.same (h':=h.marked) rfl) AEd (by omega) uy;have e1:ks.set (P.length+1) y=P++y::y::R:=by
  rw[hks,show P++y::x::R=(P++[y])++x::R by simp,show P.length+1=(P++[y]).length by simp,Kg];simp
 rw[e1]at R1;have ix1:AFM 6 (.slice (BY ⟨b',0,By⟩) n c) (AI AT (P.length:Int)) h1=.ok (.pointer (BY ⟨b',6*P.length,By⟩)) h1:=by
  have:=DB (h:=h1) (n:=n) (c:=c) (es:=6) (b:=b') (off:=0) (i:=P.length) (k:=.i64) (by omega)
  rwa [wC,yR]at this
 obtain⟨h2,q2,f2,R2,n2,mk2⟩:=cf (j:=P.length) f1.wf R1 AEd (by rw[wD];simp) ux;rw[Kg]at R2;have fm:Fx (λb=>b=b') h h1:=f1.from (h:=h) rfl rfl;have hrun:∃e',swB F e h=.norm e' h2/\∀j,j=0\/j=1\/j=2\/j=3\/j=8\/j=9->J j e'=J j e:=by
  have q1':∀(F:AES) (e:Env),J 51 e=.pointer (BY ⟨b',6*(P.length+1),By⟩)->J 46 e=ktV y->AZ .free (Ad 6 (J 51) (J 46)) F e h.marked=.ok AEU h1:=λF e a b=>q1 F e _ _ a b
  have q2':∀(F:AES) (e:Env),J 52 e=.pointer (BY ⟨b',6*P.length,By⟩)->J 50 e=ktV x->AZ .free (Ad 6 (J 52) (J 50)) F e h1=.ok AEU h2:=λF e a b=>q2 F e _ _ a b
  unfold swB;simp only[sT,sh,OF,reduceIte,Ar,B6,s9,a1,A1,s0,iy,Ai,Ac,ldy,ix,ld,q1',ix1,q2'];refine⟨_,rfl,λj hj=>?_⟩;rcases hj with rfl|rfl|rfl|rfl|rfl|rfl<;>simp only[AG,sh,OF,reduceIte]
 obtain⟨e',r1,r2⟩:=hrun;exact⟨e',h2,r1,fm.trans f2,R2,r2⟩
end
theorem X8{d:Type}(P:List d):P=[]\/∃b y,P=b++[y]:=by
 rcases a:P.reverse with _|⟨y,c⟩
 ·exact .inl (List.reverse_eq_nil_iff.1 a)
 ·refine .inr ⟨c.reverse,y,?_⟩
  rw[<- zL P,a,AAS]
section
variable {e:Env}{h h':Hp}{bl n c m:Nat}{ks:List Kt}{Z:List vz}
theorem cL(a3:h.Wf){A B:List Kt}{x:Kt}(Rw:h.Row bl 125 (flK (A++x::B)++Z))(a2:256<=bl)(hn:n=(A++x::B).length)(D:n<=c)(hl:n<=1000)(U:∀k∈A++x::B,oneCell k.u=IN)
  (s0:J 0 e=.slice (BY ⟨bl,0,By⟩) n c)(s1:J 1 e=AI AT 0)(s3:J 3 e=.func (.func 71) ⟨[]⟩ ⟨[]⟩)(s9:J 9 e=AI AT (A.length:Int)):
  ∃l h',A4 jnB (call AC (m+3)) e h=.exit 2 l h'/\Fx (λb=>b=bl) h h'/\h'.Row bl 125 (flK (HM A x++B)++Z)/\∀j,j=0\/j=1\/j=2\/j=3\/j=8->J j l=J j e:=by
 have a5:(A++x::B).length=A.length+1+B.length:=by rw[wD,wK];omega
 refine Bb (I:=λi l g=>∃P Q,A=P++Q/\P.length+i=A.length/\Fx (λb=>b=bl) h g/\g.Row bl 125 (flK (P++x::(Q++B))++Z)/\(∀d∈Q,HV x d<0)/\J 9 l=AI AT (P.length:Int)/\∀j,j=0\/j=1\/j=2\/j=3\/j=8->J j l=J j e)
  (Q:=λa6=>∃l h',a6=.exit 2 l h'/\Fx (λb=>b=bl) h h'/\h'.Row bl 125 (flK (HM A x++B)++Z)/\∀j,j=0\/j=1\/j=2\/j=3\/j=8->J j l=J j e) (A.length+1) (by omega) (λi l g ⟨P,Q,w,hP,fx,R,N,t9,t⟩=>?_) ⟨A,[],by rw[wT],rfl,.refl a3,Rw,λd hy=>(by cases hy),s9,λ_ _=>rfl⟩
 have F:=fx.wf;have t0:=(t 0 (by omega)).trans s0;have t1:=(t 1 (by omega)).trans s1;have t3:=(t 3 (by omega)).trans s3;rcases X8 P with rfl|⟨a,d,rfl⟩
 ·right
  have C:iGt ((([]:List Kt).length:Nat):Int) 0=IS:=GQ (by decide);have y:∃p,jnB (call AC (m+3)) l g=.exit 2 p g.marked/\∀j,j=0\/j=1\/j=2\/j=3\/j=8->J j p=J j l:=by
   rw[Uk];unfold Yu;simp only[sT,sh,OF,reduceIte,gD,Ar,AM,AK,t9,t1,C];refine⟨_,rfl,λj o=>?_⟩;rcases o with rfl|rfl|rfl|rfl|rfl<;>simp only[AG,sh,OF,reduceIte]
  obtain⟨p,s,r⟩:=y;rw[s];refine⟨rfl,p,_,rfl,fx.same rfl rfl,?_,λj o=>(r j o).trans (t j o)⟩;have:=XQ (x:=x) (P:=[]) (Q:=Q) N (.inl rfl);rw[w,this];have e5:([]++x::Q)++B=[]++x::(Q++B):=rfl;rw[e5];exact R.same rfl
 ·have Y:(a++[d]).length=a.length+1:=by simp
  rw[Y]at hP t9;have lA:A.length=a.length+1+Q.length:=by rw[w,wD,Y]
  have eR:(a++[d])++x::(Q++B)=a++d::x::(Q++B):=by simp
  rw[eR]at R;have X:(a++d::x::(Q++B)).length=n:=by
   rw[hn,a5,lA];simp only[wD,wK];omega
  have ux:oneCell x.u=IN:=U x (wz _ wJ);have uy:oneCell d.u=IN:=U d (xF _ (by rw[w];exact xF _ (wz _ wJ)));have K:=Qb (n:=n) (c:=c) (R.same (h':=g.marked) rfl) X.symm (by omega);obtain⟨b,hb,V,ld,_⟩:=K.at (i:=a.length+1) (k:=x) KI;obtain⟨b',a8,W,a0,_⟩:=K.at (i:=a.length) (k:=d) GV;have C:iGt ((a.length+1:Nat):Int) 0=IN:=Hm (by omega);have G:∀g:Hp,Ge xO .i64 (AI AT ((a.length+1:Nat):Int)) (AI AT 1) g=.ok (AI AT (a.length:Int)) g:=λg=>by
   have:xO ((a.length+1:Nat):Int) 1=(a.length:Int):=by
    show((a.length+1:Nat):Int) - 1=_;omega
   rw[Co,this,Bl (by omega)]
  obtain⟨M,k2,x2⟩:=dw (m:=m) F.marked.quiet x d;have S:∀e:Env,J 22 e=.func (.func 71) ⟨[]⟩ ⟨[]⟩->J 26 e=ktV x->J 31 e=ktV d->AZ .free (ET (J 22) [J 26,J 31]) (call AC (m+3)) e g.marked=.ok (AI AT (HV x d)) (g.marked.back M):=λe e1 p f=>by
   refine BE ?_;rw[CN,AS,AS,Av,e1,p,f];exact k2
  have z:g.Ext (g.marked.back M):=(Hp.Ext.refl F).marked.trans (.back x2);generalize g.marked.back M=u at S z;have T:=R.ext F z;by_cases D:HV x d<0
  ·left
   have H:iLt (HV x d) 0=IN:=JJ D;have sw:∀p:Env,J 0 p=.slice (BY ⟨bl,0,By⟩) n c->J 9 p=AI AT ((a.length+1:Nat):Int)->∃f q,swB (call AC (m+3)) p u=.norm f q/\Fx (λb=>b=bl) u q/\q.Row bl 125 (flK (a++x::d::(Q++B))++Z)/\∀j,j=0\/j=1\/j=2\/j=3\/j=8\/j=9->J j f=J j p:=λp a4 b=>lC z.wf rfl T a2 X.symm (by omega) (by omega) ux uy a4 b
   have y:∃f q,jnB (call AC (m+3)) l g=.norm f q/\Fx (λb=>b=bl) u q/\q.Row bl 125 (flK (a++x::d::(Q++B))++Z)/\J 9 f=AI AT (a.length:Int)/\∀j,j=0\/j=1\/j=2\/j=3\/j=8->J j f=J j l:=by
    rw[Uk];unfold Yu;simp only[sT,sh,OF,reduceIte,gD,Ar,AM,AK,t9,t1,C,t3,t0,A1,V,Ai,Ac,ld,B6,G,W,a0,S,H,BC,Aw];obtain⟨f,q,s,L,E,r⟩:=sw (Env.set 34 (.bool IN) (Env.set 33 (.bool IN) (Env.set 32 (AI AT (HV x d)) (Env.set 31 (ktV d) (Env.set 30 (.pointer (BY ⟨b',6*a.length,By⟩)) (Env.set 29 (AI AT (a.length:Int)) (Env.set 28 (AI AT ((a.length+1:Nat):Int)) (Env.set 27 (.slice (BY ⟨bl,0,By⟩) n c) (Env.set 26 (ktV x) (Env.set 25 (.pointer (BY ⟨b,6*(a.length+1),By⟩)) (Env.set 24 (AI AT ((a.length+1:Nat):Int)) (Env.set 23 (.slice (BY ⟨bl,0,By⟩) n c) (Env.set 22 (.func (.func 71) ⟨[]⟩ ⟨[]⟩) (Env.set 20 (.bool IN) l)))))))))))))) (by simp[AG,t0]) (by simp[AG,t9]);have u9:J 9 f=AI AT ((a.length+1:Nat):Int):=(r 9 (by omega)).trans (by simp[AG,t9]);rw[s];simp only[DU,BA,sT,sh,OF,reduceIte,B6,u9,G];refine⟨_,_,rfl,L,E,by simp[AG],λj o=>?_⟩;have:=r j (by omega);rcases o with rfl|rfl|rfl|rfl|rfl<;>simp only[AG,sh,OF,reduceIte]at this ⊢<;>exact this
   obtain⟨f,q,s,L,E,r9,r⟩:=y;refine⟨by omega,f,q,s,a,d::Q,by rw[w];simp,by omega,(fx.trans (.of z)).trans L,E,λa7 O=>?_,r9,λj o=>(r j o).trans (t j o)⟩;rcases wS.1 O with rfl|O
   ·exact D
   ·exact N a7 O
  ·right
   have H:iLt (HV x d) 0=IS:=GR (by omega);have y:∃f,jnB (call AC (m+3)) l g=.exit 2 f u/\∀j,j=0\/j=1\/j=2\/j=3\/j=8->J j f=J j l:=by
    rw[Uk];unfold Yu;simp only[sT,sh,OF,reduceIte,gD,Ar,AM,AK,t9,t1,C,t3,t0,A1,V,Ai,Ac,ld,B6,G,W,a0,S,H];refine⟨_,rfl,λj o=>?_⟩;rcases o with rfl|rfl|rfl|rfl|rfl<;>simp only[AG,sh,OF,reduceIte]
   obtain⟨f,s,r⟩:=y;rw[s];refine⟨rfl,f,u,rfl,fx.trans (.of z),?_,λj o=>(r j o).trans (t j o)⟩;rw[w,XQ N (.inr ⟨a,d,rfl,D⟩),wa,wa];exact T
theorem dy(D:h.Wf){ks:List Kt}(C:h.Row bl 125 (flK ks++Z))(A:256<=bl)(hn:n=ks.length)(M:n<=c)(O:n<=1000)(P:∀k∈ks,oneCell k.u=IN):
  ∃h',call AC (m+4) 133 [.slice (BY ⟨bl,0,By⟩) n c,AI AT 0,AI AT (n:Int),.func (.func 71) ⟨[]⟩ ⟨[]⟩] h=.ok AEU h'/\Fx (λb=>b=bl) h h'/\h'.Row bl 125 (flK (srt (ks.take 1) (ks.drop 1))++Z):=by
 have Y:∀l:Env,J 0 l=.slice (BY ⟨bl,0,By⟩) n c->J 1 l=AI AT 0->J 2 l=AI AT (n:Int)->J 3 l=.func (.func 71) ⟨[]⟩ ⟨[]⟩->J 8 l=AI AT ((1:Nat):Int)->∃a h',A4 jsB (call AC (m+3)) l h=.exit 0 a h'/\Fx (λb=>b=bl) h h'/\h'.Row bl 125 (flK (srt (ks.take 1) (ks.drop 1))++Z):=λl s0 s1 s2 s3 s8=>by
  refine Bb (I:=λi a o=>∃f g,f.length+g.length=ks.length/\(f.length=i+1\/(g=[]/\f.length<=i+1))/\srt f g=srt (ks.take 1) (ks.drop 1)/\(∀k∈f++g,oneCell k.u=IN)/\Fx (λb=>b=bl) h o/\o.Row bl 125 (flK (f++g)++Z)/\J 0 a=.slice (BY ⟨bl,0,By⟩) n c/\J 1 a=AI AT 0/\J 2 a=AI AT (n:Int)/\J 3 a=.func (.func 71) ⟨[]⟩ ⟨[]⟩/\J 8 a=AI AT ((i+1:Nat):Int))
   (Q:=λw=>∃a h',w=.exit 0 a h'/\Fx (λb=>b=bl) h h'/\h'.Row bl 125 (flK (srt (ks.take 1) (ks.drop 1))++Z)) n (by omega) (λi a o ⟨f,g,y,L,z,s,fx,R,t0,t1,t2,t3,t8⟩=>?_) ⟨ks.take 1,ks.drop 1,by rw[wu,xT];omega,?_,rfl,by rw[yE];exact P,.refl D,by rw[yE];exact C,s0,s1,s2,s3,s8⟩
  ·have E:=fx.wf
   cases g with
   |nil=>
    right;have x:f.length=n:=by simp only[xD]at y;omega
    have t:iLt ((i+1:Nat):Int) (n:Int)=IS:=DC (by omega);have u:∃d,jsB (call AC (m+3)) a o=.exit 0 d o:=by
     rw[QA];unfold Yv;simp only[sT,sh,OF,reduceIte,AM,AK,t8,t2,t];exact⟨_,rfl⟩
    obtain⟨d,q⟩:=u;rw[q];refine⟨rfl,d,o,rfl,fx,?_⟩;rw[<- z];rw[wT]at R;exact R
   |cons w g=>
    left;rw[wK]at y;have x:f.length=i+1:=by
     rcases L with j|⟨j,_⟩
     ·exact j
     ·cases j
    have t:iLt ((i+1:Nat):Int) (n:Int)=IN:=Ec (by omega);obtain⟨H,p,S,K,B,r⟩:=cL (m:=m) (e:=Env.set 9 (AI AT ((i+1:Nat):Int)) (Env.set 14 (.bool IN) a)) E R A (by rw[wD,wK];omega) M O s (by simp[AG,t0]) (by simp[AG,t1]) (by simp[AG,t3]) (by simp only[AG,sh,OF,reduceIte,x]);have g0:=r 0 (by omega);have g1:=r 1 (by omega);have g2:=r 2 (by omega);have g3:=r 3 (by omega);have g8:=r 8 (by omega);simp only[AG,sh,OF,reduceIte,t0]at g0;simp only[AG,sh,OF,reduceIte,t1]at g1;simp only[AG,sh,OF,reduceIte,t2]at g2;simp only[AG,sh,OF,reduceIte,t3]at g3;simp only[AG,sh,OF,reduceIte,t8]at g8;have G:GF .i64 (AI AT ((i+1:Nat):Int)) (AI AT 1) p=.ok (AI AT ((i+1+1:Nat):Int)) p:=CL (by omega);have u:∃d,jsB (call AC (m+3)) a o=.norm d p/\J 0 d=.slice (BY ⟨bl,0,By⟩) n c/\J 1 d=AI AT 0/\J 2 d=AI AT (n:Int)/\J 3 d=.func (.func 71) ⟨[]⟩ ⟨[]⟩/\J 8 d=AI AT ((i+1+1:Nat):Int):=by
     rw[QA];unfold Yv;simp only[sT,sh,OF,reduceIte,AM,AK,t8,t2,t,S,g8,BL,G];exact⟨_,rfl,by simp[AG,g0,g1,g2,g3]⟩
    obtain⟨d,q,T,U,V,W,X⟩:=u;refine⟨by omega,d,p,q,HM f w,g,by rw[NM];omega,.inl (by rw[NM];omega),z,λk N=>?_,fx.trans K,B,T,U,V,W,X⟩;rcases wd.1 N with j|j
    ·rcases SE.1 j with rfl|j
     ·exact s _ (wz _ wJ)
     ·exact s k (xF _ j)
    ·exact s k (wz _ (wI _ j))
  ·cases ks with
   |nil=>exact .inr ⟨rfl,wl _⟩
   |cons k ks=>exact .inl rfl
 have F:GF .i64 (AI AT 0) (AI AT 1) h=.ok (AI AT ((1:Nat):Int)) h:=CL (i:=0) (by omega);obtain⟨H,p,q,x2⟩:=Y (Env.set 8 (AI AT ((1:Nat):Int)) (Env.set 11 (AI AT ((1:Nat):Int)) (Ay e0 0 [.slice (BY ⟨bl,0,By⟩) n c,AI AT 0,AI AT (n:Int),.func (.func 71) ⟨[]⟩ ⟨[]⟩]))) (by simp only[iN,wA,AG,sh,OF,reduceIte]) (by simp only[iN,wA,AG,sh,OF,reduceIte]) (by simp only[iN,wA,AG,sh,OF,reduceIte]) (by simp only[iN,wA,AG,sh,OF,reduceIte]) (by simp[AG]);simp only[iN,wA]at q;refine⟨p,?_,x2⟩;rw[WN rfl,Wn];unfold Wo;simp only[iN,wA,sT,sh,OF,reduceIte,BL,F,q,Dw,Du]
def B5(ks:List Kt):List Kt:=srt (ks.take 1) (ks.drop 1)
theorem TZ(j:h.Wf){ks:List Kt}(i:h.Row bl 125 (flK ks++Z))(f:256<=bl)(s:n=ks.length)(r:n<=c)(z:n<=12)(t:∀k∈ks,oneCell k.u=IN):
  ∃h',call AC (m+6) 70 [.slice (BY ⟨bl,0,By⟩) n c,.func (.func 71) ⟨[]⟩ ⟨[]⟩] h=.ok AEU h'/\Fx (λb=>b=bl) h h'/\h'.Row bl 125 (flK (B5 ks)++Z):=by
 obtain⟨d,u,y,g⟩:=dy (m:=m) j i f s r (by omega) t;obtain⟨k,w⟩:=Pa (m:=m+3) (h:=h) (n:=n) (by omega);have p:Ds .u64 (AI AT (n:Int)) h=.ok (.int .u64 (n:Int)) h:=by rw[Cz,Eu (by omega)]
 have l:Ge xO .i64 (AI AT (n:Int)) (AI AT 0) h=.ok (AI AT (n:Int)) h:=by
  have:xO (n:Int) 0=(n:Int):=AD3 _;rw[Co,this,Bl (by omega)]
 have o:iLe (n:Int) 12=IN:=Hn (by omega);have x:call AC (m+5) 111 [.slice (BY ⟨bl,0,By⟩) n c,AI AT 0,AI AT (n:Int),AI AT (k:Int),.func (.func 71) ⟨[]⟩ ⟨[]⟩] h=.ok AEU d:=by
  have q:∃e,pdB (call AC (m+4)) (Env.set 11 (.bool IN) (Env.set 10 (.bool IN) (Ay e0 0 [.slice (BY ⟨bl,0,By⟩) n c,AI AT 0,AI AT (n:Int),AI AT (k:Int),.func (.func 71) ⟨[]⟩ ⟨[]⟩]))) h=.ret e d:=by
   rw[eE];unfold kL;simp only[iN,wA,sT,sh,OF,reduceIte,B6,l,AM,AK,o,cA0,u];exact⟨_,rfl⟩
  obtain⟨e,a⟩:=q;have a:=NW a;simp only[iN,wA]at a;rw[WF rfl,Wa];unfold Wb;simp only[iN,wA,sT,sh,OF,reduceIte,a,A7,Du]
 refine⟨d,?_,y,g⟩;rw[aR rfl];unfold d70;simp only[iN,wA,sT,sh,OF,reduceIte,Aa,EK,CU,p,cA0,w,x,Dw,Du]
end
theorem eI:prB=kP:=rfl
theorem H0:d54=OC:=rfl
section
variable {F:AES}{e:Env}{h h' h0:Hp}{S:Nat->Prop}{A:At}{T M:List Nat}{c0 bad k:Nat}{arm:Int}{ks:List Kt}{fr:List Nat}{v lv fv:vz}{ov:Bool}
def VcI(h:Hp)(k:Nat)(v:vz)(l:List Nat):Prop:=(v=AEW/\l=[])\/Mk h k v l
theorem VcI.vals{k:Nat}{v:vz}{l:List Nat}(o:VcI h k v l):h.AEs v (l.map bv):=by
 rcases o with ⟨a,b⟩|o
 ·exact .inl ⟨a,by rw[b];rfl⟩
 ·exact o.vals
theorem VcI.ext{k:Nat}{v:vz}{l:List Nat}(o:VcI h k v l)(a:h.Wf)(x:h.Ext h'):VcI h' k v l:=by
 rcases o with o|o
 ·exact .inl o
 ·exact .inr (o.ext a x)
theorem VcI.same{k:Nat}{v:vz}{l:List Nat}(o:VcI h k v l)(a:h'.bl=h.bl):VcI h' k v l:=by
 rcases o with o|o
 ·exact .inl o
 ·exact .inr (o.same a)
theorem VcI.one{k:Nat}{v:vz}{l:List Nat}(o:VcI h k v l):cellsOf v=[v]/\oneCell v=IN/\known v=IN:=by
 rcases o with ⟨a,_⟩|⟨b,c,a,_⟩<;>rw[a]<;>exact⟨rfl,rfl,rfl⟩
def Hp.VE(h:Hp)(u:vz)(xs:List vz):Prop:=h.AEs u xs\/((∃a,u=.chan (BY a))/\xs=[])
theorem Hp.VE.bl{u:vz}{l:List Nat}(a:h.VE u (l.map bv))(g:Hp):AFB u g=.ok (AI AT (l.length:Int)) g:=by
 rcases a with a|⟨⟨c,rfl⟩,b⟩
 ·exact a.bl g
 ·rw[AA6.1 b];rfl
theorem Hp.VE.ext{u:vz}{xs:List vz}(a:h.VE u xs)(b:h.Wf)(x:h.Ext h'):h'.VE u xs:=a.imp (λa=>a.ext b x) id
theorem Hp.VE.same{u:vz}{xs:List vz}(a:h.VE u xs)(b:h'.bl=h.bl):h'.VE u xs:=a.imp (λa=>a.same b) id
theorem Hp.VE.vals{u:vz}{xs:List vz}(a:h.VE u xs)(b:0<xs.length):h.AEs u xs:=by
 rcases a with a|⟨_,c⟩
 ·exact a
 ·rw[c]at b;cases b
theorem OV{n:Nat}(a:h.Wf){u:vz}{l:List Nat}(b:h.VE u (l.map bv))(z:l.length<=900000):∃h' v,call AC (n+1) 90 [u] h=.ok v h'/\h.Ext h'/\VcI h' h.next v l:=by
 rcases b with b|⟨⟨c,rfl⟩,f⟩
 case inr=>
  obtain rfl:=AA6.1 f;have d:=(Hp.Ext.refl a).AER 0 [];have R:=Hp.Row.new a 0 [];have p:=λ(e:Env) (t:List vz)=>LH (F:=call AC n) (e:=e) (t:=t) a
  generalize h.AER 0 []=q at d R p;have i:∀e:Env,J 0 e=.chan (BY c)->oEq MI.k IS (J 0) (W (.slice By 0 0)) (call AC n) e h=.ok (.bool IS) h:=λe g=>by
   rw[fT];show(match eqV (.slice 5) (J 0 e) (.slice By 0 0)with|some c=>okB (IS != c) h|none=>.no)=_;rw[g];exact Fd
  have y:=a.big;have x:DX 1 1 5 (.slice (BY ⟨h.next,0,By⟩) 0 0) (.chan (BY c)) q=.ok (.slice (BY ⟨h.next,0,By⟩) 0 0) (q.wr h.next 0 []):=IM d.wf y R (λk=>rfl) rfl;have s:=R.AEf d.wf (off:=0) (vs:=[]) (wB _);refine⟨_,.slice (BY ⟨h.next,0,By⟩) 0 0,?_,R.AEy d (wB _) (off:=0) (vs:=[]) (wB _),.inr ⟨h.next,0,rfl,.inl rfl,s,wB _⟩⟩;rw[JP rfl];unfold d90;simp only[iN,wA,sT,sh,OF,reduceIte,i,p,BD,x,lV0]
 have j:=b;rcases b with ⟨rfl,f⟩|⟨m,off,o,B,A,r,_⟩
 ·have i:∀e:Env,J 0 e=.slice By 0 0->oEq MI.k IS (J 0) (W (.slice By 0 0)) (call AC n) e h=.ok (.bool IN) h:=λe g=>KH (t:=0) fT g
  refine⟨h,AEW,?_,.refl a,.inl ⟨rfl,AA6.1 f⟩⟩;rw[JP rfl];unfold d90;simp only[iN,wA,sT,sh,OF,reduceIte,i,lV0]
 ·rw[wF]at r
  rw[r]at j ⊢;obtain⟨h',v,w,m,o⟩:=Q9 (n:=n) a j z;exact⟨h',v,w,m,.inr o⟩
theorem Hp.KN.same{k:Nat}{v:vz}{ks:List Kt}(o:h.KN k v ks)(a:h'.bl=h.bl):h'.KN k v ks:=by
 rcases o with o|⟨c,b,d,e,f⟩
 ·exact .inl (o.same a)
 ·exact .inr ⟨c,b,d,e.same a,f⟩
theorem jD(f:h0.Ext h)(hk:h0.next<=k)(r:k<=h.next)(o:h.KN k v ks){x:Kt}(l:oneCell x.u=IN)(s:ks.length<=100000):
  ∃h' v',DX 6 64 124 v (.slice (BY ⟨h.next,0,By⟩) 1 1) (h.AER 0 (AY x))=.ok v' h'/\h0.Ext h'/\h'.KO k v' (ks++[x])/\h.next<=h'.next:=by
 rcases o with o|⟨rfl,z,rfl,w,A,y⟩
 ·obtain⟨h',v',b,c,d,i,_⟩:=Ur f hk r o l s
  exact⟨h',v',b,c,d,i⟩
 ·have a:=f.wf
  have p:=f.AER 0 (AY x);have q:=(Hp.Ext.refl a).AER 0 (AY x);have g:=Hp.Row.new a 0 (AY x);have u:(h.AER 0 (AY x)).next=h.next+1:=rfl;have m:=w.ext a q;generalize h.AER 0 (AY x)=e at p q g u m;have t:∀K:List vz->R,BP e 6 (.slice (BY ⟨h.next,0,By⟩) 1 1) 1 K=K (AY x):=λK=>g.AGd (es:=6) (off:=0) (n:=1) (by show 0+1 * 6<=6;omega)
  obtain⟨j,b,c,d,i,_⟩:=FC (eb:=64) (en:=124) p m t rfl rfl (by omega) (HH l) (by omega);refine⟨j,_,b,c,.inr ⟨e.next,rfl,?_,by omega,by have:=a.big;omega⟩,by omega⟩;show j.Row e.next 125 (AY x++[]);rw[wT];exact d
theorem Fx.fresh{S:Nat->Prop}{h e h2:Hp}{b:Nat}(a:Fx S h e)(x:Fx (λi=>i=b) e h2)(l:h.next<=b):Fx S h h2:=
 ⟨wy a.next x.next,λi c g=>by
  have:=a.next;rw[x.get i (by omega) (by omega),a.get i c g],x.wf,λd j f k=>x.low d (a.low d j f k) (wy f a.next) λi c=>by rw[c];omega⟩
theorem YC{z:Kt}:∀{B A:List Kt},z∈srt A B↔z∈A\/z∈B
 |[],A=>by simp[srt]
 |x::B,A=>by
  show z∈srt (HM A x) B↔_;rw[YC,SE,wS];constructor
  ·rintro ((h|h)|h)
   ·exact .inr (.inl h)
   ·exact .inl h
   ·exact .inr (.inr h)
  ·rintro (h|h|h)
   ·exact .inl (.inr h)
   ·exact .inl (.inl h)
   ·exact .inr h
theorem YB:∀(B A:List Kt),(srt A B).length=A.length+B.length
 |[],A=>rfl
 |x::B,A=>by
  show(srt (HM A x) B).length=_;rw[YB,NM,wK];omega
theorem FJ{z:Kt}{ks:List Kt}:z∈B5 ks↔z∈ks:=by
 unfold B5;rw[YC,<- wd,yE]
theorem G6(ks:List Kt):(B5 ks).length=ks.length:=by
 unfold B5;rw[YB,wu,xT];omega
theorem Sl.lst{f:List Kt}{bl:Nat}{q:List vz}(s:Sl h A T M c0 arm ks fr lv fv bad ov)(l:h.Wf)(x:Fx (λb=>b=bl) h h')(z:¬A.D bl)(j:h.Row bl 125 q)(y:h'.KS (λb=>¬A.D b) lv f)(o:∀k∈f,k∈ks)(w:f.length=ks.length):Sl h' A T M c0 arm f fr lv fv bad ov:=by
 have e:∀b a c,b≠bl->h.Row b a c->h'.Row b a c:=λb a c n d=>x.row l d n
 have nb:∀b a c,(a=0\/a=6\/a=4)->h.Row b a c->b≠bl:=λb a c u d=>EC d j (by omega)
 refine⟨e _ _ _ (nb _ _ _ (.inl rfl) s.row) s.row,s.dk.fr l x (nb _ _ _ (.inl rfl) s.dk.disk) (nb _ _ _ (.inl rfl) s.dk.med) (λh=>(I6 j s.dk.map) h.symm),e _ _ _ (nb _ _ _ (.inl rfl) s.tab) s.tab,s.tok,y,λg p=>⟨(s.ko g (o g p)).1.keep λb a c n u d=>e b a c (nb b a c (by omega) d) d,(s.ko g (o g p)).2⟩,?_,s.ne,by rw[w];exact s.le⟩;rcases s.fs with i|⟨b,a,i,m,r,t⟩
 ·exact .inl i
 ·exact .inr ⟨b,a,i,e _ _ _ (nb b a _ (by omega) m) m,r,t⟩
end
theorem pE:cmS=BJ (Ab 1 (A4 cmL)) cmE:=rfl
theorem aa:cmB=gp:=rfl
theorem LF:d55=Pi:=rfl
section

end
theorem fQ:MI.k=.slice 5:=by kernel_rfl
theorem pC{n:Nat}{h:Hp}(a:h.Wf){u:vz}{xs:List vz}(g:h.AEs u xs)(D:Bd xs=IN)(I:xs.length<=1000000):
  ∃h' v,call AC (n+1) 90 [u] h=.ok v h'/\h.Ext h'/\h'.Cl (λb=>h.next<=b/\b<h'.next) 5 v xs:=by
 rcases g with ⟨rfl,rfl⟩|⟨b,off,z,A,q,p,j,B,C⟩
 ·have f:∀e:Env,J 0 e=.slice By 0 0->oEq MI.k IS (J 0) (W (.slice By 0 0)) (call AC n) e h=.ok (.bool IN) h:=λe k=>KH (t:=0) fQ k
  refine⟨h,AEW,?_,.refl a,.inl ⟨rfl,rfl⟩⟩;rw[JP rfl];unfold d90;simp only[iN,wA,sT,sh,OF,reduceIte,f,lV0]
 ·have g:h.AEs u xs:=.inr ⟨b,off,z,A,q,p,j,B,C⟩
  have c:=(Hp.Ext.refl a).AER 0 [];have R:=Hp.Row.new a 0 [];have es:=λ(e:Env) (t:List vz)=>LH (F:=call AC n) (e:=e) (t:=t) a
  have E:(h.AER 0 []).next=h.next+1:=rfl;generalize h.AER 0 []=i at c R es E;have f:∀e:Env,J 0 e=u->oEq MI.k IS (J 0) (W (.slice By 0 0)) (call AC n) e h=.ok (.bool IS) h:=λe k=>KG (t:=0) fQ (k.trans p)
  have d:=g.ext a c;have o:=a.big;rcases xL xs.length with l|l
  ·obtain rfl:xs=[]:=xH l
   have y:DX 1 1 5 (.slice (BY ⟨h.next,0,By⟩) 0 0) u i=.ok (.slice (BY ⟨h.next,0,By⟩) 0 0) (i.wr h.next 0 []):=IM c.wf o R (λm=>d.src rfl m) d.lenV;have r:=R.AEf c.wf (off:=0) (vs:=[]) (wB _);refine⟨_,.slice (BY ⟨h.next,0,By⟩) 0 0,?_,R.AEy c (wB _) (off:=0) (vs:=[]) (wB _),.inr ⟨h.next,0,rfl,r,.inr ⟨rfl,rfl⟩,⟨wB _,?_⟩,o⟩⟩
   ·rw[JP rfl]
    unfold d90;simp only[iN,wA,sT,sh,OF,reduceIte,f,es,BD,y,lV0]
   ·have:=R.AE7 (off:=0) (vs:=[]) (wB _)
    omega
  ·obtain⟨j,s,w,x,G,H⟩:=FC (eb:=1) (en:=5) c R (es:=1) (λm=>d.src rfl m) d.lenV (by omega) l D (by omega)
   refine⟨j,_,?_,w,.inr ⟨i.next,5+1,rfl,x,.inl rfl,⟨by omega,by omega⟩,by omega⟩⟩;rw[JP rfl];unfold d90;simp only[iN,wA,sT,sh,OF,reduceIte,f,es,BD,s,lV0]
theorem bp:eqS=BJ (Ab 0 (A4 ebB)) eqE:=rfl
theorem UT:d93=bK:=rfl
section
variable {F:AES}{e:Env}{h h':Hp}{S:Nat->Prop}{A:At}{bad m k p:Nat}{ks:List Kt}{fr:List Nat}{v lv fv:vz}{ov:Bool}
theorem OY(q:h.Wf){u v:vz}{a b:List Nat}(z:h.AEs u (a.map bv))(B:h.VE v (b.map bv))(S:a.length<=900000):∃h',call AC (m+1) 93 [u,v] h=.ok (.bool (decide (a=b))) h'/\h.Ext h':=by
 have A:=z.bl h;have C:=B.bl h;by_cases E:a.length=b.length
 ·have f:iNe (a.length:Int) (b.length:Int)=IS:=by rw[H8,E];simp
  have M:∃g,bK (call AC m) (Ay e0 0 [u,v]) h=eqS (call AC m) g h/\J 0 g=u/\J 1 g=v/\J 12 g=AI AT (a.length:Int)/\J 13 g=AI AT ((0:Nat):Int):=by
   unfold bK;simp only[iN,wA,sT,sh,OF,reduceIte,Aa,A,C,AM,AK,f];exact⟨_,rfl,by simp[AG]⟩
  obtain⟨g,G,s0,s1,s12,s13⟩:=M;have P:(∃c h',A4 ebB (call AC m) g h=.exit 0 c h'/\h.Ext h'/\a=b)\/(∃c h',A4 ebB (call AC m) g h=.ret c h'/\h.Ext h'/\a≠b/\J 4 c=.bool IS):=by
   refine Bb (I:=λi c h'=>h.Ext h'/\J 0 c=u/\J 1 c=v/\J 12 c=AI AT (a.length:Int)/\J 13 c=AI AT (i:Int)/\i<=a.length/\(a=b↔a.drop i=b.drop i))
    (Q:=λH=>(∃c h',H=.exit 0 c h'/\h.Ext h'/\a=b)\/(∃c h',H=.ret c h'/\h.Ext h'/\a≠b/\J 4 c=.bool IS)) a.length (by omega) (λi c h' ⟨K,t0,t1,t12,t13,R,k⟩=>?_) ⟨.refl q,s0,s1,s12,s13,wl _,by simp⟩
   by_cases n:i<a.length
   ·have s:=K.marked
    obtain⟨p,g1,g2⟩:=Jm (z.ext q s) n;obtain⟨T,g3,g4⟩:=Jm ((B.ext q s).vals (by rw[wF];omega)) (i:=i) (by omega);rw[Gn n,Gn (l:=b) (by omega)]at k;generalize a.getD i 0=r at g2 k;generalize b.getD i 0=D at g4 k;have f:=Ec n;by_cases F:r=D
    ·left
     subst F;have t:iNe (r:Int) (r:Int)=IS:=by rw[H8];simp
     have L:=CL (i:=i) (h:=h'.marked) (by omega);have o:∃d,ebB (call AC m) c h'=.norm d h'.marked/\J 0 d=u/\J 1 d=v/\J 12 d=AI AT (a.length:Int)/\J 13 d=AI AT ((i+1:Nat):Int):=by
      unfold ebB;simp only[sT,sh,OF,reduceIte,AM,AK,t13,t12,f,Ar,A1,t0,g1,AJ,g2,t1,g3,g4,t,BL,L];exact⟨_,rfl,by simp[AG,t0,t1,t12]⟩
     obtain⟨d,e,j,x,N,O⟩:=o;refine⟨n,d,h'.marked,e,s,j,x,N,O,n,k.trans ?_⟩;simp
    ·right
     have t:iNe (r:Int) (D:Int)=IN:=by rw[H8];simp;omega
     have o:∃d,ebB (call AC m) c h'=.ret d h'.marked/\J 4 d=.bool IS:=by
      unfold ebB;simp only[sT,sh,OF,reduceIte,AM,AK,t13,t12,f,Ar,A1,t0,g1,AJ,g2,t1,g3,g4,t];exact⟨_,rfl,by simp[AG]⟩
     obtain⟨d,e,j⟩:=o;rw[e];refine⟨rfl,.inr ⟨d,h'.marked,rfl,s,λh=>F ?_,j⟩⟩;have:=k.1 h;injection this
   ·right
    have f:=DC (show a.length<=i by omega);have o:∃d,ebB (call AC m) c h'=.exit 0 d h':=by
     unfold ebB;simp only[sT,sh,OF,reduceIte,AM,AK,t13,t12,f];exact⟨_,rfl⟩
    obtain⟨d,e⟩:=o;rw[e];refine⟨rfl,.inl ⟨d,h',rfl,K,k.2 ?_⟩⟩;rw[xV (by omega),xV (by omega)]
  rcases P with ⟨d,w,e,y,j⟩|⟨d,w,e,y,j,x⟩
  ·refine⟨w,?_,y⟩
   rw[UK rfl,UT,G,bp,decide_eq_true j];simp only[BC,Aw,e,A6,BA];unfold eqE;simp only[sT,sh,OF,reduceIte,lV0]
  ·refine⟨w,?_,y⟩
   rw[UK rfl,UT,G,bp,decide_eq_false j];simp only[BC,Aw,e,B7,Ce,lV0,x]
 ·have f:iNe (a.length:Int) (b.length:Int)=IN:=by rw[H8];simp;omega
  refine⟨h,?_,.refl q⟩;rw[UK rfl,UT,decide_eq_false (λh=>E (by rw[h]))];unfold bK;simp only[iN,wA,sT,sh,OF,reduceIte,Aa,A,C,AM,AK,f,lV0]
theorem br(e:h.Wf){u v:vz}{a b:List Nat}(c:h.AEs u (a.map bv))(d:h.AEs v (b.map bv))(f:a.length<=900000):∃h',call AC (m+1) 93 [u,v] h=.ok (.bool (decide (a=b))) h'/\h.Ext h':=OY e c (.inl d) f
theorem Df{e:Env}{h h':Hp}{g:O}{n:Nat}{v:vz}(b:II n (g e) h=.ok v h'):FA [.cN g n] e h=.ok v h:=by
 have a:Fk e h (.cN g n)=.ok v h':=b;show(match Fk e h (.cN g n)with|.ok v _=>AEi v λv=>J1 h [v]|.no=>.no)=_;rw[a];simp only[BR];rfl
theorem EY{e:Env}{h:Hp}{g g1:O}{n:Nat}{v:vz}(b:II n (g e) h=.ok v h):FA [.cN g n,.t g1] e h=.ok (.tuple ⟨[v,g1 e]⟩) h:=by
 have a:Fk e h (.cN g n)=.ok v h:=b;show(match Fk e h (.cN g n)with|.ok v _=>AEi v λv=>AEi (g1 e) (λc=>J1 h [v,c])|.no=>.no)=_;rw[a];simp only[BR];rfl
theorem Hp.Cl.bs0{h:Hp}{S:Nat->Prop}{v:vz}{xs:List vz}(o:h.Cl S 5 v xs):h.BS S v xs:=by
 rcases o with a|⟨b,c,a,d,e,f,g⟩
 ·exact .inl a
 ·exact .inr ⟨b,0,_,c,xs,a,wB _,d,by omega,by rw[xa,xz],f,e.elim (λh=>.inr h) (λh=>.inl h.1)⟩
theorem Xr(f:h.Wf){x:Kt}(P:h.AEs x.u (x.l.map bv))(hl:x.l.length<=1000):∃h' v',call AC (m+2) 78 [ktV x] h=.ok (Bn x.a x.b x.c x.s v') h'/\h.Ext h'/\oneCell v'=IN/\h'.BS (λb=>h.next<=b) v' (x.l.map bv):=by
 have E:=λ(F:AES) (e:Env) (W:J 0 e=ktV x)=>IF (F:=F) f W
 have g:=(Hp.Ext.refl f).AER 0 (AY x);have z:=Hp.Row.new f 0 (AY x);have n1:(h.AER 0 (AY x)).next=h.next+1:=rfl;generalize h.AER 0 (AY x)=d at E g z n1;have D:=λ(F:AES) (e:Env)=>BU (F:=F) (e:=e) g.wf (n:=5) (t:=DT)
 have B:=Hp.Row.alloc g.wf Fm (show(A5 0 0 0 0 AEW).length=5 from rfl);have p:d.Ext (d.push (.cells DT 5 0)):=(Hp.Ext.refl g.wf).push _;have n2:(d.push (.cells DT 5 0)).next=d.next+1:=rfl;generalize d.push (.cells DT 5 0)=T at D B p n2;have o:=g.trans p;have A:=z.ext g.wf p;obtain⟨_,_,_,_,Y,_⟩:=Bv A;obtain⟨U,v',y,i,r⟩:=pC (n:=m) o.wf (P.ext f o) (C8 _) (by rw[wF];omega);have l:cellsOf v'=[v']/\oneCell v'=IN:=⟨r.vs.one.1,r.vs.one.2.1⟩;have M:=A.ext o.wf i;have O:=B.ext p.wf i;have Q:=f.big;obtain⟨H,a1,q,n4,j,R⟩:=D9 i.wf M (off:=4) (show 4<6 by omega) Q l.1 l.2;have x3:=o.trans i;have x4:=R h x3 (wB _);have q:H.Row h.next 0 (AY ⟨x.a,x.b,x.c,x.s,x.l,x.p,v'⟩):=q;obtain⟨_,_,_,_,_,_,_,Z⟩:=Bv q;have C:=j.row i.wf O (by omega);obtain⟨K,I,L,N,n5⟩:=MG f x4 (by omega) C rfl (a:=x.a) (b:=x.b) (c:=x.c) (s:=x.s) (u:=v') l.2;have G:=Fx.wr (S:=λb=>b=d.next) j.wf C (vs:=A5 x.a x.b x.c x.s v') (off:=0) (wB _) rfl;generalize H.wr d.next 0 (A5 x.a x.b x.c x.s v')=k at K I L N G;have a2:k.BS (λb=>h.next<=b) v' (x.l.map bv):=(r.bs0.keep λb el a3 V _ a0=>G.row j.wf (j.row i.wf a0 (by omega)) (by omega)).mono λb V=>by omega
 refine⟨k,v',?_,L,l.2,a2⟩;have y:call AC (m+1) 90 [x.u] T=.ok v' U:=y;have X:∃w,d78 (call AC (m+1)) (Ay e0 0 [ktV x]) h=.ret w k/\J 2 w=pt d.next:=by
  unfold d78;simp only[iN,wA,sT,sh,OF,reduceIte,E,D,AH,AN,wC,xy,AJ,AP,Y,cA0,y,AV,a1,Ai,Ac,Z,K];exact⟨_,rfl,by simp[AG]⟩
 obtain⟨w,r1,r2⟩:=X;rw[oa rfl,r1,A7,Df (h':=k) (v:=Bn x.a x.b x.c x.s v') (by rw[r2,Ac];exact I)]
theorem kO{g:O}{b:Nat}(a:g e=pt b):oEq Hs.k IS g (W (.pointer By)) F e h=.ok (.bool IS) h:=Eo Tl a
theorem ir(g:h.Wf)(R:h.Row A.bs 0 (slL A.bd A.tb lv fv bad ov))(K:h.KS S lv ks)(hk:∀k∈ks,h.AEs k.u (k.l.map bv)/\k.l.length<=1000)(hl:ks.length<=1000)(a b c:Int):
  ∃h' v,call AC (m+5) 59 [pt A.bs,AI AT a,AI AT b,AI AT c] h=.ok (.tuple ⟨[v,.bool (ks.find? (BI a b c)).isSome]⟩) h'/\h.Ext h'/\(cellsOf v).length=5/\Bd (cellsOf v)=IN/\∀f,ks.find? (BI a b c)=BY f->∃u,v=Bn f.a f.b f.c f.s u/\h'.BS (λb=>h.next<=b) u (f.l.map bv):=by
 have E:=λ(F:AES) (e:Env)=>BU (F:=F) (e:=e) g (n:=5) (t:=DT)
 have C:=Hp.Row.alloc g Fm (show(A5 0 0 0 0 AEW).length=5 from rfl);have l:h.Ext (h.push (.cells DT 5 0)):=(Hp.Ext.refl g).push _;have n1:(h.push (.cells DT 5 0)).next=h.next+1:=rfl;generalize h.push (.cells DT 5 0)=h1 at E C l n1;obtain⟨X,D,B⟩:=GN (m:=m+1) l.wf (R.ext g l) (K.ext g l) (by omega) a b c;have j:=l.trans B;have Q:∀(F:AES) (e:Env) (i:Hp),J 0 e=pt A.bs->oEq Hs.k IS (J 0) (W (.pointer By)) F e i=.ok (.bool IS) i:=λF e i Y=>kO Y
 have fin:∀(d:Env) (i:Hp) (v:vz) (t:Bool),d59 (call AC (m+4)) (Ay e0 0 [pt A.bs,AI AT a,AI AT b,AI AT c]) h=.ret d i->J 8 d=pt h.next->J 9 d=.bool t->loadN 5 ⟨h.next,0,By⟩ i=.ok v i->call AC (m+5) 59 [pt A.bs,AI AT a,AI AT b,AI AT c] h=.ok (.tuple ⟨[v,.bool t]⟩) i:=λd i v t r w x hv=>by
  rw[oK rfl,r,A7,EY (v:=v) (by rw[w,Ac];exact hv),x]
 rcases EB (BI a b c) ks 0 with ⟨H,d⟩|⟨a0,f,H,d,V⟩
 ·rw[d]at D
  have G:iLt (-1) 0=IN:=JJ (by omega);obtain⟨y,q,o,_,_⟩:=MG g j (wB _) (C.ext l.wf B) rfl (a:=0) (b:=0) (c:=0) (s:=0) (u:=AEW) rfl;generalize X.wr h.next 0 (A5 0 0 0 0 AEW)=p at y q o;have L:∃d,d59 (call AC (m+4)) (Ay e0 0 [pt A.bs,AI AT a,AI AT b,AI AT c]) h=.ret d p/\J 8 d=pt h.next/\J 9 d=.bool IS:=by
   unfold d59;simp only[iN,wA,sT,sh,OF,reduceIte,E,Q,cA0,D,AM,AK,G,D6,AV,y];exact⟨_,rfl,by simp[AG]⟩
  obtain⟨d,r,w,x⟩:=L;rw[H];exact⟨p,_,fin d p _ IS r w x q,o,rfl,rfl,λf hk=>by cases hk⟩
 ·rw[V,wC]at D
  have G:iLt (a0:Int) 0=IS:=GR (by omega);obtain⟨_,_,_,l3,_⟩:=BB (R.ext g j);obtain⟨bb,_,ix,a1,_⟩:=(K.ext g j).at d;obtain⟨U,Z⟩:=hk f (wO d);obtain⟨p,z,k3,M,P,a3⟩:=Xr (m:=m+2) j.wf (U.ext g j) Z;have o:=j.trans M;obtain⟨y,q,T,_,_⟩:=MG g o (wB _) ((C.ext l.wf B).ext j.wf M) rfl (a:=f.a) (b:=f.b) (c:=f.c) (s:=f.s) (u:=z) P;have N:=Fx.wr (S:=λb=>b=h.next) o.wf ((C.ext l.wf B).ext j.wf M) (vs:=A5 f.a f.b f.c f.s z) (off:=0) (wB _) rfl;generalize p.wr h.next 0 (A5 f.a f.b f.c f.s z)=I at y q T N;have L:∃d,d59 (call AC (m+4)) (Ay e0 0 [pt A.bs,AI AT a,AI AT b,AI AT c]) h=.ret d I/\J 8 d=pt h.next/\J 9 d=.bool IN:=by
   unfold d59;simp only[iN,wA,sT,sh,OF,reduceIte,E,Q,cA0,D,AM,AK,G,An,AX,AH,AN,wC,AJ,AP,l3,A1,ix,Ai,Ac,a1,k3,AV,y];exact⟨_,rfl,by simp[AG]⟩
  obtain⟨d,r,w,x⟩:=L;rw[H];refine⟨I,_,fin d I _ IN r w x q,T,rfl,?_,λk hk=>⟨z,by rw[<- Option.some.inj hk],by rw[<- Option.some.inj hk];exact(a3.keep λb el a4 O _ a2=>N.row o.wf a2 (by have:=B.next;omega)).mono λb O=>wy j.next O⟩⟩;show(bif oneCell z then IN else IS)=IN;rw[P];rfl
theorem kT(R:h.Row A.bs 0 (slL A.bd A.tb lv fv bad ov))(c:h.AEs fv (ints .i64 (fr.map xR))):call AC (m+1) 53 [pt A.bs] h=.ok (AI AT (fr.length:Int)) h:=by
 obtain⟨_,_,_,_,f,_⟩:=BB R;have g:∀(F:AES) (e:Env) (a:Hp),J 0 e=pt A.bs->oEq Hs.k IS (J 0) (W (.pointer By)) F e a=.ok (.bool IS) a:=λF e a d=>kO d
 have b:=c.len;rw[show(ints .i64 (fr.map xR)).length=fr.length by unfold ints;rw[wF,wF]]at b;rw[oH rfl];unfold d53;simp only[iN,wA,sT,sh,OF,reduceIte,g,An,AX,AH,AN,wC,AJ,AP,f,Aa,b,lV0]
end
section
variable {F:AES}{e:Env}{h h' h0:Hp}{S:Nat->Prop}{A:At}{T M:List Nat}{c0 bad m k p:Nat}{arm:Int}{ks:List Kt}{fr:List Nat}{v lv fv:vz}{ov:Bool}
def Zw(T M:List Nat)(k:Kt):Prop:=∃a,Hh T M k.p a/\(at6 a 1:Int)=k.a/\(at6 a 2:Int)=k.b/\(at6 a 3:Int)=k.c/\at6 a 0=k.s/\dat M k.p (at6 a 4)=k.l
theorem bE:d60=Yg:=rfl
theorem ez(S:h.Wf)(s:Sl h A T M c0 arm ks fr lv fv bad ov){j:Nat}{d:Kt}(Y:ks[j]? =BY d){a b c:Int}(hf:F1 (BI a b c) 0 ks=(j:Int))(b3:d.a=a/\d.b=b/\d.c=c)(b6:3*d.p+3<=A.n):
  ∃h' r,call AC (m+6) 60 [pt A.bs,AI AT a,AI AT b,AI AT c] h=.ok (.bool r) h'/\h.Ext h'/\(r=IN↔Zw T M d):=by
 obtain⟨rfl,rfl,rfl⟩:=b3;have a9:=wO Y;obtain⟨o1,o2,o3,o4,o5,o6⟩:=s.ko d a9;have p1:∀(F:AES) (e:Env) (B:Hp),J 0 e=pt A.bs->oEq Hs.k IS (J 0) (W (.pointer By)) F e B=.ok (.bool IS) B:=λF e B he=>kO he
 obtain⟨h1,Z,x1⟩:=GN (m:=m+2) S s.row s.ls.ks (by have:=s.le.1;omega) d.a d.b d.c;rw[hf]at Z;have c1:iLt (j:Int) 0=IS:=GR (by omega);have s1:=s.ext S x1;obtain⟨_,_,_,l3,_⟩:=BB s1.row;obtain⟨bb,_,ix,_,b7⟩:=s1.ls.ks.at Y;have lp:=b7 5 (AI AT (d.p:Int)) rfl;obtain⟨y,x2,LK⟩:=XW (m:=m) x1.wf s1.row s1.tab s.tok s1.dk b6;have z:=x1.trans x2;have U:=λ(F:AES) (e:Env)=>BU (F:=F) (e:=e) z.wf (n:=6) (t:=CR)
 have R:=Hp.Row.alloc z.wf Fa (show(AY K0).length=6 from rfl);have y3:y.Ext (y.push (.cells CR 6 0)):=(Hp.Ext.refl z.wf).push _;have n3:(y.push (.cells CR 6 0)).next=y.next+1:=rfl;generalize y.push (.cells CR 6 0)=h3 at U R y3 n3;have C:iEq 0 0=IN:=CZ rfl;rcases LK with ⟨g,a0,I,P,hu⟩|⟨I,bd,P,c2⟩
 ·generalize hX:(⟨at6 g 1,at6 g 2,at6 g 3,at6 g 0,dat M d.p (at6 g 4),d.p,a0⟩:Kt)=X at P
  have a8:X.u=a0:=by rw[<- hX]
  obtain⟨N,_,G,O,n4⟩:=Ld z.wf y3 (wB _) R rfl (k:=X) (by rw[a8];exact hu.vs.one.2.1);generalize h3.wr y.next 0 (AY X)=i at N G O n4;have x4:=z.trans G;have x:=x4.marked;have s4:=s.ext S x;obtain⟨E,L,Q,m3,m4,_⟩:=Bv (O.same (h':=i.marked) rfl);obtain⟨_,_,_,b1,_⟩:=BB s4.row;obtain⟨c3,_,b0,_,a7⟩:=s4.ls.ks.at Y;have b2:=a7 3 (.int .u8 (d.s:Int)) rfl;have b8:=a7 4 d.u rfl;have K:∀o,Hh T M d.p o->o=g:=λo h=>G1 h.1 I.1
  have b4:X.a=at6 g 1/\X.b=at6 g 2/\X.c=at6 g 3/\X.s=at6 g 0:=by rw[<- hX];exact⟨rfl,rfl,rfl,rfl⟩
  obtain⟨f1,f2,f3,f4⟩:=b4;rw[f1]at E;rw[f2]at L;rw[f3]at Q;rw[f4]at m3;rw[a8]at m4;have b9:∃l,Yg (call AC (m+5)) (Ay e0 0 [pt A.bs,AI AT d.a,AI AT d.b,AI AT d.c]) h=sdT (call AC (m+5)) l i/\J 0 l=pt A.bs/\J 1 l=AI AT d.a/\J 2 l=AI AT d.b/\J 3 l=AI AT d.c/\J 9 l=AI AT (j:Int)/\J 10 l=pt y.next/\J 11 l=.bool IN/\J 13 l=AI AT 0:=by
   unfold Yg;simp only[iN,wA,sT,sh,OF,reduceIte,p1,cA0,Z,AM,AK,c1,An,AX,AH,AN,wC,AJ,AP,l3,A1,ix,lp,P,Az,A8,A9,Cm,E6,U,AV,N];exact⟨_,rfl,by simp[AG]⟩
  obtain⟨l,q1,t0,t1,t2,t3,t9,t10,t11,t13⟩:=b9;have fin:∀(f:Env) (B:Hp) (t:Bool),sdT (call AC (m+5)) l i=.ret f B->J 8 f=.bool t->call AC (m+6) 60 [pt A.bs,AI AT d.a,AI AT d.b,AI AT d.c] h=.ok (.bool t) B:=λf B t p q=>by
   rw[aQ rfl,bE,q1,p];simp only[lV0,q]
  by_cases g1:(at6 g 1:Int)=d.a
  ·have D:iEq (at6 g 1:Int) d.a=IN:=CZ g1
   by_cases g2:(at6 g 2:Int)=d.b
   ·have H:iEq (at6 g 2:Int) d.b=IN:=CZ g2
    by_cases g3:(at6 g 3:Int)=d.c
    ·have d3:iEq (at6 g 3:Int) d.c=IN:=CZ g3
     by_cases g4:at6 g 0=d.s
     ·have V:iEq (at6 g 0:Int) (d.s:Int)=IN:=CZ (by omega)
      have b5:(dat M d.p (at6 g 4)).length<=900000:=by
       unfold dat;rw[wu];have:=I.2.1;omega
      obtain⟨h5,k5,x5⟩:=br (m:=m+4) x.quiet.wf ((hu.vs.vals.ext z.wf G).same (h':=i.marked.quiet) rfl) ((s4.ko d a9).1.vs.vals.same (h':=i.marked.quiet) rfl) b5;have q5:∀e:Env,J 82 e=a0->J 91 e=d.u->AZ .free (AU 93 [J 82,J 91]) (call AC (m+5)) e i.marked=.ok (.bool (decide (dat M d.p (at6 g 4)=d.l))) (i.marked.back h5):=λe l f=>by
       refine BE ?_;rw[BG,AS,AS,Av,l,f];exact k5
      have w:∃f,sdT (call AC (m+5)) l i=.ret f (i.marked.back h5)/\J 8 f=.bool (decide (dat M d.p (at6 g 4)=d.l)):=by
       unfold sdT;simp only[sT,sh,OF,reduceIte,gD,Ar,AM,AK,t13,C,t11,t10,AH,AN,wC,xy,AJ,AP,E,L,Q,m3,m4,t1,t2,t3,D,H,d3,t0,An,AX,b1,t9,A1,b0,b2,V,b8,q5];exact⟨_,rfl,by simp[AG]⟩
      obtain⟨f,p,q⟩:=w;refine⟨_,_,fin f _ _ p q,x.trans (.back x5),?_⟩;rw[decide_eq_true_eq];constructor
      ·exact λh=>⟨g,I,g1,g2,g3,g4,h⟩
      ·rintro⟨o,u,_,_,_,_,a6⟩
       rw[K o u]at a6;exact a6
     ·have V:iEq (at6 g 0:Int) (d.s:Int)=IS:=B8 (by omega)
      have w:∃f,sdT (call AC (m+5)) l i=.ret f i.marked/\J 8 f=.bool IS:=by
       unfold sdT;simp only[sT,sh,OF,reduceIte,gD,Ar,AM,AK,t13,C,t11,t10,AH,AN,wC,xy,AJ,AP,E,L,Q,m3,m4,t1,t2,t3,D,H,d3,t0,An,AX,b1,t9,A1,b0,b2,V];exact⟨_,rfl,by simp[AG]⟩
      obtain⟨f,p,q⟩:=w;refine⟨_,_,fin f _ _ p q,x,⟨λh=>(by cases h),?_⟩⟩;rintro⟨o,u,_,_,_,a5,_⟩;rw[K o u]at a5;exact absurd a5 g4
    ·have d3:iEq (at6 g 3:Int) d.c=IS:=B8 g3
     have w:∃f,sdT (call AC (m+5)) l i=.ret f i.marked/\J 8 f=.bool IS:=by
      unfold sdT;simp only[sT,sh,OF,reduceIte,gD,Ar,AM,AK,t13,C,t11,t10,AH,AN,wC,xy,AJ,AP,E,L,Q,t1,t2,t3,D,H,d3];exact⟨_,rfl,by simp[AG]⟩
     obtain⟨f,p,q⟩:=w;refine⟨_,_,fin f _ _ p q,x,⟨λh=>(by cases h),?_⟩⟩;rintro⟨o,u,_,_,a4,_,_⟩;rw[K o u]at a4;exact absurd a4 g3
   ·have H:iEq (at6 g 2:Int) d.b=IS:=B8 g2
    have w:∃f,sdT (call AC (m+5)) l i=.ret f i.marked/\J 8 f=.bool IS:=by
     unfold sdT;simp only[sT,sh,OF,reduceIte,gD,Ar,AM,AK,t13,C,t11,t10,AH,AN,wC,xy,AJ,AP,E,L,t1,t2,D,H];exact⟨_,rfl,by simp[AG]⟩
    obtain⟨f,p,q⟩:=w;refine⟨_,_,fin f _ _ p q,x,⟨λh=>(by cases h),?_⟩⟩;rintro⟨o,u,_,a3,_⟩;rw[K o u]at a3;exact absurd a3 g2
  ·have D:iEq (at6 g 1:Int) d.a=IS:=B8 g1
   have w:∃f,sdT (call AC (m+5)) l i=.ret f i.marked/\J 8 f=.bool IS:=by
    unfold sdT;simp only[sT,sh,OF,reduceIte,gD,Ar,AM,AK,t13,C,t11,t10,AH,AN,wC,xy,AJ,AP,E,t1,D];exact⟨_,rfl,by simp[AG]⟩
   obtain⟨f,p,q⟩:=w;refine⟨_,_,fin f _ _ p q,x,⟨λh=>(by cases h),?_⟩⟩;rintro⟨o,u,a2,_⟩;rw[K o u]at a2;exact absurd a2 g1
 ·obtain⟨N,_,G,O,n4⟩:=Ld z.wf y3 (wB _) R rfl (k:=K0) rfl
  generalize h3.wr y.next 0 (AY K0)=i at N G O n4;have x:=(z.trans G).marked;have w:∃f,Yg (call AC (m+5)) (Ay e0 0 [pt A.bs,AI AT d.a,AI AT d.b,AI AT d.c]) h=.ret f i.marked/\J 8 f=.bool IS:=by
   unfold Yg sdT;simp only[iN,wA,sT,sh,OF,reduceIte,gD,p1,cA0,Z,AM,AK,c1,An,AX,AH,AN,wC,AJ,AP,l3,A1,ix,lp,P,Az,A8,A9,Cm,E6,U,AV,N,Ar,C];exact⟨_,rfl,by simp[AG]⟩
  obtain⟨f,p,q⟩:=w;refine⟨i.marked,IS,?_,x,⟨λh=>(by cases h),λ⟨o,u,_⟩=>absurd ⟨o,u⟩ I⟩⟩;rw[aQ rfl,bE,p];simp only[lV0,q]
theorem mI:aaS=BJ (Ab 0 (A4 aaB)) aaE:=rfl
theorem qE:d40=iM:=rfl
theorem lT:BX JE.zero 1=A5 0 0 0 0 AEW:=by kernel_rfl
theorem eh(f:h.Wf){g:O}{a b c:Int}{s:Nat}{u:vz}(d:g e=Bn a b c s u):Ap 1 (BX JE.zero 1) [(0,5,g)] F e h=.ok (.slice (BY ⟨h.next,0,By⟩) 1 1) (h.AER 0 (A5 a b c s u)):=by
 rw[lT,CQ,A3 (hk:=by rw[d];rfl),d,show cellsOf (Bn a b c s u)=A5 a b c s u from rfl,IT (show(A5 a b c s u).length=5 from rfl),IT (show 0+5<=(A5 0 0 0 0 AEW).length from wB _),Bw,Cw f];rfl
def LC(k:Kt):List vz:=A5 k.a k.b k.c k.s k.u
def flS(a:List Kt):List vz:=a.flatMap LC
theorem Pq:∀b:List Kt,(flS b).length=b.length*5
 |[]=>rfl
 |k::a=>by
  show(LC k++flS a).length=_;rw[wD,Pq a,wK];show 5+a.length*5=_;omega
theorem im(a b:List Kt):flS (a++b)=flS a++flS b:=ABN
def Hp.AL(h:Hp)(k:Nat)(v:vz)(ks:List Kt):Prop:=(v=AEW/\ks=[])\/∃a b,v=.slice (BY ⟨a,0,By⟩) ks.length ks.length/\h.Row a 94 (flS b)/\b.map Kt.core=ks.map Kt.core/\k<=a/\∀c∈b,h.BS (λa=>k<=a) c.u (c.l.map bv)
theorem Vv(E:h.Wf)(Rs:h.Row A.bs 0 (slL A.bd A.tb lv fv bad ov))(K:h.KS S lv ks)(hk:∀k∈ks,h.AEs k.u (k.l.map bv)/\k.l.length<=1000/\oneCell k.u=IN)(hl:ks.length<=1000):
  ∃h' v,call AC (m+4) 40 [pt A.bs] h=.ok v h'/\h.Ext h'/\h'.AL h.next v ks:=by
 have p1:∀(F:AES) (e:Env) (V:Hp),J 0 e=pt A.bs->oEq Hs.k IS (J 0) (W (.pointer By)) F e V=.ok (.bool IS) V:=λF e V Z=>kO Z
 obtain⟨_,_,_,l3,_⟩:=BB Rs;have ln:=K.len h;have c4:∃q,iM (call AC (m+3)) (Ay e0 0 [pt A.bs]) h=aaS (call AC (m+3)) q h/\J 3 q=AEW/\J 11 q=lv/\J 12 q=AI AT (ks.length:Int)/\J 13 q=AI AT ((0:Nat):Int):=by
  unfold iM;simp only[iN,wA,sT,sh,OF,reduceIte,p1,An,AX,AH,AN,wC,AJ,AP,l3,Aa,ln];exact⟨_,rfl,by simp[AG]⟩
 obtain⟨q,q1,s3,s11,s12,s13⟩:=c4;have c6:∃b h' v,A4 aaB (call AC (m+3)) q h=.exit 0 b h'/\h.Ext h'/\J 3 b=v/\h'.AL h.next v ks:=by
  refine Bb (I:=λi b h'=>∃v,h.Ext h'/\J 3 b=v/\J 11 b=lv/\J 12 b=AI AT (ks.length:Int)/\J 13 b=AI AT (i:Int)/\i<=ks.length/\h'.AL h.next v (ks.take i))
   (Q:=λa=>∃b h' v,a=.exit 0 b h'/\h.Ext h'/\J 3 b=v/\h'.AL h.next v ks) ks.length (by omega) (λi b h' ⟨v,L,t3,t11,t12,t13,hi,l⟩=>?_) ⟨_,.refl E,s3,s11,s12,s13,wl _,.inl ⟨rfl,rfl⟩⟩
  have w:=L.wf;by_cases a0:i<ks.length
  ·left
   have U:=Ec a0;obtain⟨a,hx⟩:∃a,ks[i]? =BY a:=⟨_,wE a0⟩;obtain⟨b2,ul,ou⟩:=hk a (wO hx);obtain⟨bb,_,ix,ld,_⟩:=(K.ext E L).at hx;have al:=λ(F:AES) (e:Env)=>BU (F:=F) (e:=e) w (n:=6) (t:=CR)
   have Ra:=Hp.Row.alloc w Fa (show(AY K0).length=6 from rfl);have y1:h'.Ext (h'.push (.cells CR 6 0)):=(Hp.Ext.refl w).push _;generalize h'.push (.cells CR 6 0)=r at al Ra y1;obtain⟨st,a9,M,R5,n2⟩:=Ld w y1 (wB _) Ra rfl (k:=a) ou;generalize r.wr h'.next 0 (AY a)=X at st a9 M R5 n2;have p:=L.trans M;obtain⟨Y,j,k3,y3,c3,c7⟩:=Xr (m:=m+1) p.wf (b2.ext E p) ul;have s:=p.trans y3;have sl:=λ(F:AES) (e:Env) (Z:J 19 e=Bn a.a a.b a.c a.s j)=>eh (F:=F) s.wf Z
   have x:=s.AER 0 (A5 a.a a.b a.c a.s j);have N:=(Hp.Ext.refl s.wf).AER 0 (A5 a.a a.b a.c a.s j);have Rw:=Hp.Row.new s.wf 0 (A5 a.a a.b a.c a.s j);generalize Y.AER 0 (A5 a.a a.b a.c a.s j)=G at sl x N Rw;have hs:∀K:List vz->R,BP G 5 (.slice (BY ⟨Y.next,0,By⟩) 1 1) 1 K=K (A5 a.a a.b a.c a.s j):=λK=>Rw.AGd (es:=5) (off:=0) (n:=1) (by show 0+1 * 5<=5;omega)
   have ha:Bd (A5 a.a a.b a.c a.s j)=IN:=by
    show(bif oneCell j then IN else IS)=IN;rw[c3];rfl
   have c8:=E.big;have a7:ks.take (i+1)=ks.take i++[a]:=by rw[zR,hx];rfl
   have B:(ks.take i).length=i:=by rw[wu];omega
   have vn:G.BS (λo=>h.next<=o) j (a.l.map bv):=(c7.ext s.wf N).mono λo hb=>by have:=p.next;omega
   have app:∃d b5 y,DX 5 56 93 v (.slice (BY ⟨Y.next,0,By⟩) 1 1) G=.ok (.slice (BY ⟨b5,0,By⟩) (i+1) (i+1)) d/\h.Ext d/\d.Row b5 94 (flS y)/\y.map Kt.core=(ks.take (i+1)).map Kt.core/\h.next<=b5/\∀g∈y,d.BS (λo=>h.next<=o) g.u (g.l.map bv):=by
    rcases l with ⟨l,h0⟩|⟨o,a8,l,c5,hL,hb,c0⟩
    ·have h0:i=0:=by rw[h0]at B;exact B.symm
     obtain⟨d,O,P,z,a4,_,T⟩:=KF (eb:=56) (en:=93) x hs rfl rfl ha (by omega);exact⟨d,_,[{a with u:=j}],by rw[l,h0];exact O,P,z,by rw[a7,h0];rfl,x.next,λg hy=>by rw[wP.1 hy];exact vn.ext x.wf T⟩
    ·rw[B]at l
     have b7:a8.length=i:=by rw[<- wF (f:=Kt.core),hL,wF,B]
     have H:=((c5.ext w M).ext p.wf y3).ext s.wf N;obtain⟨d,O,P,z,_,_,T⟩:=J8 (eb:=56) (en:=93) (n:=i) x hs rfl rfl (by omega) ha H (by rw[Pq,b7]) hb (by omega) (by omega);refine⟨d,_,a8++[{a with u:=j}],by rw[l];exact O,P,by rw[im];exact z,by rw[a7,w9,w9,hL];rfl,x.next,λg hy=>?_⟩;have kp:∀g:Kt,G.BS (λo=>h.next<=o) g.u (g.l.map bv)->d.BS (λo=>h.next<=o) g.u (g.l.map bv):=λg c2=>by
      rcases c2 with r|⟨b6,off,b3,el,L6,q1,q2,q3,q4,q5,q6,q7⟩
      ·exact .inl r
      ·exact .inr ⟨b6,off,b3,el,L6,q1,q2,T b6 el L6 (EC q3 H (by omega)) q3,q4,q5,q6,q7⟩
     rcases wd.1 hy with r|r
     ·exact kp g ((((c0 g r).ext w M).ext p.wf y3).ext s.wf N)
     ·rw[wP.1 r];exact kp _ vn
   obtain⟨d,b5,y,k5,x5,b1,b4,b8,b0⟩:=app;have z:=CL (i:=i) (h:=d) (by omega);have a5:∃c,aaB (call AC (m+3)) b h'=.norm c d/\J 3 c=.slice (BY ⟨b5,0,By⟩) (i+1) (i+1)/\J 11 c=lv/\J 12 c=AI AT (ks.length:Int)/\J 13 c=AI AT ((i+1:Nat):Int):=by
    unfold aaB;simp only[sT,sh,OF,reduceIte,AM,AK,t13,t12,U,A1,t11,ix,Ai,Ac,ld,al,AV,st,a9,cA0,k3,sl,BD,t3,k5,BL,z];exact⟨_,rfl,by simp[AG,t11,t12]⟩
   obtain⟨c,C,D,r3,H,r5⟩:=a5;exact⟨a0,c,d,C,_,x5,D,r3,H,r5,by omega,.inr ⟨b5,y,by rw[a7,wD,B];rfl,b1,b4,b8,b0⟩⟩
  ·right
   have b9:i=ks.length:=by omega
   have U:=DC (show ks.length<=i by omega);have a5:∃c,aaB (call AC (m+3)) b h'=.exit 0 c h'/\J 3 c=v:=by
    unfold aaB;simp only[sT,sh,OF,reduceIte,AM,AK,t13,t12,U];exact⟨_,rfl,by simp[AG,t3]⟩
   obtain⟨c,C,D⟩:=a5;rw[C];rw[b9,xz]at l;exact⟨rfl,c,h',v,rfl,L,D,l⟩
 obtain⟨c,X,v,C,p,D,l⟩:=c6;have key:call AC (m+4) 40 [pt A.bs] h=.ok v X:=by
  rw[oD rfl,qE,q1,mI];simp only[BC,Aw,C,A6,BA];unfold aaE;simp only[sT,sh,OF,reduceIte,D,lV0]
 exact⟨X,v,key,p,l⟩
end
def Dn(ks:List Kt)(n:Nat)(a b c:Int)(l:List Nat):Option Int:=
 if AEh a b c 1 l.length=IS\/100<l.length then BY 2
 else match ks.find? (BI a b c)with
  |some d=>if d.l=l then BY 0 else BY 60
  |none=>if Bp a b c ks=IN then BY 61 else if n=0 then BY 62 else By
section
variable {F:AES}{e:Env}{h h':Hp}{A:At}{T M:List Nat}{c0 bad m:Nat}{arm:Int}{ks:List Kt}{fr:List Nat}{lv fv:vz}
theorem eL(q:h.Wf)(s:Sl h A T M c0 arm ks fr lv fv bad IS){a b c:Int}{l:List Nat}{u:vz}(S:h.VE u (l.map bv))(hl:l.length<=1000){z:Int}(d:Dn ks fr.length a b c l=BY z):
  ∃h',call AC (m+8) 54 [pt A.bs,AI AT a,AI AT b,AI AT c,u] h=.ok (AI AT z) h'/\h.Ext h':=by
 have N:=s.le.1;have r:iNe 0 0=IS:=CE rfl;have y:=OA (m:=m+6) s.row;obtain⟨K,o,B,Q,a5⟩:=OV (n:=m+6) q S (by omega);have W:=a5.one;have bl:=λ(F:AES) (e:Env) (I:J 1 e=AI AT a) (x:J 2 e=AI AT b) (U:J 3 e=AI AT c) (e4:J 28 e=o)=>Q6 (F:=F) (h:=K) (g1:=J 1) (g2:=J 2) (g3:=J 3) (g5:=J 28) I x U e4 W.1 W.2.2
 have j:=λ(F:AES) (e:Env)=>BU (F:=F) (e:=e) Q.wf (n:=5) (t:=DT)
 have Ra:=Hp.Row.alloc Q.wf Fm (show(A5 0 0 0 0 AEW).length=5 from rfl);have y2:K.Ext (K.push (.cells DT 5 0)):=(Hp.Ext.refl Q.wf).push _;generalize K.push (.cells DT 5 0)=h2 at j Ra y2;obtain⟨k,_,y3,a1,n3⟩:=MG Q.wf y2 (wB _) Ra rfl (a:=a) (b:=b) (c:=c) (s:=1) (u:=o) W.2.1;generalize h2.wr K.next 0 (A5 a b c 1 o)=h3 at k y3 a1 n3;have X:=Q.trans y3;obtain⟨_,_,_,_,_,p⟩:=Br a1;have b0:∀g,AFB o g=.ok (AI AT (l.length:Int)) g:=λg=>a5.vals.bl g
 have i:=KX (n:=m+6) X.wf (a:=a) (b:=b) (c:=c) (s:=1) (u:=o) b0;have y4:=(Hp.Ext.refl X.wf).AER 0 (A5 a b c 1 o);generalize h3.AER 0 (A5 a b c 1 o)=h4 at i y4;have E:=X.trans y4;have P:∀g:Hp,AFB u g=.ok (AI AT (l.length:Int)) g:=λg=>S.bl g
 obtain⟨_,_,O,_⟩:=BB (s.row.ext q E);have s4:=s.ext q E;unfold Dn at d;by_cases R:AEh a b c 1 l.length=IS
 ·rw[IT (.inl R)]at d
  cases d;rw[R]at i;refine⟨h4,?_,E⟩;rw[Hy rfl,H0];unfold OC;simp only[iN,wA,sT,sh,OF,reduceIte,gD,cA0,y,AM,AK,r,B,bl,j,AV,k,Ai,Ac,p,i,BO,BN,xP,lV0]
 ·have a7:AEh a b c 1 l.length=IN:=by
   cases hq:AEh a b c 1 l.length
   ·exact absurd hq R
   ·rfl
  rw[a7]at i;by_cases a0:100<l.length
  ·rw[IT (.inr a0)]at d
   cases d;have w:iGt (l.length:Int) 100=IN:=Hm (by omega);refine⟨h4,?_,E⟩;rw[Hy rfl,H0];unfold OC;simp only[iN,wA,sT,sh,OF,reduceIte,gD,cA0,y,AM,AK,r,B,bl,j,AV,k,Ai,Ac,p,i,BO,BN,xK,Aa,P,An,AX,AH,AN,wC,AJ,AP,O,w,lV0]
  ·rw[If (by
    rintro (h|h)
    ·exact R h
    ·exact a0 h)]at d
   have w:iGt (l.length:Int) 100=IS:=GQ (by omega);obtain⟨h5,C,x5⟩:=GN (m:=m+4) E.wf s4.row s4.ls.ks (by omega) a b c;have G:=E.trans x5;have s5:=s.ext q G;rcases EB (BI a b c) ks 0 with ⟨I,x⟩|⟨a8,D,I,x,U⟩
   ·rw[x]at C
    rw[I]at d;simp only at d;have H:iGe (-1) 0=IS:=E0 (by omega);obtain⟨L,f,Z⟩:=G7 (m:=m+3) G.wf s5.row s5.ls.ks (by omega) a b c;have Y:=G.trans Z;have s6:=s.ext q Y;cases a3:Bp a b c ks with
    |true=>
     rw[a3]at f d;cases d;refine⟨L,?_,Y⟩;rw[Hy rfl,H0];unfold OC;simp only[iN,wA,sT,sh,OF,reduceIte,gD,cA0,y,AM,AK,r,B,bl,j,AV,k,Ai,Ac,p,i,BO,BN,xK,Aa,P,An,AX,AH,AN,wC,AJ,AP,O,w,C,H,f,BC,Aw,B7,Ce,lV0]
    |false=>
     rw[a3]at f d;rw[If (by decide)]at d;by_cases V:fr.length=0
     ·rw[IT V]at d
      cases d;obtain⟨_,_,_,_,l4,_⟩:=BB s6.row;have a4:=s6.fs.vals.len;have a6:(ints .i64 (fr.map xR)).length=fr.length:=by unfold ints;rw[wF,wF]
      rw[a6,V]at a4;have c3:iEq ((0:Nat):Int) 0=IN:=CZ rfl;refine⟨L,?_,Y⟩;rw[Hy rfl,H0];unfold OC;simp only[iN,wA,sT,sh,OF,reduceIte,gD,cA0,y,AM,AK,r,B,bl,j,AV,k,Ai,Ac,p,i,BO,BN,xK,Aa,P,An,AX,AH,AN,wC,AJ,AP,O,w,C,H,f,l4,a4,c3,BC,Aw,B7,Ce,lV0]
     ·rw[If V]at d;cases d
   ·rw[U,wC]at C
    rw[I]at d;simp only at d;have H:iGe (a8:Int) 0=IN:=F0 (by omega);obtain⟨_,_,_,l3,_⟩:=BB s5.row;obtain⟨bb,_,ix,_,a9⟩:=s5.ls.ks.at x;have lu:=a9 4 D.u rfl;have a2:=wO x;obtain⟨L,f,Z⟩:=OY (m:=m+6) G.wf ((s5.ko D a2).1.vs.vals) (S.ext q G) (by have:=(s5.ko D a2).2.2.1;omega);have f:call AC (m+7) 93 [D.u,u] h5=.ok (.bool (decide (D.l=l))) L:=f;refine⟨L,?_,G.trans Z⟩;by_cases N:D.l=l
    ·rw[IT N]at d
     cases d;rw[decide_eq_true N]at f;rw[Hy rfl,H0];unfold OC;simp only[iN,wA,sT,sh,OF,reduceIte,gD,cA0,y,AM,AK,r,B,bl,j,AV,k,Ai,Ac,p,i,BO,BN,xK,Aa,P,An,AX,AH,AN,wC,AJ,AP,O,w,C,H,l3,A1,ix,lu,xy,f,lV0]
    ·rw[If N]at d
     cases d;rw[decide_eq_false N]at f;rw[Hy rfl,H0];unfold OC;simp only[iN,wA,sT,sh,OF,reduceIte,gD,cA0,y,AM,AK,r,B,bl,j,AV,k,Ai,Ac,p,i,BO,BN,xK,Aa,P,An,AX,AH,AN,wC,AJ,AP,O,w,C,H,l3,A1,ix,lu,xy,f,lV0]
end
theorem oC:BZ 38 [.t (J 2)] d38:=Ba (by kernel_rfl) rfl
theorem oO:BZ 66 [.t (J 2)] d66:=Ba (by kernel_rfl) rfl
theorem gR:BZ 104 [] pN:=Ba (by kernel_rfl) rfl
theorem gc:BZ 129 [] pn:=Ba (by kernel_rfl) rfl
theorem gj:BZ 146 [] pz:=Ba (by kernel_rfl) rfl
theorem gk:BZ 152 [.t (J 4)] qB:=Ba (by kernel_rfl) rfl
def P5(x:Nat):List Nat->List Nat
 |[]=>[x]
 |y::a=>if x<y then y::P5 x a else x::y::a
def OE(A:List Nat)(x:Nat):List Nat:=(P5 x A.reverse).reverse
def fC:List Nat->List Nat->List Nat
 |A,[]=>A
 |A,b::a=>fC (OE A b) a
def EZ(l:List Nat):List Nat:=fC (l.take 1) (l.drop 1)
theorem LR(x y:Nat)(r:List Nat):P5 x (y::r)=if x<y then y::P5 x r else x::y::r:=rfl
theorem Ot(x:Nat):∀l:List Nat,(P5 x l).Perm (x::l)
 |[]=>.refl _
 |y::a=>by
  rw[LR];split
  ·exact((Ot x a).cons y).trans (.swap x y a)
  ·exact .refl _
theorem Om(A:List Nat)(x:Nat):(OE A x).Perm (x::A):=by
 unfold OE;exact(zI _).trans ((Ot x _).trans ((zI A).cons x))
theorem PM:∀(B A:List Nat),(fC A B).Perm (A++B)
 |[],A=>by
  rw[wT];exact .refl _
 |x::B,A=>by
  show(fC (OE A x) B).Perm _;exact(PM B _).trans (((Om A x).append_right B).trans zn.symm)
theorem Hd(l:List Nat):(EZ l).Perm l:=by
 unfold EZ;have:=PM (l.drop 1) (l.take 1)
 rwa [yE]at this
theorem Oq{x:Nat}:∀{R Q:List Nat},(∀y∈R,x<y)->P5 x (R++Q)=R++P5 x Q
 |[],Q,_=>rfl
 |y::R,Q,a=>by
  rw[yS,LR,IT (a y wJ),Oq λc b=>a c (wI _ b)];rfl
theorem XP{x:Nat}{P Q:List Nat}(e:∀y∈Q,x<y)(d:P=[]\/∃a y,P=a++[y]/\¬x<y):OE (P++Q) x=P++x::Q:=by
 unfold OE;rw[yr,Oq λy b=>e y (zz.1 b)];have c:P5 x P.reverse=x::P.reverse:=by
  rcases d with rfl|⟨a,y,rfl,b⟩
  ·rfl
  ·rw[yr]
   show P5 x (y::a.reverse)=_;rw[LR,If b];rfl
 rw[c,yr,AAS,zL,zL,wa];rfl
def iv(l:List Nat):List vz:=ints .i64 (l.map xR)
theorem Dv(l:List Nat):(iv l).length=l.length:=by unfold iv ints;rw[wF,wF]
theorem ly{l:List Nat}{j x:Nat}(h:l[j]? =BY x):(iv l)[j]? =BY (AI AT (x:Int)):=by
 unfold iv ints;rw[xc,xc,h];rfl
theorem kH{a:List vz}{j:Nat}{v:vz}(b:j<a.length):over a j [v]=a.set j v:=by
 unfold over;rw[List.set_eq_take_append_cons_drop,IT b,wa];rfl
theorem rD{l:List Nat}{j x:Nat}:(iv l).set j (AI AT (x:Int))=iv (l.set j x):=by
 unfold iv ints;rw[ABS,ABS];rfl
section
variable {F:AES}{e:Env}{h h':Hp}{S:Nat->Prop}{bl el n c m:Nat}{l:List Nat}{Z:List vz}
theorem MS(R:h.Row bl el (iv l++Z)){j x:Nat}(a:l[j]? =BY x):AEV ⟨bl,j,By⟩ h=.ok (AI AT (x:Int)) h:=by
 have b:=(wW.1 a).1;rw[R.AEV (off:=j) (by rw[wD,Dv];omega),wG,wX (by rw[Dv];exact b),ly a];rfl
theorem P9{j:Nat}(hj:j<n):AFM 1 (.slice (BY ⟨bl,0,By⟩) n c) (AI AT (j:Int)) h=.ok (.pointer (BY ⟨bl,j,By⟩)) h:=by
 have:=DB (h:=h) (n:=n) (c:=c) (es:=1) (b:=bl) (off:=0) (i:=j) (k:=.i64) hj
 rwa [wC,yp]at this
theorem cR(d:h.Wf)(R:h.Row bl el (iv l++Z))(o:256<=bl){j:Nat}(k:j<l.length)(x:Nat):
  ∃h',(∀(F:AES) (e:Env) (g f:O),g e=.pointer (BY ⟨bl,j,By⟩)->f e=AI AT (x:Int)->AZ .free (Ad 1 g f) F e h=.ok AEU h')/\Fx (λb=>b=bl) h h'/\h'.Row bl el (iv (l.set j x)++Z)/\h'.next=h.next/\h'.mark=h.mark:=by
 have a:h.quiet.Row bl el (iv l++Z):=R.same rfl;have p:j+[xd .i64 (x:Int)].length<=(iv l).length:=by rw[Dv];exact k
 have c:j+[xd .i64 (x:Int)].length<=(iv l++Z).length:=by rw[wD];omega
 have i:=a.AEa (n:=1) (off:=j) (v:=AI AT (x:Int)) d.quiet o rfl (by rw[Cr];exact c) rfl;rw[Cr]at i;have wr:=a.AEf d.quiet c;rw[PB p,kH (by rw[Dv];exact k),rD]at wr;have fx:=Fx.wr (S:=λb=>b=bl) d.quiet a c rfl;have m:=a.AE7 c;generalize h.quiet.wr bl j [xd .i64 (x:Int)]=s at i wr fx m;exact⟨h.back s,λF e g f q r=>BE (by rw[AV,q,r];exact i),(fx.from (h:=h) rfl rfl).same rfl rfl,wr.same rfl,m,rfl⟩
theorem jJ{x y:Nat}:call AC (m+2) 152 [AI AT (x:Int),AI AT (y:Int)] h=.ok (.bool (decide (x<y))) h:=by
 have e:∀a:Int,call AC (m+1) 143 [AI AT a] h=.ok (.bool IS) h:=λa=>by
  have c:iNe a a=IS:=CE rfl;rw[WO rfl];unfold iH;simp only[iN,wA,sT,sh,OF,reduceIte,AM,AK,c,lV0]
 have d:iLt (x:Int) (y:Int)=decide (x<y):=by
  rw[DG];by_cases b:x<y
  ·rw[decide_eq_true b,decide_eq_true (by omega)]
  ·rw[decide_eq_false b,decide_eq_false (by omega)]
 rw[gk rfl];unfold qB;simp only[iN,wA,sT,sh,OF,reduceIte,gD,cA0,e,AM,AK,d,lV0]
theorem Uw:nnB=dD:=rfl
theorem dE:noB=jX:=rfl
theorem iJ:pz=bB:=rfl
theorem VV{i:Nat}{g:Hp}(hi:i<=1000000):Ge xO .i64 (AI AT ((i+1:Nat):Int)) (AI AT 1) g=.ok (AI AT (i:Int)) g:=by
 have:xO ((i+1:Nat):Int) 1=(i:Int):=by
  show((i+1:Nat):Int) - 1=_;omega
 rw[Co,this,Bl (by omega)]
theorem fI(u:h.Wf){P R:List Nat}{x y:Nat}(d:l=P++y::x::R)(t:h.Row bl el (iv l++Z))(p:256<=bl)(T:n=l.length)(S:l.length<=100000)
  (s0:J 0 e=.slice (BY ⟨bl,0,By⟩) n c)(s7:J 7 e=AI AT ((P.length+1:Nat):Int)):
  ∃a h',nwB F e h=.norm a h'/\Fx (λb=>b=bl) h h'/\h'.Row bl el (iv (P++x::y::R)++Z)/\∀j,j=0\/j=1\/j=2\/j=6\/j=7->J j a=J j e:=by
 have U:l.length=P.length+1+1+R.length:=by rw[d,wD,wK,wK];omega
 have f:h.marked.Row bl el (iv l++Z):=t.same rfl;have H:=MS f (j:=P.length+1) (x:=x) (by rw[d];exact KI);have I:=MS f (j:=P.length) (x:=y) (by rw[d];exact GV);have E:=λg:Hp=>P9 (h:=g) (bl:=bl) (n:=n) (c:=c) (j:=P.length+1) (by omega)
 have G:=λg:Hp=>P9 (h:=g) (bl:=bl) (n:=n) (c:=c) (j:=P.length) (by omega)
 have w:=λg:Hp=>VV (g:=g) (i:=P.length) (by omega)
 obtain⟨m,K,s,q,X,V⟩:=cR (j:=P.length+1) u.marked f p (by omega) y;have z:l.set (P.length+1) y=P++y::y::R:=by
  rw[d,show P++y::x::R=(P++[y])++x::R by simp,show P.length+1=(P++[y]).length by simp,Kg];simp
 rw[z]at q;obtain⟨o,M,A,r,Y,W⟩:=cR (j:=P.length) s.wf q p (by rw[wD];simp) x;rw[Kg]at r;have B:Fx (λb=>b=bl) h m:=s.from (h:=h) rfl rfl;have L:∀(F:AES) (e:Env),J 47 e=.pointer (BY ⟨bl,P.length+1,By⟩)->J 42 e=AI AT (y:Int)->AZ .free (Ad 1 (J 47) (J 42)) F e h.marked=.ok AEU m:=λF e k b=>K F e _ _ k b
 have N:∀(F:AES) (e:Env),J 48 e=.pointer (BY ⟨bl,P.length,By⟩)->J 46 e=AI AT (x:Int)->AZ .free (Ad 1 (J 48) (J 46)) F e m=.ok AEU o:=λF e k b=>M F e _ _ k b
 have D:∃a,nwB F e h=.norm a o/\∀j,j=0\/j=1\/j=2\/j=6\/j=7->J j a=J j e:=by
  unfold nwB;simp only[sT,sh,OF,reduceIte,Ar,B6,s7,w,A1,s0,G,AJ,AP,I,E,H,L,N];refine⟨_,rfl,λj C=>?_⟩;rcases C with rfl|rfl|rfl|rfl|rfl<;>simp only[AG,sh,OF,reduceIte]
 obtain⟨a,O,Q⟩:=D;exact⟨a,o,O,B.trans A,r,Q⟩
theorem Ys(Y:h.Wf){A B:List Nat}{x:Nat}(X:h.Row bl el (iv (A++x::B)++Z))(W:256<=bl)(hn:n=(A++x::B).length)(hl:n<=1000)
  (s0:J 0 e=.slice (BY ⟨bl,0,By⟩) n c)(s1:J 1 e=AI AT 0)(s7:J 7 e=AI AT (A.length:Int)):
  ∃d h',A4 nnB (call AC (m+3)) e h=.exit 2 d h'/\Fx (λb=>b=bl) h h'/\h'.Row bl el (iv (OE A x++B)++Z)/\∀j,j=0\/j=1\/j=2\/j=6->J j d=J j e:=by
 have a2:(A++x::B).length=A.length+1+B.length:=by rw[wD,wK];omega
 refine Bb (I:=λi d g=>∃P Q,A=P++Q/\P.length+i=A.length/\Fx (λb=>b=bl) h g/\g.Row bl el (iv (P++x::(Q++B))++Z)/\(∀y∈Q,x<y)/\J 7 d=AI AT (P.length:Int)/\∀j,j=0\/j=1\/j=2\/j=6->J j d=J j e)
  (Q:=λa3=>∃d h',a3=.exit 2 d h'/\Fx (λb=>b=bl) h h'/\h'.Row bl el (iv (OE A x++B)++Z)/\∀j,j=0\/j=1\/j=2\/j=6->J j d=J j e) (A.length+1) (by omega) (λi d g ⟨P,Q,C,hP,fx,R,K,t7,u⟩=>?_) ⟨A,[],by rw[wT],rfl,.refl Y,X,λy hy=>(by cases hy),s7,λ_ _=>rfl⟩
 have F:=fx.wf;have t0:=(u 0 (by omega)).trans s0;have t1:=(u 1 (by omega)).trans s1;rcases X8 P with rfl|⟨a,y,rfl⟩
 ·right
  have z:iGt ((([]:List Nat).length:Nat):Int) 0=IS:=GQ (by decide);have s:∃l,nnB (call AC (m+3)) d g=.exit 2 l g.marked/\∀j,j=0\/j=1\/j=2\/j=6->J j l=J j d:=by
   rw[Uw];unfold dD;simp only[sT,sh,OF,reduceIte,gD,Ar,AM,AK,t7,t1,z];refine⟨_,rfl,λj k=>?_⟩;rcases k with rfl|rfl|rfl|rfl<;>simp only[AG,sh,OF,reduceIte]
  obtain⟨l,q,p⟩:=s;rw[q];refine⟨rfl,l,_,rfl,fx.same rfl rfl,?_,λj k=>(p j k).trans (u j k)⟩;have:=XP (x:=x) (P:=[]) (Q:=Q) K (.inl rfl);rw[C,this];have e5:([]++x::Q)++B=[]++x::(Q++B):=rfl;rw[e5];exact R.same rfl
 ·have T:(a++[y]).length=a.length+1:=by simp
  rw[T]at hP t7;have lA:A.length=a.length+1+Q.length:=by rw[C,wD,T]
  have eR:(a++[y])++x::(Q++B)=a++y::x::(Q++B):=by simp
  rw[eR]at R;have lL:(a++y::x::(Q++B)).length=n:=by
   rw[hn,a2,lA];simp only[wD,wK];omega
  have N:g.marked.Row bl el (iv (a++y::x::(Q++B))++Z):=R.same rfl;have U:=MS N (j:=a.length+1) (x:=x) KI;have V:=MS N (j:=a.length) (x:=y) GV;have O:=λg:Hp=>P9 (h:=g) (bl:=bl) (n:=n) (c:=c) (j:=a.length+1) (by omega)
  have S:=λg:Hp=>P9 (h:=g) (bl:=bl) (n:=n) (c:=c) (j:=a.length) (by omega)
  have z:iGt ((a.length+1:Nat):Int) 0=IN:=Hm (by omega);have G:=λg:Hp=>VV (g:=g) (i:=a.length) (by omega)
  have k2:=jJ (m:=m+1) (h:=g.marked.quiet) (x:=x) (y:=y);have t:∀e:Env,J 23 e=AI AT (x:Int)->J 28 e=AI AT (y:Int)->AZ .free (AU 152 [J 23,J 28]) (call AC (m+3)) e g.marked=.ok (.bool (decide (x<y))) (g.marked.back g.marked.quiet):=λe e1 l=>by
   refine BE ?_;rw[BG,AS,AS,Av,e1,l];exact k2
  have w:g.Ext (g.marked.back g.marked.quiet):=(Hp.Ext.refl F).marked.trans (.back (.refl F.marked.quiet));generalize g.marked.back g.marked.quiet=r at t w;have M:=R.ext F w;by_cases D:x<y
  ·left
   rw[decide_eq_true D]at t;have sw:∀l:Env,J 0 l=.slice (BY ⟨bl,0,By⟩) n c->J 7 l=AI AT ((a.length+1:Nat):Int)->∃f o,nwB (call AC (m+3)) l r=.norm f o/\Fx (λb=>b=bl) r o/\o.Row bl el (iv (a++x::y::(Q++B))++Z)/\∀j,j=0\/j=1\/j=2\/j=6\/j=7->J j f=J j l:=λl a0 b=>fI w.wf rfl M W lL.symm (by omega) a0 b
   have s:∃f o,nnB (call AC (m+3)) d g=.norm f o/\Fx (λb=>b=bl) r o/\o.Row bl el (iv (a++x::y::(Q++B))++Z)/\J 7 f=AI AT (a.length:Int)/\∀j,j=0\/j=1\/j=2\/j=6->J j f=J j d:=by
    rw[Uw];unfold dD;simp only[sT,sh,OF,reduceIte,gD,Ar,AM,AK,t7,t1,z,t0,A1,O,AJ,AP,U,B6,G,S,V,t,BC,Aw];obtain⟨f,o,q,H,E,p⟩:=sw (Env.set 30 (.bool IN) (Env.set 29 (.bool IN) (Env.set 28 (AI AT (y:Int)) (Env.set 27 (.pointer (BY ⟨bl,a.length,By⟩)) (Env.set 26 (AI AT (a.length:Int)) (Env.set 25 (AI AT ((a.length+1:Nat):Int)) (Env.set 24 (.slice (BY ⟨bl,0,By⟩) n c) (Env.set 23 (AI AT (x:Int)) (Env.set 22 (.pointer (BY ⟨bl,a.length+1,By⟩)) (Env.set 21 (AI AT ((a.length+1:Nat):Int)) (Env.set 20 (.slice (BY ⟨bl,0,By⟩) n c) (Env.set 18 (.bool IN) d)))))))))))) (by simp[AG,t0]) (by simp[AG,t7]);have u7:J 7 f=AI AT ((a.length+1:Nat):Int):=(p 7 (by omega)).trans (by simp[AG,t7]);rw[q];simp only[DU,BA,sT,sh,OF,reduceIte,B6,u7,G];refine⟨_,_,rfl,H,E,by simp[AG],λj k=>?_⟩;have:=p j (by omega);rcases k with rfl|rfl|rfl|rfl<;>simp only[AG,sh,OF,reduceIte]at this ⊢<;>exact this
   obtain⟨f,o,q,H,E,r7,p⟩:=s;refine⟨by omega,f,o,q,a,y::Q,by rw[C];simp,by omega,(fx.trans (.of w)).trans H,E,λa4 L=>?_,r7,λj k=>(p j k).trans (u j k)⟩;rcases wS.1 L with rfl|L
   ·exact D
   ·exact K a4 L
  ·right
   rw[decide_eq_false D]at t;have s:∃f,nnB (call AC (m+3)) d g=.exit 2 f r/\∀j,j=0\/j=1\/j=2\/j=6->J j f=J j d:=by
    rw[Uw];unfold dD;simp only[sT,sh,OF,reduceIte,gD,Ar,AM,AK,t7,t1,z,t0,A1,O,AJ,AP,U,B6,G,S,V,t];refine⟨_,rfl,λj k=>?_⟩;rcases k with rfl|rfl|rfl|rfl<;>simp only[AG,sh,OF,reduceIte]
   obtain⟨f,q,p⟩:=s;rw[q];refine⟨rfl,f,r,rfl,fx.trans (.of w),?_,λj k=>(p j k).trans (u j k)⟩;rw[C,XP K (.inr ⟨a,y,rfl,D⟩),wa,wa];exact M
theorem ZS(C:h.Wf){l:List Nat}(B:h.Row bl el (iv l++Z))(z:256<=bl)(V:n=l.length)(L:n<=1000):
  ∃h',call AC (m+4) 146 [.slice (BY ⟨bl,0,By⟩) n c,AI AT 0,AI AT (n:Int)] h=.ok AEU h'/\Fx (λb=>b=bl) h h'/\h'.Row bl el (iv (EZ l)++Z):=by
 have T:∀k:Env,J 0 k=.slice (BY ⟨bl,0,By⟩) n c->J 1 k=AI AT 0->J 2 k=AI AT (n:Int)->J 6 k=AI AT ((1:Nat):Int)->∃d h',A4 noB (call AC (m+3)) k h=.exit 0 d h'/\Fx (λb=>b=bl) h h'/\h'.Row bl el (iv (EZ l)++Z):=λk s0 s1 s2 s6=>by
  refine Bb (I:=λi d j=>∃a g,a.length+g.length=l.length/\(a.length=i+1\/(g=[]/\a.length<=i+1))/\fC a g=EZ l/\Fx (λb=>b=bl) h j/\j.Row bl el (iv (a++g)++Z)/\J 0 d=.slice (BY ⟨bl,0,By⟩) n c/\J 1 d=AI AT 0/\J 2 d=AI AT (n:Int)/\J 6 d=AI AT ((i+1:Nat):Int))
   (Q:=λq=>∃d h',q=.exit 0 d h'/\Fx (λb=>b=bl) h h'/\h'.Row bl el (iv (EZ l)++Z)) n (by omega) (λi d j ⟨a,g,x,K,y,fx,R,t0,t1,t2,t6⟩=>?_) ⟨l.take 1,l.drop 1,by rw[wu,xT];omega,?_,rfl,.refl C,by rw[yE];exact B,s0,s1,s2,s6⟩
  ·have D:=fx.wf
   cases g with
   |nil=>
    right;have w:a.length=n:=by simp only[xD]at x;omega
    have s:iLt ((i+1:Nat):Int) (n:Int)=IS:=DC (by omega);have u:∃f,noB (call AC (m+3)) d j=.exit 0 f j:=by
     rw[dE];unfold jX;simp only[sT,sh,OF,reduceIte,AM,AK,t6,t2,s];exact⟨_,rfl⟩
    obtain⟨f,p⟩:=u;rw[p];refine⟨rfl,f,j,rfl,fx,?_⟩;rw[<- y];rw[wT]at R;exact R
   |cons q g=>
    left;rw[wK]at x;have w:a.length=i+1:=by
     rcases K with t|⟨t,_⟩
     ·exact t
     ·cases t
    have s:iLt ((i+1:Nat):Int) (n:Int)=IN:=Ec (by omega);obtain⟨G,o,M,H,A,r⟩:=Ys (m:=m) (e:=Env.set 7 (AI AT ((i+1:Nat):Int)) (Env.set 12 (.bool IN) d)) D R z (by rw[wD,wK];omega) L (by simp only[AG,sh,OF,reduceIte];exact t0) (by simp only[AG,sh,OF,reduceIte];exact t1) (by simp only[AG,sh,OF,reduceIte,w]);have g0:=r 0 (by omega);have g1:=r 1 (by omega);have g2:=r 2 (by omega);have g6:=r 6 (by omega);simp only[AG,sh,OF,reduceIte,t0]at g0;simp only[AG,sh,OF,reduceIte,t1]at g1;simp only[AG,sh,OF,reduceIte,t2]at g2;simp only[AG,sh,OF,reduceIte,t6]at g6;have F:GF .i64 (AI AT ((i+1:Nat):Int)) (AI AT 1) o=.ok (AI AT ((i+1+1:Nat):Int)) o:=CL (by omega);have u:∃f,noB (call AC (m+3)) d j=.norm f o/\J 0 f=.slice (BY ⟨bl,0,By⟩) n c/\J 1 f=AI AT 0/\J 2 f=AI AT (n:Int)/\J 6 f=AI AT ((i+1+1:Nat):Int):=by
     rw[dE];unfold jX;simp only[sT,sh,OF,reduceIte,AM,AK,t6,t2,s,M,g6,BL,F];exact⟨_,rfl,by simp only[AG,sh,OF,reduceIte];exact g0,by simp only[AG,sh,OF,reduceIte];exact g1,by simp only[AG,sh,OF,reduceIte];exact g2,by simp[AG]⟩
    obtain⟨f,p,N,O,P,S⟩:=u;have W:(OE a q).length=a.length+1:=(Om a q).length_eq;exact⟨by omega,f,o,p,OE a q,g,by omega,.inl (by omega),y,fx.trans H,A,N,O,P,S⟩
  ·cases l with
   |nil=>exact .inr ⟨rfl,wl _⟩
   |cons X l=>exact .inl rfl
 have E:GF .i64 (AI AT 0) (AI AT 1) h=.ok (AI AT ((1:Nat):Int)) h:=CL (i:=0) (by omega);obtain⟨G,o,p,U⟩:=T (Env.set 6 (AI AT ((1:Nat):Int)) (Env.set 9 (AI AT ((1:Nat):Int)) (Ay e0 0 [.slice (BY ⟨bl,0,By⟩) n c,AI AT 0,AI AT (n:Int)]))) (by simp only[iN,wA,AG,sh,OF,reduceIte]) (by simp only[iN,wA,AG,sh,OF,reduceIte]) (by simp only[iN,wA,AG,sh,OF,reduceIte]) (by simp[AG]);simp only[iN,wA]at p;refine⟨o,?_,U⟩;rw[gj rfl,iJ];unfold bB;simp only[iN,wA,sT,sh,OF,reduceIte,BL,E,p,Dw,Du]
theorem iF:pn=bA:=rfl
theorem rV:npB=rW:=rfl
theorem ey(k:h.Wf){l:List Nat}(j:h.Row bl el (iv l++Z))(g:256<=bl)(s:n=l.length)(y:n<=12):
  ∃h',call AC (m+6) 104 [.slice (BY ⟨bl,0,By⟩) n c] h=.ok AEU h'/\Fx (λb=>b=bl) h h'/\h'.Row bl el (iv (EZ l)++Z):=by
 obtain⟨d,t,x,i⟩:=ZS (m:=m) (c:=c) k j g s (by omega);obtain⟨f,u⟩:=Pa (m:=m+3) (h:=h) (n:=n) (by omega);have q:Ds .u64 (AI AT (n:Int)) h=.ok (.int .u64 (n:Int)) h:=by rw[Cz,Eu (by omega)]
 have o:Ge xO .i64 (AI AT (n:Int)) (AI AT 0) h=.ok (AI AT (n:Int)) h:=by
  have:xO (n:Int) 0=(n:Int):=AD3 _;rw[Co,this,Bl (by omega)]
 have p:iLe (n:Int) 12=IN:=Hn (by omega);have w:call AC (m+5) 129 [.slice (BY ⟨bl,0,By⟩) n c,AI AT 0,AI AT (n:Int),AI AT (f:Int)] h=.ok AEU d:=by
  have r:∃e,npB (call AC (m+4)) (Env.set 9 (.bool IN) (Env.set 8 (.bool IN) (Ay e0 0 [.slice (BY ⟨bl,0,By⟩) n c,AI AT 0,AI AT (n:Int),AI AT (f:Int)]))) h=.ret e d:=by
   rw[rV];unfold rW;simp only[iN,wA,sT,sh,OF,reduceIte,B6,o,AM,AK,p,cA0,t];exact⟨_,rfl⟩
  obtain⟨e,a⟩:=r;have a:=NW a;simp only[iN,wA]at a;rw[gc rfl,iF];unfold bA;simp only[iN,wA,sT,sh,OF,reduceIte,a,A7,Du]
 refine⟨d,?_,x,i⟩;rw[gR rfl];unfold pN;simp only[iN,wA,sT,sh,OF,reduceIte,Aa,EK,CU,q,cA0,u,w,Dw,Du]
end
theorem Zy{b n:Nat}:Fc ⟨b,0,By⟩ n=⟨b,n,By⟩:=by
 cases n with
 |zero=>rfl
 |succ a=>
  show(⟨b,0+(a+1),By⟩:Addr)=_;rw[wC]
theorem UM(x:Kt):(AY x).length=6:=rfl
theorem ik{ks:List Kt}(c:∀k∈ks,oneCell k.u=IN):Bd (flK ks)=IN:=by
 induction ks with
 |nil=>rfl
 |cons k i h=>
  refine QT λg e=>?_
  obtain⟨a,f,b⟩:=ACy.1 e;have d:=c a f;have b:g∈[xd .i64 a.a,AI AT a.b,AI AT a.c,.int .u8 (a.s:Int),a.u,AI AT (a.p:Int)]:=b;simp only[wS,AAr,or_false]at b;rcases b with rfl|rfl|rfl|rfl|rfl|rfl
  all_goals first|exact d|rfl
section
variable {F:AES}{e:Env}{h h':Hp}{S:Nat->Prop}{m k n bl:Nat}{v:vz}
theorem Fv{x:O}{d N i:Nat}{K:Nat->R}(a:x e=AI AT (i:Int))(hi:i<=N):Cy e (BY x) d N K=K i:=by
 show(match Dj (x e)with|.ok n=>(bif wY n N then K n else .no)|.no=>.no)=_;rw[a,DM];simp only;rw[Am.2 hi];rfl
theorem Ia{b lo hi c:Nat}(i:lo<c):Bq (BY ⟨b,0,By⟩) 6 lo hi c h=.ok (.slice (BY ⟨b,6*lo,By⟩) (hi - lo) (c - lo)) h:=by
 unfold Bq;simp only[Ae];have d:wU c lo=IS:=by
  cases g:wU c lo
  ·rfl
  ·have:=Nat.eq_of_beq_eq_true g;omega
 rw[d];simp only;cases lo with
 |zero=>rfl
 |succ a=>
  have e:xW (a+1) 6=wQ (6*a+5):=by
   show(a+1)*6=_;omega
  rw[e];have f:Nat.add 0 (wQ (6*a+5))=6*(a+1):=by
   show 0+(6*a+5+1)=_;omega
  simp only[f];rfl
theorem Wv{a:List vz}(R:h.Row bl 125 a):FR 124 (BY ⟨bl,0,By⟩) h=IN:=by
 obtain⟨c,b,_⟩:=R.rowOf;unfold FR;simp only[b];rfl
theorem hJ{lo hi c:Nat}{b:List vz}(R:h.Row bl 125 b)(a:lo<c):Eh 124 6 (BY ⟨bl,0,By⟩) IS lo hi c h=.ok (.slice (BY ⟨bl,6*lo,By⟩) (hi - lo) (c - lo)) h:=by
 cases lo with
 |zero=>exact Ia a
 |succ d=>
  show(bif FR 124 (BY ⟨bl,0,By⟩) h then Bq (BY ⟨bl,0,By⟩) 6 (d+1) hi c h else .no)=_;rw[Wv R];exact Ia a
theorem Yj{P Q:List Kt}{x:Kt}(W:h.Wf)(R:h.Row bl 125 (flK (P++x::Q)))(z:256<=bl)(D:n=(P++x::Q).length)(hl:n<=100000)(hu:∀k∈P++x::Q,oneCell k.u=IN):
  ∃h',call AC (m+1) 127 [.slice (BY ⟨bl,0,By⟩) n n,AI AT (P.length:Int),AI AT ((P.length+1:Nat):Int)] h=.ok (.slice (BY ⟨bl,0,By⟩) (n - 1) n) h'/\Fx (λb=>b=bl) h h'/\h'.Row bl 125 (flK (P++Q)++AY K0):=by
 have a1:n=P.length+1+Q.length:=by rw[D,wD,wK];omega
 have H:(flK (P++x::Q)).length=6*n:=by rw[Ca,D]
 have M:∀(F:AES) (e:Env),J 0 e=.slice (BY ⟨bl,0,By⟩) n n->J 1 e=AI AT (P.length:Int)->J 2 e=AI AT ((P.length+1:Nat):Int)->J 12 e=AI AT (n:Int)->∃v,EL 124 6 (J 0) (BY (J 1)) (BY (J 2)) (BY (J 12)) F e h=.ok v h:=λF e e0 f a t=>by
  show ∃v,(match J 0 e with|.slice j n c=>Dr e n c (BY (J 1)) (BY (J 2)) (BY (J 12)) (λg d m=>Eh 124 6 j IN g d m h)|_=>.no)=.ok v h;rw[e0];show ∃v,Cy e (BY (J 12)) n n (λm=>Cy e (BY (J 2)) n m λd=>Cy e (BY (J 1)) 0 d λg=>Eh 124 6 (BY ⟨bl,0,By⟩) IN g d m h)=.ok v h;rw[Fv t (wB _),Fv a (by omega),Fv f (by omega)];exact⟨_,Ia (by omega)⟩
 have N:∀(F:AES) (e:Env) (h:Hp),J 0 e=.slice (BY ⟨bl,0,By⟩) n n->J 1 e=AI AT (P.length:Int)->EL 124 6 (J 0) By (BY (J 1)) By F e h=.ok (.slice (BY ⟨bl,0,By⟩) P.length n) h:=λF e h e0 f=>by
  show(match J 0 e with|.slice j n c=>Dr e n c By (BY (J 1)) By (λg d m=>Eh 124 6 j IS g d m h)|_=>.no)=_;rw[e0];show Cy e (BY (J 1)) n n (λd=>Eh 124 6 (BY ⟨bl,0,By⟩) IS 0 d n h)=_;rw[Fv f (by omega)];exact Ia (lo:=0) (by omega)
 have y:=(Hp.Ext.refl W).marked;have V:h.marked.Row bl 125 (flK (P++x::Q)):=R.same rfl;have p:h.marked.quiet.Row bl 125 (flK (P++x::Q)):=R.same rfl;have L:((flK (P++x::Q)).drop (6*(P.length+1))).take (Q.length*6)=flK Q:=by
  have f:flK (P++x::Q)=flK (P++[x])++flK Q:=by rw[<- J4];simp
  have a:6*(P.length+1)=(flK (P++[x])).length:=by rw[Ca,wD];rfl
  rw[f,a,List.drop_left,yU (by rw[Ca];omega)]
 obtain⟨src,O,a5,a0⟩:∃src,(∀(F:AES) (e:Env),J 0 e=.slice (BY ⟨bl,0,By⟩) n n->J 2 e=AI AT ((P.length+1:Nat):Int)->EL 124 6 (J 0) (BY (J 2)) By By F e h.marked=.ok src h.marked)/\(∀K:List vz->Go.Proofs.YtldjiljipddebaaGreat.R,BP h.marked.quiet 6 src Q.length K=K (flK Q))/\lenV src=.ok Q.length:=by
  have key:∀(F:AES) (e:Env),J 0 e=.slice (BY ⟨bl,0,By⟩) n n->J 2 e=AI AT ((P.length+1:Nat):Int)->EL 124 6 (J 0) (BY (J 2)) By By F e h.marked=Bq (BY ⟨bl,0,By⟩) 6 (P.length+1) n n h.marked:=λF e e0 a=>by
   show(match J 0 e with|.slice j n c=>Dr e n c (BY (J 2)) By By (λg d m=>Eh 124 6 j IS g d m h.marked)|_=>.no)=_;rw[e0];show Cy e (BY (J 2)) 0 n (λg=>Eh 124 6 (BY ⟨bl,0,By⟩) IS g n n h.marked)=_;rw[Fv a (by omega)];show(bif FR 124 (BY ⟨bl,0,By⟩) h.marked then Bq (BY ⟨bl,0,By⟩) 6 (P.length+1) n n h.marked else .no)=_;rw[Wv V];rfl
  rcases xL Q.length with E|E
  ·obtain rfl:Q=[]:=xH E
   have a2:n=P.length+1:=by rw[a1];rfl
   refine⟨.slice (BY ⟨bl,0,By⟩) 0 0,λF e e0 a=>?_,λK=>?_,rfl⟩
   ·rw[key F e e0 a,a2]
    unfold Bq;simp only[Ae,Nat.beq_refl];have:Nat.sub (P.length+1) (P.length+1)=0:=ABv _;rw[this]
   ·have:=p.AGd (es:=6) (off:=0) (n:=0) (sl:=0) (c:=0) (k:=K) (by omega)
    exact this
  ·refine⟨.slice (BY ⟨bl,6*(P.length+1),By⟩) Q.length Q.length,λF e e0 a=>?_,λK=>?_,rfl⟩
   ·rw[key F e e0 a,Ia (by omega),show n - (P.length+1)=Q.length by omega]
   ·have:=p.AGd (es:=6) (off:=6*(P.length+1)) (n:=Q.length) (sl:=Q.length) (c:=Q.length) (k:=K) (by rw[H];omega)
    rw[this,L]
 have a3:Bd (flK Q)=IN:=ik λk Z=>hu k (wz _ (wI _ Z))
 have u:6*P.length+(flK Q).length<=(flK (P++x::Q)).length:=by rw[H,Ca];omega
 have A:DX 6 64 124 (.slice (BY ⟨bl,0,By⟩) P.length n) src h.marked.quiet=.ok (.slice (BY ⟨bl,0,By⟩) (n - 1) n) (h.marked.quiet.wr bl (6*P.length) (flK Q)):=by
  unfold DX DY;simp only[a0,a5,Ae,Nat.add_eq];rw[Am.2 (show P.length+Q.length<=n by omega)];simp only;have a:Fc ⟨bl,0,By⟩ (xW P.length 6)=⟨bl,6*P.length,By⟩:=by
   have:xW P.length 6=6*P.length:=yR _ _;rw[this,Zy]
  rw[a,p.store y.wf.quiet z u a3,show P.length+Q.length=n - 1 by omega]
 have wr:=p.AEf y.wf.quiet u;have fx:=Fx.wr (S:=λb=>b=bl) y.wf.quiet p u rfl;generalize h.marked.quiet.wr bl (6 * P.length) (flK Q)=r at A wr fx;obtain⟨l,Y,a4⟩:∃l:List vz,l.length=6/\over (flK (P++x::Q)) (6 * P.length) (flK Q)=flK (P++Q)++l:=by
  refine⟨(flK (x::Q)).drop (6*Q.length),by rw[xT,Ca,wK];omega,?_⟩;unfold over;have f:flK (P++x::Q)=flK P++flK (x::Q):=J4 _ _;have a:6*P.length=(flK P).length:=(Ca P).symm;have t:(flK Q).length=6*Q.length:=Ca Q;rw[t,f,a,ACL,zC,J4]
 rw[a4]at wr;have I:∀(F:AES) (e:Env),J 22 e=.slice (BY ⟨bl,0,By⟩) P.length n->J 25 e=src->AZ .free (Bm 6 64 124 (J 22) (J 25)) F e h.marked=.ok (.slice (BY ⟨bl,0,By⟩) (n - 1) n) (h.marked.back r):=λF e f a=>by
  refine BE ?_;rw[BD,f,a];exact A
 have q:Fx (λb=>b=bl) h (h.marked.back r):=((fx.from (h:=h.marked) rfl rfl).same (h2:=h.marked.back r) rfl rfl).from (h:=h) rfl rfl;have o:(h.marked.back r).Row bl 125 (flK (P++Q)++l):=wr.same rfl;generalize h.marked.back r=i at I q o;have G:(flK (P++Q)).length=6 * (n - 1):=by rw[Ca,wD];omega
 have T:∀(F:AES) (e:Env),J 0 e=.slice (BY ⟨bl,0,By⟩) (n - 1) n->J 29 e=AI AT ((n - 1:Nat):Int)->J 7 e=AI AT (n:Int)->EL 124 6 (J 0) (BY (J 29)) (BY (J 7)) By F e i=.ok (.slice (BY ⟨bl,6*(n - 1),By⟩) 1 1) i:=λF e e0 f a=>by
  show(match J 0 e with|.slice j n c=>Dr e n c (BY (J 29)) (BY (J 7)) By (λg d m=>Eh 124 6 j IS g d m i)|_=>.no)=_;rw[e0];show Cy e (BY (J 7)) (n - 1) n (λd=>Cy e (BY (J 29)) 0 d λg=>Eh 124 6 (BY ⟨bl,0,By⟩) IS g d n i)=_;rw[Fv a (wB _),Fv f (by omega),hJ o (by omega),show n - (n - 1)=1 by omega]
 have s:6*(n - 1)+(AY K0).length<=(flK (P++Q)++l).length:=by rw[wD,G,Y];exact wB _
 have B:∀(F:AES) (e:Env),J 31 e=.slice (BY ⟨bl,6*(n - 1),By⟩) 1 1->Nf D4.zero (J 31) F e i=.ok AEU (i.wr bl (6*(n - 1)) (AY K0)):=λF e f=>by
  show(match J 31 e with|.slice By _ _=>EU i|.slice (BY j) n _=>(match n with| 0=>EU i|wQ k=>C3 j (BX D4.zero (wQ k)) i EU)|_=>.no)=_;rw[f];show C3 ⟨bl,6*(n - 1),By⟩ (BX D4.zero 1) i EU=_;rw[YO,o.store q.wf z s rfl];rfl
 have w:=o.AEf q.wf s;have C:=Fx.wr (S:=λb=>b=bl) q.wf o s rfl;have U:over (flK (P++Q)++l) (6*(n - 1)) (AY K0)=flK (P++Q)++AY K0:=by
  unfold over;rw[<- G,ACL,zC,UM,xV (by omega),wT]
 rw[U]at w;generalize i.wr bl (6 * (n - 1)) (AY K0)=h2 at B w C;refine⟨h2,?_,q.trans C,w⟩;have X:iEq (P.length:Int) ((P.length+1:Nat):Int)=IS:=B8 (by omega);rw[gb rfl];unfold pj;simp only[iN,wA,sT,sh,OF,reduceIte,Aa,EK];obtain⟨v,hv⟩:=M (call AC m) (Env.set 12 (AI AT (n:Int)) (Env.set 6 (.slice By 0 0) (Env.set 2 (AI AT ((P.length+1:Nat):Int)) (Env.set 1 (AI AT (P.length:Int)) (Env.set 0 (.slice (BY ⟨bl,0,By⟩) n n) e0))))) (by simp[AG]) (by simp[AG]) (by simp[AG]) (by simp[AG]);rw[hv];simp only[sT,sh,OF,reduceIte,AM,AK,X,Aa,EK,Ar,N,O,I,T,B,lV0]
end
theorem Fx.xt{S:Nat->Prop}{h h':Hp}(x:Fx S h h')(a:∀b,S b->h.next<=b):h.Ext h':=⟨x.next,λc e=>x.get c e λf=>by have:=a c f;omega,x.low _ (AAJ _ _) (zN _ _) λb d=>wy (zN _ _) (a b d),x.wf⟩
theorem Fx.xtF{S:Nat->Prop}{h0 h h':Hp}(c:h0.Ext h)(x:Fx S h h')(a:∀b,S b->h0.next<=b):h0.Ext h':=Fx.xt (S:=S) ((Fx.of c).trans x) a
theorem cQ(a b:List Nat):iv (a++b)=iv a++iv b:=by unfold iv ints;rw[w9,w9]
section
variable {F:AES}{e:Env}{h h':Hp}{A:At}{T M:List Nat}{c0 bad m k p n bl:Nat}{arm:Int}{fr:List Nat}{v lv fv:vz}
theorem pB{n z:Nat}(za:h.Wf){u:vz}{xs:List Nat}(V:h.AEs u (iv xs))(hl:xs.length<=1000):
  ∃h1 w h2 b,call AC (n+1) 99 [u] h=.ok w h1/\h.Ext h1/\DX 1 8 3 w (.slice (BY ⟨h1.next,0,By⟩) 1 1) (h1.AER 0 [AI AT (z:Int)])=.ok (.slice (BY ⟨b,0,By⟩) (xs.length+1) (xs.length+1)) h2/\h.Ext h2/\h2.Row b 4 (iv (xs++[z]))/\h.next<=b:=by
 have ha:Bd (iv xs)=IN:=Hv .i64 _;have fin:∀(h1:Hp) (w:vz),h.Ext h1->(h1.Own h.next 3 w (iv xs)\/(xs=[]/\∃b,w=.slice (BY ⟨b,0,By⟩) 0 0/\h1.Row b 0 []))->∃h2 b,DX 1 8 3 w (.slice (BY ⟨h1.next,0,By⟩) 1 1) (h1.AER 0 [AI AT (z:Int)])=.ok (.slice (BY ⟨b,0,By⟩) (xs.length+1) (xs.length+1)) h2/\h.Ext h2/\h2.Row b 4 (iv (xs++[z]))/\h.next<=b:=λh1 w x1 o=>by
  have y2:=(Hp.Ext.refl x1.wf).AER 0 [xd .i64 (z:Int)];have Rw:=Hp.Row.new x1.wf 0 [xd .i64 (z:Int)];have hlt:h1.next<(h1.AER 0 [xd .i64 (z:Int)]).next:=Nat.lt_succ_self _;generalize h1.AER 0 [xd .i64 (z:Int)]=g at y2 Rw hlt;have x2:=x1.trans y2;have Vz:g.AEs (.slice (BY ⟨h1.next,0,By⟩) 1 1) [AI AT (z:Int)]:=.inr ⟨h1.next,0,1,0,_,rfl,Rw,wB _,rfl⟩;rcases o with o|⟨rfl,b,rfl,r⟩
  ·obtain⟨h2,v',a1,a2,a3,a4,_⟩:=FG (eb:=8) (en:=3) (k:=h.next) x2 (wB _) (by have:=x1.next;omega) (o.ext x1.wf y2) Vz (AEB) rfl (by rw[Dv];show(xs.length+1+1)*9<=_;omega)
   rcases a3 with ⟨_,h2'⟩|⟨b,h1',h2',h3',h4'⟩
   ·have:=congrArg zo h2'
    simp at this
   ·have e1:(iv xs++[xd .i64 (z:Int)]).length=xs.length+1:=by rw[wD,Dv];rfl
    rw[e1]at h1';subst h1';exact⟨h2,b,a1,a2,by rw[cQ];exact h2',h3'⟩
  ·have hs:∀K:List vz->Go.Proofs.YtldjiljipddebaaGreat.R,BP g 1 (.slice (BY ⟨h1.next,0,By⟩) 1 1) 1 K=K [AI AT (z:Int)]:=λK=>Rw.AGd (es:=1) (off:=0) (n:=1) (wB _)
   obtain⟨h2,a1,a2,a3,a4,_⟩:=FC (eb:=8) (en:=3) x2 (r.ext x1.wf y2) hs rfl rfl (by omega) rfl (by omega);exact⟨h2,g.next,a1,a2,a3,by have:=x2.next;omega⟩
 rcases V with ⟨rfl,hx⟩|⟨b,off,c,el,L,h1,h2,h3,h4⟩
 ·have hx0:xs=[]:=by
   have:=congrArg zo hx;rw[Dv]at this;exact xH this
  have ne:∀e:Env,J 0 e=.slice By 0 0->oEq Vb.k IS (J 0) (W (.slice By 0 0)) (call AC n) e h=.ok (.bool IN) h:=λe he=>KH (t:=0) YJ he
  have k1:call AC (n+1) 99 [.slice By 0 0] h=.ok AEW h:=by
   rw[LA rfl];unfold d99;simp only[iN,wA,sT,sh,OF,reduceIte,ne,lV0]
  obtain⟨h2,b,q1,q2,q3,q4⟩:=fin h AEW (.refl za) (.inl (.inl ⟨rfl,hx⟩));exact⟨h,AEW,h2,b,k1,.refl za,q1,q2,q3,q4⟩
 ·have V:h.AEs u (iv xs):=.inr ⟨b,off,c,el,L,h1,h2,h3,h4⟩
  have x1:=(Hp.Ext.refl za).AER 0 [];have R:=Hp.Row.new za 0 [];have es:=λ(e:Env) (t:List vz)=>LH (F:=call AC n) (e:=e) (t:=t) za
  have n1:(h.AER 0 []).next=h.next+1:=rfl;generalize h.AER 0 []=g at x1 R es n1;have ne:∀e:Env,J 0 e=u->oEq Vb.k IS (J 0) (W (.slice By 0 0)) (call AC n) e h=.ok (.bool IS) h:=λe he=>KG (t:=0) YJ (he.trans h1)
  have V1:=V.ext za x1;have big:=za.big;rcases xL xs.length with hz|hz
  ·obtain rfl:xs=[]:=xH hz
   have ap:DX 1 8 3 (.slice (BY ⟨h.next,0,By⟩) 0 0) u g=.ok (.slice (BY ⟨h.next,0,By⟩) 0 0) (g.wr h.next 0 []):=IM x1.wf big R (λk=>V1.src rfl k) V1.lenV;have R2:=R.AEf x1.wf (off:=0) (vs:=[]) (wB _);have x2:=R.AEy x1 (wB _) (off:=0) (vs:=[]) (wB _);have k1:call AC (n+1) 99 [u] h=.ok (.slice (BY ⟨h.next,0,By⟩) 0 0) (g.wr h.next 0 []):=by
    rw[LA rfl];unfold d99;simp only[iN,wA,sT,sh,OF,reduceIte,ne,es,BD,ap,lV0]
   obtain⟨h2,b,q1,q2,q3,q4⟩:=fin _ (.slice (BY ⟨h.next,0,By⟩) 0 0) x2 (.inr ⟨rfl,h.next,rfl,R2⟩);exact⟨_,_,h2,b,k1,x2,q1,q2,q3,q4⟩
  ·have hlv:=V1.lenV
   rw[Dv]at hlv;obtain⟨h2,a1,a2,a3,a4,a5⟩:=FC (eb:=8) (en:=3) (n:=xs.length) x1 R (es:=1) (λk=>by have:=V1.src rfl k;rwa [Dv]at this) hlv (by rw[Dv];omega) hz ha (by omega);have k1:call AC (n+1) 99 [u] h=.ok (.slice (BY ⟨g.next,0,By⟩) xs.length xs.length) h2:=by
    rw[LA rfl];unfold d99;simp only[iN,wA,sT,sh,OF,reduceIte,ne,es,BD,a1,lV0]
   obtain⟨h3,b,q1,q2,q3,q4⟩:=fin h2 (.slice (BY ⟨g.next,0,By⟩) xs.length xs.length) a2 (.inl (.inr ⟨g.next,by rw[Dv],a3,by omega,by omega⟩));exact⟨h2,_,h3,b,k1,a2,q1,q2,q3,q4⟩
theorem XF{P Q:List Kt}{x:Kt}(I:h.Wf)(s:Sl h A T M c0 arm (P++x::Q) fr lv fv bad IS)(a8:(P++x::Q).length<=100)(c5:fr.length<=11)(a9:3*x.p+3<=A.n):
  ∃h' l p,call AC (m+7) 101 [pt A.bs,AI AT (P.length:Int)] h=.ok (AI AT (x.p:Int)) h'/\Fx (λb=>b=A.bs) h h'/\Sl h' A T M c0 arm (P++Q) (EZ (fr++[x.p])) l p bad IS/\∀b,AEu p b->h.next<=b:=by
 have hD:=s.AG9 I;have hu:∀k∈P++x::Q,oneCell k.u=IN:=λk y=>(s.ko k y).1.vs.one.2.1
 obtain⟨_,_,_,l3,_⟩:=BB s.row;obtain⟨b0,_,ix,_,b8⟩:=s.ls.at (i:=P.length) (k:=x) GV;have lp:=b8 5 (AI AT (x.p:Int)) rfl;obtain⟨g,c3,k1,x1,ko⟩:=WU (m:=m+5) I s.ls hu (by omega);obtain⟨bl,hw,Rb,U,a6⟩:∃bl,c3=.slice (BY ⟨bl,0,By⟩) (P++x::Q).length (P++x::Q).length/\g.Row bl 125 (flK (P++x::Q))/\h.next<=bl/\256<=bl:=by
  rcases ko with (⟨_,q⟩|q)|⟨q,_⟩
  ·have:=congrArg zo q
   simp at this
  ·exact q
  ·have:=congrArg zo q
   simp at this
 subst hw;obtain⟨q,k2,f2,R2⟩:=Yj (m:=m+5) x1.wf Rb a6 rfl (by omega) hu;have t:h.Ext q:=Fx.xtF x1 f2 λb d=>by rw[d];exact U
 have s2:=s.ext I t;have nD:∀b,h.next<=b->¬A.D b:=λb d hd=>by have:=hD b hd;omega
 have C:∀b,¬A.D b->b≠A.bs:=λb d h=>d (.inl h)
 have b7:(P++x::Q).length=(P++Q).length+1:=by simp only[wD,wK];omega
 generalize N:(ABZ (BY ⟨bl,0,By⟩) ((P++x::Q).length - 1) (P++x::Q).length)=l at k2;obtain⟨S,c1,L,n3,f3,_⟩:=D9 (v:=l) t.wf s2.row (off:=3) (show 3<7 by omega) s.ne.2.2.2.2 (by rw[<- N];rfl) (by rw[<- N];rfl);have L:S.Row A.bs 0 (slL A.bd A.tb l fv bad IS):=L;have s3:Sl S A T M c0 arm (P++Q) fr l fv bad IS:=s2.bsx t.wf f3 L (by
   rw[<- N];exact(Qb (n:=(P++x::Q).length - 1) (c:=(P++x::Q).length) (f3.row t.wf R2 (C _ (nD _ U))) (by omega) (by omega)).mono λb d=>by rw[show b=bl from d];exact nD _ U)
  (λk y=>by
   have a3:k∈P++x::Q:=by
    rcases wd.1 y with g|g
    ·exact xF _ g
    ·exact wz _ (wI _ g)
   exact⟨(s2.ko k a3).1.keep λb a f d _ j=>f3.row t.wf j (C b d),(s2.ko k a3).2⟩)
  (s2.fs.keep λb a f d j=>f3.row t.wf j (C b d)) ⟨by have:=s.le.1;omega,s.le.2⟩
 obtain⟨_,_,_,_,l4,_⟩:=BB s3.row;obtain⟨h4,w4,h5,b5,k4,x4,a5,u,R5,c4⟩:=pB (n:=m+5) (z:=x.p) f3.wf (xs:=fr) s3.fs.vals (by omega);have bs:=λ(F:AES) (e:Env) (V:J 5 e=AI AT (x.p:Int))=>FD (F:=F) x4.wf V
 have s5:=s3.ext f3.wf u;generalize w:(ABZ (BY ⟨b5,0,By⟩) (fr.length+1) (fr.length+1))=p at a5;obtain⟨D,c2,O,n6,r,_⟩:=D9 (v:=p) u.wf s5.row (off:=4) (show 4<7 by omega) s.ne.2.2.2.2 (by rw[<- w];rfl) (by rw[<- w];rfl);have O:D.Row A.bs 0 (slL A.bd A.tb l p bad IS):=O;have a0:h.next<=b5:=by have:=t.next;have:=f3.next;omega
 have X:=nD _ a0;have H:=r.row u.wf R5 (C _ X);have a7:256<=b5:=by have:=I.big;omega
 have b9:(iv (fr++[x.p])).length=fr.length+1:=by rw[Dv,wD];rfl
 have a2:∀G∈fr++[x.p],3*G+3<=A.n:=λG W=>by
  rcases wd.1 W with g|g
  ·exact s.le.2.2.2 G g
  ·rw[wP.1 g];exact a9
 have s6:Sl D A T M c0 arm (P++Q) (fr++[x.p]) l p bad IS:=s5.bsx u.wf r O (s5.ls.keep λb a f d j=>r.row u.wf j (C b d)) (λk y=>⟨(s5.ko k y).1.keep λb a f d _ j=>r.row u.wf j (C b d),(s5.ko k y).2⟩)
  (by
   rw[<- w];refine .inr ⟨b5,4,?_,H,.inl rfl,X⟩;show _=ABZ _ (iv (fr++[x.p])).length (iv (fr++[x.p])).length;rw[b9]) ⟨s5.le.1,by rw[wD];show fr.length+1<=1000;omega,s5.le.2.2.1,a2⟩
 obtain⟨_,_,_,_,b6,_⟩:=BB s6.row;obtain⟨E,k7,R,R7⟩:=ey (m:=m) (Z:=[]) (n:=fr.length+1) (c:=fr.length+1) r.wf (by rw[wT];exact H) a7 (by rw[wD];rfl) (by omega);rw[wT]at R7;rw[w]at k7;have Y:=Hd (fr++[x.p]);have K:∀b a f,b≠b5->D.Row b a f->E.Row b a f:=λb a f d j=>R.row r.wf j d
 have B:∀b a f,(a=0\/a=6\/a=125)->D.Row b a f->b≠b5:=λb a f V j=>EC j H (by omega)
 have s7:Sl E A T M c0 arm (P++Q) (EZ (fr++[x.p])) l p bad IS:=by
  refine⟨K _ _ _ (B _ _ _ (.inl rfl) s6.row) s6.row,s6.dk.fr r.wf R (B _ _ _ (.inl rfl) s6.dk.disk) (B _ _ _ (.inl rfl) s6.dk.med) (λh=>(I6 H s6.dk.map) h.symm),K _ _ _ (B _ _ _ (.inl rfl) s6.tab) s6.tab,s.tok,?_,λa4 hy=>⟨(s6.ko a4 hy).1.keep λb a f d V j=>K b a f (B b a f (by omega) j) j,(s6.ko a4 hy).2⟩,?_,s.ne,?_⟩
  ·rcases s6.ls with g|⟨b,c,a,f,q1,q2,q3,q4,q5,q6,q7⟩
   ·exact .inl g
   ·exact .inr ⟨b,c,a,f,q1,q2,K _ _ _ (B b a _ (by omega) q3) q3,q4,q5,q6,q7⟩
  ·rw[<- w]
   refine .inr ⟨b5,4,?_,R7,.inl rfl,X⟩;show _=ABZ _ (iv (EZ (fr++[x.p]))).length (iv (EZ (fr++[x.p]))).length;rw[Dv,Y.length_eq,wD];rfl
  ·exact⟨s6.le.1,by rw[Y.length_eq];exact s6.le.2.1,s6.le.2.2.1,λG W=>a2 G (Y.mem_iff.1 W)⟩
 have fx:Fx (λb=>b=A.bs) h E:=by
  have o:Fx (λb=>b=A.bs) h q:=.of t;have e2:=((o.trans f3).trans (.of u)).trans r;exact e2.fresh R a0
 refine⟨E,l,p,?_,fx,s7,λb d=>by
  obtain⟨off,n,c,o⟩:=d;rw[<- w]at o;injection o with o _ _
  injection o with o
  injection o with o _ _
  omega⟩
 have a1:=CL (i:=P.length) (h:=g) (by have:=b7;simp only[wD]at a8;omega);have b1:call AC (m+6) 100 [lv] h=.ok (.slice (BY ⟨bl,0,By⟩) (P++x::Q).length (P++x::Q).length) g:=k1;have b2:call AC (m+6) 127 [.slice (BY ⟨bl,0,By⟩) (P++x::Q).length (P++x::Q).length,AI AT (P.length:Int),AI AT ((P.length+1:Nat):Int)] g=.ok l q:=k2;have b3:call AC (m+6) 99 [fv] S=.ok w4 h4:=k4;have b4:call AC (m+6) 104 [p] D=.ok AEU E:=k7;rw[gQ rfl];unfold pM;simp only[iN,wA,sT,sh,OF,reduceIte,An,AX,AH,AN,wC,AJ,AP,l3,A1,ix,lp,cA0,b1,BL,a1,b2,AV,c1,l4,b3,bs,BD,a5,c2,b6,b4,lV0]
end
def Fe(ks:List Kt)(a b c:Int):Option Int:=match ks.find? (BI a b c)with
 |some d=>if d.s=2 then BY 0 else if Bp a b c ks=IN then BY 61 else By
 |none=>if Bp a b c ks=IN then BY 61 else BY 60
def elB(a b c:Int)(k:Kt):Bool:=decide (k.a=a) && decide (k.b=b) && decide (k.c<c)
def frE(fr:List Nat)(out:List Kt):List Nat:=out.foldl (λa b=>EZ (a++[b.p])) fr
theorem Ri(fr:List Nat)(out:List Kt)(x:Kt):frE fr (out++[x])=EZ (frE fr out++[x.p]):=by unfold frE;rw[zp];rfl
theorem J6:∀(out:List Kt) (fr:List Nat),(frE fr out).Perm (fr++out.map (·.p))
 |[],fr=>by rw[List.map_nil,wT];exact .refl _
 |x::out,fr=>by
  show(frE (EZ (fr++[x.p])) out).Perm _;have:=J6 out (EZ (fr++[x.p]));refine this.trans (((Hd _).append_right _).trans ?_);rw[wa];exact .refl _
theorem XB(fr:List Nat)(out:List Kt):(frE fr out).length=fr.length+out.length:=by rw[(J6 out fr).length_eq,wD,wF]
theorem M9{a:Type}(P:a->Bool)(l:List a)(x:a):(l++[x]).filter P=if P x=IN then l.filter P++[x]else l.filter P:=by
 rw[yk];cases b:P x
 ·rw[If (by decide),xp (by rw[b];decide),AAM,wT]
 ·rw[IT rfl,xn b,AAM]
theorem Fx.drop{S:Nat->Prop}{h h':Hp}(x:Fx (λb=>S b\/h.next<=b) h h'):Fx S h h':=⟨x.next,λi f g=>x.get i f (λc=>c.elim g (λd=>by omega)),x.wf,λa j k l=>x.low a j k λb e=>e.elim (l b) (λd=>by omega)⟩
theorem Hp.WI.blk{h:Hp}{S:Nat->Prop}{v:vz}{xs:List vz}(o:h.WI S v xs){b:Nat}(g:AEu v b):∃c e,h.Row b c e:=by
 obtain⟨_,_,_,a⟩:=g;rcases o with ⟨d,_⟩|⟨i,c,d,f,_⟩
 ·rw[d]at a;cases a
 ·rw[d]at a
  injection a with a _ _
  injection a with a
  injection a with a _ _
  exact⟨c,_,a ▸ f⟩
section
variable {F:AES}{e:Env}{h h':Hp}{S:Nat->Prop}{A:At}{T M:List Nat}{c0 bad m k p n bl:Nat}{arm:Int}{ks:List Kt}{fr:List Nat}{v lv fv:vz}{ov:Bool}
theorem Hp.Own.fx{en:Nat}{xs:List vz}(o:h.Own k en v xs)(d:h.Wf)(x:Fx S h h')(g:∀b,k<=b->¬S b):h'.Own k en v xs:=by
 rcases o with a|⟨b,a,e,c,f⟩
 ·exact .inl a
 ·exact .inr ⟨b,a,x.row d e (g b c),c,f⟩
theorem Hp.Own.AKT{en:Nat}{xs:List vz}(o:h.Own k en v xs)(c:h.Wf){b:Nat}(f:AEu v b):b<h.next:=by
 obtain⟨_,_,_,e⟩:=f;rcases o with ⟨a,_⟩|⟨g,a,d,_⟩
 ·rw[a]at e;cases e
 ·rw[a]at e
  injection e with e _ _
  injection e with e
  injection e with e _ _
  exact e ▸ d.lt c
theorem Sl.app{w:vz}{xs:List vz}(s:Sl h A T M c0 arm ks fr lv fv bad ov)(o:h.Own k 3 w xs)(f:∀b a c,¬AEu w b->h.Row b a c->h'.Row b a c)(x:h'.bl.get A.bc=h.bl.get A.bc)(u:∀b,AEu fv b->¬AEu w b):Sl h' A T M c0 arm ks fr lv fv bad ov:=by
 have nb:∀b a c,(a=0\/a=6\/a=125)->h.Row b a c->¬AEu w b:=λb a c t g j=>by
  obtain⟨_,_,_,e⟩:=j;rcases o with ⟨d,_⟩|⟨F,d,i,_⟩
  ·rw[d]at e;cases e
  ·rw[d]at e
   injection e with e _ _
   injection e with e
   injection e with e _ _
   exact EC g i (by omega) e.symm
 refine⟨f _ _ _ (nb _ _ _ (.inl rfl) s.row) s.row,⟨f _ _ _ (nb _ _ _ (.inl rfl) s.dk.disk) s.dk.disk,f _ _ _ (nb _ _ _ (.inl rfl) s.dk.med) s.dk.med,s.dk.len,s.dk.byt,x.trans s.dk.map,s.dk.big,s.dk.n1⟩,f _ _ _ (nb _ _ _ (.inl rfl) s.tab) s.tab,s.tok,?_,λn l=>⟨(s.ko n l).1.keep λb a c j t g=>f b a c (nb b a c (by omega) g) g,(s.ko n l).2⟩,?_,s.ne,s.le⟩
 ·rcases s.ls with d|⟨b,p,a,c,y,z,m,B,C,D,E⟩
  ·exact .inl d
  ·exact .inr ⟨b,p,a,c,y,z,f _ _ _ (nb b a _ (by omega) m) m,B,C,D,E⟩
 ·rcases s.fs with d|⟨b,a,d,i,q,r⟩
  ·exact .inl d
  ·exact .inr ⟨b,a,d,f _ _ _ (u b ⟨_,_,_,d⟩) i,q,r⟩
theorem kI(e:h.Wf){z:Nat}{xs:List Nat}(hk:k<=h.next)(o:h.Own k 3 v (iv xs))(B:xs.length<=1000):
  ∃h2 v',DX 1 8 3 v (.slice (BY ⟨h.next,0,By⟩) 1 1) (h.AER 0 [AI AT (z:Int)])=.ok v' h2/\Fx (λb=>k<=b) h h2/\h2.Own k 3 v' (iv (xs++[z]))/\∀b f c,¬AEu v b->h.Row b f c->h2.Row b f c/\¬AEu v' b:=by
 have d:=(Hp.Ext.refl e).AER 0 [xd .i64 (z:Int)];have i:=Hp.Row.new e 0 [xd .i64 (z:Int)];have t:(h.AER 0 [xd .i64 (z:Int)]).next=h.next+1:=rfl;generalize h.AER 0 [xd .i64 (z:Int)]=a at d i t;have m:a.AEs (.slice (BY ⟨h.next,0,By⟩) 1 1) [AI AT (z:Int)]:=.inr ⟨h.next,0,1,0,_,rfl,i,wB _,rfl⟩;have x:Hp.Ext {a with next:=k,low:=min a.low k} a:=⟨by show k<=a.next;omega,λ_ _=>rfl,by show min (min a.low k) k<=a.low;omega,d.wf⟩;obtain⟨h2,v',n,g,p,y,q⟩:=FG (eb:=8) (en:=3) (k:=k) x (wB _) (by omega) (o.ext e d) m AEB rfl (by rw[Dv];show(xs.length+1+1) * 9<=_;omega);have r:Fx (λb=>k<=b) a h2:=⟨by omega,λj A C=>g.get j (by show j<k;omega),g.wf,λc u D l=>wy (AEI.2 ⟨AEI.2 ⟨u,l k (wB _)⟩,l k (wB _)⟩) g.low⟩;refine⟨h2,v',n,(Fx.of d).trans r,by rw[cQ];exact p,λb f c s w=>?_⟩;exact q b f c s (w.ext e d)
theorem ae{a b c:Int}(a6:h.Wf)(s:Sl h A T M c0 arm ks fr lv fv bad IS)(d4:fr.length+ks.length<=11)(b9:∀k∈ks,3*k.p+3<=A.n)(s0:J 0 e=pt A.bs)(s1:J 1 e=AI AT a)(s2:J 2 e=AI AT b)(s3:J 3 e=AI AT c)(s15:J 15 e=AEW)(c7:J 16 e=AI AT ((0:Nat):Int)):
  ∃g h' y q w,A4 cmL (call AC (m+7)) e h=.exit 1 g h'/\Fx (λb=>b=A.bs) h h'/\J 0 g=pt A.bs/\J 15 g=w/\h'.Own h.next 3 w (iv ((ks.filter (elB a b c)).map (·.p)))/\
   Sl h' A T M c0 arm (ks.filter λk=> !elB a b c k) (frE fr (ks.filter (elB a b c))) y q bad IS:=by
 have hD:=s.AG9 a6;have c9:=hD A.bs (.inl rfl);refine Bb (I:=λi g h'=>∃y q w,Fx (λb=>b=A.bs\/h.next<=b) h h'/\J 0 g=pt A.bs/\J 1 g=AI AT a/\J 2 g=AI AT b/\J 3 g=AI AT c/\J 15 g=w/\J 16 g=AI AT ((((ks.take i).filter λk=> !elB a b c k).length:Nat):Int)/\i<=ks.length/\h'.Own h.next 3 w (iv (((ks.take i).filter (elB a b c)).map (·.p)))/\
   Sl h' A T M c0 arm ((ks.take i).filter (λk=> !elB a b c k)++ks.drop i) (frE fr ((ks.take i).filter (elB a b c))) y q bad IS/\∀b,AEu q b->¬AEu w b)
  (Q:=λd=>∃g h' y q w,d=.exit 1 g h'/\Fx (λb=>b=A.bs) h h'/\J 0 g=pt A.bs/\J 15 g=w/\h'.Own h.next 3 w (iv ((ks.filter (elB a b c)).map (·.p)))/\
   Sl h' A T M c0 arm (ks.filter λk=> !elB a b c k) (frE fr (ks.filter (elB a b c))) y q bad IS) ks.length (by omega) (λi g h' ⟨y,q,w,fx,t0,t1,t2,t3,t15,t16,hi,ow,sl,hf⟩=>?_) ⟨lv,fv,AEW,.refl a6,s0,s1,s2,s3,s15,c7,wl _,.inl ⟨rfl,rfl⟩,s,λb _ h=>Gl h⟩
 have u:=fx.wf;obtain⟨_,_,_,S,_⟩:=BB sl.row;have E:=sl.ls.len h';have d0:=XB fr ((ks.take i).filter (elB a b c));have b3:((ks.take i).filter (elB a b c)).length<=(ks.take i).length:=yT _ _;have b4:((ks.take i).filter (λk=> !elB a b c k)).length<=(ks.take i).length:=yT _ _;rw[wu,Nat.min_eq_left hi]at b3 b4;by_cases D:i<ks.length
 ·left
  obtain⟨d,L⟩:∃d,ks[i]? =BY d:=⟨_,wE D⟩;have c3:=wO L;have c2:ks.take (i+1)=ks.take i++[d]:=by rw[zR,L];rfl
  have b2:ks.drop i=d::ks.drop (i+1):=by
   rw[yP D];rw[wE D]at L;injection L with L
   rw[L]
  have B:=M9 (λk=> !elB a b c k) (ks.take i) d;have C:=M9 (elB a b c) (ks.take i) d;rw[<- c2]at B C;generalize hP:(ks.take i).filter (λk=> !elB a b c k)=o at *;generalize hO:(ks.take i).filter (elB a b c)=O at *;rw[b2]at sl E;have c8:(o++d::ks.drop (i+1)).length=o.length+1+(ks.length - (i+1)):=by rw[wD,wK,xT];omega
  have G:iLt (o.length:Int) ((o++d::ks.drop (i+1)).length:Int)=IN:=Ec (by omega);obtain⟨b',_,Z,ld,_⟩:=sl.ls.at (i:=o.length) (k:=d) GV;have N:=λ(F:AES) (e:Env)=>BU (F:=F) (e:=e) u (n:=6) (t:=CR)
  have Ra:=Hp.Row.alloc u Fa (show(AY K0).length=6 from rfl);have y1:h'.Ext (h'.push (.cells CR 6 0)):=(Hp.Ext.refl u).push _;generalize h'.push (.cells CR 6 0)=r at N Ra y1;have hu:=(sl.ko d (wz _ wJ)).1.vs.one.2.1;obtain⟨X,_,p,R5,n2⟩:=Ld u y1 (wB _) Ra rfl (k:=d) hu;generalize r.wr h'.next 0 (AY d)=x at X p R5 n2;obtain⟨m0,m1,m2,_⟩:=Bv R5;have b0:=sl.ext u p;cases j:elB a b c d with
  |false=>
   have Y:=CL (i:=o.length) (h:=x) (by omega);rw[IT (by rw[j];rfl)]at B;rw[If (by rw[j];decide)]at C;have R:∃f,cmL (call AC (m+7)) g h'=.norm f x/\J 0 f=pt A.bs/\J 1 f=AI AT a/\J 2 f=AI AT b/\J 3 f=AI AT c/\J 15 f=w/\J 16 f=AI AT ((o.length+1:Nat):Int):=by
    unfold cmL;by_cases r:d.a=a
    ·have H:iEq d.a a=IN:=CZ r
     by_cases x:d.b=b
     ·have P:iEq d.b b=IN:=CZ x
      have d3:iLt d.c c=IS:=GR (λK=>by
       unfold elB at j;rw[decide_eq_true r,decide_eq_true x,decide_eq_true K]at j;cases j)
      simp only[sT,sh,OF,reduceIte,gD,An,t0,AX,AH,AN,wC,AJ,AP,S,Aa,E,AM,AK,t16,G,A1,Z,Ai,Ac,ld,N,AV,X,m0,m1,m2,t1,t2,t3,H,P,d3,BL,Y];exact⟨_,rfl,by simp[AG,t0,t1,t2,t3,t15]⟩
     ·have P:iEq d.b b=IS:=B8 x
      simp only[sT,sh,OF,reduceIte,gD,An,t0,AX,AH,AN,wC,AJ,AP,S,Aa,E,AM,AK,t16,G,A1,Z,Ai,Ac,ld,N,AV,X,m0,m1,m2,t1,t2,t3,H,P,BL,Y];exact⟨_,rfl,by simp[AG,t0,t1,t2,t3,t15]⟩
    ·have H:iEq d.a a=IS:=B8 r
     simp only[sT,sh,OF,reduceIte,gD,An,t0,AX,AH,AN,wC,AJ,AP,S,Aa,E,AM,AK,t16,G,A1,Z,Ai,Ac,ld,N,AV,X,m0,m1,m2,t1,t2,t3,H,BL,Y];exact⟨_,rfl,by simp[AG,t0,t1,t2,t3,t15]⟩
   obtain⟨f,U,V,W,r4,r5,r6,r7⟩:=R;refine⟨D,f,x,U,y,q,w,fx.trans (.of p),V,W,r4,r5,r6,?_,D,?_,?_,hf⟩
   ·rw[B,r7,wD];rfl
   ·rw[C];exact ow.ext u p
   ·rw[B,C,wa];exact b0
  |true=>
   rw[If (by rw[j];decide)]at B;rw[IT j]at C;have a2:d.a=a/\d.b=b/\d.c<c:=by
    unfold elB at j;rw[wV,wV]at j;exact⟨of_decide_eq_true j.1.1,of_decide_eq_true j.1.2,of_decide_eq_true j.2⟩
   have H:iEq d.a a=IN:=CZ a2.1;have P:iEq d.b b=IN:=CZ a2.2.1;have d3:iLt d.c c=IN:=JJ a2.2.2;obtain⟨K,c5,a1,k3,f3,a5,b6⟩:=XF (m:=m) p.wf b0 (by omega) (by omega) (b9 d c3);have a9:K.Own h.next 3 w (iv (O.map (·.p))):=(ow.ext u p).fx p.wf f3 λb l r=>by omega
   have n3:h.next<=K.next:=by have:=fx.next;have:=p.next;have:=f3.next;omega
   obtain⟨h5,w',k5,f5,c6,a8⟩:=kI (z:=d.p) f3.wf n3 a9 (by rw[wF];omega);have bs:=λ(F:AES) (e:Env) (he:J 134 e=AI AT (d.p:Int))=>FD (F:=F) f3.wf he
   have b8:h5.bl.get A.bc=K.bl.get A.bc:=f5.get _ ((a5.dk.lt f3.wf).2.2) (λr=>by
    have:=hD A.bc (.inr (.inr (.inr rfl)));omega)
   have a7:∀b,AEu a1 b->¬AEu w b:=λb l r=>by
    have:=b6 b l;have:=ow.AKT u r;have:=p.next;omega
   have s5:=a5.app a9 (λb el a0 l a4=>(a8 b el a0 l a4).1) b8 a7;have b5:∀b,AEu a1 b->¬AEu w' b:=λb l=>by
    obtain⟨el,a0,a4⟩:=a5.fs.blk l;exact(a8 b el a0 (a7 b l) a4).2
   have Y:=λ(b1:Hp)=>CL (i:=o.length) (h:=b1) (by omega)
   have c4:call AC (m+7) 101 [pt A.bs,AI AT (o.length:Int)] x=.ok (AI AT (d.p:Int)) K:=k3;have R:∃f,cmL (call AC (m+7)) g h'=.norm f h5/\J 0 f=pt A.bs/\J 1 f=AI AT a/\J 2 f=AI AT b/\J 3 f=AI AT c/\J 15 f=w'/\J 16 f=AI AT (o.length:Int):=by
    unfold cmL;simp only[sT,sh,OF,reduceIte,gD,An,t0,AX,AH,AN,wC,AJ,AP,S,Aa,E,AM,AK,t16,G,A1,Z,Ai,Ac,ld,N,AV,X,m0,m1,m2,t1,t2,t3,H,P,d3,cA0,c4,bs,BD,t15,k5];exact⟨_,rfl,by simp[AG,t0,t1,t2,t3,t16]⟩
   obtain⟨f,U,V,W,r4,r5,r6,r7⟩:=R;refine⟨D,f,h5,U,c5,a1,w',?_,V,W,r4,r5,r6,?_,D,?_,?_,b5⟩
   ·exact((fx.trans (.of p)).trans (f3.mono λb l=>.inl l)).trans (f5.mono λb l=>.inr l)
   ·rw[B];exact r7
   ·rw[C,w9];exact c6
   ·rw[B,C,Ri];exact s5
 ·right
  have b7:i=ks.length:=by omega
  subst b7;rw[xz]at *;rw[List.drop_length,wT]at sl E;have G:iLt (((ks.filter λk=> !elB a b c k).length:Nat):Int) (((ks.filter λk=> !elB a b c k).length:Nat):Int)=IS:=DC (wB _);have R:∃f,cmL (call AC (m+7)) g h'=.exit 1 f h'/\J 0 f=pt A.bs/\J 15 f=w:=by
   unfold cmL;simp only[sT,sh,OF,reduceIte,An,t0,AX,AH,AN,wC,AJ,AP,S,Aa,E,AM,AK,t16,G];exact⟨_,rfl,by simp[AG,t0,t15]⟩
  obtain⟨f,U,V,W⟩:=R;rw[U];exact⟨rfl,f,h',y,q,w,rfl,fx.drop,V,W,ow,sl⟩
end
theorem Nz{a:Type}{l:List a}{j:Nat}{x:a}(h:l[j]? =BY x):l.set j x=l:=by
 obtain⟨b,rfl⟩:=wW.1 h;exact List.set_getElem_self b
theorem QK{a:Type}{l:List a}{j:Nat}{x:a}(h:l[j]? =BY x):l=l.take j++x::l.drop (j+1)/\(l.take j).length=j:=by
 obtain⟨b,rfl⟩:=wW.1 h;refine⟨?_,by rw[wu];omega⟩;rw[<- yP b,yE]
theorem Gr{a b c:Int}{k:Kt}(h:BI a b c k=IN):k.a=a/\k.b=b/\k.c=c:=by
 unfold BI at h;rw[wV,wV]at h;exact⟨of_decide_eq_true h.1.1,of_decide_eq_true h.1.2,of_decide_eq_true h.2⟩
theorem ut{i:Nat}{g:Hp}(hi:i<=1000000):Ge xO .i64 (AI AT (i:Int)) (AI AT 1) g=.ok (AI AT ((i:Int) - 1)) g:=by
 cases i with
 |zero=>rw[Co];rfl
 |succ a=>rw[VV (by omega),show((a+1:Nat):Int) - 1=(a:Int)by omega]
theorem bX:dpS=BJ (Ab 0 (A4 dpL)) dpE:=rfl
theorem US:d63=bF:=rfl
section
variable {h h':Hp}{A:At}{T M:List Nat}{c0 bad m k p:Nat}{arm:Int}{ks:List Kt}{fr:List Nat}{lv fv:vz}
theorem aq(u:h.Wf)(s:Sl h A T M c0 arm ks fr lv fv bad IS){a b c z:Int}(d:Fe ks a b c=BY z):
  ∃h',call AC (m+8) 55 [pt A.bs,AI AT a,AI AT b,AI AT c] h=.ok (AI AT z) h'/\h.Ext h':=by
 have J:=s.le.1;have l:iNe 0 0=IS:=CE rfl;have n:=OA (m:=m+6) s.row;obtain⟨D,e,p⟩:=GN (m:=m+4) u s.row s.ls.ks (by omega) a b c;have s1:=s.ext u p;obtain⟨_,_,_,B,_⟩:=BB s1.row;obtain⟨r,f,F⟩:=G7 (m:=m+3) p.wf s1.row s1.ls.ks (by omega) a b c;have t:=p.trans F;unfold Fe at d;rcases EB (BI a b c) ks 0 with ⟨q,j⟩|⟨y,o,q,j,C⟩
 ·rw[q]at d
  rw[j]at e;have g:iGe (-1) 0=IS:=E0 (by omega);have i:iLt (-1) 0=IN:=JJ (by omega);simp only at d;cases k:Bp a b c ks with
  |true=>
   rw[k]at d f;rw[IT rfl]at d;cases d;refine⟨r,?_,t⟩;rw[K9 rfl,LF];unfold Pi;simp only[iN,wA,sT,sh,OF,reduceIte,gD,cA0,n,AM,AK,l,e,g,f,lV0]
  |false=>
   rw[k]at d f;rw[If (by decide)]at d;cases d;refine⟨r,?_,t⟩;rw[K9 rfl,LF];unfold Pi;simp only[iN,wA,sT,sh,OF,reduceIte,gD,cA0,n,AM,AK,l,e,g,f,i,lV0]
 ·rw[q]at d
  rw[C,wC]at e;have I:=(wW.1 j).1;have K:=wO j;have g:iGe (y:Int) 0=IN:=F0 (by omega);have H:iLt (y:Int) 0=IS:=GR (by omega);obtain⟨G,_,x,L,E⟩:=s1.ls.ks.at j;have lst:=E 3 (.int .u8 (o.s:Int)) rfl;simp only at d;by_cases w:o.s=2
  ·rw[IT w]at d
   cases d;have i:iEq (o.s:Int) 2=IN:=CZ (by omega);refine⟨D,?_,p⟩;rw[K9 rfl,LF];unfold Pi;simp only[iN,wA,sT,sh,OF,reduceIte,gD,cA0,n,AM,AK,l,e,g,An,AX,AH,AN,wC,xy,AJ,AP,B,A1,x,lst,i,lV0]
  ·rw[If w]at d
   have i:iEq (o.s:Int) 2=IS:=B8 (by omega);cases k:Bp a b c ks with
   |true=>
    rw[k]at d f;rw[IT rfl]at d;cases d;refine⟨r,?_,t⟩;rw[K9 rfl,LF];unfold Pi;simp only[iN,wA,sT,sh,OF,reduceIte,gD,cA0,n,AM,AK,l,e,g,An,AX,AH,AN,wC,xy,AJ,AP,B,A1,x,lst,i,f,lV0]
   |false=>
    rw[k]at d;rw[If (by decide)]at d;cases d
def abE(ks:List Kt)(a b c:Int):Option Int:=if Bp a b c ks=IN then BY 61 else match ks.find? (BI a b c)with
 |some _=>By
 |none=>BY 0
theorem mK(j:h.Wf)(s:Sl h A T M c0 arm ks fr lv fv bad IS){a b c z:Int}(d:abE ks a b c=BY z):
  ∃h',call AC (m+9) 56 [pt A.bs,AI AT a,AI AT b,AI AT c] h=.ok (AI AT z) h'/\h.Ext h':=by
 have u:=s.le.1;have k:iNe 0 0=IS:=CE rfl;have p:=OA (m:=m+7) s.row;obtain⟨x,g,i⟩:=GN (m:=m+5) j s.row s.ls.ks (by omega) a b c;have s1:=s.ext j i;obtain⟨n,e,t⟩:=G7 (m:=m+4) i.wf s1.row s1.ls.ks (by omega) a b c;have q:=i.trans t;unfold abE at d;cases o:Bp a b c ks with
 |true=>
  rw[o]at e d;rw[IT rfl]at d;cases d;refine⟨n,?_,q⟩;rw[Pe rfl];unfold d56;simp only[iN,wA,sT,sh,OF,reduceIte,gD,cA0,p,AM,AK,k,g,e,lV0]
 |false=>
  rw[o]at e d;rw[If (by decide)]at d;rcases EB (BI a b c) ks 0 with ⟨f,l⟩|⟨y,B,f,l,w⟩
  ·rw[l]at g
   rw[f]at d;cases d;have r:iLt (-1) 0=IN:=JJ (by omega);refine⟨n,?_,q⟩;rw[Pe rfl];unfold d56;simp only[iN,wA,sT,sh,OF,reduceIte,gD,cA0,p,AM,AK,k,g,e,r,lV0]
  ·rw[f]at d
   cases d
def drB(a b c:Int)(k:Kt):Bool:=decide (k.a=a) && decide (k.b=b) && decide (k.c<=c)
def Ex(M:List Nat)(out:List Kt):List Nat:=out.foldl (λM a=>Gj M [a.p]) M
theorem UW(M:List Nat)(out:List Kt)(x:Kt):Ex M (out++[x])=Gj (Ex M out) [x.p]:=by unfold Ex;rw[zp];rfl
def drO(a b c:Int)(ks:List Kt):List Kt:=(ks.filter (drB a b c)).reverse
theorem bY(a b c:Int)(x:Kt)(ks:List Kt):drO a b c (x::ks)=if drB a b c x=IN then drO a b c ks++[x]else drO a b c ks:=by
 unfold drO;cases h:drB a b c x
 ·rw[If (by decide),xp (by rw[h];decide)]
 ·rw[IT rfl,xn h,AAS]
theorem iX(a b c:Int)(x:Kt)(ks:List Kt):(drO a b c (ks++[x])).length=(drO a b c ks).length+if drB a b c x=IN then 1 else 0:=by
 unfold drO;rw[AAA,AAA,M9];split
 ·rw[wD];rfl
 ·rfl
end
theorem Wz:∀(ks:List Kt) (i:Nat) (k:Kt),ks[i]? =BY k->((flS ks).drop (5*i)).take 5=LC k
 |[],i,k,a=>by cases a
 |x::ks,0,k,a=>by
  have a:BY x=BY k:=a;cases a;show((LC x++flS ks).drop 0).take 5=_;rw[xa];exact List.take_left' rfl
 |x::ks,i+1,k,a=>by
  rw[List.getElem?_cons_succ]at a;show((LC x++flS ks).drop (5*(i+1))).take 5=_;have:5*(i+1)=(LC x).length+5*i:=by show _=5+_;omega
  rw[this,zC];exact Wz ks i k a
section
variable {F:AES}{e:Env}{h h':Hp}{S:Nat->Prop}{A:At}{T M:List Nat}{c0 bad m k n:Nat}{arm:Int}{ks:List Kt}{fr:List Nat}{v lv fv:vz}{ov:Bool}
theorem Tn{h:Hp}{u:vz}{xs:List vz}(a:h.AEs u xs):known u=IN/\cellsOf u=[u]/\oneCell u=IN:=by
 rcases a with ⟨rfl,rfl⟩|⟨c,f,d,e,b,rfl,_⟩<;>exact⟨rfl,rfl,rfl⟩
theorem TH{h:Hp}{b m n:Nat}{a c:List vz}(r:h.Row b m a)(s:h.Row b n c):a=c:=by
 obtain⟨t,o,p⟩:=r;obtain⟨u,g,q⟩:=s;rw[o]at g;injection g with k l w
 subst k;refine AC1 l λi e f=>?_
 have j:=(p i e).2;have d:=(q i f).2;rw[j,wG,wG,wE e,wE f]at d;exact d
theorem Hp.AL.len(o:h.AL k v ks)(g:Hp):AFB v g=.ok (AI AT (ks.length:Int)) g:=by
 rcases o with ⟨rfl,rfl⟩|⟨b,a,rfl,_⟩<;>rfl
theorem Hp.AL.keep(o:h.AL k v ks)(hk:∀b c a,k<=b->h.Row b c a->h'.Row b c a):h'.AL k v ks:=by
 rcases o with d|⟨b,a,d,f,g,e,i⟩
 ·exact .inl d
 ·exact .inr ⟨b,a,d,hk _ _ _ e f,g,e,λn l=>(i n l).keep λb c a j _ m=>hk b c a j m⟩
theorem Hp.AL.fx(o:h.AL k v ks)(a:h.Wf)(x:Fx S h h')(d:∀b,S b->b<k):h'.AL k v ks:=o.keep λb g f i e=>x.row a e λc=>by have:=d b c;omega
theorem Hp.AL.ext(o:h.AL k v ks)(a:h.Wf)(x:h.Ext h'):h'.AL k v ks:=o.keep λd e c _ b=>b.ext a x
theorem Hp.AL.at(o:h.AL k v ks){i:Nat}{x:Kt}(hi:ks[i]? =BY x):∃b u,AFM 5 v (AI AT (i:Int)) h=.ok (.pointer (BY ⟨b,5*i,By⟩)) h/\loadN 5 ⟨b,5*i,By⟩ h=.ok (Bn x.a x.b x.c x.s u) h/\h.AEs u (x.l.map bv):=by
 have hil:=(wW.1 hi).1;rcases o with ⟨rfl,rfl⟩|⟨b,L,rfl,h2,h3,h4,h5⟩
 ·cases hi
 ·have hLl:L.length=ks.length:=by rw[<- wF (f:=Kt.core),h3,wF]
  obtain⟨y,hy⟩:∃y,L[i]? =BY y:=⟨_,wE (by omega)⟩;have hc:=Wz L i y hy;have hyx:y.core=x.core:=by
   have h6:=congrArg (λl=>l[i]?) h3;simp only[xc,hy,hi,Option.map_some]at h6;injection h6
  have e1:y.a=x.a:=congrArg Kc.a hyx;have e2:y.b=x.b:=congrArg Kc.b hyx;have e3:y.c=x.c:=congrArg Kc.c hyx;have e4:y.s=x.s:=congrArg Kc.s hyx;have e5:y.l=x.l:=congrArg Kc.l hyx;refine⟨b,y.u,?_,?_,?_⟩
  ·have:=DB (h:=h) (n:=ks.length) (c:=ks.length) (es:=5) (b:=b) (off:=0) (i:=i) (k:=.i64) hil
   rwa [wC,yR]at this
  ·rw[h2.loadN (by rw[Pq,hLl];omega),hc,<- e1,<- e2,<- e3,<- e4];rfl
  ·rw[<- e5];exact(h5 y (wO hy)).vs.vals
theorem N2(d:h.Wf){g:O}{a b c:Int}{s:Nat}{u:vz}(f:g e=Bn a b c s u):CT g F e h=.ok (pt h.next) (h.AER 0 (A5 a b c s u)):=by rw[EQ,f,EO d];rfl
theorem et:smS=BJ (Ab 0 (A4 smL)) smE:=rfl
theorem UQ:d19=bC:=rfl
theorem gE{bd bm bc:Nat}{cs:List (Nat×List Nat)}(c:h.Wf)(d:Dk h bd bm bc n M c0 cs arm IS){z:Int}(p:0<=z):
  ∃h',call AC (m+2) 7 [pt bd,AI AT z] h=.ok AEU h'/\Fx (λb=>b=bd) h h'/\Dk h' bd bm bc n M c0 cs z IS:=by
 have k:=Ix (m:=m) d;obtain⟨_,_,_,l⟩:=Cb d.disk;have i:=λ(F:AES) (e:Env) (j:J 1 e=AI AT z)=>cu (F:=F) (h:=h) (y:=W (AI AT 0)) j rfl
 rw[show max z 0=z by omega]at i;obtain⟨g,o,a,q,f,_⟩:=D9 (v:=AI AT z) c d.disk (off:=2) (show 2<4 by omega) d.big.1 rfl rfl;have a:g.Row bd 0 (dkL bm bc n z IS):=a;refine⟨g,?_,f,a,f.row c d.med (λh=>d.bdm h.symm),d.len,d.byt,by rw[f.get _ (d.lt c).2.2 (λh=>d.bdc h.symm)];exact d.map,d.big,d.n1⟩;rw[tC rfl];unfold d7;simp only[iN,wA,sT,sh,OF,reduceIte,gD,cA0,k,BO,BN,xP,An,AX,AH,AN,wC,AJ,AP,l,i,AV,o,Dw,Du]
theorem mP(a:h.Wf)(s:Sl h A T M c0 arm ks fr lv fv bad ov){z:Int}(f:0<=z):
  ∃h',call AC (m+2) 7 [pt A.bd,AI AT z] h=.ok AEU h'/\Fx A.K h h'/\Sl h' A T M c0 z ks fr lv fv bad ov:=by
 obtain⟨b,g,d,c⟩:=gE (m:=m) a s.dk f;have fK:Fx A.K h b:=d.mono λi e=>.inl e
 exact⟨b,g,fK,(s.sc.fx a fK).sl c⟩
theorem Xu{k:TK}{t:Nat}{a:Addr}{g:O}(hk:k=.ptr t)(b:g e=.pointer (BY a)):oEq k IN g (W (.pointer By)) F e h=.ok (.bool IN) h:=by
 subst hk;show(match eqV (.ptr t) (g e) (.pointer By)with|some c=>okB (IN != c) h|none=>.no)=_;rw[b];exact Fd
theorem MX(R:h.Row A.bs 0 (slL A.bd A.tb lv fv bad ov)):call AC (m+1) 35 [pt A.bs] h=.ok (.bool ov) h:=by
 obtain⟨_,_,_,_,_,_,c⟩:=BB R;have d:∀(F:AES) (e:Env) (a:Hp),J 0 e=pt A.bs->oEq Hs.k IN (J 0) (W (.pointer By)) F e a=.ok (.bool IN) a:=λF e a b=>Xu Tl b
 rw[ny rfl];unfold d35;simp only[iN,wA,sT,sh,OF,reduceIte,gD,d,An,AX,AH,AN,wC,AJ,AP,c,lV0]
end
def opL(kd a b c n:Int)(u w:vz):List vz:=[AI AT kd,AI AT a,AI AT b,AI AT c,AI AT n,u,w]
def opV(kd a b c n:Int)(u w:vz):vz:=.agg ⟨opL kd a b c n u w⟩
def Di(kd:Int):Prop:=kd=1\/kd=2\/kd=3\/kd=4
def Zt(ks:List Kt)(n:Nat)(kd a b c:Int)(l:List Nat)(z:Int):Prop:=
 (Di kd/\Dn ks n a b c l=BY z)\/((kd=5\/kd=6)/\Fe ks a b c=BY z)\/(kd=7/\abE ks a b c=BY z)\/(kd=8/\drO a b c ks=[]/\z=0)\/(¬Di kd/\kd≠5/\kd≠6/\kd≠7/\kd≠8/\z=0)
def Ml(T M:List Nat)(ks:List Kt)(fr:List Nat)(kd a b c:Int)(l f:List Nat)(h:List Kt)(g:List Nat):Prop:=
 (Di kd/\Dn ks fr.length a b c l=By/\∃j k,fr=j::g/\h=B5 (ks++[k])/\k.core=⟨a,b,c,1,l,j⟩/\f=Dc T M j l (AEc T a b c 1 l))\/
 ((kd=5\/kd=6)/\∃e d,ks[e]? =BY d/\(d.a=a/\d.b=b/\d.c=c)/\Bp a b c ks=IS/\h=((ks.set e {d with s:=2}).filter λi=> !elB a b c i)/\g=frE fr ((ks.set e {d with s:=2}).filter (elB a b c))/\f=Gj (EX M d.p (AEc T a b c 2 d.l)) (((ks.set e {d with s:=2}).filter (elB a b c)).map (·.p)))\/
 (kd=7/\∃e d,ks[e]? =BY d/\(d.a=a/\d.b=b/\d.c=c)/\Bp a b c ks=IS/\h=ks.take e++ks.drop (e+1)/\g=EZ (fr++[d.p])/\f=Gj M [d.p])\/
 (kd=8/\h=(ks.filter λi=> !drB a b c i)/\g=frE fr (drO a b c ks)/\f=Ex M (drO a b c ks))
section

end
theorem Ou:∀(A:List Kt) (x:Kt),(HM A x).Perm (x::A):=λA x=>by
 unfold HM;refine(zI _).trans ?_;have:∀a:List Kt,(JD x a).Perm (x::a):=λa=>by
  induction a with
  |nil=>exact .refl _
  |cons b d c=>
   rw[LQ];split
   ·exact(c.cons b).trans (.swap x b d)
   ·exact .refl _
 exact(this _).trans ((zI A).cons x)
theorem Tb:∀(B A:List Kt),(srt A B).Perm (A++B)
 |[],A=>by
  rw[wT];exact .refl _
 |x::B,A=>by
  show(srt (HM A x) B).Perm _;exact(Tb B _).trans (((Ou A x).append_right B).trans zn.symm)
theorem EV(l:List Kt):(B5 l).Perm l:=by
 unfold B5;have:=Tb (l.drop 1) (l.take 1)
 rwa [yE]at this
def Kt.key(k:Kt):Int×Int×Int:=(k.a,k.b,k.c)
def Kt.plc(k:Kt):Nat:=k.p
structure AFE (np:Nat)(ks:List Kt)(fr:List Nat):Prop where
 key:(ks.map Kt.key).Nodup
 plc:(ks.map Kt.plc++fr).Perm (xx np)
abbrev vO(ks:List Kt)(fr:List Nat):Prop:=AFE 8 ks fr
section
variable {T M M':List Nat}{ks ks':List Kt}{fr fr':List Nat}{kd a b c:Int}{l:List Nat}{np:Nat}
theorem AFE.len(i:AFE np ks fr):ks.length+fr.length=np:=by
 have:=i.plc.length_eq;rw[wD,wF,List.length_range]at this;exact this
theorem AFE.lt(i:AFE np ks fr):∀k∈ks,3*k.p+3<=3*np:=λk b=>by
 have a:k.p∈ks.map Kt.plc++fr:=xF _ (xA.2 ⟨k,b,rfl⟩);have c:=List.mem_range.1 (i.plc.mem_iff.1 a);omega
theorem AFE.nd(i:AFE np ks fr):(ks.map Kt.plc).Nodup:=(yX.1 (i.plc.nodup_iff.2 zy)).1
theorem DA{g i:Type}{f:g->i}:∀{l:List g},(l.map f).Nodup->∀{x y:g},x∈l->y∈l->f x=f y->x=y
 |[],_,x,y,e,_,_=>by cases e
 |w::l,c,x,y,e,h,d=>by
  rw[yA,yO]at c;rcases wS.1 e with b|b
  ·rcases wS.1 h with a|a
   ·rw[b,a]
   ·exact absurd (xA.2 ⟨y,a,by rw[<- d,b]⟩) c.1
  ·rcases wS.1 h with a|a
   ·exact absurd (xA.2 ⟨x,b,by rw[d,a]⟩) c.1
   ·exact DA c.2 b a d
theorem Fy{x:Kt}(h:BI a b c x=IN):x.key=(a,b,c):=by
 obtain⟨rfl,rfl,rfl⟩:=Gr h;rfl
theorem E7{x:Kt}(h:x.key=(a,b,c)):BI a b c x=IN:=by
 unfold Kt.key at h;injection h with e d
 injection d with d f
 unfold BI;rw[decide_eq_true e,decide_eq_true d,decide_eq_true f];rfl
theorem H3(f:(ks.map Kt.key).Nodup){x:Kt}(e:x∈ks)(hk:x.key=(a,b,c)):ks.find? (BI a b c)=BY x:=by
 cases d:ks.find? (BI a b c)with
 |none=>exact absurd (E7 hk) (zE.1 d x e)
 |some g=>rw[DA f (AAK d) e ((Fy (AAL d)).trans hk.symm)]
theorem Ir(P:Kt->Bool):∀l:List Kt,(l.filter P++l.filter λk=> !P k).Perm l
 |[]=>.refl _
 |x::l=>by
  cases a:P x
  ·rw[xp (by rw[a];decide),xn (by rw[a];rfl)]
   exact zn.trans ((Ir P l).cons x)
  ·rw[xn a,xp (by rw[a];decide)]
   exact(Ir P l).cons x
theorem AFE.cut(i:AFE np ks fr)(P:Kt->Bool){out:List Kt}(c:out.Perm (ks.filter P)):AFE np (ks.filter λk=> !P k) (frE fr out):=by
 refine⟨AA7 (List.filter_sublist.map _) i.key,?_⟩;have a:(frE fr out).Perm (fr++(ks.filter P).map Kt.plc):=(J6 out fr).trans ((c.map Kt.plc).append_left fr);have b:((ks.filter λk=> !P k).map Kt.plc++(fr++(ks.filter P).map Kt.plc)).Perm (ks.map Kt.plc++fr):=by
  rw[<- wa];refine(ACM).trans ?_;rw[<- wa,<- w9];exact((Ir P ks).map Kt.plc).append_right fr
 exact(a.append_left _).trans (b.trans i.plc)
theorem AFE.set(i:AFE np ks fr){j:Nat}{x y:Kt}(a:ks[j]? =BY x)(d:y.key=x.key)(h2:y.p=x.p):AFE np (ks.set j y) fr:=by
 have b:(ks.set j y).map Kt.key=ks.map Kt.key:=by rw[ABS,d];exact Nz (by rw[xc,a];rfl)
 have c:(ks.set j y).map Kt.plc=ks.map Kt.plc:=by
  rw[ABS,show y.plc=x.plc from h2];exact Nz (by rw[xc,a];rfl)
 exact⟨b ▸ i.key,c ▸ i.plc⟩
theorem bt{P Q:List Kt}(p:Kt->Bool):(P++Q).find? p=(P.find? p).or (Q.find? p):=List.find?_append
theorem G9(i:AFE np ks fr)(t:Ml T M ks fr kd a b c l M' ks' fr'):AFE np ks' fr'/\Zt ks' fr'.length kd a b c l 0:=by
 rcases t with ⟨x,k,U,f,rfl,rfl,w,_⟩|⟨x,o,d,q,n,_,rfl,rfl,_⟩|⟨rfl,o,d,q,n,e,rfl,rfl,_⟩|⟨rfl,rfl,rfl,_⟩
 ·unfold Dn at k
  split at k
  ·cases k
  rename_i O;split at k
  ·split at k<;>cases k
  rename_i N;have A:f.key=(a,b,c):=by
   show(f.core.a,f.core.b,f.core.c)=_;rw[w]
  have J:f.p=U:=congrArg Kc.p w;have I:f.l=l:=congrArg Kc.l w;have m:=EV (ks++[f]);have p:((ks++[f]).map Kt.key).Nodup:=by
   rw[w9,yX];refine⟨i.key,yO.2 ⟨List.not_mem_nil,List.nodup_nil⟩,λu j y R D=>?_⟩;rw[wP.1 R]at D;obtain⟨V,Q,rfl⟩:=xA.1 j;exact absurd (E7 (D.trans A)) (zE.1 N V Q)
  have F:((B5 (ks++[f])).map Kt.key).Nodup:=(m.map Kt.key).nodup_iff.2 p;refine⟨⟨F,?_⟩,.inl ⟨x,?_⟩⟩
  ·refine((m.map Kt.plc).append_right fr').trans (ACO ?_ i.plc)
   rw[w9,wa];show(ks.map Kt.plc++([f.p]++fr')).Perm _;rw[J];exact .refl _
  ·unfold Dn
   rw[If O,H3 F (m.mem_iff.2 (wz _ (wP.2 rfl))) A];simp only;rw[IT I]
 ·have z:({d with s:=2}:Kt).key=(a,b,c):=by obtain⟨rfl,rfl,rfl⟩:=n;rfl
  have E:=i.set (y:={d with s:=2}) q rfl rfl;have C:({d with s:=2}:Kt)∈ks.set o {d with s:=2}:=ADp (wW.1 q).1 _;generalize ks.set o {d with s:=2}=S at E C;have r:=E.cut (elB a b c) (out:=S.filter (elB a b c)) (.refl _);refine⟨r,.inr (.inl ⟨x,?_⟩)⟩;have K:elB a b c {d with s:=2}=IS:=by
   obtain⟨rfl,rfl,rfl⟩:=n;unfold elB;rw[decide_eq_false (Int.lt_irrefl _),AAN]
  unfold Fe;rw[H3 r.key (wb.2 ⟨C,by rw[K];rfl⟩) z];exact IT rfl
 ·obtain⟨G,W⟩:=QK q
  have z:d.key=(a,b,c):=by obtain⟨rfl,rfl,rfl⟩:=n;rfl
  generalize ks.take o=g at *;generalize ks.drop (o+1)=h at *;subst G;have m:(g++d::h).Perm (d::(g++h)):=zn;have p:((d::(g++h)).map Kt.key).Nodup:=(m.map Kt.key).nodup_iff.1 i.key;rw[yA,yO]at p;refine⟨⟨p.2,?_⟩,.inr (.inr (.inl ⟨rfl,?_⟩))⟩
  ·refine((Hd (fr++[d.p])).append_left _).trans (ACO ?_ i.plc)
   rw[<- wa];refine ACM.trans ?_;show(d.plc::((g++h).map Kt.plc++fr)).Perm _;exact((m.map Kt.plc).symm).append_right fr
  ·have P:(g++h).find? (BI a b c)=By:=zE.2 λu j L=>p.1 (xA.2 ⟨u,j,(Fy L).trans z.symm⟩)
   have H:Bp a b c (g++h)=IS:=by
    unfold Bp at e ⊢;rw[bt]at e ⊢;cases B:g.find? (LW a b)with
    |some y=>
     rw[B]at e;exact e
    |none=>
     rw[B]at e;rw[Option.none_or]at e ⊢;cases j:LW a b d
     ·rw[List.find?_cons_of_neg (by rw[j];decide)]at e
      exact e
     ·rw[List.find?_cons_of_pos j]at e
      simp only at e;have:=of_decide_eq_false e;exact absurd (Int.le_of_eq n.2.2.symm) this
   unfold abE;rw[H,P,If (by decide)]
 ·have r:=i.cut (drB a b c) (out:=drO a b c ks) (zI _)
  refine⟨r,.inr (.inr (.inr (.inl ⟨rfl,?_,rfl⟩)))⟩;unfold drO;rw[List.filter_filter,zm.2 (λu _=>by cases drB a b c u<;>decide)];rfl
end
theorem Jy{l l':List Nat}(c:l.length=l'.length)(h:∀i,i<l.length->l.getD i 0=l'.getD i 0):l=l':=by
 refine AC1 c λi a b=>?_
 have:=h i a;rw[wG,wG,wE a,wE b]at this;exact this
theorem LP{l:List Nat}{n i:Nat}(h:i<n):(l.take n).getD i 0=l.getD i 0:=by
 rw[wG,wG,yY,IT h]
theorem LO{l:List Nat}{n i:Nat}:(l.drop n).getD i 0=l.getD (n+i) 0:=by
 rw[wG,wG,List.getElem?_drop]
theorem Xw:∀(k:Nat) (l:List Nat) (p:Nat) (ns:List Nat) (q:Nat),rdN k l p=BY (ns,q)->ns.length=k
 |0,l,p,ns,q,a=>by cases a;rfl
 |k+1,l,p,ns,q,a=>by
  rw[S8]at a;cases c:GH 0 0 (l.drop p)with
  |none=>rw[c]at a;cases a
  |some f=>
   obtain⟨v,e⟩:=f;rw[c]at a;simp only at a;by_cases d:v<=1099511627776
   ·rw[IT d]at a
    cases b:rdN k l (p+e)with
    |none=>rw[b]at a;cases a
    |some g=>
     obtain⟨vs,h⟩:=g;rw[b]at a;cases a;rw[wK,Xw k l (p+e) vs _ b]
   ·rw[If d]at a;cases a
theorem eB{T:List Nat}{a b c:Int}{s:Nat}{l:List Nat}(h:AEh a b c s l.length=IN):L8 T (AEc T a b c s l) (CM a.toNat b.toNat c.toNat s l.length (CC T l)):=by
 obtain⟨p,q,r,t,u,w,m,x⟩:=Dy h;have y:=JB T l;refine(Sz NH).2 ?_;have n:∀v∈CM a.toNat b.toNat c.toNat s l.length (CC T l),v<=1099511627776:=λv e=>by
  unfold CM at e;simp only[wS,AAr,or_false]at e;omega
 have e0:at6 (CM a.toNat b.toNat c.toNat s l.length (CC T l)) 0=s:=rfl;have f:at6 (CM a.toNat b.toNat c.toNat s l.length (CC T l)) 1=a.toNat:=rfl;have g:at6 (CM a.toNat b.toNat c.toNat s l.length (CC T l)) 2=b.toNat:=rfl;have i:at6 (CM a.toNat b.toNat c.toNat s l.length (CC T l)) 3=c.toNat:=rfl;have j:at6 (CM a.toNat b.toNat c.toNat s l.length (CC T l)) 4=l.length:=rfl;have k:at6 (CM a.toNat b.toNat c.toNat s l.length (CC T l)) 5=CC T l:=rfl;have d:=Ma (CM a.toNat b.toNat c.toNat s l.length (CC T l)) [] (wR (60 - (B0 (CM a.toNat b.toNat c.toNat s l.length (CC T l))).length) 0++He (CC T (MB (CM a.toNat b.toNat c.toNat s l.length (CC T l))))) n;refine⟨(B0 (CM a.toNat b.toNat c.toNat s l.length (CC T l))).length,?_,⟨by rw[e0];omega,by rw[j];omega,by rw[k];omega,?_⟩,rfl⟩
 ·have o:AEc T a b c s l=B0 (CM a.toNat b.toNat c.toNat s l.length (CC T l))++(wR (60 - (B0 (CM a.toNat b.toNat c.toNat s l.length (CC T l))).length) 0++He (CC T (MB (CM a.toNat b.toNat c.toNat s l.length (CC T l))))):=by
   unfold AEc Et;rw[<- wa];rfl
  rw[o];simp only[xI,xD,wC]at d;exact d
 ·rw[e0,f,g,i]
  exact decide_eq_true ⟨by omega,by omega,by omega,by omega,by omega,by omega,m,by omega⟩
theorem S0{T:List Nat}{ns:List Nat}{l:List Nat}(n:l.length=64)(b:∀x∈l,x=0):¬L8 T l ns:=λc=>by
 have i:∀x∈l,x<256:=λx m=>by rw[b x m];decide
 obtain⟨p,d,e,f⟩:=(Sz i).1 c;have h:=Xw _ _ _ _ _ d;obtain⟨_,_,_,g⟩:=e;have j:=(Dy g).2.2.2.2.2.2.1;cases ns with
 |nil=>cases h
 |cons a ns=>
  have o:a=1\/a=2:=j;have k:CA a=[a]:=by
   unfold CA;rw[dif_pos (by omega)]
  have:a∈l:=by
   rw[<- f];unfold Et MB QW;refine xF _ (xF _ ?_);rw[FZ,k];exact xF _ wJ
  have:=b a this;omega
theorem JQ{l:List Nat}{j r:Nat}(a:r<64):(C4 l j).getD r 0=l.getD (64*j+r) 0:=by
 unfold C4;have b:((l.drop (64*j)).take 64).length=min 64 (l.length - 64*j):=by rw[wu,xT]
 rcases Nat.lt_or_ge r ((l.drop (64*j)).take 64).length with h|h
 ·rw[wG,wX h,<- wG,LP a,LO]
 ·rw[wG,wi h,AB4]
  have:l.getD (64*j+r) 0=0:=by
   rw[wG,List.getElem?_eq_none (by omega)];rfl
  rw[this];split<;>rfl
theorem bR{T M l H:List Nat}{n p:Nat}(e:M.length=64*n)(j:3*p+3<=n)(i:1<=l.length/\l.length<=100)(d:H.length=64):
  (Dc T M p l H).length=64*n/\∀x,(Dc T M p l H).getD x 0=if x/64=3*p then H.getD (x % 64) 0 else if x/64=3*p+1 then l.getD (x % 64) 0 else if x/64=3*p+2/\64<l.length then l.getD (64+x % 64) 0 else M.getD x 0:=by
 have hk:(l.length+63)/64=1\/(l.length+63)/64=2:=by omega
 rcases hk with hk|hk
 ·have f:Dc T M p l H=F7 (F7 M (p*3+1+0) (C4 l 0)) (p*3) H:=by
   unfold Dc Gc Dp;rw[hk];rfl
  have c:=C1 e (show p*3+1+0<n by omega) (Cf l 0);rw[f];refine⟨C1 c (by omega) d,λx=>?_⟩;rw[Db c (by omega) d,Db e (show p*3+1+0<n by omega) (Cf l 0),JQ (by omega),ABw,wC,yR p 3,xy];by_cases b:x/64=3*p
  ·rw[IT b,IT b]
  ·rw[If b,If b]
   by_cases a:x/64=3*p+1
   ·rw[IT a,IT a]
   ·rw[If a,If a,If (by omega)]
 ·have f:Dc T M p l H=F7 (F7 (F7 M (p*3+1+0) (C4 l 0)) (p*3+1+1) (C4 l 1)) (p*3) H:=by
   unfold Dc Gc Dp;rw[hk];rfl
  have c:=C1 e (show p*3+1+0<n by omega) (Cf l 0);have g:=C1 c (show p*3+1+1<n by omega) (Cf l 1);rw[f];refine⟨C1 g (by omega) d,λx=>?_⟩;rw[Db g (by omega) d,Db c (show p*3+1+1<n by omega) (Cf l 1),Db e (show p*3+1+0<n by omega) (Cf l 0),JQ (by omega),JQ (by omega),ABw,wC,yR p 3,xy,yp];by_cases b:x/64=3*p
  ·rw[IT b,IT b]
  ·rw[If b,If b]
   by_cases a:x/64=3*p+1
   ·rw[If (by omega),IT a,IT a]
   ·rw[If a]
    by_cases h:x/64=3*p+2
    ·rw[IT (show x/64=3*p+1+1 by omega),If a,IT (show x/64=3*p+2/\64<l.length from⟨h,by omega⟩)]
    ·rw[If (show ¬x/64=3*p+1+1 by omega),If a,If (show ¬(x/64=3*p+2/\64<l.length)by omega)]
theorem M0{M H:List Nat}{n p:Nat}(b:M.length=64*n)(d:3*p+3<=n)(a:H.length=64):(EX M p H).length=64*n/\∀x,(EX M p H).getD x 0=if x/64=3*p then H.getD (x % 64) 0 else M.getD x 0:=by
 have c:EX M p H=F7 M (p*3) H:=rfl;rw[c];refine⟨C1 b (by omega) a,λx=>?_⟩;rw[Db b (by omega) a,yR p 3]
theorem Nv{n x:Nat}:(wR n 0).getD x 0=0:=by
 rw[wG,AB4];split<;>rfl
def Y6:List Nat:=wR (64*24) 0
section
variable {T b:List Nat}(hl:1<=b.length/\b.length<=100)
include hl
end
theorem Ka{M:List Nat}{i r:Nat}(a:r<64):(sec M i).getD r 0=M.getD (64*i+r) 0:=by
 unfold sec;rw[LP a,LO]
theorem M5{M:List Nat}{p k r:Nat}(a:r<k):(dat M p k).getD r 0=M.getD (64*(3*p+1)+r) 0:=by
 unfold dat;rw[LP a,LO]
theorem R0{T M:List Nat}{p:Nat}{a b c:Int}{s:Nat}{l:List Nat}(e:AEh a b c s l.length=IN)(h:l.length<=100)(f:sec M (3*p)=AEc T a b c s l)(h2:dat M p l.length=l):
  Hh T M p (CM a.toNat b.toNat c.toNat s l.length (CC T l))/\lkN T M p=BY (CM a.toNat b.toNat c.toNat s l.length (CC T l))/\Yw M p (CM a.toNat b.toNat c.toNat s l.length (CC T l))=⟨a,b,c,s,l,p⟩/\Ej T M p=IS:=by
 obtain⟨g1,g2,g3,g4,g5,g6,_⟩:=Dy e;have d:Hh T M p (CM a.toNat b.toNat c.toNat s l.length (CC T l)):=by
  refine⟨by rw[f];exact eB e,h,?_⟩;show CC T (dat M p l.length)=CC T l;rw[h2]
 refine⟨d,SU d,?_,?_⟩
 ·show(⟨(a.toNat:Int),(b.toNat:Int),(c.toNat:Int),s,dat M p l.length,p⟩:Kc)=_
  rw[h2,AAU g1,AAU g3,AAU (by omega)]
 ·cases g:Ej T M p
  ·rfl
  ·exact absurd ⟨_,d⟩ (IH.1 g).1
theorem bg{T M:List Nat}{n p:Nat}(j:M.length=64*n)(m:3*p<n)(h:∀r,r<64->M.getD (64*(3*p)+r) 0=0):lkN T M p=By/\Ej T M p=IS:=by
 have g:=Ke j m;have d:∀b∈sec M (3*p),b=0:=λb c=>by
  obtain⟨i,f⟩:=zM.1 c;have o:=(wW.1 f).1;have:=Ka (M:=M) (i:=3*p) (r:=i) (by omega);rw[h i (by omega),wG,f]at this;exact this
 have l:¬ ∃e,Hh T M p e:=λ⟨e,a,_⟩=>S0 g d a
 refine⟨ST l,?_⟩;cases k:Ej T M p
 ·rfl
 ·rcases (IH.1 k).2 with ⟨b,c,a⟩|⟨e,a,_⟩
  ·exact absurd (d b c) a
  ·exact absurd a (S0 g d)
structure Trn (b:List Nat)(hd:Bool)(k:Nat)(ts:List Nat):Prop where
 lt:∀t∈ts,t<256
 win:k+ts.length<=if hd=IN then 60 else b.length
 four:ts.length<=4
def chg(b:List Nat):Bool:=b.any λa=>decide (a≠0)
section
variable {b ts:List Nat}{hd:Bool}{k:Nat}
variable (hl:1<=b.length/\b.length<=100)(hb:∀x∈b,x<256)(t:Trn b hd k ts)
include hl t
end
theorem lW:Bt .mt 0 lI.zero=BY Qp:=by kernel_rfl
theorem Tq:∀{a:List vz},(∀v∈a,isW v=IN)->∃T:List Nat,a=T.map wv/\∀x∈T,x<4294967296
 |[],_=>⟨[],rfl,λx hx=>by cases hx⟩
 |v::a,b=>by
  obtain⟨e,rfl,d⟩:=P8 (b v wJ);obtain⟨T,rfl,c⟩:=Tq λx hx=>b x (wI _ hx)
  refine⟨e::T,rfl,λx hx=>?_⟩;rcases wS.1 hx with rfl|hx
  ·exact d
  ·exact c x hx
theorem sK{T:List Nat}(b:T.length=256)(h2:∀x∈T,x<4294967296):AFD T:=⟨b,λc=>by
 rw[wG];cases a:T[c]? with
 |none=>decide
 |some x=>exact h2 x (wO a)⟩
theorem OP:∀T:List Nat,Bd (T.map wv)=IN
 |[]=>rfl
 |x::T=>OP T
theorem rt{h g:Hp}(d:h.Wf)(x:h.Ext g){r:Nat}(i:h.next<=r){a:List vz}(R:g.Row r 0 a)(k:a.length=256){T:List Nat}(e:T.length=256):
  AEa 256 (pt r) (.agg ⟨T.map wv⟩) g=.ok AEU (g.wr r 0 (T.map wv))/\h.Ext (g.wr r 0 (T.map wv))/\(g.wr r 0 (T.map wv)).Row r 0 (T.map wv):=by
 have c:256<=r:=by have:=d.big;omega
 have f:(T.map wv).length=256:=by rw[wF];exact e
 have b:0+(T.map wv).length<=a.length:=by omega
 have j:=R.AEa (n:=256) (off:=0) x.wf c (v:=.agg ⟨T.map wv⟩) f b (OP T);have wr:=R.AEf x.wf b;rw[FF (show a.length=(T.map wv).length by omega)]at wr;exact⟨j,R.AEy x i b,wr⟩
theorem Fx.ext{S:Nat->Prop}{h h':Hp}(x:Fx S h h')(a:∀b,S b->h.next<=b):h.Ext h':=⟨x.next,λc e=>x.get c e λf=>by have:=a c f;omega,x.low _ (AAJ _ _) (zN _ _) λb d=>wy (zN _ _) (a b d),x.wf⟩
theorem Fx.AKV{S:Nat->Prop}{h0 h h':Hp}(c:h0.Ext h)(x:Fx S h h')(a:∀b,S b->h0.next<=b):h0.Ext h':=Fx.ext (S:=S) ((Fx.of c).trans x) a
theorem vu:ty4.k=.bool:=by kernel_rfl
def AKW(v:vz):Prop:=oneCell v=IN/\∀a b,v≠.int a b
structure ALD (h:Hp)(v:vz)(n cap:Nat):Prop where
 len:∀g:Hp,AFB v g=.ok (AI AT (n:Int)) g
 get:∀i,i<n->i<cap->∃(r:Nat) (kd a b c no:Int) (u w:vz) (l:List Nat),(∀g:Hp,h.Ext g->AFM 7 v (AI AT (i:Int)) g=.ok (.pointer (BY ⟨r,i*7,By⟩)) g/\loadN 7 ⟨r,i*7,By⟩ g=.ok (opV kd a b c no u w) g/\AEV ⟨r,i*7+5,By⟩ g=.ok u g)/\h.VE u (l.map bv)/\(∀x∈l,x<256)/\oneCell u=IN/\AKW w
section
variable {h:Hp}{A:At}{T M:List Nat}{c0 bad k:Nat}{arm:Int}{ks:List Kt}{fr:List Nat}{lv fv u:vz}{ov:Bool}{l:List Nat}
theorem Sl.all(s:Sl h A T M c0 arm ks fr lv fv bad ov):∀k∈ks,h.AEs k.u (k.l.map bv)/\k.l.length<=1000/\oneCell k.u=IN:=λb a=>⟨(s.ko b a).1.vs.vals,by have:=(s.ko b a).2.2.1;omega,(s.ko b a).1.vs.one.2.1⟩
theorem lD:∃T:List Nat,N4=T.map wv/\AFD T:=by
 obtain⟨_,_,a,c⟩:=VW;obtain⟨T,b,d⟩:=Tq c;have e:T.length=256:=by rw[b,wF]at a;exact a
 exact⟨T,b,sK e d⟩
end
theorem tA:BZ 3 [.t (J 6)] d3:=Ba (by kernel_rfl) rfl
theorem nZ:BZ 13 [.t (J 4),.t (J 5)] d13:=Ba (by kernel_rfl) rfl
theorem tB:BZ 6 [.t (J 2),.t (J 3),.t (J 4)] d6:=Ba (by kernel_rfl) rfl
theorem tD:BZ 8 [.t (J 2)] d8:=Ba (by kernel_rfl) rfl
theorem WQ:BZ 9 [.cN (J 4) 7,.t (J 5)] d9:=Ba (by kernel_rfl) rfl
theorem nY:BZ 12 [.t (J 2)] d12:=Ba (by kernel_rfl) rfl
theorem na:BZ 14 [] d14:=Ba (by kernel_rfl) rfl
theorem aO:BZ 15 [.t (J 6),.t (J 7)] d15:=Ba (by kernel_rfl) rfl
theorem nc:BZ 16 [.t (J 2)] d16:=Ba (by kernel_rfl) rfl
theorem nf:BZ 17 [.t (J 2)] d17:=Ba (by kernel_rfl) rfl
theorem nk:BZ 27 [.t (J 2)] d27:=Ba (by kernel_rfl) rfl
theorem UG:BZ 28 [.cN (J 6) 7,.t (J 7)] d28:=Ba (by kernel_rfl) rfl
theorem nl:BZ 29 [.cN (J 4) 7] d29:=Ba (by kernel_rfl) rfl
theorem nr:BZ 30 [.cN (J 4) 7] d30:=Ba (by kernel_rfl) rfl
theorem nt:BZ 31 [.cN (J 4) 7] d31:=Ba (by kernel_rfl) rfl
theorem UH:BZ 32 [.cN (J 4) 7] d32:=Ba (by kernel_rfl) rfl
theorem nu:BZ 33 [.cN (J 4) 7] d33:=Ba (by kernel_rfl) rfl
theorem nw:BZ 34 [.cN (J 4) 7] d34:=Ba (by kernel_rfl) rfl
theorem nz:BZ 36 [.t (J 6)] d36:=Ba (by kernel_rfl) rfl
theorem oB:BZ 37 [.t (J 8)] d37:=Ba (by kernel_rfl) rfl
theorem oI:BZ 57 [.t (J 4)] d57:=Ba (by kernel_rfl) rfl
theorem oJ:BZ 58 [.t (J 3)] d58:=Ba (by kernel_rfl) rfl
theorem oL:BZ 61 [.cN (J 2) 4] d61:=Ba (by kernel_rfl) rfl
theorem oM:BZ 62 [.t (J 3)] d62:=Ba (by kernel_rfl) rfl
theorem oN:BZ 64 [.t (J 6)] d64:=Ba (by kernel_rfl) rfl
def CW(AEl seq:Int)(op:Nat)(a b c:Int)(u:vz):List vz:=[AI AT AEl,AI AT seq,.int .u8 (op:Int),AI AT a,AI AT b,AI AT c,u]
def DJ(AEl seq:Int)(op:Nat)(a b c:Int)(u:vz):vz:=.agg ⟨CW AEl seq op a b c u⟩
def wiQ(n lo hi:Int):Bool:=decide (lo<=n/\n<=hi)
def hdQ(AEl seq:Int)(op:Nat):Bool:=wiQ AEl 1 1099511627776 && wiQ seq 1 1099511627776 && decide (1<=op/\op<=6)
def nmQ(a b c least:Int):Bool:=wiQ a 0 1099511627776 && wiQ b 0 254 && wiQ c least 1099511627776
def EJ(op:Nat):Int:=if op=4\/op=5 then 0 else 1
def Es(AEl seq:Int)(op:Nat)(a b c:Int)(n:Nat):Bool:=hdQ AEl seq op && nmQ a b c (EJ op) && (if op=1 then decide (n<=65536)else decide (n=0))
section
variable {F:AES}{e:Env}{h h':Hp}{m n op r:Nat}{AEl seq a b c least lo hi:Int}{u:vz}
theorem Fg(d:h.Wf){g:O}(f:g e=DJ AEl seq op a b c u):CT g F e h=.ok (pt h.next) (h.AER 0 (CW AEl seq op a b c u)):=by rw[EQ,f,EO d];rfl
theorem B3(R:h.Row r 0 (CW AEl seq op a b c u)):AEV ⟨r,0,By⟩ h=.ok (AI AT AEl) h/\AEV ⟨r,1,By⟩ h=.ok (AI AT seq) h/\AEV ⟨r,2,By⟩ h=.ok (.int .u8 (op:Int)) h/\AEV ⟨r,3,By⟩ h=.ok (AI AT a) h/\AEV ⟨r,4,By⟩ h=.ok (AI AT b) h/\AEV ⟨r,5,By⟩ h=.ok (AI AT c) h/\AEV ⟨r,6,By⟩ h=.ok u h/\loadN 7 ⟨r,0,By⟩ h=.ok (DJ AEl seq op a b c u) h:=
 ⟨R.AEV (off:=0) (by show 0<7;omega),R.AEV (off:=1) (by show 1<7;omega),R.AEV (off:=2) (by show 2<7;omega),R.AEV (off:=3) (by show 3<7;omega),R.AEV (off:=4) (by show 4<7;omega),R.AEV (off:=5) (by show 5<7;omega),R.AEV (off:=6) (by show 6<7;omega),R.loadN (off:=0) (n:=7) (by show 0+7<=7;omega)⟩
theorem Tp{n:Int}:call AC (m+1) 64 [AI AT n,AI AT lo,AI AT hi] h=.ok (.bool (wiQ n lo hi)) h:=by
 rw[oN rfl];unfold d64 wiQ;by_cases b:lo<=n
 ·have a:iGe n lo=IN:=F0 b
  by_cases c:n<=hi
  ·have d:iLe n hi=IN:=Hn c
   rw[decide_eq_true ⟨b,c⟩];simp only[iN,wA,sT,sh,OF,reduceIte,gD,AM,AK,a,d,lV0]
  ·have d:iLe n hi=IS:=Lt c
   rw[decide_eq_false λe=>c e.2];simp only[iN,wA,sT,sh,OF,reduceIte,gD,AM,AK,a,d,lV0]
 ·have a:iGe n lo=IS:=E0 b
  rw[decide_eq_false λe=>b e.1];simp only[iN,wA,sT,sh,OF,reduceIte,gD,AM,AK,a,lV0]
theorem tL:call AC (m+2) 36 [AI AT AEl,AI AT seq,.int .u8 (op:Int)] h=.ok (.bool (hdQ AEl seq op)) h:=by
 have a:=Tp (m:=m) (h:=h) (n:=AEl) (lo:=1) (hi:=1099511627776);have b:=Tp (m:=m) (h:=h) (n:=seq) (lo:=1) (hi:=1099511627776);rw[nz rfl];unfold d36 hdQ;cases f:wiQ AEl 1 1099511627776
 ·rw[f]at a
  simp only[iN,wA,sT,sh,OF,reduceIte,gD,cA0,a,yy,lV0]
 ·rw[f]at a
  cases g:wiQ seq 1 1099511627776
  ·rw[g]at b
   simp only[iN,wA,sT,sh,OF,reduceIte,gD,cA0,a,b,yy,AAN,lV0]
  ·rw[g]at b
   by_cases i:1<=op
   ·have c:iGe (op:Int) 1=IN:=F0 (by omega)
    by_cases j:op<=6
    ·have d:iLe (op:Int) 6=IN:=Hn (by omega)
     rw[decide_eq_true ⟨i,j⟩];simp only[iN,wA,sT,sh,OF,reduceIte,gD,cA0,a,b,AM,AK,c,d,Bool.and_true,lV0]
    ·have d:iLe (op:Int) 6=IS:=Lt (by omega)
     rw[decide_eq_false λe=>j e.2];simp only[iN,wA,sT,sh,OF,reduceIte,gD,cA0,a,b,AM,AK,c,d,AAN,lV0]
   ·have c:iGe (op:Int) 1=IS:=E0 (by omega)
    rw[decide_eq_false λe=>i e.1];simp only[iN,wA,sT,sh,OF,reduceIte,gD,cA0,a,b,AM,AK,c,AAN,lV0]
theorem tX:call AC (m+2) 37 [AI AT a,AI AT b,AI AT c,AI AT least] h=.ok (.bool (nmQ a b c least)) h:=by
 have d:=Tp (m:=m) (h:=h) (n:=a) (lo:=0) (hi:=1099511627776);have e:=Tp (m:=m) (h:=h) (n:=b) (lo:=0) (hi:=254);have i:=Tp (m:=m) (h:=h) (n:=c) (lo:=least) (hi:=1099511627776);rw[oB rfl];unfold d37 nmQ;cases f:wiQ a 0 1099511627776
 ·rw[f]at d
  simp only[iN,wA,sT,sh,OF,reduceIte,gD,cA0,d,yy,lV0]
 ·rw[f]at d
  cases g:wiQ b 0 254
  ·rw[g]at e
   simp only[iN,wA,sT,sh,OF,reduceIte,gD,cA0,d,e,yy,AAN,lV0]
  ·rw[g]at e
   simp only[iN,wA,sT,sh,OF,reduceIte,gD,cA0,d,e,i,AAF,lV0]
theorem PF(H:h.Wf)(N:op<256){l:Nat}(K:∀g:Hp,AFB u g=.ok (AI AT (l:Int)) g):
  ∃h',call AC (m+3) 12 [DJ AEl seq op a b c u] h=.ok (.bool (Es AEl seq op a b c l)) h'/\h.Ext h':=by
 have n:=λ(F:AES) (e:Env) (L:J 0 e=DJ AEl seq op a b c u)=>Fg (F:=F) H L
 have I:=(Hp.Ext.refl H).AER 0 (CW AEl seq op a b c u);have R:=Hp.Row.new H 0 (CW AEl seq op a b c u);generalize h.AER 0 (CW AEl seq op a b c u)=x at n I R;obtain⟨q,r,s,y,z,A,E,_⟩:=B3 R;have G:=K x;have k:=tL (m:=m) (h:=x) (AEl:=AEl) (seq:=seq) (op:=op);have C:=λ(least:Int)=>tX (m:=m) (h:=x) (a:=a) (b:=b) (c:=c) (least:=least)
 refine⟨x,?_,I⟩;rw[nY rfl];unfold d12;have fin:∀(i:Bool),hdQ AEl seq op=i->Es AEl seq op a b c l=(i && nmQ a b c (EJ op) && (if op=1 then decide (l<=65536)else decide (l=0))):=λi M=>by unfold Es;rw[M]
 cases D:hdQ AEl seq op
 ·rw[fin _ D,yy,yy]
  rw[D]at k;by_cases o:op=4
  ·have f:iNe (op:Int) 4=IS:=CE (by omega)
   simp only[iN,wA,sT,sh,OF,reduceIte,gD,n,AH,AN,wC,AJ,AP,q,r,s,AM,AK,f,cA0,k,BO,BN,xP,lV0]
  ·have f:iNe (op:Int) 4=IN:=De (by omega)
   by_cases p:op=5
   ·have j:iNe (op:Int) 5=IS:=CE (by omega)
    simp only[iN,wA,sT,sh,OF,reduceIte,gD,n,AH,AN,wC,AJ,AP,q,r,s,AM,AK,f,j,cA0,k,BO,BN,xP,lV0]
   ·have j:iNe (op:Int) 5=IN:=De (by omega)
    simp only[iN,wA,sT,sh,OF,reduceIte,gD,n,AH,AN,wC,AJ,AP,q,r,s,AM,AK,f,j,cA0,k,BO,BN,xP,lV0]
 ·rw[fin _ D,AAF]
  rw[D]at k;have rest:∀(i:Bool),nmQ a b c (EJ op)=i->(op=1\/op≠1):=λ_ _=>by omega
  cases B:nmQ a b c (EJ op)
  ·rw[yy]
   by_cases o:op=4
   ·have f:iNe (op:Int) 4=IS:=CE (by omega)
    have d:=C 0;rw[show(0:Int)=EJ op from(IT (.inl o)).symm,B,show EJ op=0 from IT (.inl o)]at d;simp only[iN,wA,sT,sh,OF,reduceIte,gD,n,AH,AN,wC,AJ,AP,q,r,s,y,z,A,AM,AK,f,cA0,k,d,BO,BN,xP,xK,lV0]
   ·have f:iNe (op:Int) 4=IN:=De (by omega)
    by_cases p:op=5
    ·have j:iNe (op:Int) 5=IS:=CE (by omega)
     have d:=C 0;rw[show(0:Int)=EJ op from(IT (.inr p)).symm,B,show EJ op=0 from IT (.inr p)]at d;simp only[iN,wA,sT,sh,OF,reduceIte,gD,n,AH,AN,wC,AJ,AP,q,r,s,y,z,A,AM,AK,f,j,cA0,k,d,BO,BN,xP,xK,lV0]
    ·have j:iNe (op:Int) 5=IN:=De (by omega)
     have d:=C 1;rw[show(1:Int)=EJ op from(If (λg=>g.elim o p)).symm,B,show EJ op=1 from If (λg=>g.elim o p)]at d;simp only[iN,wA,sT,sh,OF,reduceIte,gD,n,AH,AN,wC,AJ,AP,q,r,s,y,z,A,AM,AK,f,j,cA0,k,d,BO,BN,xP,xK,lV0]
  ·rw[AAF]
   by_cases o:op=4
   ·have f:iNe (op:Int) 4=IS:=CE (by omega)
    have t:iEq (op:Int) 1=IS:=B8 (by omega);have d:=C 0;rw[show(0:Int)=EJ op from(IT (.inl o)).symm,B,show EJ op=0 from IT (.inl o)]at d;rw[If (show ¬op=1 by omega)];have w:iEq (l:Int) 0=decide (l=0):=by rw[Dh];by_cases i:l=0<;>simp[i]
    simp only[iN,wA,sT,sh,OF,reduceIte,gD,n,AH,AN,wC,AJ,AP,q,r,s,y,z,A,E,AM,AK,f,t,w,cA0,k,d,BO,BN,xP,xK,Aa,G,lV0]
   ·have f:iNe (op:Int) 4=IN:=De (by omega)
    by_cases p:op=5
    ·have j:iNe (op:Int) 5=IS:=CE (by omega)
     have t:iEq (op:Int) 1=IS:=B8 (by omega);have d:=C 0;rw[show(0:Int)=EJ op from(IT (.inr p)).symm,B,show EJ op=0 from IT (.inr p)]at d;rw[If (show ¬op=1 by omega)];have w:iEq (l:Int) 0=decide (l=0):=by rw[Dh];by_cases i:l=0<;>simp[i]
     simp only[iN,wA,sT,sh,OF,reduceIte,gD,n,AH,AN,wC,AJ,AP,q,r,s,y,z,A,E,AM,AK,f,j,t,w,cA0,k,d,BO,BN,xP,xK,Aa,G,lV0]
    ·have j:iNe (op:Int) 5=IN:=De (by omega)
     have d:=C 1;rw[show(1:Int)=EJ op from(If (λg=>g.elim o p)).symm,B,show EJ op=1 from If (λg=>g.elim o p)]at d;by_cases x:op=1
     ·have t:iEq (op:Int) 1=IN:=CZ (by omega)
      rw[IT x];have w:iLe (l:Int) 65536=decide (l<=65536):=by rw[Pu];by_cases i:l<=65536<;>simp[i]<;>omega
      simp only[iN,wA,sT,sh,OF,reduceIte,gD,n,AH,AN,wC,AJ,AP,q,r,s,y,z,A,E,AM,AK,f,j,t,w,cA0,k,d,BO,BN,xP,xK,Aa,G,lV0]
     ·have t:iEq (op:Int) 1=IS:=B8 (by omega)
      rw[If x];have w:iEq (l:Int) 0=decide (l=0):=by rw[Dh];by_cases i:l=0<;>simp[i]
      simp only[iN,wA,sT,sh,OF,reduceIte,gD,n,AH,AN,wC,AJ,AP,q,r,s,y,z,A,E,AM,AK,f,j,t,w,cA0,k,d,BO,BN,xP,xK,Aa,G,lV0]
end
theorem rS:nfS=BJ (Ab 0 (A4 nfB)) nfE:=rfl
theorem qG:d57=iP:=rfl
def Ch(k:Kt):List vz:=[AI AT k.a,AI AT k.b,AI AT k.c,.int .u8 (k.s:Int)]
def H9(k:Kt):vz:=.agg ⟨Ch k⟩
def flI(ks:List Kt):List vz:=ks.flatMap Ch
theorem Wx:∀ks:List Kt,(flI ks).length=ks.length*4
 |[]=>rfl
 |k::a=>by
  show(Ch k++flI a).length=_;rw[wD,Wx a,wK];show 4+a.length*4=_;omega
theorem ij(a b:List Kt):flI (a++b)=flI a++flI b:=ABN
def Hp.IL(h:Hp)(k:Nat)(v:vz)(ks:List Kt):Prop:=(v=AEW/\ks=[])\/∃a,v=.slice (BY ⟨a,0,By⟩) ks.length ks.length/\h.Row a 91 (flI ks)/\k<=a
theorem lZ:Bt .mt 0 (Ch K0)=BY fz:=by kernel_rfl
theorem lU:BX N8.zero 1=Ch K0:=by kernel_rfl
theorem sX:N8.zero=Ch K0:=by kernel_rfl
section
variable {F:AES}{e:Env}{h h' h0 g:Hp}{A:At}{T M:List Nat}{c0 bad m k n nb r:Nat}{arm AEl:Int}{ks:List Kt}{fr:List Nat}{v lv fv u w:vz}{ov:Bool}{x:Kt}{P:Kt->Bool}
theorem ve(e:h.Wf)(x:h.Ext g){r:Nat}(f:h.next<=r){a:List vz}(R:g.Row r 0 a)(c:a.length=4)(k:Kt):
  AEa 4 (pt r) (H9 k) g=.ok AEU (g.wr r 0 (Ch k))/\h.Ext (g.wr r 0 (Ch k))/\(g.wr r 0 (Ch k)).Row r 0 (Ch k):=by
 have d:256<=r:=by have:=e.big;omega
 have b:0+(Ch k).length<=a.length:=by rw[c];exact wB _
 have i:=R.AEa (n:=4) (off:=0) x.wf d (v:=H9 k) rfl b rfl;have wr:=R.AEf x.wf b;rw[FF (show a.length=(Ch k).length from c)]at wr;exact⟨i,R.AEy x f b,wr⟩
theorem nR{g1 g2 g3 g4:O}(a:g1 e=AI AT x.a)(h2:g2 e=AI AT x.b)(b:g3 e=AI AT x.c)(c:g4 e=.int .u8 (x.s:Int)):
  BW N8.zero [(0,1,g1),(1,1,g2),(2,1,g3),(3,1,g4)] F e h=.ok (H9 x) h:=by
 rw[Cx,sX,A3 (hk:=by rw[a];rfl),a,A3 (hk:=by rw[h2];rfl),h2,A3 (hk:=by rw[b];rfl),b,A3 (hk:=by rw[c];rfl),c];simp only[Cr,xM,wK,xD,Ch,over,AAw,AAZ,zK,xI,yS,wA,yn,if_true,Bw,reduceIte];rfl
theorem NK(b:h.Wf){g:O}(a:g e=H9 x):Ap 1 (BX N8.zero 1) [(0,4,g)] F e h=.ok (.slice (BY ⟨h.next,0,By⟩) 1 1) (h.AER 0 (Ch x)):=by
 rw[lU,CQ,A3 (hk:=by rw[a];rfl),a,show cellsOf (H9 x)=Ch x from rfl,IT (show(Ch x).length=4 from rfl),IT (show 0+4<=(Ch K0).length from wB _),Bw,Cw b];rfl
theorem XO(f:h.Wf):∃h',call AC (m+1) 61 [Bn x.a x.b x.c x.s u] h=.ok (H9 x) h'/\h.Ext h':=by
 have p:=λ(F:AES) (e:Env) (B:J 0 e=Bn x.a x.b x.c x.s u)=>N2 (F:=F) f B
 have b:=(Hp.Ext.refl f).AER 0 (A5 x.a x.b x.c x.s u);have j:=Hp.Row.new f 0 (A5 x.a x.b x.c x.s u);generalize h.AER 0 (A5 x.a x.b x.c x.s u)=a at p b j;have o:=λ(F:AES) (e:Env)=>BU (F:=F) (e:=e) b.wf (n:=4) (t:=fz)
 have l:=Hp.Row.alloc b.wf lZ (show(Ch K0).length=4 from rfl);have i:a.Ext (a.push (.cells fz 4 0)):=(Hp.Ext.refl b.wf).push _;generalize a.push (.cells fz 4 0)=d at o l i;obtain⟨D,E,G,H,_,_⟩:=Br (j.ext b.wf i);have w:=λ(F:AES) (e:Env) (y:J 4 e=AI AT x.a) (c:J 6 e=AI AT x.b) (z:J 8 e=AI AT x.c) (A:J 10 e=.int .u8 (x.s:Int))=>nR (F:=F) (h:=d) y c z A
 obtain⟨r,s,k⟩:=ve b.wf i (wB _) l rfl x;have q:loadN 4 ⟨a.next,0,By⟩ (d.wr a.next 0 (Ch x))=.ok (H9 x) (d.wr a.next 0 (Ch x)):=k.loadN (off:=0) (n:=4) (by show 0+4<=4;omega);generalize d.wr a.next 0 (Ch x)=g at r s k q;refine⟨g,?_,b.trans s⟩;have C:∃c,d61 (call AC m) (Ay e0 0 [Bn x.a x.b x.c x.s u]) h=.ret c g/\J 2 c=pt a.next:=by
  unfold d61;simp only[iN,wA,sT,sh,OF,reduceIte,p,o,AH,AN,wC,AJ,AP,D,E,G,H,w,AV,r];exact⟨_,rfl,by simp[AG]⟩
 obtain⟨c,I,K⟩:=C;rw[oL rfl,I,A7,Df (h':=g) (v:=H9 x) (by rw[K,Ac];exact q)]
theorem qd{seq:Int}{op:Nat}{a b c:Int}{l:vz}(d:h.Wf)(R:h.Row r 0 (CW AEl seq op a b c l)):∃h',call AC (m+1) 58 [Bn x.a x.b x.c x.s u,pt r] h=.ok (.bool (decide (x.a=a) && decide (x.b=b))) h'/\h.Ext h':=by
 have f:=λ(F:AES) (e:Env) (w:J 0 e=Bn x.a x.b x.c x.s u)=>N2 (F:=F) d w
 have j:=(Hp.Ext.refl d).AER 0 (A5 x.a x.b x.c x.s u);have k:=Hp.Row.new d 0 (A5 x.a x.b x.c x.s u);generalize h.AER 0 (A5 x.a x.b x.c x.s u)=t at f j k;obtain⟨n,o,_⟩:=Br k;obtain⟨_,_,_,p,q,_⟩:=B3 (R.ext d j);refine⟨t,?_,j⟩;rw[oJ rfl];unfold d58;rcases GP x.a a with ⟨g,i⟩|⟨g,i⟩
 ·rw[decide_eq_true i,AAF]
  have s:iEq x.b b=decide (x.b=b):=by rw[Dh];by_cases y:x.b=b<;>simp[y]
  simp only[iN,wA,sT,sh,OF,reduceIte,gD,f,AH,AN,wC,AJ,AP,n,o,p,q,AM,AK,g,s,lV0]
 ·rw[decide_eq_false i,yy]
  simp only[iN,wA,sT,sh,OF,reduceIte,gD,f,AH,AN,wC,AJ,AP,n,o,p,q,AM,AK,g,lV0]
def gI(x:Kt)(a b c:Int):Bool:=if x.a=a then(if x.b=b then decide (c<x.c)else decide (b<x.b))else decide (a<x.a)
theorem qe{seq:Int}{op:Nat}{a b c:Int}{l:vz}(f:h.Wf)(R:h.Row r 0 (CW AEl seq op a b c l)):∃h',call AC (m+1) 62 [Bn x.a x.b x.c x.s u,pt r] h=.ok (.bool (gI x a b c)) h'/\h.Ext h':=by
 have g:=λ(F:AES) (e:Env) (C:J 0 e=Bn x.a x.b x.c x.s u)=>N2 (F:=F) f C
 have y:=(Hp.Ext.refl f).AER 0 (A5 x.a x.b x.c x.s u);have z:=Hp.Row.new f 0 (A5 x.a x.b x.c x.s u);generalize h.AER 0 (A5 x.a x.b x.c x.s u)=d at g y z;obtain⟨o,p,q,_⟩:=Br z;obtain⟨_,_,_,s,t,w,_⟩:=B3 (R.ext f y);have n:∀A B:Int,iGt A B=decide (B<A):=HL;refine⟨d,?_,y⟩;rw[oM rfl];unfold d62 gI;by_cases d:x.a=a
 ·have i:iNe x.a a=IS:=CE d
  rw[IT d];by_cases j:x.b=b
  ·have k:iNe x.b b=IS:=CE j
   rw[IT j];simp only[iN,wA,sT,sh,OF,reduceIte,gD,g,AH,AN,wC,AJ,AP,o,p,q,s,t,w,AM,AK,i,k,n,lV0]
  ·have k:iNe x.b b=IN:=De j
   rw[If j];simp only[iN,wA,sT,sh,OF,reduceIte,gD,g,AH,AN,wC,AJ,AP,o,p,q,s,t,w,AM,AK,i,k,n,lV0]
 ·have i:iNe x.a a=IN:=De d
  rw[If d];simp only[iN,wA,sT,sh,OF,reduceIte,gD,g,AH,AN,wC,AJ,AP,o,p,q,s,t,w,AM,AK,i,n,lV0]
def AEq(bd a bs:Nat)(AEl:Int):List vz:=[pt bd,pt a,pt bs,AI AT AEl]
theorem CB{bd a bs:Nat}(R:h.Row nb 0 (AEq bd a bs AEl)):AEV ⟨nb,0,By⟩ h=.ok (pt bd) h/\AEV ⟨nb,1,By⟩ h=.ok (pt a) h/\AEV ⟨nb,2,By⟩ h=.ok (pt bs) h/\AEV ⟨nb,3,By⟩ h=.ok (AI AT AEl) h:=
 ⟨R.AEV (off:=0) (by show 0<4;omega),R.AEV (off:=1) (by show 1<4;omega),R.AEV (off:=2) (by show 2<4;omega),R.AEV (off:=3) (by show 3<4;omega)⟩
theorem SC(b1:h.Wf)(Rn:h.Row nb 0 (AEq A.bd A.tb A.bs AEl))(s:Sl h A T M c0 arm ks fr lv fv bad ov)(hl:ks.length<=49){w:vz}(hP:∀(g:Hp) (k:Kt) (u:vz),h.Ext g->∃g',HD (call AC (m+4)) w [Bn k.a k.b k.c k.s u] g=.ok (.bool (P k)) g'/\g.Ext g'):
  ∃h' k v,call AC (m+5) 57 [pt nb,w] h=.ok v h'/\h.Ext h'/\h.next<=k/\h'.IL k v (ks.filter P):=by
 obtain⟨_,_,n2,_⟩:=CB Rn;obtain⟨f,v1,k1,L,a7⟩:=Vv (m:=m) b1 s.row s.ls (Sl.all s) (by omega);have ln:=a7.len f;obtain⟨q,p1,t1,t5,t12,t13,t14⟩:∃q,iP (call AC (m+4)) (Ay e0 0 [pt nb,w]) h=nfS (call AC (m+4)) q f/\J 1 q=w/\J 5 q=AEW/\J 12 q=v1/\J 13 q=AI AT (ks.length:Int)/\J 14 q=AI AT ((0:Nat):Int):=by
  unfold iP;simp only[iN,wA,sT,sh,OF,reduceIte,An,AX,AH,AN,wC,AJ,AP,n2,cA0,k1,Aa,ln];exact⟨_,rfl,by simp[AG]⟩
 have b7:∃d o v,A4 nfB (call AC (m+4)) q f=.exit 0 d o/\f.Ext o/\J 5 d=v/\o.IL f.next v (ks.filter P):=by
  refine Bb (I:=λi l h'=>∃v,f.Ext h'/\J 1 l=w/\J 5 l=v/\J 12 l=v1/\J 13 l=AI AT (ks.length:Int)/\J 14 l=AI AT (i:Int)/\i<=ks.length/\h'.IL f.next v ((ks.take i).filter P))
   (Q:=λx=>∃d o v,x=.exit 0 d o/\f.Ext o/\J 5 d=v/\o.IL f.next v (ks.filter P)) ks.length (by omega) (λi l h' ⟨v,x',Z,u5,a0,S,a6,hi,z⟩=>?_) ⟨AEW,.refl L.wf,t1,t5,t12,t13,t14,wl _,.inl ⟨rfl,rfl⟩⟩
  have G:=x'.wf;by_cases H:i<ks.length
  ·left
   have W:=Ec H;obtain⟨k,hk⟩:∃k,ks[i]? =BY k:=⟨_,wE H⟩;obtain⟨b,u,ix,ld,b0⟩:=(a7.ext L.wf x').at hk;obtain⟨_,_,uo⟩:=Tn b0;have a8:ks.take (i+1)=ks.take i++[k]:=by rw[zR,hk];rfl
   have al:=λ(F:AES) (e:Env)=>BU (F:=F) (e:=e) G (n:=5) (t:=DT)
   have Ra:=Hp.Row.alloc G Fm (show(A5 0 0 0 0 AEW).length=5 from rfl);have y1:h'.Ext (h'.push (.cells DT 5 0)):=(Hp.Ext.refl G).push _;generalize h'.push (.cells DT 5 0)=h3 at al Ra y1;obtain⟨st,a5,E,R5,n5⟩:=MG G y1 (wB _) Ra rfl (a:=k.a) (b:=k.b) (c:=k.c) (s:=k.s) uo;generalize h3.wr h'.next 0 (A5 k.a k.b k.c k.s u)=h4 at st a5 E R5 n5;have x4:=x'.trans E;obtain⟨y,Y,N⟩:=hP h4 k u (L.trans x4);have a9:=x4.trans N;cases X:P k
   ·rw[X]at Y
    have r:=CL (i:=i) (h:=y) (by omega);obtain⟨d,C,r2,r3,r4,D,r6⟩:∃d,nfB (call AC (m+4)) l h'=.norm d y/\J 1 d=w/\J 5 d=v/\J 12 d=v1/\J 13 d=AI AT (ks.length:Int)/\J 14 d=AI AT ((i+1:Nat):Int):=by
     unfold nfB;simp only[sT,sh,OF,reduceIte,gD,AM,AK,a6,S,W,A1,a0,ix,Ai,Ac,ld,al,AV,st,a5,CN,AS,Av,Z,Y,BL,r];exact⟨_,rfl,by simp[AG,Z,u5,a0,S]⟩
    refine⟨H,d,y,C,v,a9,r2,r3,r4,D,r6,H,?_⟩;rw[a8,yk,xp (by rw[X];decide),AAM,wT];rcases z with h0|⟨b,p,B,q3⟩
    ·exact .inl h0
    ·exact .inr ⟨b,p,(B.ext G E).ext E.wf N,q3⟩
   ·rw[X]at Y
    have b6:AFB v y=.ok (AI AT (((ks.take i).filter P).length:Int)) y:=by
     rcases z with ⟨p,B⟩|⟨b,p,_⟩
     ·rw[p,B];rfl
     ·rw[p];rfl
    have c2:((ks.take i).filter P).length<=49:=by
     have f:=yT P (ks.take i);rw[wu]at f;omega
    have b2:iLt (((ks.take i).filter P).length:Int) 50=IN:=JJ (by omega);have b5:loadN 5 ⟨h'.next,0,By⟩ y=.ok (Bn k.a k.b k.c k.s u) y:=(R5.ext E.wf N).loadN (off:=0) (n:=5) (by show 0+5<=5;omega);obtain⟨O,ki,V⟩:=XO (m:=m+3) (x:=k) (u:=u) N.wf;have sl:=λ(F:AES) (e:Env) (he:J 28 e=H9 k)=>NK (F:=F) V.wf he
    have b8:=a9.trans V;have y7:=(Hp.Ext.refl V.wf).AER 0 (Ch k);have Rw:=Hp.Row.new V.wf 0 (Ch k);have b3:O.next<=(O.AER 0 (Ch k)).next:=y7.next;generalize O.AER 0 (Ch k)=h7 at sl y7 Rw b3;have a4:=b8.trans y7;have hs:∀K:List vz->R,BP h7 4 (.slice (BY ⟨O.next,0,By⟩) 1 1) 1 K=K (Ch k):=λK=>Rw.AGd (es:=4) (off:=0) (n:=1) (by show 0+1 * 4<=4;omega)
    have b9:=L.wf.big;obtain⟨j,U,k8,x8,b4⟩:∃j U,DX 4 32 90 v (.slice (BY ⟨O.next,0,By⟩) 1 1) h7=.ok U j/\f.Ext j/\j.IL f.next U ((ks.take i).filter P++[k]):=by
     rcases z with ⟨p,B⟩|⟨b,p,B,q3⟩
     ·obtain⟨j,a1,a2,r,_⟩:=KF (eb:=32) (en:=90) a4 hs rfl rfl rfl (by omega)
      exact⟨j,_,by rw[p];exact a1,a2,by rw[B];exact .inr ⟨_,rfl,r,a4.next⟩⟩
     ·have q5:=((B.ext G E).ext E.wf N).ext N.wf (V.trans y7)
      obtain⟨j,a1,a2,r,_⟩:=J8 (eb:=32) (en:=90) a4 hs rfl rfl (by omega) rfl q5 (Wx _) q3 (by omega) (by omega);refine⟨j,_,by rw[p];exact a1,a2,.inr ⟨_,by rw[wD];rfl,?_,a4.next⟩⟩;rw[ij];exact r
    have r:=CL (i:=i) (h:=j) (by omega);obtain⟨d,C,r2,r3,r4,D,r6⟩:∃d,nfB (call AC (m+4)) l h'=.norm d j/\J 1 d=w/\J 5 d=U/\J 12 d=v1/\J 13 d=AI AT (ks.length:Int)/\J 14 d=AI AT ((i+1:Nat):Int):=by
     unfold nfB;simp only[sT,sh,OF,reduceIte,gD,AM,AK,a6,S,W,A1,a0,ix,Ai,Ac,ld,al,AV,st,a5,CN,AS,Av,Z,Y,Aa,u5,b6,b2,b5,BG,ki,sl,BD,k8,BL,r];exact⟨_,rfl,by simp[AG,Z,a0,S]⟩
    refine⟨H,d,j,C,U,x8,r2,r3,r4,D,r6,H,?_⟩;rw[a8,yk,xn X,AAM];exact b4
  ·right
   obtain rfl:i=ks.length:=by omega
   have W:=DC (wB ks.length);obtain⟨d,C,D⟩:∃d,nfB (call AC (m+4)) l h'=.exit 0 d h'/\J 5 d=v:=by
    unfold nfB;simp only[sT,sh,OF,reduceIte,AM,AK,a6,S,W];exact⟨_,rfl,by simp[AG,u5]⟩
   rw[C];rw[xz]at z;exact⟨rfl,d,h',v,rfl,x',D,z⟩
 obtain⟨d,o,v,C,x2,D,z⟩:=b7;refine⟨o,_,v,?_,L.trans x2,L.next,z⟩;rw[oI rfl,qG,p1,rS];simp only[BC,Aw,C,A6,BA];unfold nfE;simp only[sT,sh,OF,reduceIte,D,lV0]
end
def Cnt(ks:List Kt):Prop:=(∀a∈ks,∀b∈ks,¬Uf a b)/\(ks.map Kt.key).Nodup
section
variable {h g g':Hp}{T M:List Nat}{bd tb n m k:Nat}{v:vz}{ks:List Kt}
structure O3 (h g:Hp)(T M:List Nat)(bs r9 k1 bd tb i:Nat)(v mv:vz)(ks:List Kt):Prop where
 x:h.Ext g
 row:g.Row bs 0 (slL bd tb AEW AEW (AFl T M i).length IS)
 rb:g.Row r9 0 [pt bs]
 ko:g.KO k1 v ks
 ok:∀k∈ks,AGt g (λb=>r9<b) k
 ms:g.Own k1 3 mv (ints .i64 ((mrk T M i).map xR))
 le:k1<=g.next
theorem O3.ext{g g':Hp}{bs e c i:Nat}{d:vz}(o:O3 h g T M bs e c bd tb i v d ks)(x:g.Ext g'):O3 h g' T M bs e c bd tb i v d ks:=
 have a:=o.x.wf
 ⟨o.x.trans x,o.row.ext a x,o.rb.ext a x,o.ko.ext a x,λk b=>⟨(o.ok k b).1.ext a x,(o.ok k b).2⟩,o.ms.ext a x,wy o.le x.next⟩
theorem km{g:Hp}{e f i:Nat}{r:vz}(E:h.Wf)(o:O1 h g T M h.next e f bd tb i v r ks)(z:ks.length<=12)(d:h.next<e)(h2:e<f):
  ∃g',call AC (m+7) 70 [v,.func (.func 71) ⟨[]⟩ ⟨[]⟩] g=.ok AEU g'/\O3 h g' T M h.next e f bd tb i v r (B5 ks):=by
 have a:=o.x.wf;rcases o.ko with ⟨rfl,rfl⟩|⟨t,rfl,R,x,l⟩
 ·obtain⟨g3,j,C⟩:=kj (m:=m+1) a (S:=λ_=>True) (ks:=[]) (.inl ⟨rfl,rfl⟩) (wl _) λi H I B _=>by cases B
  have o3:=o.ext C;exact⟨g3,j,⟨o3.x,o3.row,o3.rb,o3.ko,o3.ok,o3.ms,o3.le⟩⟩
 ·have A:∀k∈ks,oneCell k.u=IN:=λk b=>(o.ok k b).1.vs.one.2.1
  obtain⟨g3,j,f3,p⟩:=TZ (m:=m+1) (Z:=[]) (n:=ks.length) (c:=ks.length) a (by rw[wT];exact R) l rfl (wB _) z A;rw[wT]at p;refine⟨g3,j,⟨Fx.xtF o.x f3 λi y=>by rw[y];omega,f3.row a o.row (by omega),f3.row a o.rb (by omega),.inr ⟨t,by rw[G6],p,x,l⟩,λk b=>?_,?_,wy o.le f3.next⟩⟩
  ·have b:=FJ.1 b
   exact⟨(o.ok k b).1.keep λq F D _ G s=>f3.row a s (EC s R (by omega)),(o.ok k b).2⟩
  ·rcases o.ms with d|⟨q,d,h2,u,w⟩
   ·exact .inl d
   ·exact .inr ⟨q,d,f3.row a h2 (EC h2 R (by omega)),u,w⟩
end
structure AFR (np:Nat)(T M:List Nat)(ks:List Kt)(fr:List Nat):Prop where
 len:M.length=64*(3*np)
 hd:∀k∈ks,sec M (3*k.p)=AEc T k.a k.b k.c k.s k.l
 dt:∀k∈ks,dat M k.p k.l.length=k.l
 bl:∀p∈fr,∀r,r<64->M.getD (64*(3*p)+r) 0=0
 rs:∀k∈ks,AEh k.a k.b k.c k.s k.l.length=IN/\k.l.length<=100
 pl:∀p∈fr,p<np
abbrev Med(T M:List Nat)(ks:List Kt)(fr:List Nat):Prop:=AFR 8 T M ks fr
def Com(ks:List Kt):Prop:=∀b∈ks,∀a∈ks,a.a=b.a->a.b=b.b->a.s=2->a.c<=b.c
section
variable {T M M':List Nat}{ks ks':List Kt}{fr fr' ps:List Nat}{kd a b c:Int}{l H:List Nat}{n p q k np:Nat}
theorem G5(b:M'.length=M.length)(h:∀x,x/64=q->M'.getD x 0=M.getD x 0):sec M' q=sec M q:=by
 have a:∀M:List Nat,(sec M q).length=min 64 (M.length - 64*q):=λM=>by unfold sec;rw[wu,xT]
 refine Jy (by rw[a,a,b]) λd c=>?_
 rw[a]at c;rw[Ka (by omega),Ka (by omega),h _ (by omega)]
theorem FQ(b:M'.length=M.length)(hk:k<=128)(h:∀x,x/64=3*p+1\/x/64=3*p+2->M'.getD x 0=M.getD x 0):dat M' p k=dat M p k:=by
 have a:∀M:List Nat,(dat M p k).length=min k (M.length - 64*(3*p+1)):=λM=>by unfold dat;rw[wu,xT]
 refine Jy (by rw[a,a,b]) λd c=>?_
 rw[a]at c;rw[M5 (by omega),M5 (by omega),h _ (by omega)]
theorem Qd(a:M.length=64*n)(d:q<n)(b:H.length=64)(h:∀r,r<64->M.getD (64*q+r) 0=H.getD r 0):sec M q=H:=by
 have c:=Ke a d;refine Jy (by rw[c,b]) λe f=>?_
 rw[Ka (by omega),h e (by omega)]
theorem qM(d:M.length=64*n)(f:3*p+3<=n)(e:l.length<=128)(h:∀r,r<l.length->M.getD (64*(3*p+1)+r) 0=l.getD r 0):dat M p l.length=l:=by
 have b:(dat M p l.length).length=l.length:=by unfold dat;rw[wu,xT];omega
 refine Jy b λc a=>?_
 rw[b]at a;rw[M5 a,h c a]
theorem bQ(d:M.length=64*n)(f:3*p+3<=n)(i:l.length<=100)(b:H.length=64):
  (Dc T M p l H).length=64*n/\sec (Dc T M p l H) (3*p)=H/\dat (Dc T M p l H) p l.length=l/\∀x,x/192≠p->(Dc T M p l H).getD x 0=M.getD x 0:=by
 rcases xL l.length with h0|h0
 ·obtain rfl:=xH h0
  have h:Dc T M p [] H=F7 M (p*3) H:=rfl;have c:=C1 d (show p*3<n by omega) b;rw[h];refine⟨c,Qd c (by omega) b λa g=>?_,List.take_zero,λx e=>?_⟩
  ·rw[Db d (by omega) b,IT (by omega),show(64*(3*p)+a) % 64=a by omega]
  ·rw[Db d (by omega) b,If (by omega)]
 ·obtain⟨c,e⟩:=bR (T:=T) d f ⟨h0,i⟩ b
  refine⟨c,Qd c (by omega) b λa g=>?_,qM c f (by omega) λa g=>?_,λx k=>?_⟩
  ·rw[e,IT (by omega),show(64*(3*p)+a) % 64=a by omega]
  ·rw[e,If (by omega)]
   by_cases j:a<64
   ·rw[IT (by omega),show(64*(3*p+1)+a) % 64=a by omega]
   ·rw[If (by omega),IT ⟨by omega,by omega⟩,show 64+(64*(3*p+1)+a) % 64=a by omega]
  ·rw[e,If (by omega),If (by omega),If (by omega)]
theorem fG:∀(ps:List Nat) {M:List Nat},M.length=64*n->(∀p∈ps,3*p+3<=n)->(Gj M ps).length=64*n/\∀x,(Gj M ps).getD x 0=if x % 192<64/\x/192∈ps then 0 else M.getD x 0
 |[],M,b,_=>⟨b,λx=>by rw[If (λh=>by cases h.2)];rfl⟩
 |p::ps,M,b,e=>by
  have l:=e p wJ;have g:Gj M (p::ps)=Gj (F7 M (p*3) BF) ps:=rfl;have f:BF.length=64:=List.length_replicate;have i:=C1 b (show p*3<n by omega) f;obtain⟨g1,g2⟩:=fG ps i λq j=>e q (wI _ j)
  rw[g];refine⟨g1,λx=>?_⟩;rw[g2,Db b (by omega) f];by_cases a:x % 192<64/\x/192∈ps
  ·rw[IT a,IT ⟨a.1,wI _ a.2⟩]
  ·rw[If a]
   by_cases d:x/64=p*3
   ·rw[IT d,IT ⟨by omega,by rw[show x/192=p by omega];exact wJ⟩]
    unfold BF;exact Nv
   ·rw[If d,If]
    rintro⟨k,c⟩;rcases wS.1 c with c|c
    ·omega
    ·exact a ⟨k,c⟩
theorem Im:∀(out:List Kt) (M:List Nat),Ex M out=Gj M (out.map Kt.plc)
 |[],_=>rfl
 |x::out,M=>Im out (Gj M [x.p])
theorem AFR.cut(m:AFR np T M ks fr)(c:∀k∈ks',k∈ks/\k.p∉ps)(i:∀p∈fr',p∈fr\/p∈ps)(d:∀p∈ps,3*p+3<=3*np):AFR np T (Gj M ps) ks' fr':=by
 obtain⟨g1,g2⟩:=fG ps m.len d;have j:∀k∈ks',∀b,b/192=k.p->(Gj M ps).getD b 0=M.getD b 0:=λk a b g=>by
  rw[g2,If];rintro⟨_,l⟩;rw[g]at l;exact(c k a).2 l
 refine⟨g1,λk a=>?_,λk a=>?_,λp d e o=>?_,λk a=>m.rs k (c k a).1,λp n=>?_⟩
 ·rw[G5 (g1.trans m.len.symm) λb g=>j k a b (by omega)]
  exact m.hd k (c k a).1
 ·rw[FQ (g1.trans m.len.symm) (by have:=(m.rs k (c k a).1).2;omega) λb g=>j k a b (by omega)]
  exact m.dt k (c k a).1
 ·rw[g2]
  by_cases f:(64*(3*p)+e) % 192<64/\(64*(3*p)+e)/192∈ps
  ·rw[IT f]
  ·rw[If f]
   rcases i p d with h|h
   ·exact m.bl p h e o
   ·exact absurd ⟨by omega,by rw[show(64*(3*p)+e)/192=p by omega];exact h⟩ f
 ·rcases i p n with h|h
  ·exact m.pl p h
  ·have:=d p h;omega
theorem AFR.go(m:AFR np T M ks fr)(i:AFE np ks fr)(P:Kt->Bool){out:List Kt}(f:out.Perm (ks.filter P)):AFR np T (Gj M (out.map Kt.plc)) (ks.filter λk=> !P k) (frE fr out):=by
 refine m.cut (λk j=>?_) (λp a=>?_) λp a=>?_
 ·obtain⟨c,d⟩:=wb.1 j
  refine⟨c,λa=>?_⟩;obtain⟨g,b,l⟩:=xA.1 a;obtain⟨h,e⟩:=wb.1 (f.mem_iff.1 b);rw[DA i.nd h c l]at e;rw[e]at d;cases d
 ·have:=(J6 out fr).mem_iff.1 a
  exact wd.1 this
 ·obtain⟨g,b,rfl⟩:=xA.1 a
  exact i.lt g (wb.1 (f.mem_iff.1 b)).1
theorem Ib(l:Com ks)(f:Bp a b c ks=IS):∀y∈ks,y.a=a->y.b=b->y.s=2->y.c<c:=λy j g h i=>by
 unfold Bp at f;cases e:ks.find? (LW a b)with
 |none=>
  refine absurd ?_ (zE.1 e y j);unfold LW;rw[decide_eq_true g,decide_eq_true h,decide_eq_true i];rfl
 |some k=>
  rw[e]at f;have d:=AAL e;unfold LW at d;rw[wV,wV]at d;have n:=of_decide_eq_true d.1.1;have o:=of_decide_eq_true d.1.2;have q:=of_decide_eq_true d.2;have m:=AAK e;have:=l k m y j (g.trans n.symm) (h.trans o.symm) i;have p:¬c<=k.c:=of_decide_eq_false f;omega
theorem mem_set{x y z:Kt}{j:Nat}(b:ks[j]? =BY x)(a:z∈ks.set j y):z=y\/z∈ks:=(List.mem_or_eq_of_mem_set a).symm
theorem kW{x y z:Kt}{j:Nat}(c:ks[j]? =BY x)(e:z∈ks)(d:z≠x):z∈ks.set j y:=by
 obtain⟨f,a⟩:=zM.1 e;refine zM.2 ⟨f,?_⟩;rw[List.getElem?_set,If]
 ·exact a
 ·intro b
  rw[<- b,c]at a;exact d (Option.some.inj a).symm
theorem EP{x y:Kt}(h:x.core=y.core):x.a=y.a/\x.b=y.b/\x.c=y.c/\x.s=y.s/\x.l=y.l/\x.p=y.p:=⟨congrArg Kc.a h,congrArg Kc.b h,congrArg Kc.c h,congrArg Kc.s h,congrArg Kc.l h,congrArg Kc.p h⟩
theorem Id(i:AFE np ks fr)(m:AFR np T M ks fr)(J:Com ks)(t:Ml T M ks fr kd a b c l M' ks' fr'):AFR np T M' ks' fr'/\Com ks'/\(∀k,¬(k.a=a/\k.b=b)->(k∈ks'↔k∈ks)):=by
 rcases t with ⟨f,r,p,B,rfl,rfl,K,rfl⟩|⟨f,u,d,z,W,U,rfl,rfl,rfl⟩|⟨rfl,u,d,z,W,U,rfl,rfl,rfl⟩|⟨rfl,rfl,rfl,rfl⟩
 ·unfold Dn at r
  split at r
  ·cases r
  rename_i hn;split at r
  ·split at r<;>cases r
  split at r
  ·cases r
  rename_i U;have b0:Bp a b c ks=IS:=by
   cases j:Bp a b c ks
   ·rfl
   ·exact absurd j U
  have D:AEh a b c 1 l.length=IN:=by
   cases j:AEh a b c 1 l.length
   ·exact absurd (.inl j) hn
   ·rfl
  have a6:l.length<=100:=Nat.le_of_not_lt λh=>hn (.inr h)
  have R:B.a=a:=congrArg Kc.a K;have S:B.b=b:=congrArg Kc.b K;have X:B.c=c:=congrArg Kc.c K;have e4:B.s=1:=congrArg Kc.s K;have Y:B.l=l:=congrArg Kc.l K;have e6:B.p=p:=congrArg Kc.p K;have b9:=m.pl p wJ;obtain⟨g1,g2,g3,g4⟩:=bQ (T:=T) (p:=p) (H:=AEc T a b c 1 l) m.len (by omega) a6 (EA D);have A:(ks.map Kt.plc++(p::fr')).Nodup:=i.plc.nodup_iff.2 zy;have L:∀k,k∈B5 (ks++[B])↔k∈ks\/k=B:=λk=>by rw[FJ,wd,wP]
  have b3:∀k∈ks,k.p≠p:=λk f h=>(yX.1 A).2.2 k.p (xA.2 ⟨k,f,rfl⟩) p wJ h
  have b1:∀q∈fr',q≠p:=λq j h=>(yO.1 (yX.1 A).2.1).1 (h ▸ j)
  have P:∀k∈ks,∀e,e/192=k.p->(Dc T M p l (AEc T a b c 1 l)).getD e 0=M.getD e 0:=λk f e o=>g4 e (by rw[o];exact b3 k f)
  refine⟨⟨g1,λk f=>?_,λk f=>?_,λq j F D=>?_,λk f=>?_,λq j=>m.pl q (wI _ j)⟩,λe o y E g n I=>?_,λk w=>?_⟩
  ·rcases (L k).1 f with f|rfl
   ·rw[G5 (g1.trans m.len.symm) λe o=>P k f e (by omega)]
    exact m.hd k f
   ·rw[e6,g2,R,S,X,e4,Y]
  ·rcases (L k).1 f with f|rfl
   ·rw[FQ (g1.trans m.len.symm) (by have:=(m.rs k f).2;omega) λe o=>P k f e (by omega)]
    exact m.dt k f
   ·rw[e6,Y,g3]
  ·rw[g4 _ (by have:=b1 q j;omega)]
   exact m.bl q (wI _ j) F D
  ·rcases (L k).1 f with f|rfl
   ·exact m.rs k f
   ·rw[R,S,X,e4,Y];exact⟨D,a6⟩
  ·rcases (L y).1 E with V|V
   ·rcases (L e).1 o with a2|a2
    ·exact J e a2 y V g n I
    ·rw[a2]at g n ⊢
     have:=Ib J b0 y V (g.trans R) (n.trans S) I;rw[X];omega
   ·rw[V]at I
    omega
  ·rw[L]
   refine⟨λh=>h.resolve_right λg=>w (by rw[g];exact⟨R,S⟩),.inl⟩
 ·have b2:=(wW.1 z).1
  have C:=wO z;obtain⟨rfl,rfl,rfl⟩:=W;have Z:=i.lt d C;have a8:=m.rs d C;have a0:AEh d.a d.b d.c 2 d.l.length=IN:=by
   obtain⟨g1,g2,g3,g4,g5,g6,g7,g8⟩:=Dy a8.1;exact decide_eq_true ⟨g1,g2,g3,g4,g5,g6,.inr rfl,g8⟩
  obtain⟨g1,g2⟩:=M0 m.len (p:=d.p) Z (EA (T:=T) a0);have i2:=i.set (y:={d with s:=2}) z rfl rfl;have G:∀x∈ks.set u {d with s:=2},x={d with s:=2}\/(x∈ks/\x.p≠d.p):=λx r=>by
   rcases mem_set z r with h|h
   ·exact .inl h
   ·by_cases a4:x.p=d.p
    ·have hX:({d with s:=2}:Kt)∈ks.set u {d with s:=2}:=ADp b2 _
     exact .inl (DA i2.nd r hX a4)
    ·exact .inr ⟨h,a4⟩
  have P:∀x∈ks,x.p≠d.p->∀e,e/192=x.p->(EX M d.p (AEc T d.a d.b d.c 2 d.l)).getD e 0=M.getD e 0:=λx r a4 e o=>by rw[g2,If (by omega)]
  have m2:AFR np T (EX M d.p (AEc T d.a d.b d.c 2 d.l)) (ks.set u {d with s:=2}) fr:=by
   refine⟨g1,λk f=>?_,λk f=>?_,λq j F D=>?_,λk f=>?_,m.pl⟩
   ·rcases G k f with rfl|⟨g,n⟩
    ·exact Qd g1 (by show 3*d.p<3*np;omega) (EA a0) λF D=>by rw[g2,IT (show(64*(3*d.p)+F)/64=3*d.p by omega),show(64*(3*d.p)+F) % 64=F by omega]
    ·rw[G5 (g1.trans m.len.symm) λe o=>P k g n e (by omega)]
     exact m.hd k g
   ·rcases G k f with rfl|⟨g,n⟩
    ·show dat _ d.p d.l.length=d.l
     rw[FQ (g1.trans m.len.symm) (by omega) λe o=>by rw[g2,If (by omega)]];exact m.dt d C
    ·rw[FQ (g1.trans m.len.symm) (by have:=(m.rs k g).2;omega) λe o=>P k g n e (by omega)]
     exact m.dt k g
   ·have A:(ks.map Kt.plc++fr).Nodup:=i.plc.nodup_iff.2 zy
    have c0:d.p≠q:=(yX.1 A).2.2 d.p (xA.2 ⟨d,C,rfl⟩) q j;rw[g2,If (by omega)];exact m.bl q j F D
   ·rcases G k f with rfl|⟨g,n⟩
    ·exact⟨a0,a8.2⟩
    ·exact m.rs k g
  have m3:=m2.go i2 (elB d.a d.b d.c) (out:=(ks.set u {d with s:=2}).filter (elB d.a d.b d.c)) (.refl _);refine⟨m3,λe o y E g n I=>?_,λk w=>?_⟩
  ·obtain⟨b4,a1⟩:=wb.1 o
   obtain⟨b6,a3⟩:=wb.1 E;rcases G y b6 with rfl|⟨a9,c2⟩
   ·refine Int.not_lt.1 λO=>?_
    have O:e.c<d.c:=O;have g:d.a=e.a:=g;have n:d.b=e.b:=n;unfold elB at a1;rw[decide_eq_true g.symm,decide_eq_true n.symm,decide_eq_true O]at a1;cases a1
   ·rcases G e b4 with rfl|⟨b5,c1⟩
    ·have g:y.a=d.a:=g
     have n:y.b=d.b:=n;have O:=Ib J U y a9 g n I;unfold elB at a3;rw[decide_eq_true g,decide_eq_true n,decide_eq_true O]at a3;cases a3
    ·exact J e b5 y a9 g n I
  ·rw[wb]
   constructor
   ·rintro⟨g,_⟩
    rcases G k g with rfl|⟨n,_⟩
    ·exact absurd ⟨rfl,rfl⟩ w
    ·exact n
   ·intro g
    refine⟨kW z g λh=>w (by rw[h];exact⟨rfl,rfl⟩),?_⟩;cases j:elB d.a d.b d.c k
    ·rfl
    ·unfold elB at j
     rw[wV,wV]at j;exact absurd ⟨of_decide_eq_true j.1.1,of_decide_eq_true j.1.2⟩ w
 ·obtain⟨a5,b8⟩:=QK z
  obtain⟨rfl,rfl,rfl⟩:=W;have C:=wO z;have Z:=i.lt d C;have A:=i.nd;have Q:∀k∈ks.take u++ks.drop (u+1),k∈ks/\k.p≠d.p:=λk f=>by
   have a7:k∈ks:=by
    rcases wd.1 f with h|h
    ·exact List.mem_of_mem_take h
    ·exact List.mem_of_mem_drop h
   refine⟨a7,λN=>?_⟩;have b7:=DA A a7 C N;rw[a5]at A;have pm:(ks.take u++d::ks.drop (u+1)).Perm (d::(ks.take u++ks.drop (u+1))):=zn;have kn:=(pm.map Kt.plc).nodup_iff.1 A;rw[yA,yO]at kn;exact kn.1 (xA.2 ⟨k,f,N⟩)
  refine⟨m.cut (λk f=>⟨(Q k f).1,λh=>(Q k f).2 (wP.1 h)⟩) (λp N=>wd.1 ((Hd _).mem_iff.1 N)) (λp N=>by rw[wP.1 N];exact Z),λe o y E=>J e (Q e o).1 y (Q y E).1,λk w=>⟨λh=>(Q k h).1,λh=>?_⟩⟩;rw[a5]at h;rcases wd.1 h with h|h
  ·exact xF _ h
  ·rcases wS.1 h with h|h
   ·exact absurd ⟨by rw[h],by rw[h]⟩ w
   ·exact wz _ h
 ·refine⟨by rw[Im];exact m.go i (drB a b c) (zI _),λe o y E=>J e (wb.1 o).1 y (wb.1 E).1,λk w=>?_⟩
  rw[wb];refine⟨λh=>h.1,λh=>⟨h,?_⟩⟩;cases j:drB a b c k
  ·rfl
  ·unfold drB at j
   rw[wV,wV]at j;exact absurd ⟨of_decide_eq_true j.1.1,of_decide_eq_true j.1.2⟩ w
end
theorem bu{F:Nat->Option Kc}:∀{ks:List Kt},(∀k∈ks,F k.p=BY k.core)->(ks.map Kt.plc).filterMap F=ks.map Kt.core
 |[],_=>rfl
 |k::ks,a=>by
  show(k.p::ks.map Kt.plc).filterMap F=_;rw[List.filterMap_cons_some (a k wJ),bu λc b=>a c (wI _ b),yA]
theorem XA{F:Nat->Option Kc}:∀{fr:List Nat},(∀p∈fr,F p=By)->fr.filterMap F=[]
 |[],_=>rfl
 |p::fr,a=>by rw[List.filterMap_cons_none (a p wJ),XA λc b=>a c (wI _ b)]
def rG(c:Kc):Int×Int×Int:=(c.a,c.b,c.c)
theorem QH(ks:List Kt):ks.map Kt.key=(ks.map Kt.core).map rG:=by rw[List.map_map];rfl
theorem tE{ks a:List Kt}(c:(a.map Kt.core).Perm (ks.map Kt.core)){x:Kt}(b:x∈a):∃y∈ks,y.core=x.core:=xA.1 (c.mem_iff.1 (xA.2 ⟨x,b,rfl⟩))
section
variable {h:Hp}{T M:List Nat}{k p bl np:Nat}{ks:List Kt}{fr:List Nat}
theorem AFR.find(i:AFE np ks fr)(c:AFR np T M ks fr):(kcs T M np).Perm (ks.map Kt.core)/\AFl T M np=[]/\∀p∈mrk T M np,∃k∈ks,k.p=p:=by
 have l:=λ(k:Kt) (a:k∈ks)=>R0 (p:=k.p) (c.rs k a).1 (c.rs k a).2 (c.hd k a) (c.dt k a)
 have d:=λ(p:Nat) (b:p∈fr)=>bg (T:=T) c.len (show 3*p<3*np by have:=c.pl p b;omega) (c.bl p b)
 have j:∀p∈xx np,(∃k∈ks,k.p=p)\/p∈fr:=λp b=>by
  rcases wd.1 (i.plc.mem_iff.2 b)with h|h
  ·obtain⟨k,a,n⟩:=xA.1 h
   exact .inl ⟨k,a,n⟩
  ·exact .inr h
 refine⟨?_,zm.2 λp b g=>?_,λp b=>?_⟩
 ·have e:(kcs T M np).Perm ((ks.map Kt.plc++fr).filterMap λp=>(lkN T M p).map (Yw M p)):=by
   unfold kcs;exact(i.plc.symm).filterMap _
  rw[List.filterMap_append,bu (λk a=>by
   obtain⟨_,f,m,_⟩:=l k a;rw[f];exact congrArg BY m),XA (λp b=>by rw[(d p b).1];rfl),wT]at e
  exact e
 ·rcases j p b with ⟨k,a,rfl⟩|h
  ·rw[(l k a).2.2.2]at g;cases g
  ·rw[(d p h).2]at g;cases g
 ·obtain⟨e,f⟩:=wb.1 b
  rcases j p e with h|h
  ·exact h
  ·rw[(d p h).1,(d p h).2]at f
   cases f
def H33(one a:List Nat)(ks:List Kt):Prop:=(∃k∈ks,k.a=3/\k.b=3/\k.c=5/\k.s=2/\k.l=one)/\(∃k∈ks,k.a=3/\k.b=3/\k.c=8/\k.s=1/\k.l=a)/\∀k∈ks,k.a=3->k.b=3->k.c=5\/k.c=8
theorem AFR.AIi(c:AFR np T M ks fr){x:Kt}(b:x∈ks):Zw T M x:=by
 obtain⟨d,_,e,_⟩:=R0 (p:=x.p) (c.rs x b).1 (c.rs x b).2 (c.hd x b) (c.dt x b);have a:Yw M x.p _=x.core:=e;exact⟨_,d,congrArg Kc.a a,congrArg Kc.b a,congrArg Kc.c a,congrArg Kc.s a,congrArg Kc.l a⟩
end
def Stp(T:List Nat)(ks:List Kt)(fr:List Nat)(kd a b c:Int)(l:List Nat)(z:Int)(e:List Kt)(d:List Nat):Prop:=
 (Zt ks fr.length kd a b c l z/\e=ks/\d=fr)\/(z=0/\∃f g,Ml T f ks fr kd a b c l g e d)
def UpP(R:Int->Prop)(X:Nat->Prop)(h:Hp)(A:At)(T:List Nat)(ks:List Kt)(fr:List Nat):Prop:=
 (∃a d b f e,Sl h A T a d b ks fr f e 0 IS/\AFE 8 ks fr/\AFR 8 T a ks fr/\Com ks/\R b)/\∀g∈ks,∀c,AEu g.u c->¬X c
abbrev UpX(X:Nat->Prop)(h:Hp)(A:At)(T:List Nat)(ks:List Kt)(fr:List Nat)(k:Nat):Prop:=UpP (λa=>Gk a k) X h A T ks fr
section
variable {e:Env}{h h':Hp}{R:Int->Prop}{S X:Nat->Prop}{A:At}{T M:List Nat}{c0 k n r:Nat}{arm b c z:Int}{ks:List Kt}{fr l:List Nat}{lv fv:vz}{x:Kt}
theorem UpP.ext(a:UpP R X h A T ks fr)(b:h.Wf)(y:h.Ext h'):UpP R X h' A T ks fr:=by
 obtain⟨⟨M,c0,arm,lv,fv,e,d⟩,c⟩:=a;exact⟨⟨M,c0,arm,lv,fv,e.ext b y,d⟩,c⟩
theorem UpP.same(a:UpP R X h A T ks fr)(b:h'.bl=h.bl):UpP R X h' A T ks fr:=by
 obtain⟨⟨M,c0,arm,lv,fv,e,d⟩,c⟩:=a;exact⟨⟨M,c0,arm,lv,fv,e.same b,d⟩,c⟩
theorem UpP.more(j:UpP R X h A T ks fr)(k:h.Wf)(u:h.next<=r):UpP R (λb=>X b\/b=r) h A T ks fr:=by
 obtain⟨⟨M,c0,arm,lv,fv,i,o⟩,m⟩:=j;refine⟨⟨M,c0,arm,lv,fv,i,o⟩,λx g b f e=>?_⟩;rcases e with e|e
 ·exact m x g b f e
 ·obtain⟨w,n,c,a⟩:=f
  rcases (i.ko x g).1 with ⟨d,_⟩|⟨q,y,s,t,p,d,_,l,_⟩
  ·rw[d]at a;cases a
  ·rw[d]at a
   injection a with a
   injection a with a
   injection a with a
   have:=l.lt k;omega
theorem UpP.less(a:UpP R X h A T ks fr)(c:∀b,S b->X b):UpP R S h A T ks fr:=⟨a.1,λx f b d e=>a.2 x f b d (c b e)⟩
def Odd(a:List vz):Prop:=(a.length<6\/∀c:Int,a[3]?≠BY (.int .u8 c))/\∃z∈a,∀b,z≠AI AT b
theorem UpP.wr{x y:List vz}(i:h.Wf)(G:UpP R X h A T ks fr)(I:X r)(B:h.Row r 0 x)(F:h'.Row r 0 y)(f:Fx (λb=>b=r) h h')(s:¬A.D r)(L:A.tb≠r)(o:Odd x):UpP R X h' A T ks fr:=by
 obtain⟨⟨M,c0,arm,lv,fv,d,O⟩,C⟩:=G;refine⟨⟨M,c0,arm,lv,fv,⟨f.row i d.row λh=>s (by rw[<- h];exact .inl rfl),d.dk.fr i f (λh=>s (by rw[<- h];exact .inr (.inl rfl))) (λh=>s (by rw[<- h];exact .inr (.inr (.inl rfl)))) (λh=>s (by rw[<- h];exact .inr (.inr (.inr rfl)))),f.row i d.tab L,d.tok,?_,λk w=>⟨?_,(d.ko k w).2⟩,?_,d.ne,d.le⟩,O⟩,C⟩
 ·rcases d.ls with a|⟨b,c,n,K,a,g,j,m,p,t,q⟩
  ·exact .inl a
  ·by_cases e:b=r
   ·subst e
    have H:=TH j B;subst H;cases ks with
    |nil=>exact .inr ⟨b,c,0,y,a,g,F,wl _,rfl,.inr rfl,q⟩
    |cons z P=>
     rcases o.1 with o1|o1
     ·rw[wK]at m
      omega
     ·have u:=congrArg (λl=>l[3]?) p
      simp only[yY]at u;rw[IT (by rw[wK];omega)]at u;exact absurd (u.trans (show(flK (z::P))[3]? =BY (.int .u8 (z.s:Int))from rfl)) (o1 _)
   ·exact .inr ⟨b,c,n,K,a,g,f.row i j e,m,p,t,q⟩
 ·rcases (d.ko k w).1 with a|⟨b,E,c,n,K,a,g,j,m,p,t,q⟩
  ·exact .inl a
  ·exact .inr ⟨b,E,c,n,K,a,g,f.row i j λe=>C k w b ⟨E,_,c,a⟩ (e ▸ I),m,p,t,q⟩
 ·rcases d.fs with a|⟨b,n,a,g,j,m⟩
  ·exact .inl a
  ·refine .inr ⟨b,n,a,f.row i g λe=>?_,j,m⟩
   subst e;obtain⟨z,D,J⟩:=o.2;rw[<- TH g B]at D;obtain⟨Q,_,N⟩:=xA.1 D;exact J _ N.symm
theorem UpP.lt(a:UpP R X h A T ks fr)(c:h.Wf):∀b,A.D b->b<h.next:=by
 obtain⟨⟨M,c0,arm,lv,fv,d,f⟩,e⟩:=a;exact d.AG9 c
theorem UpP.tab(b:UpP R X h A T ks fr):h.Row A.tb 0 (T.map wv)/\AFD T/\¬A.D A.tb:=by
 obtain⟨⟨M,c0,arm,lv,fv,a,d⟩,c⟩:=b;exact⟨a.tab,a.tok,a.ne.2.2.2.1⟩
end
def Ea(AEl seq:Int)(op:Nat)(err:Int)(iv bw:vz)(room:Int):List vz:=[AI AT AEl,AI AT seq,.int .u8 (op:Int),AI AT err,iv,bw,AI AT room]
def Bs(AEl seq:Int)(op:Nat)(err:Int)(iv bw:vz)(room:Int):vz:=.agg ⟨Ea AEl seq op err iv bw room⟩
abbrev Dz:List vz:=Ea 0 0 0 0 AEW AEW 0
theorem Ev:Bt .mt 0 Dz=BY Cq:=by kernel_rfl
theorem Qo:Hf.zero=Dz:=by kernel_rfl
theorem Dx{AEl seq err room:Int}{op:Nat}{iv bw:vz}:Odd (Ea AEl seq op err iv bw room):=⟨.inr (λc a=>by cases a),.int .u8 (op:Int),wI _ (wI _ wJ),(λb a=>by cases a)⟩
section
variable {F:AES}{e:Env}{h h' g:Hp}{A:At}{n r op:Nat}{lf sq b z err room:Int}{v iv bw:vz}{x:Kt}
theorem Ij{g1:O}(a:g1 e=AI AT z):BW Hf.zero [(3,1,g1)] F e h=.ok (Bs 0 0 0 z AEW AEW 0) h:=by
 rw[Cx,Qo,A3 (hk:=by rw[a];rfl),a];simp only[Cr,xM,wK,xD,Ea,over,AAw,AAZ,zK,xI,yS,wA,yn,if_true,Bw,reduceIte];rfl
theorem V8:BW Hf.zero [] F e h=.ok (Bs 0 0 0 0 AEW AEW 0) h:=by
 rw[Cx,Qo,Bw];rfl
theorem V9{g1:O}(a:g1 e=iv)(b:cellsOf iv=[iv])(hk:known iv=IN):BW Hf.zero [(4,1,g1)] F e h=.ok (Bs 0 0 0 0 iv AEW 0) h:=by
 rw[Cx,Qo,A3 (hk:=by rw[a];exact hk),a,b];simp only[Cr,xM,wK,xD,Ea,over,AAw,AAZ,zK,xI,yS,wA,yn,if_true,Bw,reduceIte];rfl
theorem aI{g1 g2:O}(a:g1 e=iv)(h2:g2 e=bw)(b:cellsOf iv=[iv])(hk:known iv=IN)(c:cellsOf bw=[bw])(d:known bw=IN):BW Hf.zero [(4,1,g1),(5,1,g2)] F e h=.ok (Bs 0 0 0 0 iv bw 0) h:=by
 rw[Cx,Qo,A3 (hk:=by rw[a];exact hk),a,A3 (hk:=by rw[h2];exact d),h2,b,c];simp only[Cr,xM,wK,xD,Ea,over,AAw,AAZ,zK,xI,yS,wA,yn,if_true,Bw,reduceIte];rfl
theorem KR(hi:oneCell iv=IN)(a:oneCell bw=IN):Bd (Ea lf sq op err iv bw room)=IN:=by
 show(bif oneCell iv then(bif oneCell bw then IN else IS)else IS)=IN;rw[hi,a];rfl
theorem D0{a:List vz}(c:h.Wf)(R:h.Row r 0 a)(e:a.length=7)(f:256<=r)(hi:oneCell iv=IN)(g:oneCell bw=IN):
  ∃h',AEa 7 (pt r) (Bs lf sq op err iv bw room) h=.ok AEU h'/\Fx (λb=>b=r) h h'/\h'.Row r 0 (Ea lf sq op err iv bw room):=by
 have d:0+(Ea lf sq op err iv bw room).length<=a.length:=by rw[e];exact wB _
 have i:=R.AEa (n:=7) (off:=0) c f (v:=Bs lf sq op err iv bw room) rfl d (KR hi g);have wr:=R.AEf c d;rw[FF (show a.length=(Ea lf sq op err iv bw room).length from e)]at wr;exact⟨_,i,Fx.wr c R d rfl,wr⟩
theorem GC{a:List vz}(f:h.Wf)(R:h.Row r 0 a)(l:a.length=7)(c:256<=r)(hi:oneCell iv=IN)(m:oneCell bw=IN):
  ∃h',(∀(F:AES) (e:Env) (g1 g2:O),g1 e=pt r->g2 e=Bs lf sq op err iv bw room->AZ .free (Ad 7 g1 g2) F e h=.ok AEU h')/\Fx (λb=>b=r) h h'/\h'.Row r 0 (Ea lf sq op err iv bw room):=by
 obtain⟨k,n,j,d⟩:=D0 (h:=h.quiet) (lf:=lf) (sq:=sq) (op:=op) (err:=err) (room:=room) f.quiet (R.same (h':=h.quiet) rfl) l c hi m;refine⟨h.back k,λF e g1 g2 g i=>?_,j.back,d.same rfl⟩;refine BE ?_;rw[AV,g,i];exact n
theorem CY(R:h.Row r 0 (Ea lf sq op err iv bw room)):II 7 (pt r) h=.ok (Bs lf sq op err iv bw room) h:=by
 rw[Ac];exact R.loadN (off:=0) (n:=7) (by show 0+7<=7;omega)
theorem Fx.new{c:Hp}(x:h.Ext c)(f:Fx A.D c g)(d:Fx (λb=>b=r) g h')(e:h.next<=r):Fx A.D h h':=
 Fx.drop (((Fx.of x).trans (f.mono λb a=>.inl a)).trans (d.mono λb a=>.inr (by rw[a];exact e)))
end
theorem eO:rdS=BJ (Ab 0 rdB) rdE:=rfl
theorem rv:rdM=rx:=rfl
theorem UR:d32=Yf:=rfl
section
variable {F:AES}{e:Env}{h h' g:Hp}{S:Nat->Prop}{A:At}{T M:List Nat}{c0 bad m k n nb r op:Nat}{arm AEl lf sq a b c z err room:Int}{ks:List Kt}{fr l:List Nat}{v lv fv u w iv bw:vz}{ov:Bool}{x:Kt}
theorem Uh(o:h.IL k v ks):cellsOf v=[v]/\known v=IN/\oneCell v=IN:=by
 rcases o with ⟨rfl,_⟩|⟨b,rfl,_⟩<;>exact⟨rfl,rfl,rfl⟩
theorem Hp.IL.fx(o:h.IL k v ks)(c:h.Wf)(f:Fx S h h')(g:∀b,S b->b<k):h'.IL k v ks:=by
 rcases o with a|⟨b,a,d,e⟩
 ·exact .inl a
 ·exact .inr ⟨b,a,f.row c d λi=>by have:=g b i;omega,e⟩
theorem VI{a:List vz}{v:vz}(d:h.Wf)(R:h.Row r 0 a)(i:a.length=5)(j:256<=r)(g:(cellsOf v).length=5)(m:Bd (cellsOf v)=IN):
  ∃h',(∀(F:AES) (e:Env) (g1 g2:O),g1 e=pt r->g2 e=v->AZ .free (Ad 5 g1 g2) F e h=.ok AEU h')/\Fx (λb=>b=r) h h'/\h'.Row r 0 (cellsOf v)/\h'.mark=h.mark:=by
 have c:h.quiet.Row r 0 a:=R.same rfl;have f:0+(cellsOf v).length<=a.length:=by rw[i,g];exact wB _
 have o:=c.AEa (n:=5) (off:=0) d.quiet j (v:=v) g f m;have wr:=c.AEf d.quiet f;rw[FF (show a.length=(cellsOf v).length by rw[i,g])]at wr;refine⟨_,λF e g1 g2 k l=>BE (by rw[AV,k,l];exact o),Fx.back (Fx.wr d.quiet c f rfl),wr.same rfl,rfl⟩
theorem Qx{n:Nat}{b:List vz}{z:VT}(a:h.Wf)(f:Bt .mt 0 b=BY z)(c:b.length=n)(d:h.mark<=h.next):
  ∃h',(∀(F:AES) (e:Env),AZ .AEk (Bc n z) F e h=.ok (pt h.next) h')/\h.Ext h'/\h'.Row h.next 0 b/\h'.mark=h.mark:=by
 refine⟨h.back (h.quiet.push (.cells z n 0)),λF e=>Cd (BU (F:=F) (e:=e) a.quiet) ((Hp.Ext.refl a.quiet).push _) d,Hp.Ext.back ((Hp.Ext.refl a.quiet).push _),?_,rfl⟩;exact(Hp.Row.alloc a.quiet f c).same rfl
theorem tW(d:h.Wf)(L:h.Row nb 0 (AEq A.bd A.tb A.bs AEl))(s:Sl h A T M c0 arm ks fr lv fv bad ov)(W:ks.length<=49):
  ∃h' k iv,call AC (m+10) 33 [pt nb,DJ lf sq op a b c u] h=.ok (Bs 0 0 0 0 iv AEW 0) h'/\h.Ext h'/\h.next<=k/\h'.IL k iv (ks.filter λx=>gI x a b c):=by
 have D:=λ(F:AES) (e:Env) (U:J 1 e=DJ lf sq op a b c u)=>Fg (F:=F) d U
 have i:=(Hp.Ext.refl d).AER 0 (CW lf sq op a b c u);have z:=Hp.Row.new d 0 (CW lf sq op a b c u);have n1:(h.AER 0 (CW lf sq op a b c u)).next=h.next+1:=rfl;generalize h.AER 0 (CW lf sq op a b c u)=f at D i z n1;have C:=λ(F:AES) (e:Env)=>BU (F:=F) (e:=e) i.wf (n:=7) (t:=Cq)
 have B:=Hp.Row.alloc i.wf Ev (show Dz.length=7 from rfl);have o:f.Ext (f.push (.cells Cq 7 0)):=(Hp.Ext.refl i.wf).push _;have n2:(f.push (.cells Cq 7 0)).next=f.next+1:=rfl;generalize f.push (.cells Cq 7 0)=R at C B o n2;have j:=i.trans o;have I:=z.ext i.wf o;obtain⟨S,G,iv,O,l,V,y⟩:=SC (m:=m+4) (P:=λx=>gI x a b c) j.wf (L.ext d j) (s.ext d j) W (w:=.func (.func 62) ⟨[]⟩ ⟨[pt h.next]⟩) λg k u H=>qe (m:=m+7) H.wf (I.ext j.wf H)
 obtain⟨Y,Z,i3⟩:=Uh y;have a1:=d.big;obtain⟨q,a0,E,K⟩:=D0 (lf:=0) (sq:=0) (op:=0) (err:=0) (iv:=iv) (bw:=AEW) (room:=0) l.wf (B.ext o.wf l) rfl (by omega) i3 rfl;have N:=λ(F:AES) (e:Env) (Q:J 7 e=iv)=>V9 (F:=F) (h:=S) Q Y Z
 have a2:R.next<=G:=V;refine⟨q,G,iv,?_,Fx.xtF (j.trans l) E (λb r=>by rw[r];omega),by omega,y.fx l.wf E λb r=>by rw[r];omega⟩;have X:∃p,d33 (call AC (m+9)) (Ay e0 0 [pt nb,DJ lf sq op a b c u]) h=.ret p q/\J 4 p=pt f.next:=by
  unfold d33;simp only[iN,wA,sT,sh,OF,reduceIte,D,C,DN,AS,Av,BG,O,N,AV,a0];exact⟨_,rfl,by simp[AG]⟩
 obtain⟨p,r1,r2⟩:=X;rw[nu rfl,r1,A7,Df (h':=q) (v:=Bs 0 0 0 0 iv AEW 0) (by rw[r2];exact CY K)]
theorem tZ(H:h.Wf)(Rn:h.Row nb 0 (AEq A.bd A.tb A.bs AEl))(s:Sl h A T M c0 arm ks fr lv fv bad ov)(hl:ks.length<=49)(ht:∀x∈ks,Zw T M x)(hp:∀x∈ks,3*x.p+3<=A.n):
  ∃h' k z iv bw,call AC (m+10) 32 [pt nb,DJ lf sq op a b c u] h=.ok (Bs 0 0 0 z iv bw 0) h'/\h.Ext h'/\h.next<=k/\oneCell iv=IN/\oneCell bw=IN/\
   ((c=0/\z=0/\bw=AEW/\h'.IL k iv (ks.filter λx=>decide (x.a=a) && decide (x.b=b)))\/(c≠0/\ks.find? (BI a b c)=By/\z=60/\iv=AEW/\bw=AEW)\/
    (c≠0/\∃d,ks.find? (BI a b c)=BY d/\z=0/\(∃b,iv=.slice (BY ⟨b,0,By⟩) 1 1/\h'.Row b 0 (Ch d)/\k<=b)/\h'.BS (λb=>k<=b) bw (d.l.map bv))):=by
 have bx:=λ(F:AES) (e:Env) (he:J 1 e=DJ lf sq op a b c u)=>Fg (F:=F) H he
 have X:=(Hp.Ext.refl H).AER 0 (CW lf sq op a b c u);have R1:=Hp.Row.new H 0 (CW lf sq op a b c u);have n1:(h.AER 0 (CW lf sq op a b c u)).next=h.next+1:=rfl;generalize h.AER 0 (CW lf sq op a b c u)=o at bx X R1 n1;have al:=λ(F:AES) (e:Env)=>BU (F:=F) (e:=e) X.wf (n:=7) (t:=Cq)
 have Ra:=Hp.Row.alloc X.wf Ev (show Dz.length=7 from rfl);have y2:o.Ext (o.push (.cells Cq 7 0)):=(Hp.Ext.refl X.wf).push _;have n2:(o.push (.cells Cq 7 0)).next=o.next+1:=rfl;generalize o.push (.cells Cq 7 0)=p at al Ra y2 n2;have E:=X.trans y2;have R2:=R1.ext X.wf y2;have s2:=s.ext H E;have d9:=H.big;obtain⟨_,_,_,q3,q4,q5,_,_⟩:=B3 R2;by_cases hc:c=0
 ·have c1:iEq c 0=IN:=CZ hc
  obtain⟨G,k3,iv,c3,U,hk,I3⟩:=SC (m:=m+4) (P:=λx=>decide (x.a=a) && decide (x.b=b)) E.wf (Rn.ext H E) s2 hl (w:=.func (.func 58) ⟨[]⟩ ⟨[pt h.next]⟩) λg k u xg=>qd (m:=m+7) xg.wf (R2.ext E.wf xg)
  obtain⟨i1,i2,i3⟩:=Uh I3;obtain⟨h4,d3,f4,R4⟩:=D0 (lf:=0) (sq:=0) (op:=0) (err:=0) (iv:=iv) (bw:=AEW) (room:=0) U.wf (Ra.ext y2.wf U) rfl (by omega) i3 rfl;have bd:=λ(F:AES) (e:Env) (i:J 12 e=iv)=>V9 (F:=F) (h:=G) i i1 i2
  refine⟨h4,k3,0,iv,AEW,?_,Fx.xtF (E.trans U) f4 (λb y=>by rw[y];omega),by omega,i3,rfl,.inl ⟨hc,rfl,rfl,I3.fx U.wf f4 λb y=>by rw[y];omega⟩⟩;have a0:∃f,Yf (call AC (m+9)) (Ay e0 0 [pt nb,DJ lf sq op a b c u]) h=.ret f h4/\J 4 f=pt o.next:=by
   unfold Yf;simp only[iN,wA,sT,sh,OF,reduceIte,bx,al,AH,AN,wC,AJ,AP,q5,AM,AK,c1,DN,AS,Av,BG,c3,bd,AV,d3];exact⟨_,rfl,by simp[AG]⟩
  obtain⟨f,r1,r2⟩:=a0;rw[UH rfl,UR,r1,A7,Df (h':=h4) (v:=Bs 0 0 0 0 iv AEW 0) (by rw[r2];exact CY R4)]
 ·have c1:iEq c 0=IS:=B8 hc
  have sm:=s2.same (h':=p.marked.quiet) rfl;have xm:=E.marked;obtain⟨_,_,nd,_⟩:=CB ((Rn.ext H E).same (h':=p.marked) rfl);obtain⟨_,_,_,p3,p4,p5,_,_⟩:=B3 (R2.same (h':=p.marked) rfl);obtain⟨g3,v3,c3,U,c7,c6,b9⟩:=ir (m:=m+4) xm.quiet.wf sm.row sm.ls.ks (λk hk=>⟨(sm.ko k hk).1.vs.vals,by have:=(sm.ko k hk).2.2.1;omega⟩) (by omega) a b c;have qg:∀e:Env,J 18 e=pt A.bs->J 20 e=AI AT a->J 22 e=AI AT b->J 24 e=AI AT c->AZ .weak (AU 59 [J 18,J 20,J 22,J 24]) (call AC (m+9)) e p.marked=.ok (.tuple ⟨[v3,.bool (ks.find? (BI a b c)).isSome]⟩) (p.marked.back g3):=λe i f B Q=>by
   refine Cd ?_ U (wB _);rw[BG,AS,AS,AS,AS,Av,i,f,B,Q];exact c3
  have y3:p.Ext (p.marked.back g3):=(Hp.Ext.refl E.wf).marked.trans (.back U);have m3:(p.marked.back g3).mark=p.next:=rfl;have F3:=λd (hk:ks.find? (BI a b c)=BY d)=>b9 d hk
  have V3:∀(u:vz) (l:List vz),g3.BS (λb=>p.next<=b) u l->(p.marked.back g3).BS (λb=>p.next<=b) u l:=λu l b8=>b8.same rfl
  generalize p.marked.back g3=G at qg y3 m3 V3;have n3:=y3.next;obtain⟨h4,al5,y4,b6,m4⟩:=Qx y3.wf Fm (show(A5 0 0 0 0 AEW).length=5 from rfl) (by rw[m3];exact n3);obtain⟨D,d4,f5,R5,m5⟩:=VI (v:=v3) y4.wf b6 rfl (by omega) c7 c6;have y5:G.Ext D:=Fx.xtF y4 f5 λb y=>by rw[y];exact wB _
  have a3:=y3.trans y5;have Y:=E.trans a3;have N:=Y.wf;have a4:=Ra.ext y2.wf a3;have Rk:=R2.ext E.wf a3;obtain⟨i,p1,t0,t3,t4⟩:∃i,Yf (call AC (m+9)) (Ay e0 0 [pt nb,DJ lf sq op a b c u]) h=rdM (call AC (m+9)) i p/\J 0 i=pt nb/\J 3 i=pt h.next/\J 4 i=pt o.next:=by
   unfold Yf;simp only[iN,wA,sT,sh,OF,reduceIte,bx,al,AH,AN,wC,AJ,AP,q5,AM,AK,c1];exact⟨_,rfl,by simp[AG]⟩
  have a9:=λ(F:AES) (e:Env) (i:J 5 e=pt G.next) (f:J 26 e=v3)=>d4 F e (J 5) (J 26) i f
  obtain⟨f,p2,u0,u3,u4,u5,I⟩:∃f,rdM (call AC (m+9)) i p=rdS (call AC (m+9)) f D/\J 0 f=pt nb/\J 3 f=pt h.next/\J 4 f=pt o.next/\J 5 f=pt G.next/\J 6 f=.bool (ks.find? (BI a b c)).isSome:=by
   rw[rv];unfold rx;simp only[sT,sh,OF,reduceIte,Ar,An,t0,AX,AH,AN,wC,AJ,AP,nd,t3,p3,p4,p5,qg,Az,A8,A9,al5,a9];exact⟨_,rfl,by simp[AG,t0,t3,t4]⟩
  cases R:ks.find? (BI a b c)with
  |none=>
   rw[R]at I;have I:J 6 f=.bool IS:=I;obtain⟨q,d5,f6,R6⟩:=D0 (lf:=0) (sq:=0) (op:=0) (err:=60) (iv:=AEW) (bw:=AEW) (room:=0) N a4 rfl (by omega) rfl rfl;have bd:=λ(F:AES) (e:Env)=>Ij (F:=F) (e:=e) (h:=D) (g1:=W (AI AT 60)) rfl
   refine⟨q,h.next,60,AEW,AEW,?_,Fx.xtF Y f6 (λb y=>by rw[y];omega),wB _,rfl,rfl,.inr (.inl ⟨hc,rfl,rfl,rfl,rfl⟩)⟩;have a0:∃B,rdS (call AC (m+9)) f D=.ret B q/\J 4 B=pt o.next:=by
     rw[eO];unfold rdB;simp only[sT,sh,OF,reduceIte,BO,BN,I,xP,bd,AV,u4,d5];exact⟨_,rfl,by simp[AG,u4]⟩
   obtain⟨B,r1,r2⟩:=a0;rw[UH rfl,UR,p1,p2,r1,A7,Df (h':=q) (v:=Bs 0 0 0 60 AEW AEW 0) (by rw[r2];exact CY R6)]
  |some d=>
   rw[R]at I;have I:J 6 f=.bool IN:=I;obtain⟨S,hv,Vk⟩:=F3 d R;have a5:=V3 _ _ Vk;have a6:=AAK R;have a8:=Gr (AAL R);obtain⟨a1,hj,c2⟩:∃a1:Nat,ks[a1]? =BY d/\F1 (BI a b c) 0 ks=(a1:Int):=by
     rcases EB (BI a b c) ks 0 with ⟨o,_⟩|⟨a1,k',o,p,G⟩
     ·rw[R]at o;cases o
     ·rw[R]at o
      cases o;exact⟨a1,p,by rw[G,wC]⟩
   have s5:=(s.ext H Y).same (h':=D.marked.quiet) rfl;have d6:=Y.marked;obtain⟨g6,rr,k6,x6,hr⟩:=ez (m:=m+3) d6.quiet.wf s5 hj c2 a8 (hp d a6);have c5:rr=IN:=hr.2 (ht d a6);subst c5;have qs:∀e:Env,J 36 e=pt A.bs->J 38 e=AI AT a->J 40 e=AI AT b->J 42 e=AI AT c->AZ .free (AU 60 [J 36,J 38,J 40,J 42]) (call AC (m+9)) e D.marked=.ok (.bool IN) (D.marked.back g6):=λe i f B Q=>by
     refine BE ?_;rw[BG,AS,AS,AS,AS,Av,i,f,B,Q];exact k6
   have K:D.Ext (D.marked.back g6):=(Hp.Ext.refl N).marked.trans (.back x6);generalize D.marked.back g6=q at qs K;obtain⟨_,_,d0,_⟩:=CB ((Rn.ext H Y).same (h':=D.marked) rfl);obtain⟨_,_,_,z3,z4,z5,_,_⟩:=B3 (Rk.same (h':=D.marked) rfl);obtain⟨B,d1,w4,w5⟩:∃B,rdS (call AC (m+9)) f D=rdE (call AC (m+9)) B q/\J 4 B=pt o.next/\J 5 B=pt G.next:=by
     rw[eO];unfold rdB;simp only[sT,sh,OF,reduceIte,BO,BN,I,xK,Ar,An,u0,AX,AH,AN,wC,AJ,AP,d0,u3,z3,z4,z5,qs];exact⟨_,rfl,by simp[AG,u4,u5]⟩
   rw[hv]at R5;have a2:=Y.trans K;have Z:=a2.wf;have b4:=(R5.ext N K).same (h':=q.marked) rfl;have d7:=a2.marked;obtain⟨_,_,_,_,lu,c8⟩:=Br b4;have c4:G.next<q.marked.mark:=(R5.ext N K).lt Z;obtain⟨g7,ki,x7⟩:=XO (m:=m+8) (x:=d) (u:=S) d7.quiet.wf;have qi:∀e:Env,J 46 e=Bn d.a d.b d.c d.s S->AZ .weak (AU 61 [J 46]) (call AC (m+9)) e q.marked=.ok (H9 d) (q.marked.back g7):=λe i=>by
     refine Cd ?_ x7 (wB _);rw[BG,AS,Av,i];exact ki
   have L:q.Ext (q.marked.back g7):=(Hp.Ext.refl Z).marked.trans (.back x7);have m7:(q.marked.back g7).mark=q.next:=rfl;generalize q.marked.back g7=j at qi L m7;have O:=L.wf;have n7:=L.next;have a7:∀(F:AES) (e:Env),J 47 e=H9 d->AZ .AEk (Ap 1 (BX N8.zero 1) [(0,4,J 47)]) F e j=.ok (.slice (BY ⟨j.next,0,By⟩) 1 1) (j.back (j.quiet.AER 0 (Ch d))):=λF e i=>by
     have:=NK (F:=F) (e:=e) O.quiet (g:=J 47) i;exact Cd this ((Hp.Ext.refl O.quiet).AER _ _) (by rw[m7];exact n7)
   have V:j.Ext (j.back (j.quiet.AER 0 (Ch d))):=.back ((Hp.Ext.refl O.quiet).AER _ _);have R8:(j.back (j.quiet.AER 0 (Ch d))).Row j.next 0 (Ch d):=(Hp.Row.new O.quiet 0 (Ch d)).same rfl;have m8:(j.back (j.quiet.AER 0 (Ch d))).mark=q.next:=m7;generalize j.back (j.quiet.AER 0 (Ch d))=h8 at a7 V R8 m8;have n8:=V.next;have b5:=(((R5.ext N K).ext Z L).ext O V);obtain⟨_,_,_,_,c9,_⟩:=Br b5;have b0:∀{k:C} {F:AES} {e:Env},IU (.pointer (BY ⟨G.next,4,By⟩)) k F e h8=k F e h8:=DO (by rw[m8];exact c4);obtain⟨b1,b2,b3⟩:=Tn a5.vs.vals;have b7:=(((a4.ext N K).ext Z L).ext O V);have W8:=V.wf;obtain⟨h9,q9,f9,R9⟩:=GC (lf:=0) (sq:=0) (op:=0) (err:=0) (iv:=.slice (BY ⟨j.next,0,By⟩) 1 1) (bw:=S) (room:=0) W8 b7 rfl (by omega) rfl b3;have d2:=λ(F:AES) (e:Env) (i:J 4 e=pt o.next) (f:J 51 e=Bs 0 0 0 0 (.slice (BY ⟨j.next,0,By⟩) 1 1) S 0)=>q9 F e (J 4) (J 51) i f
   have bd:=λ(F:AES) (e:Env) (i:J 48 e=.slice (BY ⟨j.next,0,By⟩) 1 1) (f:J 50 e=S)=>aI (F:=F) (h:=h8) i f rfl rfl b2 b1
   have x8:=(a2.trans L).trans V;refine⟨h9,h.next,0,_,S,?_,Fx.xtF x8 f9 (λb y=>by rw[y];omega),wB _,rfl,b3,.inr (.inr ⟨hc,d,rfl,rfl,⟨j.next,rfl,f9.row W8 R8 λy=>by
     have y:j.next=o.next:=y;have:=a3.next;have:=K.next;omega,((a2.trans L).next)⟩,?_⟩)⟩
   rotate_left
   · refine(((((a5.ext y3.wf y5).ext N K).ext Z L).ext O V).AFh λb el d8 y _ r=>⟨f9.row W8 r (by omega),?_⟩)
     have:=E.next;have y:p.next<=b:=y;show h.next<=b;omega
   have a0:∃Q,rdE (call AC (m+9)) B q=.ret Q h9/\J 4 Q=pt o.next:=by
     unfold rdE;simp only[sT,sh,OF,reduceIte,Ar,Ai,Ac,w5,c8,qi,a7,AH,AN,wC,D7,b0,DL,AJ,AP,c9,bd,w4,d2];exact⟨_,rfl,by simp[AG,w4]⟩
   obtain⟨Q,r1,r2⟩:=a0;rw[UH rfl,UR,p1,p2,d1,r1,A7,Df (h':=h9) (v:=Bs 0 0 0 0 (.slice (BY ⟨j.next,0,By⟩) 1 1) S 0) (by rw[r2];exact CY R9)]
end
theorem fM:tdM=lF:=rfl
theorem qC:d28=qD:=rfl
section
variable {F:AES}{e:Env}{h h' g:Hp}{R:Int->Prop}{S X:Nat->Prop}{A:At}{T M:List Nat}{c0 m k n nb r r4 r6 r8 op:Nat}{arm AEl lf sq a b c z err room:Int}{ks:List Kt}{fr:List Nat}{v lv fv u w iv bw:vz}{x:Kt}
theorem aK{x y:O}{k:C}{a b i j:Nat}(d:x e=.pointer (BY ⟨a,i,By⟩))(f:y e=.pointer (BY ⟨b,j,By⟩))(c:b≠a):Ck x [y] k F e h=k F e h:=by
 have g:wU b a=IS:=by
  cases e:wU b a
  ·rfl
  ·exact absurd (Ax.1 e) c
 unfold Ck;rw[d];show(bif DE a e [y]then k F e h else .no)=_;have:DE a e [y]=IN:=by
  unfold DE;rw[f];show(bif wU b a then IS else DE a e [])=IN;rw[g];rfl
 rw[this];rfl
theorem Rj(i:g.Wf){a:List vz}(R:g.Row r 0 a){off:Nat}(t:off<a.length)(q:256<=r)(j:cellsOf v=[v])(h2:oneCell v=IN):
  ∃d,(∀(F:AES) (e:Env) (x y:O),x e=.pointer (BY ⟨r,off,By⟩)->y e=v->Ja x (Ad 1 x y) F e g=.ok AEU d)/\d.Row r 0 (over a off [v])/\d.mark=g.mark/\d.next=g.next/\Fx (λb=>b=r) g d:=by
 have c:g.quiet.Row r 0 a:=R.same rfl;have f:off+[v].length<=a.length:=t;have s:Bd [v]=IN:=by
  show(bif oneCell v then IN else IS)=IN;rw[h2];rfl
 have k:=c.AEa (n:=1) (off:=off) (v:=v) i.quiet q (by rw[j];rfl) (by rw[j];exact f) (by rw[j];exact s);rw[j]at k;have wr:=c.AEf i.quiet f;have fx:=Fx.wr (S:=λb=>b=r) i.quiet c f rfl;have p:=c.AE7 f;obtain⟨z,_,o,_⟩:=c.AFf f;have m:(g.quiet.wr r off [v]).low=r:=by
  rw[o];show B9 g.next r=r;have:=R.lt i;rw[BV];omega
 have l:(g.quiet.wr r off [v]).high=r:=by
  rw[o];show Cu 0 r=r;rw[Bz];omega
 generalize g.quiet.wr r off [v]=h at k wr fx p m l;refine⟨g.back h,λF e x y u w=>?_,wr.same rfl,rfl,p,fx.back⟩;show(match Ad 1 x y F e g.quiet with|.ok v h'=>bif Hr (AE0 (x e)) g h'.low h'.high then DK g v h' else .no|.no=>.no)=_;rw[AV,u,w,k];show(bif Hr (.ok r) g h.low h.high then DK g AEU h else .no)=_;rw[m,l];have:Hr (.ok r) g r r=IN:=by
  show(bif wY r r then wY r r else IS)=IN;rw[Am.2 (wB r)];rfl
 rw[this];show DK g AEU h=_;unfold DK;simp only[Ae];rfl
theorem N6(R:h.Row r 0 (Ea lf sq op err iv bw room)):AEV ⟨r,3,By⟩ h=.ok (AI AT err) h/\AEV ⟨r,4,By⟩ h=.ok iv h/\AEV ⟨r,5,By⟩ h=.ok bw h/\loadN 7 ⟨r,0,By⟩ h=.ok (Bs lf sq op err iv bw room) h:=
 ⟨R.AEV (off:=3) (by show 3<7;omega),R.AEV (off:=4) (by show 4<7;omega),R.AEV (off:=5) (by show 5<7;omega),R.loadN (off:=0) (n:=7) (by show 0+7<=7;omega)⟩
theorem Te(g:h.Wf)(y:h.Row nb 0 (AEq A.bd A.tb A.bs AEl))(B:UpP R X h A T ks fr)(O:X r6/\X r8)(N:¬A.D r6/\¬A.D r8)(P:A.tb≠r6/\A.tb≠r8)(s:h.Row r4 0 (CW lf sq op a b c u))(V:h.Row r6 0 Dz)(W:h.Row r8 0 (Ea 0 0 0 z iv bw 0))(r:r4≠r8)(L:r6≠r8)(h6:256<=r6)(p:256<=r8)(hi:oneCell iv=IN)(l:oneCell bw=IN)
  (s0:J 0 e=pt nb)(s4:J 4 e=pt r4)(s6:J 6 e=pt r6)(s8:J 8 e=pt r8):
  ∃q h',tdE (call AC (m+2)) e h=.ret q h'/\J 6 q=pt r6/\J 7 q=AI AT 0/\Fx (λb=>b=r6\/b=r8) h h'/\h'.Row r6 0 (Ea lf sq op z iv bw (fr.length:Int))/\UpP R X h' A T ks fr:=by
 obtain⟨lv,fv,Rs,a4⟩:(∃lv fv,h.Row A.bs 0 (slL A.bd A.tb lv fv 0 IS)/\h.AEs fv (ints .i64 (fr.map xR))):=by
  obtain⟨⟨M,c0,arm,lv,fv,U,_⟩,_⟩:=B;exact⟨lv,fv,U.row,U.fs.vals⟩
 obtain⟨_,_,a8,_⟩:=CB y;have k1:call AC (m+2) 35 [pt A.bs] h=.ok (.bool IS) h:=MX (m:=m+1) Rs;have Wm:=g.marked;obtain⟨_,_,a7,_⟩:=CB (y.same (h':=h.marked) rfl);obtain⟨a0,a1,a2,_⟩:=B3 (s.same (h':=h.marked) rfl);have o4:∀{Q:Nat} {k:C} {F:AES} {e:Env},IU (.pointer (BY ⟨r4,Q,By⟩)) k F e h.marked=k F e h.marked:=λ{Q k F e}=>DO (s.lt g)
 have k2:call AC (m+2) 53 [pt A.bs] h.marked.quiet=.ok (AI AT (fr.length:Int)) h.marked.quiet:=kT (m:=m+1) (Rs.same (h':=h.marked.quiet) rfl) (a4.same (h':=h.marked.quiet) rfl);have S:∀e:Env,J 43 e=pt A.bs->AZ .weak (AU 53 [J 43]) (call AC (m+2)) e h.marked=.ok (AI AT (fr.length:Int)) (h.marked.back h.marked.quiet):=λe d=>by
  refine Cd ?_ (.refl Wm.quiet) (wB _);rw[BG,AS,Av,d];exact k2
 have j:h.Ext (h.marked.back h.marked.quiet):=Hp.Ext.AFY (Hp.Ext.refl g).marked (Hp.Ext.refl g).marked.quiet;generalize h.marked.back h.marked.quiet=H at S j;have o:=j.wf;have x:=W.ext g j;have t:=V.ext g j;obtain⟨I,b3,Y,_,n2,D⟩:=Rj (v:=AI AT lf) o x (off:=0) (by show 0<7;omega) p rfl rfl;obtain⟨h3,b4,Z,_,n3,f3⟩:=Rj (v:=AI AT sq) D.wf Y (off:=1) (by show 1<7;omega) p rfl rfl;obtain⟨h4,b5,a3,n4,_,E,_⟩:=ND (v:=.int .u8 (op:Int)) f3.wf Z (off:=2) (by show 2<7;omega) p rfl rfl;obtain⟨h5,b6,n,n5,_,f5,_⟩:=ND (v:=AI AT (fr.length:Int)) E.wf a3 (off:=6) (by show 6<7;omega) p rfl rfl;have n:h5.Row r8 0 (Ea lf sq op z iv bw (fr.length:Int)):=n;obtain⟨_,_,_,ld⟩:=N6 n;have i:=((D.trans f3).trans E).trans f5;obtain⟨K,b7,G,w⟩:=D0 (lf:=lf) (sq:=sq) (op:=op) (err:=z) (iv:=iv) (bw:=bw) (room:=(fr.length:Int)) i.wf (i.row o t L) rfl h6 hi l;have U1:=B.ext g j;have U5:=UpP.wr o U1 O.2 x n i N.2 P.2 Dx;have U6:=UpP.wr i.wf U5 O.1 (i.row o t L) w G N.1 P.1 Dx;have a5:∀{k:C} {F:AES} {e:Env},J 45 e=.pointer (BY ⟨r8,0,By⟩)->J 36 e=.pointer (BY ⟨r4,1,By⟩)->J 38 e=.pointer (BY ⟨r4,2,By⟩)->Ck (J 45) [J 36,J 38] k F e H=k F e H:=λd f e3=>aL d f e3 r r
 have a6:∀{k:C} {F:AES} {e:Env},J 46 e=.pointer (BY ⟨r8,1,By⟩)->J 38 e=.pointer (BY ⟨r4,2,By⟩)->Ck (J 46) [J 38] k F e I=k F e I:=λd f=>aK d f r
 have a9:=λ(F:AES) (e:Env) (d:J 45 e=.pointer (BY ⟨r8,0,By⟩)) (f:J 35 e=AI AT lf)=>b3 F e (J 45) (J 35) d f
 have b0:=λ(F:AES) (e:Env) (d:J 46 e=.pointer (BY ⟨r8,1,By⟩)) (f:J 37 e=AI AT sq)=>b4 F e (J 46) (J 37) d f
 have b1:=λ(F:AES) (e:Env) (d:J 47 e=.pointer (BY ⟨r8,2,By⟩)) (f:J 39 e=.int .u8 (op:Int))=>b5 F e (J 47) (J 39) d f
 have b2:=λ(F:AES) (e:Env) (d:J 48 e=.pointer (BY ⟨r8,6,By⟩)) (f:J 44 e=AI AT (fr.length:Int))=>b6 F e (J 48) (J 44) d f
 obtain⟨d,p1,t6,t7⟩:∃d,tdE (call AC (m+2)) e h=.ret d K/\J 6 d=pt r6/\J 7 d=AI AT 0:=by
  unfold tdE;simp only[sT,sh,OF,reduceIte,An,s0,AX,AH,AN,wC,AJ,AP,a8,cA0,k1,Ar,s4,D7,o4,DL,a0,a1,a2,a7,S,s8,a5,a9,a6,b0,b1,b2,Ai,Ac,ld,s6,AV,b7];exact⟨_,rfl,by simp[AG,s6]⟩
 refine⟨d,K,p1,t6,t7,((Fx.of j).trans (i.mono λb l=>.inr l)).trans (G.mono λb l=>.inl l),w,U6⟩
theorem N7(i:h.Wf)(G:UpP R X h A T ks fr)(hX:∀b,X b->b<h.next){w:vz}:
  ∃d f r4 r6 r8,d28 (call AC m) (Ay e0 0 [pt nb,DJ lf sq op a b c u,w]) h=tdM (call AC m) d f/\J 0 d=pt nb/\J 2 d=w/\J 4 d=pt r4/\J 6 d=pt r6/\J 8 d=pt r8/\h.Ext f/\f.Row r4 0 (CW lf sq op a b c u)/\f.Row r6 0 Dz/\f.Row r8 0 (Ea 0 0 0 120 AEW AEW 0)/\
   h.next<=r4/\h.next<=r6/\h.next<=r8/\r4≠r8/\r6≠r8/\UpP R (λb=>(X b\/b=r6)\/b=r8) f A T ks fr/\r6<f.next/\r8<f.next:=by
 have C:=λ(F:AES) (e:Env) (K:J 1 e=DJ lf sq op a b c u)=>Fg (F:=F) i K
 have o:=(Hp.Ext.refl i).AER 0 (CW lf sq op a b c u);have q:=Hp.Row.new i 0 (CW lf sq op a b c u);have M:(h.AER 0 (CW lf sq op a b c u)).next=h.next+1:=rfl;generalize h.AER 0 (CW lf sq op a b c u)=j at C o q M;have y:=λ(F:AES) (e:Env)=>BU (F:=F) (e:=e) o.wf (n:=7) (t:=Cq)
 have s:=Hp.Row.alloc o.wf Ev (show Dz.length=7 from rfl);have k:j.Ext (j.push (.cells Cq 7 0)):=(Hp.Ext.refl o.wf).push _;have N:(j.push (.cells Cq 7 0)).next=j.next+1:=rfl;generalize j.push (.cells Cq 7 0)=g at y s k N;have H:=λ(F:AES) (e:Env)=>Ij (F:=F) (e:=e) (h:=g) (z:=120) (g1:=W (AI AT 120)) rfl
 have B:=λ(F:AES) (e:Env)=>BU (F:=F) (e:=e) k.wf (n:=7) (t:=Cq)
 have x:=Hp.Row.alloc k.wf Ev (show Dz.length=7 from rfl);have l:g.Ext (g.push (.cells Cq 7 0)):=(Hp.Ext.refl k.wf).push _;have O:(g.push (.cells Cq 7 0)).next=g.next+1:=rfl;generalize g.push (.cells Cq 7 0)=h3 at B x l O;have a1:=i.big;obtain⟨f,Z,p,E⟩:=D0 (lf:=0) (sq:=0) (op:=0) (err:=120) (iv:=AEW) (bw:=AEW) (room:=0) l.wf x rfl (by omega) rfl rfl;have x3:=(o.trans k).trans l;have a0:=k.trans l;have D:=Fx.xtF x3 p (λb I=>by rw[I];omega);have n4:=p.next;have L:∃d,d28 (call AC m) (Ay e0 0 [pt nb,DJ lf sq op a b c u,w]) h=tdM (call AC m) d f/\J 0 d=pt nb/\J 2 d=w/\J 4 d=pt h.next/\J 6 d=pt j.next/\J 8 d=pt g.next:=by
  rw[qC];unfold qD;simp only[iN,wA,sT,sh,OF,reduceIte,C,y,H,B,AV,Z];exact⟨_,rfl,by simp[AG]⟩
 obtain⟨d,P,Q,S,U,V,Y⟩:=L;exact⟨d,f,_,_,_,P,Q,S,U,V,Y,D,p.row l.wf (q.ext o.wf a0) (by omega),p.row l.wf (s.ext k.wf l) (by omega),E,wB _,by omega,by omega,by omega,by omega,((G.more i (r:=j.next) (by omega)).more i (r:=g.next) (by omega)).ext i D,by omega,by omega⟩
theorem fO(f:h.Wf)(t:h.Row nb 0 (AEq A.bd A.tb A.bs AEl))(g:UpP R X h A T ks fr)(F:∀b,X b->b<h.next)(a2:lf<AEl){w:vz}:
  ∃room h',call AC (m+3) 28 [pt nb,DJ lf sq op a b c u,w] h=.ok (.tuple ⟨[Bs lf sq op 120 AEW AEW room,AI AT 0]⟩) h'/\h.Ext h'/\room=(fr.length:Int):=by
 obtain⟨C,e,r4,r6,r8,N,n,p3,o,O,P,i,j,q,s,l4,l6,l8,K,L,x,m6,m8⟩:=N7 (m:=m+2) (nb:=nb) (lf:=lf) (sq:=sq) (op:=op) (a:=a) (b:=b) (c:=c) (u:=u) (w:=w) f g F;have y:=i.wf;have k:=t.ext f i;have a1:=f.big;have l:=g.lt f;obtain⟨z,_⟩:=B3 (j.same (h':=e.marked) rfl);obtain⟨_,_,_,M⟩:=CB (k.same (h':=e.marked) rfl);have B:iGe lf AEl=IS:=E0 (by omega);have p:=(Hp.Ext.refl y).marked;have H:∃d,tdM (call AC (m+2)) C e=tdE (call AC (m+2)) d e.marked/\J 0 d=pt nb/\J 4 d=pt r4/\J 6 d=pt r6/\J 8 d=pt r8:=by
  rw[fM];unfold lF tdA;simp only[sT,sh,OF,reduceIte,Ar,o,n,AH,AN,wC,AJ,AP,z,M,An,AX,AM,AK,B];exact⟨_,rfl,by simp[AG,n,o,O,P]⟩
 obtain⟨d,Q,S,U,V,W⟩:=H;obtain⟨I,_,ht⟩:=g.tab;have a3:=I.lt f;obtain⟨e3,E,Y,Z,r3,D,r,_⟩:=Te (m:=m) p.wf (k.same rfl) (x.same (h':=e.marked) rfl) ⟨.inl (.inr rfl),.inr rfl⟩ ⟨λh=>by have:=l _ h;omega,λh=>by have:=l _ h;omega⟩ ⟨by omega,by omega⟩ (j.same (h':=e.marked) rfl) (q.same rfl) (s.same rfl) K L (by omega) (by omega) rfl rfl S U V W;refine⟨fr.length,E,?_,Fx.xtF (i.trans p) D (λb G=>by rcases G with rfl|rfl<;>omega),rfl⟩;rw[UG rfl,N,Q,Y,A7,EY (v:=Bs lf sq op 120 AEW AEW fr.length) (by rw[Z];exact CY r),r3]
theorem da{bd a bs:Nat}:Odd (AEq bd a bs AEl):=⟨.inl (by show 4<6;omega),pt bd,wJ,λb h=>by cases h⟩
end
theorem YI:OM.k=.ptr 76:=by kernel_rfl
theorem qN:doR=iV:=rfl
theorem lr:d9=d9h:=rfl
def fnO(op:Nat):Nat:=if op=1 then 29 else if op=2 then 30 else if op=3 then 31 else if op=4 then 32 else if op=5 then 33 else 34
section
variable {F:AES}{e:Env}{h g:Hp}{R:Int->Prop}{X:Nat->Prop}{A:At}{T M:List Nat}{c0 m k n nb r r4 op:Nat}{arm AEl lf sq a b c err room:Int}{ks:List Kt}{fr l:List Nat}{lv fv u iv bw:vz}
theorem Lg{n:Nat}(d:Es lf sq op a b c n=IN):1<=op/\op<=6/\1<=lf:=by
 unfold Es hdQ wiQ at d;simp only[wV,decide_eq_true_eq]at d;exact⟨d.1.1.2.1,d.1.1.2.2,d.1.1.1.1.1⟩
def kdO(op:Nat):Int:=if op=1 then 1 else if op=2 then 5 else if op=3 then 7 else 8
theorem rY(c:h.Row nb 0 (AEq A.bd A.tb A.bs AEl))(d:UpP R X h A T ks fr):call AC (m+3) 27 [pt nb] h=.ok (AI AT 0) h:=by
 obtain⟨⟨M,c0,arm,lv,fv,b,_⟩,_⟩:=d;obtain⟨i,_,j,_⟩:=CB c;have k:∀e:Env,J 0 e=pt nb->oEq OM.k IS (J 0) (W (.pointer By)) (call AC (m+2)) e h=.ok (.bool IS) h:=λe a=>Eo YI a
 have l:∀e:Env,J 10 e=pt A.bs->oEq Hs.k IS (J 10) (W (.pointer By)) (call AC (m+2)) e h=.ok (.bool IS) h:=λe a=>Eo Tl a
 have f:call AC (m+2) 35 [pt A.bs] h=.ok (.bool IS) h:=MX (m:=m+1) b.row;have g:call AC (m+2) 10 [pt A.bd] h=.ok (.bool IS) h:=MQ (m:=m) b.dk;rw[nk rfl];unfold d27;simp only[iN,wA,sT,sh,OF,reduceIte,gD,cA0,k,An,AX,AH,AN,wC,AJ,AP,i,j,l,f,g,lV0]
theorem M7(f:h.Wf)(Y:h.Row nb 0 (AEq A.bd A.tb A.bs AEl))(z:UpP R X h A T ks fr)(a0:op<256){l:Nat}(hu:∀g:Hp,AFB u g=.ok (AI AT (l:Int)) g):
  ∃d j x r4,d9 (call AC (m+3)) (Ay e0 0 [pt nb,DJ lf sq op a b c u]) h=(if Es lf sq op a b c l=IN then doM (call AC (m+3)) d j else .ret d j)/\J 0 d=pt nb/\J 3 d=pt x/\J 4 d=pt r4/\h.Ext j/\j.Row x 0 (CW lf sq op a b c u)/\j.Row r4 0 Dz/\
   h.next<=x/\h.next<=r4/\x≠r4/\UpP R (λb=>X b\/b=r4) j A T ks fr/\r4<j.next/\(Es lf sq op a b c l=IS->J 5 d=AI AT 110):=by
 have C:=λ(F:AES) (e:Env) (he:J 1 e=DJ lf sq op a b c u)=>Fg (F:=F) f he
 have p:=(Hp.Ext.refl f).AER 0 (CW lf sq op a b c u);have s:=Hp.Row.new f 0 (CW lf sq op a b c u);have n1:(h.AER 0 (CW lf sq op a b c u)).next=h.next+1:=rfl;generalize h.AER 0 (CW lf sq op a b c u)=i at C p s n1;have B:=λ(F:AES) (e:Env)=>BU (F:=F) (e:=e) p.wf (n:=7) (t:=Cq)
 have y:=Hp.Row.alloc p.wf Ev (show Dz.length=7 from rfl);have o:i.Ext (i.push (.cells Cq 7 0)):=(Hp.Ext.refl p.wf).push _;have n2:(i.push (.cells Cq 7 0)).next=i.next+1:=rfl;generalize i.push (.cells Cq 7 0)=N at B y o n2;have q:=p.trans o;have Z:=((z.more f (r:=i.next) (by omega)).ext f q);have P:call AC (m+3) 27 [pt nb] N=.ok (AI AT 0) N:=rY (m:=m) (Y.ext f q) Z;have M:iNe 0 0=IS:=CE rfl;obtain⟨_,_,_,_,_,_,_,Q⟩:=B3 (s.ext p.wf o);obtain⟨E,w,k⟩:=PF (m:=m) (AEl:=lf) (seq:=sq) (op:=op) (a:=a) (b:=b) (c:=c) q.wf a0 hu;have a2:=f.big;cases O:Es lf sq op a b c l
 ·rw[O]at w
  have W:=y.ext o.wf k;obtain⟨j,a1,D,V⟩:=D0 (lf:=0) (sq:=0) (op:=0) (err:=0) (iv:=AEW) (bw:=AEW) (room:=0) k.wf W rfl (by omega) rfl rfl;have bd:=λ(F:AES) (e:Env)=>V8 (F:=F) (e:=e) (h:=E)
  have U:=Fx.xtF (q.trans k) D (λb hb=>by rw[hb];omega);have G:∃d,d9 (call AC (m+3)) (Ay e0 0 [pt nb,DJ lf sq op a b c u]) h=.ret d j/\J 0 d=pt nb/\J 3 d=pt h.next/\J 4 d=pt i.next/\J 5 d=AI AT 110:=by
   rw[lr];unfold d9h;simp only[iN,wA,sT,sh,OF,reduceIte,C,B,cA0,P,AM,AK,M];unfold doR iV Ao doM Aq;simp only[sT,sh,OF,reduceIte,Ai,Ac,Q,cA0,w,BO,BN,xP,bd,AV,a1];exact⟨_,rfl,by simp[AG]⟩
  obtain⟨d,H,I,K,L,q4⟩:=G;have nn:=k.next;have a3:=D.next;exact⟨d,j,_,_,H,I,K,L,U,D.row k.wf ((s.ext p.wf o).ext o.wf k) (by omega),V,wB _,by omega,by omega,((z.more f (r:=i.next) (by omega)).ext f U),by omega,λ_=>q4⟩
 ·rw[O]at w
  have G:∃d,d9 (call AC (m+3)) (Ay e0 0 [pt nb,DJ lf sq op a b c u]) h=doM (call AC (m+3)) d E/\J 0 d=pt nb/\J 3 d=pt h.next/\J 4 d=pt i.next:=by
   rw[lr];unfold d9h;simp only[iN,wA,sT,sh,OF,reduceIte,C,B,cA0,P,AM,AK,M];rw[qN];unfold iV;simp only[sT,sh,OF,reduceIte,Ai,Ac,Q,cA0,w,BO,BN,xK];exact⟨_,rfl,by simp[AG]⟩
  obtain⟨d,H,I,K,L⟩:=G;have nn:=k.next;have S:=q.trans k;exact⟨d,E,_,_,H,I,K,L,S,(s.ext p.wf o).ext o.wf k,y.ext o.wf k,wB _,by omega,by omega,((z.more f (r:=i.next) (by omega)).ext f S),by omega,λe=>by cases e⟩
end
section
variable {e:Env}{h h' g:Hp}{R:Int->Prop}{S X:Nat->Prop}{A:At}{T:List Nat}{m nb r3 r4 op:Nat}{AEl lf sq a b c err room:Int}{ks:List Kt}{fr l:List Nat}{v u w iv bw:vz}
theorem Hp.VE.fx{xs:List vz}(g:h.VE u xs)(i:h.Wf)(f:Fx S h h')(m:∀b,AEu u b->¬S b):h'.VE u xs:=by
 rcases g with (a|⟨b,d,c,j,e,a,k,l⟩)|a
 ·exact .inl (.inl a)
 ·exact .inl (.inr ⟨b,d,c,j,e,a,f.row i k (m b ⟨d,_,c,a⟩),l⟩)
 ·exact .inr a
theorem UV{q h2:Hp}{p:Int}(s:h.Row r3 0 (CW lf sq op a b c u))(t:1<=op)(w:op<=6)(s0:J 0 e=pt nb)(s3:J 3 e=pt r3)(s4:J 4 e=pt r4){r:vz}
  (hk:call AC (m+3) 28 [pt nb,DJ lf sq op a b c u,.func (.func (fnO op)) ⟨[]⟩ ⟨[]⟩] h=.ok (.tuple ⟨[r,AI AT p]⟩) q)(l:AEa 7 (pt r4) r q=.ok AEU h2):
  ∃o,doM (call AC (m+3)) e h=.ret o h2/\J 4 o=pt r4/\J 5 o=AI AT p:=by
 obtain⟨_,_,j,_,_,_,_,k⟩:=B3 s;have d:op=1\/op=2\/op=3\/op=4\/op=5\/op=6:=by omega
 unfold doM;rcases d with d|d|d|d|d|d
 ·have f:iEq (op:Int) 1=IN:=CZ (by omega)
  have hk:=hk;rw[show fnO op=29 by rw[d];rfl]at hk;simp only[sT,sh,OF,reduceIte,s3,AH,AN,wC,AJ,AP,j,AM,AK,f,Ai,Ac,k,cA0,s0,hk,Az,A8,A9,AV,s4,l];exact⟨_,rfl,by simp[AG,s4]⟩
 ·have f:iEq (op:Int) 1=IS:=B8 (by omega)
  have g:iEq (op:Int) 2=IN:=CZ (by omega);have hk:=hk;rw[show fnO op=30 by rw[d];rfl]at hk;simp only[sT,sh,OF,reduceIte,s3,AH,AN,wC,AJ,AP,j,AM,AK,f,g,Ai,Ac,k,cA0,s0,hk,Az,A8,A9,AV,s4,l];exact⟨_,rfl,by simp[AG,s4]⟩
 ·have f:iEq (op:Int) 1=IS:=B8 (by omega)
  have g:iEq (op:Int) 2=IS:=B8 (by omega);have i:iEq (op:Int) 3=IN:=CZ (by omega);have hk:=hk;rw[show fnO op=31 by rw[d];rfl]at hk;simp only[sT,sh,OF,reduceIte,s3,AH,AN,wC,AJ,AP,j,AM,AK,f,g,i,Ai,Ac,k,cA0,s0,hk,Az,A8,A9,AV,s4,l];exact⟨_,rfl,by simp[AG,s4]⟩
 ·have f:iEq (op:Int) 1=IS:=B8 (by omega)
  have g:iEq (op:Int) 2=IS:=B8 (by omega);have i:iEq (op:Int) 3=IS:=B8 (by omega);have n:iEq (op:Int) 4=IN:=CZ (by omega);have hk:=hk;rw[show fnO op=32 by rw[d];rfl]at hk;simp only[sT,sh,OF,reduceIte,s3,AH,AN,wC,AJ,AP,j,AM,AK,f,g,i,n,Ai,Ac,k,cA0,s0,hk,Az,A8,A9,AV,s4,l];exact⟨_,rfl,by simp[AG,s4]⟩
 ·have f:iEq (op:Int) 1=IS:=B8 (by omega)
  have g:iEq (op:Int) 2=IS:=B8 (by omega);have i:iEq (op:Int) 3=IS:=B8 (by omega);have n:iEq (op:Int) 4=IS:=B8 (by omega);have c5:iEq (op:Int) 5=IN:=CZ (by omega);have hk:=hk;rw[show fnO op=33 by rw[d];rfl]at hk;simp only[sT,sh,OF,reduceIte,s3,AH,AN,wC,AJ,AP,j,AM,AK,f,g,i,n,c5,Ai,Ac,k,cA0,s0,hk,Az,A8,A9,AV,s4,l];exact⟨_,rfl,by simp[AG,s4]⟩
 ·have f:iEq (op:Int) 1=IS:=B8 (by omega)
  have g:iEq (op:Int) 2=IS:=B8 (by omega);have i:iEq (op:Int) 3=IS:=B8 (by omega);have n:iEq (op:Int) 4=IS:=B8 (by omega);have c5:iEq (op:Int) 5=IS:=B8 (by omega);have hk:=hk;rw[show fnO op=34 by rw[d];rfl]at hk;simp only[sT,sh,OF,reduceIte,s3,AH,AN,wC,AJ,AP,j,AM,AK,f,g,i,n,c5,Ai,Ac,k,cA0,s0,hk,Az,A8,A9,AV,s4,l];exact⟨_,rfl,by simp[AG,s4]⟩
theorem qO(n:h.Wf)(j:h.Row nb 0 (AEq A.bd A.tb A.bs AEl))(k:UpP R X h A T ks fr)(p:op<256){l:Nat}(q:∀g:Hp,AFB u g=.ok (AI AT (l:Int)) g)(d:Es lf sq op a b c l=IS):
  ∃f h',call AC (m+4) 9 [pt nb,DJ lf sq op a b c u] h=.ok (.tuple ⟨[f,AI AT 110]⟩) h'/\h.Ext h'/\f=Bs 0 0 0 0 AEW AEW 0:=by
 obtain⟨y,o,r3,r4,e,E,F,r,t,w,i,z,B,D,x,C,s⟩:=M7 (m:=m) (lf:=lf) (sq:=sq) (op:=op) (a:=a) (b:=b) (c:=c) n j k p q;rw[d,If (by decide)]at e;refine⟨_,o,?_,t,rfl⟩;rw[WQ rfl,e,A7,EY (v:=Bs 0 0 0 0 AEW AEW 0) (by rw[r];exact CY i),s d]
theorem qP(f:h.Wf)(j:h.Row nb 0 (AEq A.bd A.tb A.bs AEl))(r:UpP R X h A T ks fr)(y:∀b,X b->b<h.next)(B:op<256){l:Nat}(D:∀g:Hp,AFB u g=.ok (AI AT (l:Int)) g)(k:Es lf sq op a b c l=IN)(z:lf<AEl):
  ∃room h',call AC (m+4) 9 [pt nb,DJ lf sq op a b c u] h=.ok (.tuple ⟨[Bs lf sq op 120 AEW AEW room,AI AT 0]⟩) h'/\h.Ext h'/\room=(fr.length:Int):=by
 obtain⟨O,Q,r3,r4,n,G,H,I,e,o,p,U,V,Y,s,W,Z⟩:=M7 (m:=m) (lf:=lf) (sq:=sq) (op:=op) (a:=a) (b:=b) (c:=c) f j r B D;rw[k,IT rfl]at n;obtain⟨F,o6,_⟩:=Lg k;have N:=f.big;obtain⟨room,S,E,i,C⟩:=fO (m:=m) (lf:=lf) (sq:=sq) (op:=op) (a:=a) (b:=b) (c:=c) (u:=u) (w:=.func (.func (fnO op)) ⟨[]⟩ ⟨[]⟩) e.wf (j.ext f e) s (λb d=>by
  have:=e.next;rcases d with d|d
  ·have:=y b d
   omega
  ·omega) z
 obtain⟨x,M,t,q⟩:=D0 (lf:=lf) (sq:=sq) (op:=op) (err:=120) (iv:=AEW) (bw:=AEW) (room:=room) i.wf (p.ext e.wf i) rfl (by omega) rfl rfl;obtain⟨P,J,K,L⟩:=UV (m:=m) o F o6 G H I E M;refine⟨room,x,?_,Fx.xtF (e.trans i) t (λb d=>by rw[d];omega),C⟩;rw[WQ rfl,n,J,A7,EY (v:=Bs lf sq op 120 AEW AEW room) (by rw[K];exact CY q),L]
end
end
end Go.Proofs.YtldjiljipddebaaGreat

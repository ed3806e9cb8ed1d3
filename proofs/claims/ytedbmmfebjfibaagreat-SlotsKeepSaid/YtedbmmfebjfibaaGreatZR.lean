/-
  Part ZR of what Lawke stands on: printed by program, names and spaces cut.
-/
import Derived.Test.YtedbmmfebjfibaaGreatZQ
open Go.Value renaming int→AI
open Go.IntKind renaming i64→AT
open Nat renaming reduceEqDiff→BY,reduceLT→By,reduceAdd→IS,le_refl→IT,zero_add→vk,zero_le→wP,le_trans→wd
open Go renaming Value→IN
open List renaming length_append→No,length_map→OF,getElem?_eq_getElem→sh,getD_eq_getElem?_getD→vm,mem_cons_self→vp,mem_cons_of_mem→vr,mem_of_getElem?→vy,mem_filter→vz,mem_singleton→v7,replicate→v8,mem_cons→wA,getElem?_eq_some_iff→wC,append_nil→wF,mem_append→wK,mem_map→wM,map_append→wa,range→wm,mem_of_mem_take→xK,mem_range→xM,filter_cons_of_pos→xN,filter_cons_of_neg→xO,map_cons→xV,drop_eq_getElem_cons→xW,nodup_cons→xx,pairwise_cons→yG,filter_eq_self→yJ,nodup_append→yP,filter_congr→yR,any_eq_false→yS,pairwise_map→yY,any_eq_true→ya,map_eq_nil_iff→yi,nodup_range→zU,mem_of_mem_drop→zY,map_map→zb,filter_eq_nil_iff→zm,find?_cons_of_neg→AAC,pairwise_singleton→ABS,find?_cons_of_pos→ABg,pairwise_reverse→ABr,cons→ACL,not_mem_nil→ACS,map_reverse→ACV,nodup_nil→ACs
open Bool renaming and_eq_true→wJ,not_true→xJ,not_false→yA
open List.Pairwise renaming filter→ADI
open Int renaming le_refl→ADm
open List.Perm renaming eq_of_pairwise→AD6
set_option linter.unusedVariables false
set_option linter.unusedSimpArgs false
namespace Go.Proofs.YtedbmmfebjfibaaGreat
noncomputable section
open Go
set_option maxRecDepth 100000
def AFz(np:Nat)(T M:List Nat)(cs:List (Nat×List Nat))(Q:List Kt->Prop):Prop:=∀ M',Kept (3*np) M cs M'->∃ ks fr,AEq np ks fr/\AE6 np T M' ks fr/\Q ks
inductive St (h:Hp)(A:At)(np:Nat)(T:List Nat)(Q:List Kt->Prop):Prop
 |up (M:List Nat) (c0:Nat) (arm:Int) (ks:List Kt) (fr:List Nat) (lv fv:IN) (s:Sl h A T M c0 arm ks fr lv fv 0 false) (iv:AEq np ks fr) (md:AE6 np T M ks fr) (hc:Com ks) (a:AE3 true arm) (q:Q ks)
 |over (M:List Nat) (cs:List (Nat×List Nat)) (d:AFO true h A T M cs) (g:AFz np T M cs Q)
def Clo(AKy:Kt->Prop)(kd a b c:Int)(l:List Nat):Prop:=(C8 kd->∀ k:Kt,k.a=a->k.b=b->k.c=c->k.s=1->k.l=l->AKy k)/\((kd=5\/kd=6)->∀ k:Kt,AKy k->k.a=a->k.b=b->k.c=c->AKy {k with s:=2})
section
variable {fa:Bool}{e:Env}{h h' h0:Hp}{A:At}{T M M':List Nat}{c0 m k p n np bd bm bc tb:Nat}{arm:Int}{ks ks':List Kt}{fr fr':List Nat}{lv fv kv:IN}{kd a b c z:Int}{l:List Nat}{cs:List (Nat×List Nat)}{AKy:Kt->Prop}{Q:List Kt->Prop}{bs:List Bool}
theorem bZ:∀ (n:Nat) (l:List Nat),l.Nodup->(∀ x∈l,x<n)->l.length<=n
 |0,[],_,_=>IT _
 |0,x::l,_,h=>absurd (h x vp) (Nat.not_lt_zero _)
 |n+1,l,hd,h=>by
  have h1:=bZ n (l.erase n) (hd.erase _) fun x hx=>by
   have h2:=h x (List.mem_of_mem_erase hx);have h3:x≠n:=fun e=>(hd.mem_erase_iff.1 hx).1 e
   omega
  have h2:=List.length_erase (a:=n) (l:=l);split at h2<;>omega
theorem Zp(hK:AFU cs)(hS:AEv n cs):cs.length<=n:=by
 have:=bZ n (cs.map (·.1)) (Ps hK) fun x hx=>by
  obtain⟨y,hy,rfl⟩:=wM.1 hx;exact(hS y hy).1
 rwa [OF]at this
theorem Qo{j:Nat}{kx:Kt}(hj:ks[j]? =some kx)(iv:AEq np ks fr)(hG:∀ k∈ks,AKy k)(hC:Clo AKy 5 kx.a kx.b kx.c l):∀ k∈cmK ks j kx,AKy k:=fun k hk=>by
 rcases IF iv hj k hk with rfl|⟨h1,_⟩
 ·exact hC.2 (.inl rfl) kx (hG kx (vy hj)) rfl rfl rfl
 ·exact hG k h1
theorem Si{k':Kt}(hG:∀ k∈ks,AKy k)(hC:Clo AKy 1 a b c l)(e:k'.core=⟨a,b,c,1,l,p⟩):∀ k∈Bq (ks++[k']),AKy k:=fun k hk=>by
 rw[Ep,wK,v7]at hk;rcases hk with hk|rfl
 ·exact hG k hk
 ·obtain⟨e1,e2,e3,e4,e5,_⟩:=DK (y:=⟨a,b,c,1,l,p,.pointer none⟩) e
  exact hC.1 (.inl rfl) k e1 e2 e3 e4 e5
theorem vI(iv:AEq np ks fr)(hG:∀ k∈ks,AKy k)(hC:Clo AKy kd a b c l)(t:Aft ks fr kd a b c l ks'):∀ k∈ks',AKy k:=by
 have hC1:C8 kd->Clo AKy 1 a b c l:=fun h=>⟨fun _=>hC.1 h,fun h2=>by omega⟩
 have hC5:kd=5\/kd=6->Clo AKy 5 a b c l:=fun h=>⟨fun h2=>by unfold C8 at h2;omega,fun _=>hC.2 h⟩
 rcases t with rfl|⟨h14,_,p,_,k',_,e,rfl⟩|⟨h56,j,kx,P,hj,⟨rfl,rfl,rfl⟩,_,_,rfl⟩|⟨_,j,kx,P,hj,_,_,_,rfl⟩|⟨_,P,_,rfl⟩
 ·exact hG
 ·exact Si hG (hC1 h14) e
 ·exact fun k hk=>Qo hj iv hG (hC5 h56) k (vz.1 hk).1
 ·exact fun k hk=>hG k (vz.1 hk).1
 ·exact fun k hk=>hG k (vz.1 hk).1
theorem uu(iv:AEq np ks fr)(hG:∀ k∈ks,AKy k)(hC:Clo AKy kd a b c l)(t:Tb T M ks fr kd a b c l M' ks' fr'):∀ k∈ks',AKy k:=by
 have hC1:C8 kd->Clo AKy 1 a b c l:=fun h=>⟨fun _=>hC.1 h,fun h2=>by omega⟩
 have hC5:kd=5\/kd=6->Clo AKy 5 a b c l:=fun h=>⟨fun h2=>by unfold C8 at h2;omega,fun _=>hC.2 h⟩
 rcases t with ⟨h14,_,p,k',_,rfl,e,_⟩|⟨h56,j,kx,hj,⟨rfl,rfl,rfl⟩,_,rfl,_⟩|⟨_,j,kx,hj,_,_,rfl,_⟩|⟨_,rfl,_⟩
 ·exact Si hG (hC1 h14) e
 ·exact fun k hk=>Qo hj iv hG (hC5 h56) k (vz.1 hk).1
 ·exact fun k hk=>hG k (by
   rcases wK.1 hk with h|h
   ·exact xK h
   ·exact zY h)
 ·exact fun k hk=>hG k (vz.1 hk).1
theorem St.AIb(W0:h0.Wf)(x0:h0.Ext h)(hD0:∀ b,A.D b->h0.next<=b)(st:St h A np T Q)(hA:A.n=3*np)(hnp:np<=8)(Kb:KB h0 kv bs):
  ∃ h' M' c1 ks fr,call AC (m+3) 31 [pt A.bd,kv] h=.ok AEE h'/\Fx (fun b=>b=A.bd\/b=A.bm\/b=A.bc) h h'/\Dk h' A.bd A.bm A.bc A.n M' c1 [] (-1) false/\h'.Row A.tb 0 (T.map wv)/\AE1 T/\¬ A.D A.tb/\AEq np ks fr/\AE6 np T M' ks fr/\Q ks:=by
 have hD1:h0.next<=A.bd/\h0.next<=A.bm/\h0.next<=A.bc:=⟨hD0 _ (.inr (.inl rfl)),hD0 _ (.inr (.inr (.inl rfl))),hD0 _ (.inr (.inr (.inr rfl)))⟩;have run:∀ {M:List Nat} {c0:Nat} {cs:List (Nat×List Nat)} {arm:Int} {dn:Bool},Dk h A.bd A.bm A.bc A.n M c0 cs arm dn->AFU cs->AEv A.n cs->h.Row A.tb 0 (T.map wv)->¬ A.D A.tb->∃ h' M' c1,call AC (m+3) 31 [pt A.bd,kv] h=.ok AEE h'/\Fx (fun b=>b=A.bd\/b=A.bm\/b=A.bc) h h'/\Dk h' A.bd A.bm A.bc A.n M' c1 [] (-1) false/\Kept (3*np) M cs M'/\h'.Row A.tb 0 (T.map wv):=fun d hK hS Rt ht=>by
  obtain⟨h',M',c1,k1,f1,d1,kp⟩:=Qv (m:=m) W0 x0 hD1 d hK hS (by have:=Zp hK hS;omega) Kb;rw[hA]at kp;exact⟨h',M',c1,k1,f1,d1,kp,f1.row x0.wf Rt fun h=>ht (.inr h)⟩
 rcases st with ⟨M,c0,arm,ks,fr,lv,fv,s,iv,md,hc,ha,hG⟩|⟨M,cs,d,g⟩
 ·obtain⟨h',M',c1,k1,f1,d1,kp,R1⟩:=run s.dk (fun i j y z h=>by cases h) (fun y hy=>by cases hy) s.tab s.ne.2.2.2.1
  obtain⟨e1,e2⟩:=kp.none md.len;exact⟨h',M',c1,ks,fr,k1,f1,d1,R1,s.tok,s.ne.2.2.2.1,iv,md.like e1 (fun _ _ x _=>e2 x) (fun _ _ x _=>e2 x),hG⟩
 ·obtain⟨_,dk⟩:=d.dk
  obtain⟨h',M',c1,k1,f1,d1,kp,R1⟩:=run dk d.key d.sec d.tab d.ne.2.2.2.1;obtain⟨ks,fr,iv,md,q⟩:=g M' kp;exact⟨h',M',c1,ks,fr,k1,f1,d1,R1,d.tok,d.ne.2.2.2.1,iv,md,q⟩
theorem SU(W:h.Wf)(d:Dk h bd bm bc n M c0 [] arm false)(Rt:h.Row tb 0 (T.map wv))(hT:AE1 T)(hn:n=3*np)(hnp:1<=np/\np<=8)(htb:tb≠bd/\tb≠bm/\tb≠bc)(iv:AEq np ks fr)(md:AE6 np T M ks fr)(ha:AE3 fa arm):
  (∃ h' bs M' c1 AEc lv fv ks3 fr3 ks0,call AC (m+8) 16 [pt bd,pt tb,AI AT 100] h=.ok (.tuple ⟨[pt bs,AI AT 0]⟩) h'/\Fx (fun b=>b=bd\/b=bm\/b=bc) h h'/\
   Sl h' ⟨bs,bd,bm,bc,tb,n⟩ T M' c1 AEc ks3 fr3 lv fv 0 false/\(ks0.map Kt.core).Perm (ks.map Kt.core)/\ks3=Cx (Bq ks0) (Bq ks0)/\fr3=AFS ks3 np/\M'=Fy M (AFW ks3 (mrk T M np) np)/\h.next<=bs/\AE3 fa AEc)\/
  (∃ h' j ks3 ks0,call AC (m+8) 16 [pt bd,pt tb,AI AT 100] h=.ok (.tuple ⟨[.pointer none,AI AT 15]⟩) h'/\Fx (At.D ⟨h.next,bd,bm,bc,tb,n⟩) h h'/\j<(AFW ks3 (mrk T M np) np).length+1/\
   AFO fa h' ⟨h.next,bd,bm,bc,tb,n⟩ T (BP M [] ((Dy (AFW ks3 (mrk T M np) np)).take j)).1 (BP M [] ((Dy (AFW ks3 (mrk T M np) np)).take j)).2/\(ks0.map Kt.core).Perm (ks.map Kt.core)/\ks3=Cx (Bq ks0) (Bq ks0)):=by
 have e3:n/3=np:=by omega
 obtain⟨z1,z2,z3⟩:=md.find iv;rcases ST (m:=m) (fa:=fa) W d Rt hT (by omega) htb (fun ks' he=>by
  rw[e3]at he;rw[Pv,he];exact(z1.map qL).nodup_iff.2 (by rw[<- Pv];exact iv.key)) (by
  rw[e3,z1.length_eq,OF];have:=iv.len;omega) ha with ⟨h',bs,c1,AEc,lv,fv,ks3,ks0,k1,f1,s1,e0,e1,l1,a1⟩|⟨h',j,ks3,ks0,k1,f1,hj,d1,e0,e1⟩
 ·rw[e3]at s1 e0
  rw[z2]at s1;exact .inl ⟨h',bs,_,c1,AEc,lv,fv,ks3,_,ks0,k1,f1,s1,by rw[e0];exact z1,e1,rfl,rfl,l1,a1⟩
 ·rw[e3]at d1 hj e0
  exact .inr ⟨h',j,ks3,ks0,k1,f1,hj,d1,by rw[e0];exact z1,e1⟩
end
end
noncomputable section
open Go
set_option maxRecDepth 100000
def Cg(X Y:List Kt):Prop:=X.map Kt.core=Y.map Kt.core
def OnC(P:Kt->Bool):Prop:=∀ x y:Kt,x.core=y.core->P x=P y
section
variable {X Y Z:List Kt}{x y:Kt}{P:Kt->Bool}{f:Kt->Kt}{a b c:Int}
theorem Gp:Cg (x::X) (y::Y)↔x.core=y.core/\Cg X Y:=by
 unfold Cg;rw[xV,xV,ACL.injEq]
theorem Cg.trans(h:Cg X Y)(h2:Cg Y Z):Cg X Z:=Eq.trans h h2
theorem Cg.symm(h:Cg X Y):Cg Y X:=Eq.symm h
theorem Cg.len(h:Cg X Y):X.length=Y.length:=by
 have:=congrArg List.length h
 rwa [OF,OF]at this
theorem Cg.fil(hP:OnC P):∀ {X Y:List Kt},Cg X Y->Cg (X.filter P) (Y.filter P)
 |[],[],_=>rfl
 |[],y::Y,h=>by cases h
 |x::X,[],h=>by cases h
 |x::X,y::Y,h=>by
  obtain⟨h1,h2⟩:=Gp.1 h;have hp:=hP x y h1;cases hq:P y
  ·rw[xO (by rw[hp,hq];decide),xO (by rw[hq];decide)];exact Cg.fil hP h2
  ·rw[xN (hp.trans hq),xN hq];exact Gp.2 ⟨h1,Cg.fil hP h2⟩
theorem Cg.find(hP:OnC P):∀ {X Y:List Kt},Cg X Y->(X.find? P).map Kt.core=(Y.find? P).map Kt.core
 |[],[],_=>rfl
 |[],y::Y,h=>by cases h
 |x::X,[],h=>by cases h
 |x::X,y::Y,h=>by
  obtain⟨h1,h2⟩:=Gp.1 h;have hp:=hP x y h1;cases hq:P y
  ·rw[AAC (by rw[hp,hq];decide),AAC (by rw[hq];decide)];exact Cg.find hP h2
  ·rw[ABg (hp.trans hq),ABg hq];exact congrArg some h1
theorem Cg.mp(hf:∀ x y:Kt,x.core=y.core->(f x).core=(f y).core):∀ {X Y:List Kt},Cg X Y->Cg (X.map f) (Y.map f)
 |[],[],_=>rfl
 |[],y::Y,h=>by cases h
 |x::X,[],h=>by cases h
 |x::X,y::Y,h=>by
  obtain⟨h1,h2⟩:=Gp.1 h;exact Gp.2 ⟨hf x y h1,Cg.mp hf h2⟩
theorem Cg.app{X2 Y2:List Kt}(h:Cg X Y)(h2:Cg X2 Y2):Cg (X++X2) (Y++Y2):=by
 unfold Cg at *;rw[wa,wa,h,h2]
theorem Cg.frE:∀ {X Y:List Kt} {fr:List Nat},Cg X Y->Go.Proofs.YtedbmmfebjfibaaGreat.frE fr X=Go.Proofs.YtedbmmfebjfibaaGreat.frE fr Y
 |[],[],_,_=>rfl
 |[],y::Y,_,h=>by cases h
 |x::X,[],_,h=>by cases h
 |x::X,y::Y,fr,h=>by
  obtain⟨h1,h2⟩:=Gp.1 h;have hp:x.p=y.p:=congrArg Kc.p h1;show Go.Proofs.YtedbmmfebjfibaaGreat.frE (ED (fr++[x.p])) X=Go.Proofs.YtedbmmfebjfibaaGreat.frE (ED (fr++[y.p])) Y;rw[hp];exact Cg.frE h2
theorem OnC.not(h:OnC P):OnC fun k=> !P k:=fun x y e=>by show(!P x)= !P y;rw[h x y e]
theorem K9:OnC (BN a b c):=fun x y e=>by
 obtain⟨e1,e2,e3,_⟩:=DK e;unfold BN;rw[e1,e2,e3]
theorem ue:OnC (Kw a b):=fun x y e=>by
 obtain⟨e1,e2,e3,e4,_⟩:=DK e;unfold Kw;rw[e1,e2,e4]
theorem ud:OnC (elB a b c):=fun x y e=>by
 obtain⟨e1,e2,e3,_⟩:=DK e;unfold elB;rw[e1,e2,e3]
theorem uc:OnC (drB a b c):=fun x y e=>by
 obtain⟨e1,e2,e3,_⟩:=DK e;unfold drB;rw[e1,e2,e3]
def LtC(x y:Kc):Prop:=x.a<y.a\/(x.a=y.a/\(x.b<y.b\/(x.b=y.b/\(x.c<y.c\/(x.c=y.c/\x.p<y.p)))))
def LtK(x y:Kt):Prop:=LtC x.core y.core
theorem QD{z:Int}{l:List Int}:orZ (z::l)<0↔z<0\/(z=0/\orZ l<0):=by
 have e:orZ (z::l)=if z=0 then orZ l else z:=rfl
 rw[e];split
 ·rename_i h
  exact⟨fun g=>.inr ⟨h,g⟩,fun g=>g.elim (fun g=>by omega) fun g=>g.2⟩
 ·rename_i h
  exact⟨.inl,fun g=>g.elim id fun g=>absurd g.1 h⟩
theorem PU{a b:Int}:C2 a b<0↔a<b:=by
 unfold C2;split
 ·omega
 ·split<;>omega
theorem PT{a b:Int}:C2 a b=0↔a=b:=by
 unfold C2;split
 ·omega
 ·split<;>omega
theorem Wo:Gz x y<0↔LtK x y:=by
 unfold Gz LtK LtC;rw[QD,QD,QD,QD,PU,PU,PU,PU,PT,PT,PT,PT];show x.a<y.a\/x.a=y.a/\(x.b<y.b\/x.b=y.b/\(x.c<y.c\/x.c=y.c/\((x.p:Int)<(y.p:Int)\/(x.p:Int)=(y.p:Int)/\(0:Int)<0)))↔x.a<y.a\/(x.a=y.a/\(x.b<y.b\/(x.b=y.b/\(x.c<y.c\/(x.c=y.c/\x.p<y.p)))));omega
theorem LtC.asym{x y:Kc}(h:LtC x y)(h2:LtC y x):False:=by
 unfold LtC at *;omega
theorem LtK.tot(h:x.key≠y.key):LtK x y\/LtK y x:=by
 have h2:¬ (x.a=y.a/\x.b=y.b/\x.c=y.c):=fun g=>h (by show(x.a,x.b,x.c)=(y.a,y.b,y.c);rw[g.1,g.2.1,g.2.2])
 show(x.a<y.a\/(x.a=y.a/\(x.b<y.b\/(x.b=y.b/\(x.c<y.c\/(x.c=y.c/\x.p<y.p))))))\/(y.a<x.a\/(y.a=x.a/\(y.b<x.b\/(y.b=x.b/\(y.c<x.c\/(y.c=x.c/\y.p<x.p))))));omega
theorem LtK.tr{z:Kt}(h:LtK x y)(h2:LtK y z):LtK x z:=by
 unfold LtK LtC at *;omega
theorem OW:∀ {l:List Kt},l.Pairwise (fun u v=>LtK v u)->(∀ y∈l,x.key≠y.key)->(Ik x l).Pairwise (fun u v=>LtK v u)
 |[],_,_=>ABS _ _
 |y::r,h,hk=>by
  obtain⟨h1,h2⟩:=yG.1 h;rw[Km];split
  ·rename_i hlt
   refine yG.2 ⟨fun z hz=>?_,OW h2 fun z hz=>hk z (vr _ hz)⟩;rcases Mz.1 hz with rfl|hz
   ·exact Wo.1 hlt
   ·exact h1 z hz
  ·rename_i hlt
   have hyx:LtK y x:=(LtK.tot (hk y vp)).resolve_left fun g=>hlt (Wo.2 g)
   refine yG.2 ⟨fun z hz=>?_,h⟩;rcases wA.1 hz with rfl|hz
   ·exact hyx
   ·exact(h1 z hz).tr hyx
theorem av{A:List Kt}(h:A.Pairwise LtK)(hk:∀ y∈A,x.key≠y.key):(Gs A x).Pairwise LtK:=by
 unfold Gs;exact ABr.2 (OW (ABr.2 h) fun y hy=>hk y (List.mem_reverse.1 hy))
theorem XB:∀ (B A:List Kt),A.Pairwise LtK->((A++B).map Kt.key).Nodup->(srt A B).Pairwise LtK
 |[],A,h,_=>h
 |x::B,A,h,hn=>by
  show(srt (Gs A x) B).Pairwise LtK;have pm:((Gs A x++B).map Kt.key).Perm ((A++x::B).map Kt.key):=(((Oa A x).append_right B).trans List.perm_middle.symm).map _;refine XB B _ (av h fun y hy e=>?_) (pm.nodup_iff.2 hn);rw[wa,yP]at hn;exact hn.2.2 y.key (wM.2 ⟨y,hy,rfl⟩) x.key (wM.2 ⟨x,vp,rfl⟩) e.symm
theorem Id(hn:(X.map Kt.key).Nodup):(Bq X).Pairwise LtK:=by
 unfold Bq;refine XB _ _ ?_ (by rw[List.take_append_drop];exact hn);cases X with
 |nil=>exact .nil
 |cons x l=>exact ABS _ _
theorem TG(hX:X.Pairwise LtK)(hY:Y.Pairwise LtK)(p:(X.map Kt.core).Perm (Y.map Kt.core)):Cg X Y:=
 AD6 (le:=LtC) (fun a b _ _ h1 h2=>(h1.asym h2).elim) (yY.2 hX) (yY.2 hY) p
theorem M9(p:(X.map Kt.core).Perm (Y.map Kt.core))(hn:(Y.map Kt.key).Nodup):(X.map Kt.key).Nodup:=by
 rw[Pv]at *;exact(p.map qL).nodup_iff.2 hn
theorem Cg.key(h:Cg X Y)(hn:(Y.map Kt.key).Nodup):(X.map Kt.key).Nodup:=M9 (by rw[show X.map Kt.core=Y.map Kt.core from h]) hn
theorem dW(p:(X.map Kt.core).Perm (Y.map Kt.core))(hn:(Y.map Kt.key).Nodup)(hY:Y.Pairwise LtK):Cg (Bq X) Y:=
 TG (Id (M9 p hn)) hY (((Di X).map _).trans p)
theorem Cg.sort(h:Cg X Y)(hn:(Y.map Kt.key).Nodup):Cg (Bq X) (Bq Y):=
 dW (((show X.map Kt.core=Y.map Kt.core from h) ▸ .refl _:(X.map Kt.core).Perm (Y.map Kt.core)).trans ((Di Y).map _).symm) (((Di Y).map Kt.key).nodup_iff.2 hn) (Id hn)
theorem Cg.asc(h:Cg X Y)(hY:Y.Pairwise LtK):X.Pairwise LtK:=by
 have:(X.map Kt.core).Pairwise LtC:=by
  rw[show X.map Kt.core=Y.map Kt.core from h];exact yY.2 hY
 have h3:X.Pairwise fun x y=>LtC x.core y.core:=yY.1 this
 exact h3
end
end
noncomputable section
open Go
set_option maxRecDepth 100000
def cmF(a b c:Int)(k:Kt):Kt:=if BN a b c k=true then {k with s:=2}else k
def nxt(ks:List Kt)(fr:List Nat)(kd a b c:Int)(l:List Nat):List Kt×List Nat:=
 if 1<=kd/\kd<=4 then(match DX ks fr.length a b c l with
  |some _=>(ks,fr)
  |none=>(Bq (ks++[⟨a,b,c,1,l,fr.headD 0,AEP⟩]),fr.tail))
 else if kd=5\/kd=6 then(match FG ks a b c with
  |some _=>(ks,fr)
  |none=>((ks.map (cmF a b c)).filter fun k=> !elB a b c k,frE fr ((ks.map (cmF a b c)).filter (elB a b c))))
 else if kd=7 then(match abE ks a b c with
  |some _=>(ks,fr)
  |none=>(ks.filter fun k=> !BN a b c k,frE fr (ks.filter (BN a b c))))
 else if kd=8 then(ks.filter fun k=> !drB a b c k,frE fr (drO a b c ks))
 else(ks,fr)
section
variable {T M M':List Nat}{X Y ks ks':List Kt}{fr fr':List Nat}{kd a b c z:Int}{l:List Nat}{n np j:Nat}{x y kx:Kt}{P:Kt->Bool}
theorem Px(hn:((x::ks).map Kt.key).Nodup)(hf:BN a b c x=true):∀ z∈ks,BN a b c z=false:=fun z hz=>by
 rw[xV,xx]at hn;cases h:BN a b c z
 ·rfl
 ·exact absurd (wM.2 ⟨z,hz,(FX h).trans (FX hf).symm⟩) hn.1
theorem PS:∀ {ks:List Kt} {j:Nat} {kx:Kt},(ks.map Kt.key).Nodup->ks[j]? =some kx->BN a b c kx=true->cmK ks j kx=ks.map (cmF a b c)
 |[],j,kx,_,h,_=>by cases h
 |x::ks,0,kx,hn,h,hf=>by
  have e:x=kx:=Option.some.inj h;subst e;show({x with s:=2}:Kt)::ks=cmF a b c x::ks.map (cmF a b c);have h1:cmF a b c x={x with s:=2}:=if_pos hf;have h2:ks.map (cmF a b c)=ks:=(List.map_congr_left fun z hz=>show cmF a b c z=id z from if_neg (by rw[Px hn hf z hz];decide)).trans (List.map_id ks);rw[h1,h2]
 |x::ks,j+1,kx,hn,h,hf=>by
  have h:ks[j]? =some kx:=h;have hx:BN a b c x=false:=by
   cases q:BN a b c x
   ·rfl
   ·have:=Px hn q kx (vy h)
    rw[hf]at this;cases this
  show x::cmK ks j kx=cmF a b c x::ks.map (cmF a b c);rw[xV,xx]at hn;rw[PS hn.2 h hf,show cmF a b c x=x from if_neg (by rw[hx];decide)]
theorem Vg:∀ {ks:List Kt} {j:Nat} {kx:Kt},(ks.map Kt.key).Nodup->ks[j]? =some kx->BN a b c kx=true->ks.take j++ks.drop (j+1)=(ks.filter fun k=> !BN a b c k)/\ks.filter (BN a b c)=[kx]
 |[],j,kx,_,h,_=>by cases h
 |x::ks,0,kx,hn,h,hf=>by
  have e:x=kx:=Option.some.inj h;subst e;have h1:=Px hn hf;rw[xO (by rw[hf];decide),xN hf];exact⟨(yJ.2 fun z hz=>by rw[h1 z hz];rfl).symm,by rw[zm.2 fun z hz=>by rw[h1 z hz];decide]⟩
 |x::ks,j+1,kx,hn,h,hf=>by
  have h:ks[j]? =some kx:=h;have hx:BN a b c x=false:=by
   cases q:BN a b c x
   ·rfl
   ·have:=Px hn q kx (vy h)
    rw[hf]at this;cases this
  rw[xV,xx]at hn;obtain⟨h1,h2⟩:=Vg hn.2 h hf;rw[xN (by rw[hx];rfl),xO (by rw[hx];decide)];exact⟨congrArg (x:: ·) h1,h2⟩
theorem Hw(h:C8 kd):nxt ks fr kd a b c l=(match DX ks fr.length a b c l with
  |some _=>(ks,fr)
  |none=>(Bq (ks++[⟨a,b,c,1,l,fr.headD 0,AEP⟩]),fr.tail)):=by
 unfold C8 at h;exact if_pos (by omega)
theorem GZ(h:kd=5\/kd=6):nxt ks fr kd a b c l=(match FG ks a b c with
  |some _=>(ks,fr)
  |none=>((ks.map (cmF a b c)).filter fun k=> !elB a b c k,frE fr ((ks.map (cmF a b c)).filter (elB a b c)))):=by
 unfold nxt;rw[if_neg (by omega),if_pos h]
theorem Kx:nxt ks fr 7 a b c l=(match abE ks a b c with
  |some _=>(ks,fr)
  |none=>(ks.filter fun k=> !BN a b c k,frE fr (ks.filter (BN a b c)))):=by
 unfold nxt;rw[if_neg (by omega),if_neg (by omega),if_pos rfl]
theorem Ky:nxt ks fr 8 a b c l=(ks.filter fun k=> !drB a b c k,frE fr (drO a b c ks)):=by
 unfold nxt;rw[if_neg (by omega),if_neg (by omega),if_neg (by omega),if_pos rfl]
theorem Pz(h1:¬ C8 kd)(h5:kd≠5)(h6:kd≠6)(h7:kd≠7)(h8:kd≠8):nxt ks fr kd a b c l=(ks,fr):=by
 unfold C8 at h1;unfold nxt;rw[if_neg (by omega),if_neg (by omega),if_neg h7,if_neg h8]
theorem Yd(q:Y0 ks fr.length kd a b c l z):nxt ks fr kd a b c l=(ks,fr):=by
 rcases q with ⟨hp,e⟩|⟨hk,e⟩|⟨rfl,e⟩|⟨rfl,e,_⟩|⟨h1,h5,h6,h7,h8,_⟩
 ·rw[Hw hp,e]
 ·rw[GZ hk,e]
 ·rw[Kx,e]
 ·rw[Ky,e]
  have e1:ks.filter (drB a b c)=[]:=List.reverse_eq_nil_iff.1 e;rw[yJ.2 fun z hz=>by
   cases h:drB a b c z
   ·rfl
   ·exact absurd h (zm.1 e1 z hz)]
  rfl
 ·exact Pz h1 h5 h6 h7 h8
theorem Vf(iv:AEq np ks fr)(hc:Com ks)(hj:ks[j]? =some kx)(hf:BN a b c kx=true)(hst:Bm a b c ks=false):FG ks a b c=none:=by
 have hm:=vy hj;obtain⟨e1,e2,e3⟩:=IL hf;have h:=Hd (a:=a) (b:=b) (c:=c) iv.key hm (FX hf);unfold FG;rw[h];show(if kx.s=2 then some 0 else if Bm a b c ks=true then some 61 else none)=none;rw[if_neg fun g=>by have:=H7 hc hst kx hm e1 e2 g;omega,if_neg (by rw[hst];decide)]
theorem TN(iv:AEq np ks fr)(hc:Com ks)(t:Tb T M ks fr kd a b c l M' ks' fr'):Cg ks' (nxt ks fr kd a b c l).1/\fr'=(nxt ks fr kd a b c l).2:=by
 have iv2:=(Nq iv t).1;rcases t with ⟨hp,e,p,k',hfr,hks,hk,_⟩|⟨hk,j,kx,hj,AFL,hst,hks,hfr,_⟩|⟨rfl,j,kx,hj,AFL,hst,hks,hfr,_⟩|⟨rfl,hks,hfr,_⟩
 ·rw[Hw hp,e]
  subst hks hfr;have hY:((ks++[k']).map Kt.key).Nodup:=((Di (ks++[k'])).map Kt.key).nodup_iff.1 iv2.key;have hC:Cg (ks++[k']) (ks++[⟨a,b,c,1,l,p,AEP⟩]):=Cg.app (X:=ks) (Y:=ks) rfl (Gp.2 ⟨hk,rfl⟩);exact⟨hC.sort (hC.symm.key hY),rfl⟩
 ·have hf:BN a b c kx=true:=Eb (by show(kx.a,kx.b,kx.c)=_;rw[AFL.1,AFL.2.1,AFL.2.2])
  have e:=Vf iv hc hj hf hst;have e2:ks.set j {kx with s:=2}=ks.map (cmF a b c):=PS iv.key hj hf;rw[GZ hk,e,hks,hfr,e2];exact⟨rfl,rfl⟩
 ·have hf:BN a b c kx=true:=Eb (by show(kx.a,kx.b,kx.c)=_;rw[AFL.1,AFL.2.1,AFL.2.2])
  have e:abE ks a b c=none:=by
   unfold abE;rw[if_neg (by rw[hst];decide),Hd (a:=a) (b:=b) (c:=c) iv.key (vy hj) (FX hf)]
  obtain⟨e2,e3⟩:=Vg iv.key hj hf;rw[Kx,e,hks,hfr,e2,e3];exact⟨rfl,rfl⟩
 ·rw[Ky,hks,hfr]
  exact⟨rfl,rfl⟩
theorem Lw(hP:OnC P)(h:Cg X Y):(X.find? P=none/\Y.find? P=none)\/∃ x y,X.find? P=some x/\Y.find? P=some y/\x.core=y.core:=by
 have e:=h.find hP;cases h1:X.find? P with
 |none=>
  rw[h1]at e;cases h2:Y.find? P with
  |none=>exact .inl ⟨rfl,rfl⟩
  |some y=>rw[h2]at e;cases e
 |some x=>
  rw[h1]at e;cases h2:Y.find? P with
  |none=>rw[h2]at e;cases e
  |some y=>rw[h2]at e;exact .inr ⟨x,y,rfl,rfl,Option.some.inj e⟩
theorem J8(h:Cg X Y):Bm a b c X=Bm a b c Y:=by
 unfold Bm;rcases Lw (ue (a:=a) (b:=b)) h with ⟨h1,h2⟩|⟨x,y,h1,h2,e⟩
 ·rw[h1,h2]
 ·rw[h1,h2]
  show decide (c<=x.c)=decide (c<=y.c);rw[(DK e).2.2.1]
theorem dA(h:Cg X Y):DX X n a b c l=DX Y n a b c l:=by
 unfold DX;split
 ·rfl
 ·rcases Lw (K9 (a:=a) (b:=b) (c:=c)) h with ⟨h1,h2⟩|⟨x,y,h1,h2,e⟩
  ·rw[h1,h2,J8 h]
  ·rw[h1,h2]
   show(if x.l=l then some 0 else some 60)=if y.l=l then some 0 else some 60
   rw[(DK e).2.2.2.2.1]
theorem Zl(h:Cg X Y):FG X a b c=FG Y a b c:=by
 unfold FG;rcases Lw (K9 (a:=a) (b:=b) (c:=c)) h with ⟨h1,h2⟩|⟨x,y,h1,h2,e⟩
 ·rw[h1,h2,J8 h]
 ·rw[h1,h2,J8 h]
  show(if x.s=2 then some 0 else if Bm a b c Y=true then some 61 else none)=if y.s=2 then some 0 else if Bm a b c Y=true then some 61 else none
  rw[(DK e).2.2.2.1]
theorem lC(h:Cg X Y):abE X a b c=abE Y a b c:=by
 unfold abE;rw[J8 h];rcases Lw (K9 (a:=a) (b:=b) (c:=c)) h with ⟨h1,h2⟩|⟨x,y,h1,h2,e⟩<;>rw[h1,h2]
theorem Zh(e:x.core=y.core):(cmF a b c x).core=(cmF a b c y).core:=by
 have h:=K9 (a:=a) (b:=b) (c:=c) x y e;obtain⟨e1,e2,e3,e4,e5,e6⟩:=DK e;unfold cmF;rw[h];split
 ·show(⟨x.a,x.b,x.c,2,x.l,x.p⟩:Kc)=⟨y.a,y.b,y.c,2,y.l,y.p⟩
  rw[e1,e2,e3,e5,e6]
 ·exact e
theorem Cg.rev(h:Cg X Y):Cg X.reverse Y.reverse:=by
 unfold Cg;rw[ACV,ACV,show X.map Kt.core=Y.map Kt.core from h]
theorem Ws{k:Kt}(hn:(ks.map Kt.key).Nodup)(hz:DX ks n a b c l=none)(hk:k.key=(a,b,c)):((ks++[k]).map Kt.key).Nodup:=by
 have hf:ks.find? (BN a b c)=none:=by
  unfold DX at hz;split at hz
  ·cases hz
  ·cases h:ks.find? (BN a b c)with
   |none=>rfl
   |some k=>
    rw[h]at hz;have hz:(if k.l=l then some (0:Int)else some 60)=none:=hz;split at hz<;>cases hz
 rw[wa,yP];refine⟨hn,xx.2 ⟨ACS,.nil⟩,fun x hx y hy e=>?_⟩;obtain⟨w,hw,hw2⟩:=wM.1 hx;have hy:y=k.key:=v7.1 hy;exact absurd (Eb (by rw[hw2,e,hy,hk])) (List.find?_eq_none.1 hf w hw)
theorem qj(h:Cg X Y)(hn:(Y.map Kt.key).Nodup):Cg (nxt X fr kd a b c l).1 (nxt Y fr kd a b c l).1/\(nxt X fr kd a b c l).2=(nxt Y fr kd a b c l).2:=by
 by_cases h1:C8 kd
 ·rw[Hw h1,Hw h1,dA h]
  cases hz:DX Y fr.length a b c l with
  |some w=>exact⟨h,rfl⟩
  |none=>exact⟨(h.app rfl).sort (Ws hn hz rfl),rfl⟩
 by_cases h5:kd=5\/kd=6
 ·rw[GZ h5,GZ h5,Zl h]
  have hm:Cg (X.map (cmF a b c)) (Y.map (cmF a b c)):=h.mp fun x y e=>Zh e
  cases hz:FG Y a b c with
  |some w=>exact⟨h,rfl⟩
  |none=>exact⟨hm.fil ud.not,(hm.fil ud).frE⟩
 by_cases h7:kd=7
 ·subst h7
  rw[Kx,Kx,lC h];cases hz:abE Y a b c with
  |some w=>exact⟨h,rfl⟩
  |none=>exact⟨h.fil K9.not,(h.fil K9).frE⟩
 by_cases h8:kd=8
 ·subst h8
  rw[Ky,Ky];exact⟨h.fil uc.not,(h.fil uc).rev.frE⟩
 ·rw[Pz h1 (fun e=>h5 (.inl e)) (fun e=>h5 (.inr e)) h7 h8,Pz h1 (fun e=>h5 (.inl e)) (fun e=>h5 (.inr e)) h7 h8]
  exact⟨h,rfl⟩
theorem WY(h:X.Pairwise LtK)(hn:(X.map Kt.key).Nodup):(nxt X fr kd a b c l).1.Pairwise LtK:=by
 by_cases h1:C8 kd
 ·rw[Hw h1]
  cases hz:DX X fr.length a b c l with
  |some w=>exact h
  |none=>exact Id (Ws hn hz rfl)
 by_cases h5:kd=5\/kd=6
 ·rw[GZ h5]
  cases hz:FG X a b c with
  |some w=>exact h
  |none=>
   refine ADI _ (yY.2 (h.imp fun {x y} q=>?_));have e:∀ x:Kt,(cmF a b c x).a=x.a/\(cmF a b c x).b=x.b/\(cmF a b c x).c=x.c/\(cmF a b c x).p=x.p:=fun x=>by
    unfold cmF;split<;>exact⟨rfl,rfl,rfl,rfl⟩
   obtain⟨e1,e2,e3,e4⟩:=e x;obtain⟨g1,g2,g3,g4⟩:=e y;unfold LtK LtC at *;show(cmF a b c x).a<(cmF a b c y).a\/((cmF a b c x).a=(cmF a b c y).a/\((cmF a b c x).b<(cmF a b c y).b\/((cmF a b c x).b=(cmF a b c y).b/\((cmF a b c x).c<(cmF a b c y).c\/((cmF a b c x).c=(cmF a b c y).c/\(cmF a b c x).p<(cmF a b c y).p)))));rw[e1,e2,e3,e4,g1,g2,g3,g4];exact q
 by_cases h7:kd=7
 ·subst h7
  rw[Kx];cases hz:abE X a b c with
  |some w=>exact h
  |none=>exact h.filter _
 by_cases h8:kd=8
 ·subst h8
  rw[Ky];exact h.filter _
 ·rw[Pz h1 (fun e=>h5 (.inl e)) (fun e=>h5 (.inr e)) h7 h8]
  exact h
end
end
noncomputable section
open Go
set_option maxRecDepth 100000
def kOf(c:Kc):Kt:=⟨c.a,c.b,c.c,c.s,c.l,c.p,.pointer none⟩
section
variable {T M:List Nat}{X Y Z ks ks0 B:List Kt}{fr fr':List Nat}{kd a b c z:Int}{l:List Nat}{np j:Nat}{x y kx:Kt}{P:Kt->Bool}
theorem ae{x x' y y':Kt}(e:x.core=x'.core)(g:y.core=y'.core):C5 x y=C5 x' y':=by
 obtain⟨e1,e2,e3,e4,_,e6⟩:=DK e;obtain⟨g1,g2,g3,g4,_,g6⟩:=DK g;refine decide_eq_decide.2 ?_;unfold Mx;rw[e1,e2,e3,e4,e6,g1,g2,g3,g4,g6]
theorem XS{x':Kt}(pm:(X.map Kt.core).Perm (Y.map Kt.core))(e:x.core=x'.core):X.any (C5 x)=Y.any (C5 x'):=by
 have h:∀ (X:List Kt) (x:Kt),X.any (C5 x)=(X.map Kt.core).any fun c=>C5 x (kOf c):=fun X x=>by
  rw[List.any_map];rfl
 rw[h X x,h Y x',pm.any_eq];exact congrArg (List.any _) (funext fun c=>ae e rfl)
theorem NV(pm:(ks0.map Kt.core).Perm (X.map Kt.core))(hY:Y=Cx (Bq ks0) (Bq ks0)):(Y.map Kt.core).Perm ((Cx X X).map Kt.core):=by
 have hs:((Bq ks0).map Kt.core).Perm (X.map Kt.core):=((Di ks0).map _).trans pm;have h:∀ S:List Kt,(S.map Kt.core).Perm (X.map Kt.core)->(Cx S S).map Kt.core=(S.map Kt.core).filter fun c=> !X.any (C5 (kOf c)):=fun S q=>by
  rw[List.filter_map];unfold Cx;refine congrArg _ (yR fun x _=>?_);show(!S.any (C5 x))= !X.any (C5 (kOf x.core));rw[XS q (x:=x) (x':=kOf x.core) rfl]
 rw[hY,h _ hs,h X (.refl _)];exact hs.filter _
theorem qz(pm:(ks0.map Kt.core).Perm (X.map Kt.core))(hn:(X.map Kt.key).Nodup)(hY:Y=Cx (Bq ks0) (Bq ks0))(hZ:Z.Pairwise LtK)(hz:(Z.map Kt.core).Perm ((Cx X X).map Kt.core)):Cg Y Z:=
 TG (by rw[hY];exact(Id (M9 pm hn)).filter _) hZ ((NV pm hY).trans hz.symm)
theorem bh(hn:(X.map Kt.key).Nodup)(hc:Com X)(hx:x∈X)(hy:y∈X):¬ Mx x y:=by
 rintro⟨g1,g2,g3,g4,g5⟩;have h:=hc x hx y hy g1 g2 g4;have hcc:y.c=x.c:=by
  rcases g5 with g5|g5
  ·omega
  ·exact g5.1
 exact g3 (by rw[CZ hn hy hx (by show(y.a,y.b,y.c)=(x.a,x.b,x.c);rw[g1,g2,hcc])])
theorem Gq(hn:(X.map Kt.key).Nodup)(hc:Com X):Cx X X=X:=yJ.2 fun x hx=>by
 have:X.any (C5 x)=false:=yS.2 fun y hy=>by
  unfold C5;rw[decide_eq_false (bh hn hc hx hy)];decide
 rw[this];rfl
theorem Com.fil(hc:Com X):Com (X.filter P):=fun x hx y hy=>hc x (vz.1 hx).1 y (vz.1 hy).1
theorem uL{y:Kt}(hj:ks[j]? =some kx):y∈ks.set j y:=vy (i:=j) (by
 rw[List.getElem?_set_self (wC.1 hj).1])
theorem Zj(iv:AEq np B fr)(hc:Com B)(hj:B[j]? =some kx)(hst:Bm kx.a kx.b kx.c B=false)(hP:∀ k∈cmK B j kx,P k=true->elB kx.a kx.b kx.c k=true)(hX:X=(cmK B j kx).filter fun k=> !P k):
  Cx X X=(cmK B j kx).filter fun k=> !elB kx.a kx.b kx.c k:=by
 have hm:=vy hj;have hq:({kx with s:=2}:Kt)∈cmK B j kx:=uL hj;have hel:∀ k:Kt,elB kx.a kx.b kx.c k=true↔k.a=kx.a/\k.b=kx.b/\k.c<kx.c:=fun k=>by
  unfold elB;rw[wJ,wJ,decide_eq_true_iff,decide_eq_true_iff,decide_eq_true_iff];exact⟨fun h=>⟨h.1.1,h.1.2,h.2⟩,fun h=>⟨⟨h.1,h.2.1⟩,h.2.2⟩⟩
 have hqX:({kx with s:=2}:Kt)∈X:=by
  rw[hX];refine vz.2 ⟨hq,?_⟩;cases h:P {kx with s:=2}
  ·rfl
  ·have:=((hel _).1 (hP _ hq h)).2.2
   have:kx.c<kx.c:=this;omega
 have key:∀ x∈cmK B j kx,X.any (C5 x)=elB kx.a kx.b kx.c x:=fun x hx=>by
  cases he:elB kx.a kx.b kx.c x
  ·refine yS.2 fun y hy h=>?_
   rw[hX]at hy;obtain⟨g1,g2,g3,g4,g5⟩:Mx x y:=of_decide_eq_true h;have hne:¬ (x.a=kx.a/\x.b=kx.b/\x.c<kx.c):=fun q=>by rw[(hel x).2 q]at he;cases he
   rcases IF iv hj y (vz.1 hy).1 with rfl|⟨hyB,hyp⟩
   ·have g1:kx.a=x.a:=g1
    have g2:kx.b=x.b:=g2;have g5:x.c<kx.c\/kx.c=x.c/\x.s=1:=g5;rcases g5 with g5|⟨g5,g6⟩
    ·exact hne ⟨g1.symm,g2.symm,g5⟩
    ·rcases IF iv hj x hx with rfl|⟨hxB,hxp⟩
     ·have g6:(2:Nat)=1:=g6
      omega
     ·exact hxp (by rw[CZ iv.key hxB hm (by show(x.a,x.b,x.c)=(kx.a,kx.b,kx.c);rw[g1,g2,g5])])
   ·rcases IF iv hj x hx with rfl|⟨hxB,hxp⟩
    ·have g1:y.a=kx.a:=g1
     have g2:y.b=kx.b:=g2;have:=H7 hc hst y hyB g1 g2 g4;have g5:kx.c<y.c\/y.c=kx.c/\(2:Nat)=1:=g5;omega
    ·exact bh iv.key hc hxB hyB ⟨g1,g2,g3,g4,g5⟩
  ·obtain⟨e1,e2,e3⟩:=(hel x).1 he
   refine ya.2 ⟨_,hqX,decide_eq_true ⟨e1.symm,e2.symm,fun h=>?_,rfl,.inl e3⟩⟩;have h:kx.p=x.p:=h;rcases IF iv hj x hx with rfl|⟨hxB,hxp⟩
   ·have:kx.c<kx.c:=e3
    omega
   ·exact hxp h.symm
 have e1:Cx X X=X.filter fun x=> !X.any (C5 x):=rfl
 rw[e1];generalize hQ:(fun x=>X.any (C5 x))=Q;have hQ:∀ x,X.any (C5 x)=Q x:=fun x=>congrFun hQ x
 rw[show(X.filter fun x=> !X.any (C5 x))=X.filter fun x=> !Q x from yR fun x _=>by rw[hQ],hX,Lv];refine yR fun k hk=>?_
 have h1:=key k hk;rw[hQ]at h1;rw[h1];cases hp:P k
 ·rfl
 ·rw[hP k hk hp];rfl
theorem eV(iv:AEq np B fr)(hc:Com B)(t:Aft B fr kd a b c l X)(ix:AEq np X fr'):
  (kd≠8/\((Cx X X).map Kt.core).Perm (B.map Kt.core))\/(kd≠8/\((Cx X X).map Kt.core).Perm ((nxt B fr kd a b c l).1.map Kt.core))\/(kd=8/\∃ P:Kt->Bool,(∀ k∈B,P k=true->drB a b c k=true)/\Cx X X=B.filter fun k=> !P k):=by
 rcases t with rfl|⟨h14,hz,p,fr2,k',hf,hk,hX⟩|⟨h56,j,kx,P,hj,⟨rfl,rfl,rfl⟩,hst,hP,hX⟩|⟨rfl,j,kx,P,hj,⟨rfl,rfl,rfl⟩,hst,hP,hX⟩|⟨rfl,P,hP,hX⟩
 ·by_cases h8:kd=8
  ·exact .inr (.inr ⟨h8,fun _=>false,(fun _ _ h=>by cases h),by
    rw[Gq iv.key hc];exact(yJ.2 fun _ _=>rfl).symm⟩)
  ·exact .inl ⟨h8,by rw[Gq iv.key hc]⟩
 ·have h8:kd≠8:=by unfold C8 at h14;omega
  have t:Tb [] [] B fr kd a b c l (DT [] [] p l (AEJ [] a b c 1 l)) X fr2:=.inl ⟨h14,hz,p,k',hf,hX,hk,rfl⟩;have h1:=(TN iv hc t).1;have hcX:Com X:=fun x hx y hy e1 e2 e3=>by
   rw[hX,Ep,wK,v7]at hx hy;obtain⟨q1,q2,q3,q4,_,_⟩:=DK (y:=⟨a,b,c,1,l,p,.pointer none⟩) hk;have q1:k'.a=a:=q1;have q2:k'.b=b:=q2;have q3:k'.c=c:=q3;have q4:k'.s=1:=q4;have hyB:y∈B:=by
    rcases hy with hy|rfl
    ·exact hy
    ·rw[q4]at e3;cases e3
   rcases hx with hx|rfl
   ·exact hc x hx y hyB e1 e2 e3
   ·have hst:Bm a b c B=false:=by
     unfold DX at hz;split at hz
     ·cases hz
     ·cases hf:B.find? (BN a b c)with
      |some k=>
       rw[hf]at hz;have hz:(if k.l=l then some (0:Int)else some 60)=none:=hz;split at hz<;>cases hz
      |none=>
       rw[hf]at hz;cases hs:Bm a b c B
       ·rfl
       ·rw[hs]at hz;cases hz
    have:=H7 hc hst y hyB (e1.trans q1) (e2.trans q2) e3;omega
  exact .inr (.inl ⟨h8,by rw[Gq ix.key hcX,show X.map Kt.core=(nxt B fr kd a b c l).1.map Kt.core from h1]⟩)
 ·have h8:kd≠8:=by omega
  have hf:BN kx.a kx.b kx.c kx=true:=Eb rfl;refine .inr (.inl ⟨h8,?_⟩);rw[GZ h56,Vf iv hc hj hf hst,Zj iv hc hj hst hP hX,PS iv.key hj hf]
 ·have h8:(7:Int)≠8:=by omega
  have hf:BN kx.a kx.b kx.c kx=true:=Eb rfl;have hm:=vy hj;have hcX:Com X:=by rw[hX];exact hc.fil
  have hone:∀ k∈B,P k=true->k=kx:=fun k hk h=>CZ iv.nd hk hm (hP k hk h)
  have ab:abE B kx.a kx.b kx.c=none:=by
   unfold abE;rw[if_neg (by rw[hst];decide),Hd (a:=kx.a) (b:=kx.b) (c:=kx.c) iv.key hm rfl]
  cases hp:P kx
  ·refine .inl ⟨h8,?_⟩
   rw[Gq ix.key hcX,hX,yJ.2 fun k hk=>by
    cases h:P k
    ·rfl
    ·rw[hone k hk h,hp]at h;cases h]
  ·refine .inr (.inl ⟨h8,?_⟩)
   rw[Gq ix.key hcX,hX,Kx,ab];show((B.filter fun k=> !P k).map Kt.core).Perm ((B.filter fun k=> !BN kx.a kx.b kx.c k).map Kt.core);rw[yR fun k hk=>show(!P k)= !BN kx.a kx.b kx.c k by
    cases h:P k
    ·cases h2:BN kx.a kx.b kx.c k
     ·rfl
     ·have:=CZ iv.key hk hm (FX h2)
      rw[this,hp]at h;cases h
    ·rw[hone k hk h,hf]]
 ·refine .inr (.inr ⟨rfl,P,hP,?_⟩)
  have hcX:Com X:=by rw[hX];exact hc.fil
  rw[Gq ix.key hcX,hX]
theorem kT:∀ L:List Kt,L≠[]->∃ y∈L,∀ z∈L,z.c<=y.c
 |[],h=>absurd rfl h
 |[x],_=>⟨x,vp,fun z hz=>by rw[v7.1 hz];exact ADm _⟩
 |x::w::L,_=>by
  obtain⟨y,hy,h⟩:=kT (w::L) (by intro h;cases h);by_cases hle:y.c<=x.c
  ·exact⟨x,vp,fun z hz=>by
    rcases wA.1 hz with rfl|hz
    ·exact ADm _
    ·have:=h z hz
     omega⟩
  ·exact⟨y,vr _ hy,fun z hz=>by
    rcases wA.1 hz with rfl|hz
    ·omega
    ·exact h z hz⟩
theorem gi(ix:AEq np X fr)(hx:x∈X)(h:X.any (C5 x)=true):∃ y∈X,Mx x y/\X.any (C5 y)=false:=by
 obtain⟨y0,hy0,h0⟩:=ya.1 h;obtain⟨y,hy,AKi⟩:=kT (X.filter (C5 x)) (fun e=>by
  have:y0∈X.filter (C5 x):=vz.2 ⟨hy0,h0⟩;rw[e]at this;cases this)
 obtain⟨hyX,hh⟩:=vz.1 hy;obtain⟨g1,g2,g3,g4,g5⟩:Mx x y:=of_decide_eq_true hh;refine⟨y,hyX,⟨g1,g2,g3,g4,g5⟩,yS.2 fun z hz hd=>?_⟩;obtain⟨f1,f2,f3,f4,f5⟩:Mx y z:=of_decide_eq_true hd;have hlt:y.c<z.c:=by
  rcases f5 with f5|f5
  ·exact f5
  ·have:=f5.2;omega
 have hxy:x.c<=y.c:=by
  rcases g5 with g5|g5
  ·omega
  ·omega
 have hzx:Mx x z:=⟨f1.trans g1,f2.trans g2,fun e=>by
  have:=CZ ix.nd hz hx e;rw[this]at hlt;omega,f4,.inl (by omega)⟩
 have:=AKi z (vz.2 ⟨hz,decide_eq_true hzx⟩);omega
theorem Vd(ix:AEq np X fr)(hP:∀ k∈X,P k=true->X.any (C5 k)=true):Cx (X.filter fun k=> !P k) (X.filter fun k=> !P k)=Cx X X:=by
 generalize hZ:(X.filter fun k=> !P k)=Z;have hm:∀ z,z∈Z↔z∈X/\P z=false:=fun z=>by
  rw[<- hZ,vz];cases P z<;>simp
 have e:∀ x∈X,Z.any (C5 x)=X.any (C5 x):=fun x hx=>by
  cases h:X.any (C5 x)
  ·exact yS.2 fun y hy=>yS.1 h y ((hm y).1 hy).1
  ·obtain⟨y,hy,h1,h2⟩:=gi ix hx h
   refine ya.2 ⟨y,(hm y).2 ⟨hy,?_⟩,decide_eq_true h1⟩;cases hp:P y
   ·rfl
   ·rw[hP y hy hp]at h2;cases h2
 show(Z.filter fun x=> !Z.any (C5 x))=X.filter fun x=> !X.any (C5 x)
 rw[yR fun x hx=>show(!Z.any (C5 x))= !X.any (C5 x)by rw[e x ((hm x).1 hx).1],<- hZ,Lv];refine yR fun k hk=>?_
 cases hp:P k
 ·rfl
 ·rw[hP k hk hp];rfl
theorem Wq(ix:AEq np X fr)(pm:(ks0.map Kt.core).Perm (X.map Kt.core))(hY:Y=Cx (Bq ks0) (Bq ks0)){mk:List Nat}(hx:x∈X)(hp:x.p∈AFW Y mk np):X.any (C5 x)=true:=by
 cases h:X.any (C5 x)
 ·have h1:x.core∈(Cx X X).map Kt.core:=wM.2 ⟨x,vz.2 ⟨hx,by rw[h];rfl⟩,rfl⟩
  obtain⟨y,hy,e⟩:=wM.1 ((NV pm hY).mem_iff.2 h1);have h2:=(vz.1 hp).2;have h3:(Y.any fun z=>decide (z.p=x.p))=true:=ya.2 ⟨y,hy,decide_eq_true (DK e).2.2.2.2.2⟩;rw[h3]at h2;cases h2
 ·rfl
theorem jL(ix:AEq np X fr)(mx:AE6 np T M X fr)(pm:(ks0.map Kt.core).Perm (X.map Kt.core))(hY:Y=Cx (Bq ks0) (Bq ks0)):
  ∃ fr2,AEq np (Cx X X) fr2/\AE6 np T (Fy M (AFW Y (mrk T M np) np)) (Cx X X) fr2:=by
 have hYX:=NV pm hY;have i2:=ix.fil fun x=>X.any (C5 x)
 refine⟨_,i2,mx.cut (fun k hk=>?_) (fun p hp=>?_) fun p hp=>?_⟩
 ·obtain⟨h1,h2⟩:=vz.1 hk
  refine⟨h1,fun h=>?_⟩;rw[Wq ix pm hY h1 h]at h2;cases h2
 ·rcases wK.1 hp with h|h
  ·exact .inl h
  ·right
   obtain⟨k,hk,rfl⟩:=wM.1 h;obtain⟨h1,h2⟩:=vz.1 hk;have hlt:=ix.lt k h1;have hlk:=(RK (p:=k.p) (mx.rs k h1).1 (mx.rs k h1).2 (mx.hd k h1) (mx.dt k h1)).2.1;refine vz.2 ⟨xM.2 (by show k.p<np;omega),?_⟩;have e1:(Y.any fun z=>decide (z.p=k.plc))=false:=yS.2 fun y hy h=>by
    have h:y.p=k.p:=of_decide_eq_true h;obtain⟨x,hx,e⟩:=wM.1 (hYX.mem_iff.1 (wM.2 ⟨y,hy,rfl⟩));obtain⟨hx1,hx2⟩:=vz.1 hx;have:=CZ ix.nd hx1 h1 (show x.p=k.p from(DK e).2.2.2.2.2.trans h);rw[this]at hx2;rw[h2]at hx2;cases hx2
   have e2:k.plc∈mrk T M np:=vz.2 ⟨xM.2 (by show k.p<np;omega),by
    show((lkN T M k.p).isSome || _)=true;rw[hlk];rfl⟩
   rw[e1,decide_eq_true e2];rfl
 ·have h1:=xM.1 (vz.1 hp).1
  omega
theorem On{M2:List Nat}{i:Nat}(ix:AEq np X fr)(mx:AE6 np T M X fr)(pm:(ks0.map Kt.core).Perm (X.map Kt.core))(hY:Y=Cx (Bq ks0) (Bq ks0))
  (h:(∃ cs,cs=[]/\Kept (3*np) (Fy M (AFW Y (mrk T M np) np)) cs M2)\/(i<(AFW Y (mrk T M np) np).length+1/\Kept (3*np) (BP M [] ((Dy (AFW Y (mrk T M np) np)).take i)).1 (BP M [] ((Dy (AFW Y (mrk T M np) np)).take i)).2 M2)):
  ∃ X2 fr2,AEq np X2 fr2/\AE6 np T M2 X2 fr2/\Cx X2 X2=Cx X X:=by
 rcases h with ⟨_,rfl,hk⟩|⟨hi,hk⟩
 ·obtain⟨fr2,i2,m2⟩:=jL ix mx pm hY
  obtain⟨h1,h2⟩:=hk.none m2.len;exact⟨_,fr2,i2,m2.like h1 (fun _ _ x _=>h2 x) fun _ _ x _=>h2 x,Vd ix fun k _ h=>h⟩
 ·obtain⟨e1,e2⟩:=MI (M:=M) hi
  rw[e1]at hk;obtain⟨P,hP,i2,m2⟩:=Jh mx ix hk e2;exact⟨_,_,i2,m2,Vd ix fun k hk h=>Wq ix pm hY hk (hP k hk h)⟩
theorem Xx(hn:(ks.map Kt.plc).Nodup)(hp:∀ k∈ks,k.p<np):(AFS ks np).length+ks.length=np:=by
 have h:(AFS ks np++ks.map Kt.plc).Perm (wm np):=by
  refine(List.perm_ext_iff_of_nodup (yP.2 ⟨zU.filter _,hn,fun x hx y hy e=>?_⟩) zU).2 fun p=>?_
  ·subst e
   obtain⟨k,hk,rfl⟩:=wM.1 hy;have h2:=(vz.1 hx).2;rw[show(ks.any fun z=>decide (z.p=k.plc))=true from ya.2 ⟨k,hk,decide_eq_true rfl⟩]at h2;cases h2
  ·rw[wK,xM]
   refine⟨fun h=>?_,fun h=>?_⟩
   ·rcases h with h|h
    ·exact xM.1 (vz.1 h).1
    ·obtain⟨k,hk,rfl⟩:=wM.1 h
     exact hp k hk
   ·cases hq:ks.any fun z=>decide (z.p=p)
    ·exact .inl (vz.2 ⟨xM.2 h,by rw[hq];rfl⟩)
    ·obtain⟨k,hk,e⟩:=ya.1 hq
     exact .inr (wM.2 ⟨k,hk,of_decide_eq_true e⟩)
 have:=h.length_eq
 rwa [No,OF,List.length_range]at this
end
end
noncomputable section
open Go
set_option maxRecDepth 100000
section
variable {F:AEB}{e:Env}{h h':Hp}{T:List Nat}{m k p n np tb:Nat}{u w:IN}
theorem dK{b el el':Nat}{L L':List IN}(r:h.Row b el L)(r':h.Row b el' L'):L=L':=by
 obtain⟨c,hc,hl⟩:=r;obtain⟨c',hc',hl'⟩:=r';rw[hc]at hc';injection hc' with e1 e2 e3
 subst e1;refine List.ext_getElem e2 fun i h1 h2=>?_
 have a1:=(hl i h1).2;have a2:=(hl' i h2).2;rw[a1,vm,vm,sh h1,sh h2]at a2;exact a2
def J1(a b c:Int)(s:Nat)(l:List Nat)(a' b' c':Int)(s':Nat)(l':List Nat):Bool:=decide (a=a'/\b=b'/\c=c'/\s=s'/\l=l')
theorem dN(W:h.Wf){a b c a' b' c':Int}{s s':Nat}{u w:IN}{l l':List Nat}(AKz:h.AEb u (l.map bv))(V:h.AEb w (l'.map bv))(hl:∀ x∈l,x<256)(hl':∀ x∈l',x<256):
  ∃ h',call AC (m+2) 32 [Bv a b c s u,Bv a' b' c' s' w] h=.ok (.bool (J1 a b c s l a' b' c' s' l')) h'/\h.Ext h':=by
 have b1:=fun (F:AEB) (e:Env) (he:J 0 e=Bv a b c s u)=>de (F:=F) W he
 have x1:=(Hp.Ext.refl W).AEA 0 (A4 a b c s u);have R1:=Hp.Row.new W 0 (A4 a b c s u);generalize h.AEA 0 (A4 a b c s u)=h1 at b1 x1 R1;have b2:=fun (F:AEB) (e:Env) (he:J 1 e=Bv a' b' c' s' w)=>de (F:=F) x1.wf he
 have y2:=(Hp.Ext.refl x1.wf).AEA 0 (A4 a' b' c' s' w);have R2:=Hp.Row.new x1.wf 0 (A4 a' b' c' s' w);generalize h1.AEA 0 (A4 a' b' c' s' w)=h2 at b2 y2 R2;have x2:=x1.trans y2;obtain⟨l0,l1,l2,l3,l4,_⟩:=CC (R1.ext x1.wf y2);obtain⟨m0,m1,m2,m3,m4,_⟩:=CC R2;have k1:=uo (n:=m) (AKz.ext W x2) (V.ext W x2) hl hl';refine⟨h2,?_,x2⟩;rw[nc rfl];unfold d32;rcases GU a a' with ⟨c1,e1⟩|⟨c1,e1⟩
 ·rcases GU b b' with ⟨c2,e2⟩|⟨c2,e2⟩
  ·rcases GU c c' with ⟨c3,e3⟩|⟨c3,e3⟩
   ·rcases GU (s:Int) (s':Int)with ⟨c4,e4⟩|⟨c4,e4⟩
    ·have hB:J1 a b c s l a' b' c' s' l'=decide (l=l'):=by
      unfold J1;exact decide_eq_decide.2 ⟨fun h=>h.2.2.2.2,fun h=>⟨e1,e2,e3,by omega,h⟩⟩
     rw[hB];simp only[iN,IS,sT,By,BY,reduceIte,gD,b1,b2,AG,AM,vk,AK,AO,l0,l1,l2,l3,l4,m0,m1,m2,m3,m4,AJ,AH,c1,c2,c3,c4,cA0,k1,lV0]
    ·have hB:J1 a b c s l a' b' c' s' l'=false:=decide_eq_false fun h=>e4 (by rw[h.2.2.2.1])
     rw[hB];simp only[iN,IS,sT,By,BY,reduceIte,gD,b1,b2,AG,AM,vk,AK,AO,l0,l1,l2,l3,l4,m0,m1,m2,m3,m4,AJ,AH,c1,c2,c3,c4,cA0,k1,lV0]
   ·have hB:J1 a b c s l a' b' c' s' l'=false:=decide_eq_false fun h=>e3 h.2.2.1
    rw[hB];simp only[iN,IS,sT,By,BY,reduceIte,gD,b1,b2,AG,AM,vk,AK,AO,l0,l1,l2,l3,l4,m0,m1,m2,m3,m4,AJ,AH,c1,c2,c3,cA0,k1,lV0]
  ·have hB:J1 a b c s l a' b' c' s' l'=false:=decide_eq_false fun h=>e2 h.2.1
   rw[hB];simp only[iN,IS,sT,By,BY,reduceIte,gD,b1,b2,AG,AM,vk,AK,AO,l0,l1,l2,l3,l4,m0,m1,m2,m3,m4,AJ,AH,c1,c2,cA0,k1,lV0]
 ·have hB:J1 a b c s l a' b' c' s' l'=false:=decide_eq_false fun h=>e1 h.1
  rw[hB];simp only[iN,IS,sT,By,BY,reduceIte,gD,b1,b2,AG,AM,vk,AK,AO,l0,l1,l2,l3,l4,m0,m1,m2,m3,m4,AJ,AH,c1,cA0,k1,lV0]
theorem dE{n k:Nat}(hk:0<k):Sr .u8 (.int .u8 (n:Int)) (.int .u8 (k:Int)) h=.ok (.int .u8 ((n % k:Nat):Int)) h:=by
 have:((n:Nat):Int).tmod (k:Int)=((n % k:Nat):Int):=rfl;rw[QJ (by omega),this]
theorem UF(np:Nat):AFS [] np=wm np:=yJ.2 fun _ _=>rfl
theorem qG(np:Nat):AEq np [] (wm np):=⟨ACs,.refl _⟩
theorem bW(np:Nat):AE6 np T (v8 (64*(3*np)) 0) [] (wm np):=
 ⟨List.length_replicate,fun k hk=>(by cases hk),fun k hk=>(by cases hk),fun p _ r _=>Ng,fun k hk=>(by cases hk),fun p hp=>xM.1 hp⟩
theorem NU(W:h.Wf)(Rt:h.Row tb 0 (T.map wv))(hT:AE1 T)(hnp:1<=np/\np<=8):
  ∃ h' bs bd bm bc lv fv c1 AEc,call AC (m+9) 10 [pt tb,AI AT ((3*np:Nat):Int)] h=.ok (.tuple ⟨[pt bd,pt bs,.bool true]⟩) h'/\h.Ext h'/\Sl h' ⟨bs,bd,bm,bc,tb,3*np⟩ T (v8 (64*(3*np)) 0) c1 AEc [] (wm np) lv fv 0 false/\h.next<=bs/\h.next<=bd/\h.next<=bm/\h.next<=bc/\AE3 false AEc:=by
 obtain⟨h1,bd,bm,bc,k1,x1,d,l1,l2,l3⟩:=gO (m:=m+7) (n:=3*np) W (by omega);have htb:=Rt.lt W;have e3:3*np/3=np:=by omega
 obtain⟨z1,z2,z3⟩:=(bW (T:=T) np).find (qG np);have hk0:kcs T (v8 (64*(3*np)) 0) np=[]:=List.perm_nil.1 z1;have hm0:mrk T (v8 (64*(3*np)) 0) np=[]:=by
  cases hq:mrk T (v8 (64*(3*np)) 0) np with
  |nil=>rfl
  |cons p l=>
   obtain⟨k,hk,_⟩:=z3 p (by rw[hq];exact vp);cases hk
 rcases ST (m:=m) (fa:=false) x1.wf d (Rt.ext W x1) hT (by omega) ⟨by omega,by omega,by omega⟩ (fun ks' he=>by
  rw[e3,hk0]at he;rw[yi.1 he];exact ACs) (by rw[e3,hk0];exact wP _) (.no (by omega) (by omega))with ⟨h2,bs,c1,AEc,lv,fv,ks3,ks0,k2,f2,s2,e0,e1,l4,ha⟩|⟨_,_,_,_,_,_,_,dd,_⟩
 case inr=>cases dd.may
 rw[e3]at s2 e0;rw[hk0]at e0;have e0:=yi.1 e0;subst e0;have e1:ks3=[]:=e1;subst e1;rw[z2,hm0,UF]at s2;have hO:AFW [] [] np=[]:=zm.2 fun p _ h=>by
  have h:(true && [].contains p)=true:=h;cases h
 rw[hO]at s2;have k1:call AC (m+8) 35 [AI AT ((3*np:Nat):Int)] h=.ok (.tuple ⟨[pt bd,AI AT 0]⟩) h1:=k1;have x2:h.Ext h2:=Fx.AKB x1 f2 fun b hb=>by rcases hb with rfl|rfl|rfl<;>assumption
 refine⟨h2,bs,bd,bm,bc,lv,fv,c1,AEc,?_,x2,s2,wd x1.next l4,l1,l2,l3,ha⟩;have c0:iEq 0 0=true:=Ci rfl;rw[nS rfl];unfold d10;simp only[iN,IS,sT,By,BY,reduceIte,gD,cA0,k1,BK,BW,BZ,k2,AJ,AH,c0,Bg,Mp]
end
end
noncomputable section
open Go
set_option maxRecDepth 100000
theorem rU:wiS=BI (AY 0 (Aw wiB)) wiE:=rfl
theorem pJ:d34=gA:=rfl
def Kt.c5(k:Kt):Int×Int×Int×Nat×List Nat:=(k.a,k.b,k.c,k.s,k.l)
section
variable {e:Env}{h h':Hp}{m k k':Nat}{ks ks':List Kt}{v w:IN}{x y:Kt}
theorem fG:J1 x.a x.b x.c x.s x.l y.a y.b y.c y.s y.l=decide (x.c5=y.c5):=by
 unfold J1;refine decide_eq_decide.2 ⟨fun⟨e1,e2,e3,e4,e5⟩=>?_,fun g=>?_⟩
 ·unfold Kt.c5
  rw[e1,e2,e3,e4,e5]
 ·exact⟨congrArg (·.1) g,congrArg (·.2.1) g,congrArg (·.2.2.1) g,congrArg (·.2.2.2.1) g,congrArg (·.2.2.2.2) g⟩
theorem Cg.c5(h:Cg ks ks'):ks.map Kt.c5=ks'.map Kt.c5:=by
 have e:∀ l:List Kt,l.map Kt.c5=(l.map Kt.core).map fun c=>(c.a,c.b,c.c,c.s,c.l):=fun l=>by rw[zb];rfl
 rw[e,e,show ks.map Kt.core=ks'.map Kt.core from h]
theorem dq(W:h.Wf)(V:h.AL k v ks)(V':h.AL k' w ks')(hb:∀ x∈ks,∀ y∈x.l,y<256)(hb':∀ x∈ks',∀ y∈x.l,y<256)(x0:h.Ext h'){i j:Nat}(hx:ks[i]? =some x)(hy:ks'[j]? =some y):
  ∃ h7 p q u u',AE0 5 v (AI AT (i:Int)) h'.marked=.ok p h'.marked/\Kv 5 p h'.marked=.ok (Bv x.a x.b x.c x.s u) h'.marked/\AE0 5 w (AI AT (j:Int)) h'.marked=.ok q h'.marked/\Kv 5 q h'.marked=.ok (Bv y.a y.b y.c y.s u') h'.marked/\h'.Ext h7/\
   ∀ (e:Env) (g1 g2:O),g1 e=Bv x.a x.b x.c x.s u->g2 e=Bv y.a y.b y.c y.s u'->Al .free (AS 32 [g1,g2]) (call AC (m+2)) e h'.marked=.ok (.bool (decide (x.c5=y.c5))) h7:=by
 have xm:=x0.marked;obtain⟨b1,u,ix1,ld1,AKz⟩:=(V.ext W xm).at hx;obtain⟨b2,u',ix2,ld2,U'⟩:=(V'.ext W xm).at hy;obtain⟨g,k6,x6⟩:=dN (m:=m) (a:=x.a) (b:=x.b) (c:=x.c) (s:=x.s) (a':=y.a) (b':=y.b) (c':=y.c) (s':=y.s) xm.quiet.wf (AKz.same (h':=h'.marked.quiet) rfl) (U'.same (h':=h'.marked.quiet) rfl) (hb x (vy hx)) (hb' y (vy hy));rw[fG]at k6;exact⟨_,_,_,u,u',ix1,ld1,ix2,ld2,(Hp.Ext.refl x0.wf).marked.trans (.back x6),fun e g1 g2 e1 e2=>by
  refine BO ?_;rw[Ba,AV,AV,A1,e1,e2];exact k6⟩
theorem Sz(W:h.Wf)(V:h.AL k v ks)(V':h.AL k' w ks')(hb:∀ x∈ks,∀ y∈x.l,y<256)(hb':∀ x∈ks',∀ y∈x.l,y<256)(hl:ks.length<=1000):
  ∃ r h',call AC (m+3) 25 [v,w] h=.ok (.bool r) h'/\h.Ext h'/\(Cg ks ks'->r=true):=by
 have ln:=V.len h;have ln':=V'.len h;by_cases hll:ks.length=ks'.length
 case neg=>
  have c00:iNe (ks.length:Int) (ks'.length:Int)=true:=FH (by omega);refine⟨false,h,?_,.refl W,fun g=>absurd g.len hll⟩;rw[Tl rfl,Tw];unfold Zy;simp only[iN,IS,sT,By,BY,reduceIte,AX,ln,ln',AJ,AH,c00,lV0]
 have c00:iNe (ks.length:Int) (ks'.length:Int)=false:=CY (by rw[hll]);have pre:∃ e1,Zy (call AC (m+2)) (AQ e0 0 [v,w]) h=smS (call AC (m+2)) e1 h/\J 0 e1=v/\J 1 e1=w/\J 5 e1=AI AT ((0:Nat):Int):=by
  unfold Zy;simp only[iN,IS,sT,By,BY,reduceIte,AX,ln,ln',AJ,AH,c00];exact⟨_,rfl,by simp[AD]⟩
 obtain⟨e1,p1,t0,t1,t5⟩:=pre;have run:(∃ e2 h2,Aw smL (call AC (m+2)) e1 h=.exit 0 e2 h2/\h.Ext h2)\/∃ e2 h2,Aw smL (call AC (m+2)) e1 h=.ret e2 h2/\J 4 e2=.bool false/\h.Ext h2/\¬ Cg ks ks':=by
  refine BU (I:=fun i e' h'=>h.Ext h'/\J 0 e'=v/\J 1 e'=w/\J 5 e'=AI AT (i:Int)/\i<=ks.length)
   (Q:=fun x=>(∃ e2 h2,x=.exit 0 e2 h2/\h.Ext h2)\/∃ e2 h2,x=.ret e2 h2/\J 4 e2=.bool false/\h.Ext h2/\¬ Cg ks ks') ks.length (by omega) (fun i e' h' ⟨x',u0,u1,u5,hi⟩=>?_) ⟨.refl W,t0,t1,t5,wP _⟩
  have W':=x'.wf;have ln:=V.len h';by_cases hlt:i<ks.length
  ·have c1:=EF hlt
   obtain⟨x,hx⟩:∃ x,ks[i]? =some x:=⟨_,sh hlt⟩;obtain⟨y,hy⟩:∃ y,ks'[i]? =some y:=⟨_,sh (by omega)⟩;obtain⟨h7,p,q,u,u',ix1,ld1,ix2,ld2,y7,q6⟩:=dq (m:=m) W V V' hb hb' x' hx hy;by_cases hc:x.c5=y.c5
   ·left
    rw[decide_eq_true hc]at q6;have a3:=CF (i:=i) (h:=h7) (by omega);have hrun:∃ e2,smL (call AC (m+2)) e' h'=.norm e2 h7/\J 0 e2=v/\J 1 e2=w/\J 5 e2=AI AT ((i+1:Nat):Int):=by
     unfold smL;simp only[sT,By,BY,reduceIte,AX,u0,ln,AJ,AH,u5,c1,A3,Ay,ix1,Aq,ld1,u1,ix2,ld2,q6,Bi,Bh,xJ,BG,a3];exact⟨_,rfl,by simp[AD,u0,u1]⟩
    obtain⟨e2,r1,r2,r3,r4⟩:=hrun;exact⟨hlt,e2,h7,r1,x'.trans y7,r2,r3,r4,hlt⟩
   ·right
    rw[decide_eq_false hc]at q6;have hrun:∃ e2,smL (call AC (m+2)) e' h'=.ret e2 h7/\J 4 e2=.bool false:=by
     unfold smL;simp only[sT,By,BY,reduceIte,AX,u0,ln,AJ,AH,u5,c1,A3,Ay,ix1,Aq,ld1,u1,ix2,ld2,q6,Bi,Bh,yA];exact⟨_,rfl,by simp[AD]⟩
    obtain⟨e2,r1,r2⟩:=hrun;rw[r1];refine⟨rfl,.inr ⟨e2,h7,rfl,r2,x'.trans y7,fun g=>hc ?_⟩⟩;have h6:=congrArg (fun l=>l[i]?) g.c5;simp only[List.getElem?_map,hy,hx,Option.map_some]at h6;exact Option.some.inj h6
  ·right
   have c1:=Cz (show ks.length<=i by omega);obtain⟨e2,r1⟩:∃ e2,smL (call AC (m+2)) e' h'=.exit 0 e2 h':=by
    unfold smL;simp only[sT,By,BY,reduceIte,AX,u0,ln,AJ,AH,u5,c1];exact⟨_,rfl⟩
   rw[r1];exact⟨rfl,.inl ⟨e2,h',rfl,x'⟩⟩
 rcases run with ⟨e2,h2,r1,x2⟩|⟨e2,h2,r1,r2,x2,hn⟩
 ·refine⟨true,h2,?_,x2,fun _=>rfl⟩
  rw[Tl rfl,Tw,p1,dV];simp only[BB,Ap,r1,Az,A8];unfold smE;simp only[sT,By,BY,reduceIte,lV0]
 ·refine⟨false,h2,?_,x2,fun g=>absurd g hn⟩
  rw[Tl rfl,Tw,p1,dV];simp only[BB,Ap,r1,Bz,CU,lV0,r2]
theorem PD(W:h.Wf)(V:h.AL k v ks)(V':h.AL k' w ks')(hb:∀ x∈ks,∀ y∈x.l,y<256)(hb':∀ x∈ks',∀ y∈x.l,y<256)(hl:ks.length<=1000)(hl':ks'.length<=1000)(hs:(ks.map Kt.c5).Sublist (ks'.map Kt.c5)):
  ∃ h',call AC (m+3) 34 [v,w] h=.ok (.bool true) h'/\h.Ext h':=by
 have pre:∃ e1,gA (call AC (m+2)) (AQ e0 0 [v,w]) h=wiS (call AC (m+2)) e1 h/\J 0 e1=v/\J 1 e1=w/\J 5 e1=AI AT ((0:Nat):Int)/\J 6 e1=AI AT ((0:Nat):Int):=by
  unfold gA;simp only[iN,IS,sT,By,BY,reduceIte];exact⟨_,rfl,by simp[AD]⟩
 obtain⟨e1,p1,t0,t1,t5,t6⟩:=pre;have run:∃ e2 h2,Aw wiB (call AC (m+2)) e1 h=.exit 0 e2 h2/\h.Ext h2/\J 0 e2=v/\J 5 e2=AI AT (ks.length:Int):=by
  refine BU (I:=fun i e' h'=>∃ j:Nat,h.Ext h'/\J 0 e'=v/\J 1 e'=w/\J 5 e'=AI AT (j:Int)/\J 6 e'=AI AT (i:Int)/\i<=ks'.length/\j<=ks.length/\((ks.drop j).map Kt.c5).Sublist ((ks'.drop i).map Kt.c5))
   (Q:=fun x=>∃ e2 h2,x=.exit 0 e2 h2/\h.Ext h2/\J 0 e2=v/\J 5 e2=AI AT (ks.length:Int)) ks'.length (by omega) (fun i e' h' ⟨j,x',u0,u1,u5,u6,hi,hj,hsub⟩=>?_) ⟨0,.refl W,t0,t1,t5,t6,wP _,wP _,hs⟩
  have W':=x'.wf;have ln:=V.len h';have ln':=V'.len h';by_cases hlt:i<ks'.length
  ·have c1:=EF hlt
   by_cases hjt:j<ks.length
   ·left
    have c2:=EF hjt;obtain⟨x,hx⟩:∃ x,ks[j]? =some x:=⟨_,sh hjt⟩;obtain⟨y,hy⟩:∃ y,ks'[i]? =some y:=⟨_,sh hlt⟩;have dx:ks.drop j=x::ks.drop (j+1):=by
     rw[xW hjt,(wC.1 hx).2]
    have dy:ks'.drop i=y::ks'.drop (i+1):=by
     rw[xW hlt,(wC.1 hy).2]
    rw[dx,dy,xV,xV]at hsub;obtain⟨h7,p,q,u,u',ix1,ld1,ix2,ld2,y7,q6⟩:=dq (m:=m) W V V' hb hb' x' hx hy;have a3:=CF (i:=i) (h:=h7) (by omega);by_cases hc:x.c5=y.c5
    ·rw[decide_eq_true hc]at q6
     rw[hc,List.cons_sublist_cons]at hsub;have a4:=CF (i:=j) (h:=h7) (by omega);have hrun:∃ e2,wiB (call AC (m+2)) e' h'=.norm e2 h7/\J 0 e2=v/\J 1 e2=w/\J 5 e2=AI AT ((j+1:Nat):Int)/\J 6 e2=AI AT ((i+1:Nat):Int):=by
      unfold wiB;simp only[sT,By,BY,reduceIte,gD,AX,u0,u1,ln,ln',AJ,AH,u5,u6,c1,c2,A3,Ay,ix1,Aq,ld1,ix2,ld2,q6,BG,a3,a4];exact⟨_,rfl,by simp[AD,u0,u1]⟩
     obtain⟨e2,r1,r2,r3,r4,r5⟩:=hrun;exact⟨hlt,e2,h7,r1,j+1,x'.trans y7,r2,r3,r4,r5,hlt,hjt,hsub⟩
    ·rw[decide_eq_false hc]at q6
     have hrun:∃ e2,wiB (call AC (m+2)) e' h'=.norm e2 h7/\J 0 e2=v/\J 1 e2=w/\J 5 e2=AI AT (j:Int)/\J 6 e2=AI AT ((i+1:Nat):Int):=by
      unfold wiB;simp only[sT,By,BY,reduceIte,gD,AX,u0,u1,ln,ln',AJ,AH,u5,u6,c1,c2,A3,Ay,ix1,Aq,ld1,ix2,ld2,q6,BG,a3];exact⟨_,rfl,by simp[AD,u0,u1,u5]⟩
     obtain⟨e2,r1,r2,r3,r4,r5⟩:=hrun;refine⟨hlt,e2,h7,r1,j,x'.trans y7,r2,r3,r4,r5,hlt,hj,?_⟩;rw[dx,xV];rcases List.sublist_cons_iff.1 hsub with g|⟨r,g1,_⟩
     ·exact g
     ·exact absurd (ACL.inj g1).1 hc
   ·right
    obtain rfl:j=ks.length:=by omega
    have c2:=Cz (IT ks.length);obtain⟨e2,r1,r2,r3⟩:∃ e2,wiB (call AC (m+2)) e' h'=.exit 0 e2 h'/\J 0 e2=v/\J 5 e2=AI AT (ks.length:Int):=by
     unfold wiB;simp only[sT,By,BY,reduceIte,gD,AX,u0,u1,ln,ln',AJ,AH,u5,u6,c1,c2];exact⟨_,rfl,by simp[AD,u0,u5]⟩
    rw[r1];exact⟨rfl,e2,h',rfl,x',r2,r3⟩
  ·right
   obtain rfl:i=ks'.length:=by omega
   have c1:=Cz (IT ks'.length);rw[List.drop_length,List.map_nil,List.sublist_nil,yi,List.drop_eq_nil_iff]at hsub;obtain rfl:j=ks.length:=by omega
   obtain⟨e2,r1,r2,r3⟩:∃ e2,wiB (call AC (m+2)) e' h'=.exit 0 e2 h'/\J 0 e2=v/\J 5 e2=AI AT (ks.length:Int):=by
    unfold wiB;simp only[sT,By,BY,reduceIte,gD,AX,u0,u1,ln,ln',AJ,AH,u5,u6,c1];exact⟨_,rfl,by simp[AD,u0,u5]⟩
   rw[r1];exact⟨rfl,e2,h',rfl,x',r2,r3⟩
 obtain⟨e2,h2,r1,x2,r0,r5⟩:=run;have ln:=V.len h2;have c00:iEq (ks.length:Int) (ks.length:Int)=true:=Ci rfl;refine⟨h2,?_,x2⟩;rw[ng rfl,pJ,p1,rU];simp only[BB,Ap,r1,Az,A8];unfold wiE;simp only[sT,By,BY,reduceIte,AX,r0,ln,AJ,AH,r5,c00,lV0]
end
end
noncomputable section
open Go
set_option maxRecDepth 100000
structure Od where
 kd:Int
 a:Int
 b:Int
 c:Int
 no:Int
 u:IN
 w:IN
 l:List Nat
def Od.cells(x:Od):List IN:=opL x.kd x.a x.b x.c x.no x.u x.w
def Od.val(x:Od):IN:=opV x.kd x.a x.b x.c x.no x.u x.w
def flO(xs:List Od):List IN:=xs.flatMap Od.cells
def Fq(h:Hp)(x:Od):Prop:=h.VE x.u (x.l.map bv)/\(∀ y∈x.l,y<256)/\x.l.length<=150/\oneCell x.u=true/\AIP x.w
def Hp.OL(h:Hp)(k:Nat)(v:IN)(xs:List Od):Prop:=(v=AEP/\xs=[])\/∃ b,v=.slice (some ⟨b,0,none⟩) xs.length xs.length/\h.Row b 55 (flO xs)/\k<=b
def nxO(p:List Kt×List Nat)(x:Od):List Kt×List Nat:=nxt p.1 p.2 x.kd x.a x.b x.c x.l
def Ga(xs:List Od):List Kt×List Nat:=xs.foldl nxO ([],wm 8)
theorem Kz(xs:List Od)(x:Od):Ga (xs++[x])=nxO (Ga xs) x:=by unfold Ga;rw[List.foldl_append];rfl
theorem Pb:∀ xs:List Od,(flO xs).length=xs.length*7
 |[]=>rfl
 |x::l=>by
  show(x.cells++flO l).length=_;rw[No,Pb l,List.length_cons];show 7+l.length*7=_;omega
theorem Vv:∀ (xs:List Od) (i:Nat) (x:Od),xs[i]? =some x->((flO xs).drop (i*7)).take 7=x.cells
 |[],i,x,h=>by cases h
 |y::xs,0,x,h=>by
  have h:some y=some x:=h;cases h;rfl
 |y::xs,i+1,x,h=>by
  show((y.cells++flO xs).drop ((i+1)*7)).take 7=_;rw[List.drop_append,List.drop_of_length_le (show y.cells.length<=_ by show 7<=_;omega),List.nil_append,show(i+1)*7 - y.cells.length=i*7 by show(i+1)*7 - 7=_;omega];exact Vv xs i x h
def UpK(fa:Bool)(h:Hp)(A:At)(T:List Nat)(ks:List Kt)(fr:List Nat):Prop:=
 ∃ M c0 arm lv fv,Sl h A T M c0 arm ks fr lv fv 0 false/\AEq 8 ks fr/\AE6 8 T M ks fr/\Com ks/\ks.Pairwise LtK/\AE3 fa arm
theorem rO:twS=BI (AY 0 (Aw twB)) twE:=rfl
theorem pI:d33=f0:=rfl
theorem jz:BQ dz.zero 1=opL 0 0 0 0 0 AEP AEP:=by kernel_rfl
section
variable {fa:Bool}{F:AEB}{e:Env}{h h' h0 g:Hp}{A:At}{T M:List Nat}{m k k' n tb:Nat}{ks:List Kt}{fr:List Nat}{v w:IN}{xs:List Od}{x:Od}
theorem SS(W:h.Wf){g:O}(hg:g e=x.val):Aj 1 (BQ dz.zero 1) [(0,7,g)] F e h=.ok (.slice (some ⟨h.next,0,none⟩) 1 1) (h.AEA 0 x.cells):=by
 rw[jz,CT,BE (hk:=by rw[hg];rfl),hg,show cellsOf x.val=x.cells from rfl,if_pos (show x.cells.length=7 from rfl),if_pos (show 0+7<=(opL 0 0 0 0 0 AEP AEP).length from IT _),CO,Cw W];rfl
theorem Fq.ext(o:Fq h x)(W:h.Wf)(y:h.Ext h'):Fq h' x:=⟨o.1.ext W y,o.2⟩
theorem Hp.OL.ext(o:h.OL k v xs)(W:h.Wf)(y:h.Ext h'):h'.OL k v xs:=by
 rcases o with h1|⟨b,h1,h2,h3⟩
 ·exact .inl h1
 ·exact .inr ⟨b,h1,h2.ext W y,h3⟩
theorem Hp.OL.len(o:h.OL k v xs)(g:Hp):AE5 v g=.ok (AI AT (xs.length:Int)) g:=by
 rcases o with ⟨rfl,rfl⟩|⟨b,rfl,_⟩
 ·exact Dv
 ·exact Dv
theorem Hp.OL.at(o:h.OL k v xs){i:Nat}(hi:xs[i]? =some x):∃ b,AE0 7 v (AI AT (i:Int)) h=.ok (.pointer (some ⟨b,i*7,none⟩)) h/\loadN 7 ⟨b,i*7,none⟩ h=.ok x.val h:=by
 have hil:=(wC.1 hi).1;rcases o with ⟨rfl,rfl⟩|⟨b,rfl,h2,h3⟩
 ·cases hi
 ·refine⟨b,?_,?_⟩
  ·have:=Cy (h:=h) (n:=xs.length) (c:=xs.length) (es:=7) (b:=b) (off:=0) (i:=i) (k:=.i64) hil
   rwa [vk]at this
  ·rw[h2.loadN (by rw[Pb];omega),Vv xs i x hi];rfl
theorem Hp.OL.app(o:h.OL k v xs)(W0:h0.Wf)(x0:h0.Ext h)(hk:h0.next<=k)(hkn:k<=h.next)(hl:xs.length<=1000)(hu:oneCell x.u=true)(hw:oneCell x.w=true):
  ∃ h' v',DQ 7 88 54 v (.slice (some ⟨h.next,0,none⟩) 1 1) (h.AEA 0 x.cells)=.ok v' h'/\h0.Ext h'/\h'.OL k v' (xs++[x])/\∀ b,b<h.next->(∀ L,¬ h.Row b 55 L)->h'.bl.get b=h.bl.get b:=by
 have W:=x0.wf;have x1:=x0.AEA 0 x.cells;have y1:=(Hp.Ext.refl W).AEA 0 x.cells;have Rw:=Hp.Row.new W 0 x.cells;have hn1:h.next<=(h.AEA 0 x.cells).next:=y1.next;have big:=W0.big;generalize h.AEA 0 x.cells=h1 at x1 y1 Rw hn1;have hs:∀ K:List IN->R,BJ h1 7 (.slice (some ⟨h.next,0,none⟩) 1 1) 1 K=K x.cells:=fun K=>Rw.AGM (es:=7) (off:=0) (n:=1) (by show 0+1 * 7<=7;omega)
 have ha:Bc x.cells=true:=by
  show(bif oneCell x.u then(bif oneCell x.w then true else false)else false)=true;rw[hu,hw];rfl
 rcases o with ⟨rfl,rfl⟩|⟨b,rfl,r,hb⟩
 ·obtain⟨h5,a1,a2,a3,a4,_,a6⟩:=L2 (eb:=88) (en:=54) x1 hs rfl rfl ha (by omega)
  exact⟨h5,_,a1,a2,.inr ⟨_,rfl,by rw[show flO ([]++[x])=x.cells from wF _];exact a3,by omega⟩,fun b hb _=>(a6.get b (by omega)).trans (y1.get b hb)⟩
 ·obtain⟨h5,a1,a2,a3,_,_,a6⟩:=ON (eb:=88) (en:=54) (n:=xs.length) x1 hs rfl rfl (by omega) ha (r.ext W y1) (Pb xs) (by omega) (by omega) (by omega)
  refine⟨h5,_,a1,a2,.inr ⟨_,by rw[No];rfl,?_,by omega⟩,fun b' hb' hn=>(a6 b' (by omega) fun e=>hn _ (e ▸ r)).trans (y1.get b' hb')⟩;rw[show flO (xs++[x])=flO xs++x.cells by unfold flO;rw[List.flatMap_append];exact congrArg _ (wF _)];exact a3
structure AGU (h h':Hp):Prop where
 row:∀ b el L,el≠55->h.Row b el L->h'.Row b el L
 map:∀ b es c,h.bl.get b=.map es c->h'.bl.get b=.map es c
theorem AGU.of(W:h.Wf)(hg:∀ b,b<h.next->(∀ L,¬ h.Row b 55 L)->h'.bl.get b=h.bl.get b):AGU h h':=by
 refine⟨fun b el L he r=>?_,fun b es c hm=>?_⟩
 ·have hb:=r.lt W
  have hn:∀ L',¬ h.Row b 55 L':=fun L' r'=>Cp r r' he rfl
  obtain⟨c',hc',hl'⟩:=r;exact⟨c',(hg b hb hn).trans hc',hl'⟩
 ·rw[hg b ?_ fun L r=>G6 r hm rfl,hm]
  rcases Nat.lt_or_ge b h.next with h1|h1
  ·exact h1
  ·have:=W.fresh b h1
   rw[hm]at this;cases this
theorem Sl.kp{M:List Nat}{c0 bad:Nat}{arm:Int}{lv fv:IN}{ov:Bool}(s:Sl h A T M c0 arm ks fr lv fv bad ov)(p:AGU h h'):Sl h' A T M c0 arm ks fr lv fv bad ov:=by
 refine⟨p.row _ _ _ (by omega) s.row,⟨p.row _ _ _ (by omega) s.dk.disk,p.row _ _ _ (by omega) s.dk.med,s.dk.len,s.dk.byt,p.map _ _ _ s.dk.map,s.dk.big,s.dk.n1⟩,p.row _ _ _ (by omega) s.tab,s.tok,?_,fun k hk=>⟨?_,(s.ko k hk).2⟩,?_,s.ne,s.le⟩
 ·rcases s.ls with h1|⟨b,c,el,L,h1,h2,h3,h4,h5,h6,h7⟩
  ·exact .inl h1
  ·exact .inr ⟨b,c,el,L,h1,h2,p.row _ _ _ (by omega) h3,h4,h5,h6,h7⟩
 ·rcases (s.ko k hk).1 with h1|⟨b,off,c,el,L,h1,h2,h3,h4,h5,h6,h7⟩
  ·exact .inl h1
  ·exact .inr ⟨b,off,c,el,L,h1,h2,p.row _ _ _ (by omega) h3,h4,h5,h6,h7⟩
 ·rcases s.fs with h1|⟨b,el,h1,h2,h3,h4⟩
  ·exact .inl h1
  ·exact .inr ⟨b,el,h1,p.row _ _ _ (by omega) h2,h3,h4⟩
theorem AFO.kp{cs:List (Nat×List Nat)}(d:AFO fa h A T M cs)(p:AGU h h'):AFO fa h' A T M cs:=by
 obtain⟨lv,fv,bad,r⟩:=d.row;obtain⟨c0,q⟩:=d.dk;exact⟨⟨lv,fv,bad,p.row _ _ _ (by omega) r⟩,⟨c0,p.row _ _ _ (by omega) q.disk,p.row _ _ _ (by omega) q.med,q.len,q.byt,p.map _ _ _ q.map,q.big,q.n1⟩,p.row _ _ _ (by omega) d.tab,d.tok,d.key,d.sec,d.ne,d.may⟩
theorem TH(W:h.Wf)(hA:A.n=24)(AKz:UpK fa h A T ks fr)(o:Fq h x):
  (∃ z h' ks' fr',call AC (m+10) 22 [pt A.bs,x.val] h=.ok (AI AT z) h'/\Fx A.D h h'/\UpK fa h' A T ks' fr'/\Cg ks' (nxO (ks,fr) x).1/\fr'=(nxO (ks,fr) x).2)\/
  (∃ h' M cs,call AC (m+10) 22 [pt A.bs,x.val] h=.ok (AI AT 15) h'/\Fx A.D h h'/\AFO fa h' A T M cs/\AFz 8 T M cs (Aft ks fr x.kd x.a x.b x.c x.l)):=by
 obtain⟨M,c0,arm,lv,fv,s,iv,md,hc,ha,hb⟩:=AKz;have hln:=iv.len;rcases aL (m:=m) W s o.1 o.2.1 (by have:=o.2.2.1;omega) (by omega) (by omega) (fun z hz=>by have:=iv.lt z hz;omega) iv.nd hb x.kd x.a x.b x.c x.no x.w with ⟨z,h2,c2,AGd,lv2,fv2,hq,k2,f2,s2,a2⟩|⟨ks',fr',M',h2,c2,AGd,lv2,fv2,ht,k2,f2,s2,a2⟩|⟨q,h2,hf,k2,f2,d2⟩
 ·refine .inl ⟨z,h2,ks,fr,k2,f2,⟨M,c2,AGd,lv2,fv2,s2,iv,md,hc,ha,a2⟩,?_⟩
  unfold nxO;rw[show nxt (ks,fr).1 (ks,fr).2 x.kd x.a x.b x.c x.l=(ks,fr)from Yd hq];exact⟨rfl,rfl⟩
 ·obtain⟨g1,g2⟩:=TN iv hc ht
  obtain⟨md',hc',_⟩:=TM iv md hc ht;exact .inl ⟨0,h2,ks',fr',k2,f2,⟨M',c2,AGd,lv2,fv2,s2,(Nq iv ht).1,md',hc',g1.asc (WY ha iv.key),a2⟩,g1,g2⟩
 ·exact .inr ⟨h2,q.1,q.2,k2,f2,d2,fun M' hk=>Xr md iv hc o.2.1 hf hk⟩
theorem UpK.ext(AKz:UpK fa h A T ks fr)(W:h.Wf)(y:h.Ext h'):UpK fa h' A T ks fr:=by
 obtain⟨M,c0,arm,lv,fv,s,r⟩:=AKz;exact⟨M,c0,arm,lv,fv,s.ext W y,r⟩
theorem UpK.kp(AKz:UpK fa h A T ks fr)(p:AGU h h'):UpK fa h' A T ks fr:=by
 obtain⟨M,c0,arm,lv,fv,s,r⟩:=AKz;exact⟨M,c0,arm,lv,fv,s.kp p,r⟩
theorem UpK.inv(AKz:UpK fa h A T ks fr):AEq 8 ks fr:=by
 obtain⟨M,c0,arm,lv,fv,s,r,_⟩:=AKz;exact r
theorem Uc{p:List Kt×List Nat}(h:Cg ks p.1)(hf:fr=p.2)(iv:AEq 8 ks fr):Cg (nxO (ks,fr) x).1 (nxO p x).1/\(nxO (ks,fr) x).2=(nxO p x).2:=by
 subst hf;exact qj h (h.symm.key iv.key)
theorem XG(W0:h0.Wf)(x0:h0.Ext h)(Rt:h.Row tb 0 (T.map wv))(hT:AE1 T)(O:h.OL k v xs)(hx:∀ x∈xs,Fq h0 x)(hl:xs.length<=100):
  ∃ h' k' v' ks,call AC (m+11) 33 [pt tb,v] h=.ok (.tuple ⟨[v',.bool true]⟩) h'/\h.Ext h'/\h.next<=k'/\h'.AL k' v' ks/\Cg ks (Ga xs).1/\(∀ x∈ks,∀ y∈x.l,y<256)/\ks.length<=8:=by
 have W:=x0.wf;obtain⟨h1,bs,bd,bm,bc,lv1,fv1,c1,AGx,k1,x1,s1,l1,l2,l3,l4,a1⟩:=NU (m:=m+1) (np:=8) W Rt hT ⟨by omega,by omega⟩;have k1:call AC (m+10) 10 [pt tb,AI AT 24] h=.ok (.tuple ⟨[pt bd,pt bs,.bool true]⟩) h1:=k1;have hD:∀ b,At.D ⟨bs,bd,bm,bc,tb,24⟩ b->h.next<=b:=fun b hb=>by
  rcases hb with h1|h1|h1|h1<;>rw[h1]<;>assumption
 have U1:UpK false h1 ⟨bs,bd,bm,bc,tb,24⟩ T [] (wm 8):=⟨_,c1,AGx,lv1,fv1,s1,qG 8,bW 8,fun x hx=>(by cases hx),.nil,a1⟩;have ln:=O.len h1;obtain⟨e1,p1,t7,t19,t20,t21⟩:∃ e1,f0 (call AC (m+10)) (AQ e0 0 [pt tb,v]) h=twS (call AC (m+10)) e1 h1/\J 7 e1=pt bs/\J 19 e1=v/\J 20 e1=AI AT (xs.length:Int)/\J 21 e1=AI AT ((0:Nat):Int):=by
  unfold f0;simp only[iN,IS,sT,By,BY,reduceIte,cA0,k1,BK,BW,BZ,C3,Bi,Bh,xJ,AX,ln];exact⟨_,rfl,by simp[AD]⟩
 have run:∃ e2 h2 ks fr,Aw twB (call AC (m+10)) e1 h1=.exit 0 e2 h2/\h.Ext h2/\J 7 e2=pt bs/\UpK false h2 ⟨bs,bd,bm,bc,tb,24⟩ T ks fr/\Cg ks (Ga xs).1:=by
  refine BU (I:=fun i e' h'=>∃ ks fr,h.Ext h'/\J 7 e'=pt bs/\J 19 e'=v/\J 20 e'=AI AT (xs.length:Int)/\J 21 e'=AI AT (i:Int)/\i<=xs.length/\UpK false h' ⟨bs,bd,bm,bc,tb,24⟩ T ks fr/\Cg ks (Ga (xs.take i)).1/\fr=(Ga (xs.take i)).2)
   (Q:=fun x=>∃ e2 h2 ks fr,x=.exit 0 e2 h2/\h.Ext h2/\J 7 e2=pt bs/\UpK false h2 ⟨bs,bd,bm,bc,tb,24⟩ T ks fr/\Cg ks (Ga xs).1) xs.length (by omega) (fun i e' h' ⟨ks,fr,x',t7,t19,t20,t21,hi,AKz,g1,g2⟩=>?_) ⟨[],wm 8,x1,t7,t19,t20,t21,wP _,U1,rfl,rfl⟩
  have W':=x'.wf;by_cases hlt:i<xs.length
  ·left
   have c1:=EF hlt;obtain⟨x,hxi⟩:∃ x,xs[i]? =some x:=⟨_,sh hlt⟩;obtain⟨b,ix,ld⟩:=(O.ext W x').at hxi;have ok:=hx x (vy hxi);have al:=fun (F:AEB) (e:Env)=>Bx (F:=F) (e:=e) W' (n:=7) (t:=N5)
   have Ra:=Hp.Row.alloc W' XP (show(opL 0 0 0 0 0 AEP AEP).length=7 from rfl);have y1:h'.Ext (h'.push (.cells N5 7 0)):=(Hp.Ext.refl W').push _;generalize h'.push (.cells N5 7 0)=h3 at al Ra y1;obtain⟨st,y2,R2⟩:=AG3 W' y1 (IT _) Ra rfl (kd:=x.kd) (a:=x.a) (b:=x.b) (c:=x.c) (no:=x.no) ok.2.2.2.1 ok.2.2.2.2.1;have st:AER 7 (pt h'.next) x.val h3=_:=st;generalize h3.wr h'.next 0 (opL x.kd x.a x.b x.c x.no x.u x.w)=h4 at st y2 R2;have ld2:loadN 7 ⟨h'.next,0,none⟩ h4=.ok x.val h4:=R2.loadN (off:=0) (n:=7) (by show 0+7<=7;omega);have x4:=x'.trans y2;rcases TH (m:=m) x4.wf rfl (AKz.ext W' y2) (ok.ext W0 (x0.trans x4))with ⟨z,h5,ks',fr',k5,f5,U5,q1,q2⟩|⟨_,_,_,_,_,dd,_⟩
   case inr=>cases dd.may
   have k5:call AC (m+10) 22 [pt bs,x.val] h4=.ok (AI AT z) h5:=k5;have x5:=Fx.xtF x4 f5 hD;have a3:=CF (i:=i) (h:=h5) (by omega);obtain⟨e2,r1,r7,r19,r20,r21⟩:∃ e2,twB (call AC (m+10)) e' h'=.norm e2 h5/\J 7 e2=pt bs/\J 19 e2=v/\J 20 e2=AI AT (xs.length:Int)/\J 21 e2=AI AT ((i+1:Nat):Int):=by
    unfold twB;simp only[sT,By,BY,reduceIte,AJ,AH,t21,t20,c1,Ay,t19,ix,Aq,As,ld,al,Ab,st,ld2,cA0,t7,k5,BG,a3];exact⟨_,rfl,by simp[AD,t7,t19,t20]⟩
   have htk:xs.take (i+1)=xs.take i++[x]:=by rw[List.take_add_one,hxi];rfl
   obtain⟨q3,q4⟩:=Uc (x:=x) g1 g2 AKz.inv;rw[<- Kz,<- htk]at q3 q4;exact⟨hlt,e2,h5,r1,ks',fr',x5,r7,r19,r20,r21,hlt,U5,q1.trans q3,q2.trans q4⟩
  ·right
   obtain rfl:i=xs.length:=by omega
   have c1:=Cz (IT xs.length);obtain⟨e2,r1,r7⟩:∃ e2,twB (call AC (m+10)) e' h'=.exit 0 e2 h'/\J 7 e2=pt bs:=by
    unfold twB;simp only[sT,By,BY,reduceIte,AJ,AH,t21,t20,c1];exact⟨_,rfl,by simp[AD,t7]⟩
   rw[r1];rw[List.take_length]at g1;exact⟨rfl,e2,h',ks,fr,rfl,x',r7,AKz,g1⟩
 obtain⟨e2,h2,ks,fr,r1,x2,r7,U2,g⟩:=run;obtain⟨M,c0,arm,lv,fv,s,iv,_⟩:=U2;have hln:=iv.len;obtain⟨h3,v3,k3,x3,V3⟩:=PK (m:=m+6) x2.wf s.row s.ls (Sl.all s) (by omega);have k3:call AC (m+10) 21 [pt bs] h2=.ok v3 h3:=k3;refine⟨h3,_,v3,ks,?_,x2.trans x3,x2.next,V3,g,fun x hx=>(s.ko x hx).2.1,by omega⟩;rw[nf rfl,pI,p1,rO];simp only[BB,Ap,r1,Az,A8];unfold twE;simp only[sT,By,BY,reduceIte,cA0,r7,k3,Bg,C7]
end
end
noncomputable section
open Go
set_option maxRecDepth 100000
theorem UT:kpB=bK:=rfl
theorem UU:kpK=BI (AY 1 kpB) kpI:=rfl
theorem UV:kpL=bL:=rfl
def kq(j:Nat):Prop:=j=0\/j=2\/j=3\/j=4\/j=11\/j=12\/j=13\/j=16
def od0:Od:=⟨0,0,0,0,0,AEP,AEP,[]⟩
def JJ(h:Hp)(A:At)(T:List Nat)(y:Od)(B:List Kt)(fr:List Nat)(ov:Bool):Prop:=
 AEq 8 B fr/\Com B/\B.Pairwise LtK/\((ov=false/\UpK true h A T B fr)\/(ov=true/\∃ M cs,AFO true h A T M cs/\AFz 8 T M cs (Aft B fr y.kd y.a y.b y.c y.l)))
def Yw(h0 h:Hp)(A:At)(T:List Nat)(r:Nat)(v15:IN):Prop:=
 ∃ xs y B fr ov,h.OL h0.next v15 xs/\(∀ x∈xs,Fq h0 x)/\xs.length<=25/\h.Row r 0 y.cells/\Fq h0 y/\Cg B (Ga xs).1/\fr=(Ga xs).2/\JJ h A T y B fr ov
section
variable {fa:Bool}{F:AEB}{e:Env}{h h' h0 g:Hp}{S:Nat->Prop}{A:At}{T M:List Nat}{m k n tb r:Nat}{ks:List Kt}{fr:List Nat}{v w u:IN}{xs:List Od}{x y:Od}{l:List IN}
theorem eG(V:h.VE u l):∀ k z,u≠.int k z:=fun k z e=>by
 rcases V with (⟨h1,_⟩|⟨_,_,_,_,_,h1,_⟩)|⟨⟨_,h1⟩,_⟩<;>rw[e]at h1<;>cases h1
theorem Fq.no8(o:Fq h x):∀ z∈x.cells,∀ q,z≠.int .u8 q:=fun z hz q e=>by
 subst e;unfold Od.cells opL at hz;simp only[wA,ACS,or_false]at hz;rcases hz with h1|h1|h1|h1|h1|h1|h1
 ·cases h1
 ·cases h1
 ·cases h1
 ·cases h1
 ·cases h1
 ·exact eG o.1 _ _ h1.symm
 ·exact o.2.2.2.2.2 _ _ h1.symm
theorem Sl.AG3{M:List Nat}{c0 bad:Nat}{arm:Int}{lv fv:IN}{ov:Bool}(W:h.Wf)(s:Sl h A T M c0 arm ks fr lv fv bad ov)(R:h.Row r 0 y.cells)(R':h'.Row r 0 x.cells)(f:Fx (fun b=>b=r) h h')(hD:¬ A.D r)(ht:A.tb≠r)(hy:Fq h0 y):Sl h' A T M c0 arm ks fr lv fv bad ov:=by
 have n8:=hy.no8;have nu:=eG hy.1;have hu:∀ {b el:Nat} {L:List IN},h.Row b el L->b=r->L=y.cells/\el=0:=fun hb e=>by
  subst e;refine⟨dK hb R,?_⟩;rcases Nat.eq_zero_or_pos _ with h0|h0
  ·exact h0
  ·exact absurd rfl (Cp hb R (by omega))
 refine⟨f.row W s.row fun h=>hD (by rw[<- h];exact .inl rfl),s.dk.fr W f (fun h=>hD (by rw[<- h];exact .inr (.inl rfl))) (fun h=>hD (by rw[<- h];exact .inr (.inr (.inl rfl)))) (fun h=>hD (by rw[<- h];exact .inr (.inr (.inr rfl)))),f.row W s.tab ht,s.tok,?_,fun k hk=>⟨?_,(s.ko k hk).2⟩,?_,s.ne,s.le⟩
 ·rcases s.ls with h1|⟨b,c,el,L,h1,h2,h3,h4,h5,h6,h7⟩
  ·exact .inl h1
  ·by_cases e:b=r
   ·obtain⟨e1,e2⟩:=hu h3 e
    cases ks with
    |nil=>exact .inr ⟨b,c,0,x.cells,h1,h2,e ▸ R',wP _,rfl,.inr rfl,h7⟩
    |cons z ks=>
     have hm:Value.int .u8 (z.s:Int)∈L.take (6*(z::ks).length):=by
      rw[h5];exact List.mem_append_left _ (by
       unfold AU;simp)
     rw[e1]at hm;exact absurd rfl (n8 _ (xK hm) _)
   ·exact .inr ⟨b,c,el,L,h1,h2,f.row W h3 e,h4,h5,h6,h7⟩
 ·rcases (s.ko k hk).1 with h1|⟨b,off,c,el,L,h1,h2,h3,h4,h5,h6,h7⟩
  ·exact .inl h1
  ·by_cases e:b=r
   ·obtain⟨e1,e2⟩:=hu h3 e
    cases hl:k.l with
    |nil=>
     rw[hl]at h1 h2 h4;rw[e1]at h4;exact .inr ⟨b,off,c,0,x.cells,h1,h2,e ▸ R',h4,rfl,h6,.inl rfl⟩
    |cons z l=>
     rw[hl]at h5;have hm:bv z∈(L.drop off).take ((z::l).map bv).length:=by rw[h5];exact vp
     rw[e1]at hm;exact absurd rfl (n8 _ (zY (xK hm)) _)
   ·exact .inr ⟨b,off,c,el,L,h1,h2,f.row W h3 e,h4,h5,h6,h7⟩
 ·rcases s.fs with h1|⟨b,el,h1,h2,h3,h4⟩
  ·exact .inl h1
  ·refine .inr ⟨b,el,h1,f.row W h2 fun e=>?_,h3,h4⟩
   have e1:=(hu h2 e).1;have hm:y.u∈ints .i64 (fr.map Int.ofNat):=by
    rw[e1];unfold Od.cells opL;simp
   obtain⟨z,_,hz⟩:=wM.1 hm;exact nu _ _ hz.symm
theorem UpK.AG3(W:h.Wf)(AKz:UpK fa h A T ks fr)(R:h.Row r 0 y.cells)(R':h'.Row r 0 x.cells)(f:Fx (fun b=>b=r) h h')(hD:¬ A.D r)(ht:A.tb≠r)(hy:Fq h0 y):UpK fa h' A T ks fr:=by
 obtain⟨M,c0,arm,lv,fv,s,q⟩:=AKz;exact⟨M,c0,arm,lv,fv,s.AG3 W R R' f hD ht hy,q⟩
theorem Hp.OL.fx{S:Nat->Prop}(o:h.OL k v xs)(W:h.Wf)(f:Fx S h h')(hS:∀ b L,h.Row b 55 L->¬ S b):h'.OL k v xs:=by
 rcases o with h1|⟨b,h1,h2,h3⟩
 ·exact .inl h1
 ·exact .inr ⟨b,h1,f.row W h2 (hS b _ h2),h3⟩
theorem UpK.AJN(AKz:UpK fa h A T ks fr){b:Nat}{L:List IN}(R:h.Row b 55 L):¬ A.D b:=by
 obtain⟨M,c0,arm,lv,fv,s,_⟩:=AKz;rintro (e|e|e|e)
 ·exact Cp R s.row (by omega) e
 ·exact Cp R s.dk.disk (by omega) e
 ·exact Cp R s.dk.med (by omega) e
 ·exact G6 R s.dk.map e
theorem qY{r2 i:Nat}(W0:h0.Wf)(x0:h0.Ext h)(hD0:∀ b,A.D b->h0.next<=b)(hA:A.n=24)(hr:h0.next<=r)(hrD:¬ A.D r)(hrt:A.tb≠r)(ix:AE0 7 v (AI AT (i:Int)) h=.ok (.pointer (some ⟨r2,i*7,none⟩)) h)(ld:loadN 7 ⟨r2,i*7,none⟩ h=.ok x.val h)(l5:AEF ⟨r2,i*7+5,none⟩ h=.ok x.u h)(ok:Fq h0 x)
  {B:List Kt}{v15:IN}(AKz:UpK true h A T B fr)(OLh:h.OL h0.next v15 xs)(hxs:∀ x∈xs,Fq h0 x)(hl:xs.length<=25)(g1:Cg B (Ga xs).1)(g2:fr=(Ga xs).2)(R:h.Row r 0 y.cells)(hy:Fq h0 y)(s0:J 0 e=v)(s13:J 13 e=pt A.bs)(s15:J 15 e=v15)(s16:J 16 e=pt r)(s17:J 17 e=AI AT (i:Int)):
  (∃ e' h' B' fr' AG7,kpB (call AC (m+10)) e h=.norm e' h'/\h0.Ext h'/\(∀ j,kq j\/j=17->J j e'=J j e)/\J 15 e'=AG7/\UpK true h' A T B' fr'/\h'.OL h0.next AG7 (xs++[x])/\Cg B' (Ga (xs++[x])).1/\fr'=(Ga (xs++[x])).2/\h'.Row r 0 x.cells)\/
  (∃ e' h',kpB (call AC (m+10)) e h=.exit 0 e' h'/\h0.Ext h'/\(∀ j,kq j->J j e'=J j e)/\J 15 e'=v15/\h'.OL h0.next v15 xs/\h'.Row r 0 x.cells/\∃ M cs,AFO true h' A T M cs/\AFz 8 T M cs (Aft B fr x.kd x.a x.b x.c x.l)):=by
 have W:=x0.wf;have vl:=ok.1.bl h;have c3:iGt (x.l.length:Int) 150=false:=Fa (by have:=ok.2.2.1;omega);obtain⟨st,x1,R1⟩:=Go.Proofs.YtedbmmfebjfibaaGreat.AG3 W0 x0 hr R rfl (kd:=x.kd) (a:=x.a) (b:=x.b) (c:=x.c) (no:=x.no) ok.2.2.2.1 ok.2.2.2.2.1;have f1:Fx (fun b=>b=r) h (h.wr r 0 (opL x.kd x.a x.b x.c x.no x.u x.w)):=Fx.wr W R (IT _) rfl;have st:AER 7 (pt r) x.val h=.ok AEE (h.wr r 0 (opL x.kd x.a x.b x.c x.no x.u x.w)):=st;generalize h.wr r 0 (opL x.kd x.a x.b x.c x.no x.u x.w)=h1 at st x1 R1 f1;have U1:=AKz.AG3 W R R1 f1 hrD hrt hy;have O1:=OLh.fx W f1 fun b L r' e=>Cp r' R (by omega) e
 have ld1:loadN 7 ⟨r,0,none⟩ h1=.ok x.val h1:=R1.loadN (off:=0) (n:=7) (by show 0+7<=7;omega);rcases TH (m:=m) x1.wf hA U1 (ok.ext W0 x1)with ⟨z,h2,B2,fr2,k2,f2,U2,q1,q2⟩|⟨h2,M2,cs2,k2,f2,d2,gd⟩
 ·left
  have x2:=Fx.xtF x1 f2 hD0;have R2:=f2.row x1.wf R1 hrD;have O2:=O1.fx x1.wf f2 fun b L r'=>U1.AJN r'
  have k3:call AC (m+10) 27 [pt A.bs] h2=.ok (.bool false) h2:=by
   obtain⟨_,_,_,_,_,s,_⟩:=U2;exact MA (m:=m+9) s.row
  have ld2:loadN 7 ⟨r,0,none⟩ h2=.ok x.val h2:=R2.loadN (off:=0) (n:=7) (by show 0+7<=7;omega);have sl:=fun (F:AEB) (e:Env) (he:J 65 e=x.val)=>SS (F:=F) x2.wf he
  obtain⟨h4,v4,k4,x4,O4,g4⟩:=O2.app (x:=x) W0 x2 (IT _) x2.next (by omega) ok.2.2.2.1 ok.2.2.2.2.1;have kp:=AGU.of x2.wf g4;obtain⟨e1,r1,t15,tj⟩:∃ e1,kpB (call AC (m+10)) e h=.norm e1 h4/\J 15 e1=v4/\∀ j,kq j\/j=17->J j e1=J j e:=by
   rw[UT];unfold bK;simp only[sT,By,BY,reduceIte,Ay,s0,s17,ix,AG,AM,AK,AO,l5,AX,vl,AJ,AH,c3];unfold kpC;simp only[sT,By,BY,reduceIte,Ay,s0,s17,ix,Aq,As,ld,s16,Ab,st,ld1,cA0,s13,k2,k3,ld2,sl,BF,s15,k4];refine⟨_,rfl,by simp[AD],fun j hj=>?_⟩;unfold kq at hj;rcases hj with (rfl|rfl|rfl|rfl|rfl|rfl|rfl|rfl)|rfl<;>simp only[AD,By,BY,reduceIte]
  obtain⟨q3,q4⟩:=Uc (x:=x) g1 g2 AKz.inv;rw[<- Kz]at q3 q4;exact⟨e1,h4,B2,fr2,v4,r1,x4,tj,t15,U2.kp kp,O4,q1.trans q3,q2.trans q4,kp.row _ _ _ (by omega) R2⟩
 ·right
  have x2:=Fx.xtF x1 f2 hD0;have k3:call AC (m+10) 27 [pt A.bs] h2=.ok (.bool true) h2:=by
   obtain⟨_,_,_,s⟩:=d2.row;exact MA (m:=m+9) s
  obtain⟨e1,r1,t15,tj⟩:∃ e1,kpB (call AC (m+10)) e h=.exit 0 e1 h2/\J 15 e1=v15/\∀ j,kq j->J j e1=J j e:=by
   rw[UT];unfold bK;simp only[sT,By,BY,reduceIte,Ay,s0,s17,ix,AG,AM,AK,AO,l5,AX,vl,AJ,AH,c3];unfold kpC;simp only[sT,By,BY,reduceIte,Ay,s0,s17,ix,Aq,As,ld,s16,Ab,st,ld1,cA0,s13,k2,k3];refine⟨_,rfl,by simp[AD,s15],fun j hj=>?_⟩;rcases hj with rfl|rfl|rfl|rfl|rfl|rfl|rfl|rfl<;>simp only[AD,By,BY,reduceIte]
  exact⟨e1,h2,r1,x2,tj,t15,O1.fx x1.wf f2 fun b L r'=>U1.AJN r',f2.row x1.wf R1 hrD,M2,cs2,d2,gd⟩
theorem Yw.up{B:List Kt}{v15:IN}(AKz:UpK true h A T B fr)(OLh:h.OL h0.next v15 xs)(hxs:∀ x∈xs,Fq h0 x)(hl:xs.length<=25)(g1:Cg B (Ga xs).1)(g2:fr=(Ga xs).2)(R:h.Row r 0 y.cells)(hy:Fq h0 y):Yw h0 h A T r v15:=by
 obtain⟨M,c0,arm,lv,fv,s,iv,md,hc,ha,hb⟩:=AKz;exact⟨xs,y,B,fr,false,OLh,hxs,hl,R,hy,g1,g2,iv,hc,ha,.inl ⟨rfl,M,c0,arm,lv,fv,s,iv,md,hc,ha,hb⟩⟩
theorem gx(W0:h0.Wf)(x0:h0.Ext h)(hD0:∀ b,A.D b->h0.next<=b)(hA:A.n=24)(hr:h0.next<=r)(hrD:¬ A.D r)(hrt:A.tb≠r)(O:AIQ h0 v n 25)(AKz:UpK true h A T [] (wm 8))(R:h.Row r 0 od0.cells)
  (s0:J 0 e=v)(s13:J 13 e=pt A.bs)(s15:J 15 e=AEP)(s16:J 16 e=pt r)(s17:J 17 e=AI AT ((0:Nat):Int)):
  ∃ e' h',Aw kpL (call AC (m+10)) e h=.exit 0 e' h'/\h0.Ext h'/\(∀ j,kq j->J j e'=J j e)/\Yw h0 h' A T r (J 15 e'):=by
 refine BU (I:=fun i e' h'=>∃ B fr v15 xs y,h0.Ext h'/\(∀ j,kq j->J j e'=J j e)/\J 15 e'=v15/\J 17 e'=AI AT (i:Int)/\UpK true h' A T B fr/\h'.OL h0.next v15 xs/\(∀ x∈xs,Fq h0 x)/\xs.length<=i/\i<=25/\Cg B (Ga xs).1/\fr=(Ga xs).2/\h'.Row r 0 y.cells/\Fq h0 y)
  (Q:=fun x=>∃ e' h',x=.exit 0 e' h'/\h0.Ext h'/\(∀ j,kq j->J j e'=J j e)/\Yw h0 h' A T r (J 15 e')) 25 (by omega) (fun i e' h' ⟨B,fr,v15,xs,y,x',tj,t15,t17,AKz,OLh,hxs,hl,hi,g1,g2,R,hy⟩=>?_)
  ⟨[],_,AEP,[],od0,x0,fun _ _=>rfl,s15,s17,AKz,.inl ⟨rfl,rfl⟩,fun x hx=>(by cases hx),wP _,wP _,rfl,rfl,R,.inl (.inl ⟨rfl,rfl⟩),fun _ h=>(by cases h),wP _,rfl,rfl,fun _ _ h=>by cases h⟩
 have ln:=O.len h';have t0:=(tj 0 (by unfold kq;omega)).trans s0;have t13:=(tj 13 (by unfold kq;omega)).trans s13;have t16:=(tj 16 (by unfold kq;omega)).trans s16;have done:(∃ e2,kpL (call AC (m+10)) e' h'=.exit 0 e2 h'/\(∀ j,kq j->J j e2=J j e')/\J 15 e2=v15)->(aT (kpL (call AC (m+10)) e' h')=true/\∃ e2 h2,kpL (call AC (m+10)) e' h'=.exit 0 e2 h2/\h0.Ext h2/\(∀ j,kq j->J j e2=J j e)/\Yw h0 h2 A T r (J 15 e2)):=fun⟨e2,r1,r2,r3⟩=>by
  rw[r1];exact⟨rfl,e2,h',rfl,x',fun j hj=>(r2 j hj).trans (tj j hj),by rw[r3];exact .up AKz OLh hxs (by omega) g1 g2 R hy⟩
 by_cases hin:i<n
 ·have c1:=EF hin
  by_cases AHU:i<25
  ·have c2:iLt (i:Int) 25=true:=LQ (by omega)
   obtain⟨r2,kd,a,b,c,no,u,w,l,hop,V,hlb,ou,ow⟩:=O.get i hin AHU;obtain⟨q1,q2,q3⟩:=hop h' x';have a3:=fun g:Hp=>CF (i:=i) (h:=g) (by omega)
   obtain⟨e1,p1,u15,u17,uj⟩:∃ e1,kpL (call AC (m+10)) e' h'=kpK (call AC (m+10)) e1 h'/\J 15 e1=v15/\J 17 e1=AI AT (i:Int)/\∀ j,kq j->J j e1=J j e':=by
    rw[UV];unfold bL;simp only[sT,By,BY,reduceIte,gD,AX,t0,ln,AJ,AH,t17,c1,c2];refine⟨_,rfl,by simp[AD,t15],by simp[AD,t17],fun j hj=>?_⟩;rcases hj with rfl|rfl|rfl|rfl|rfl|rfl|rfl|rfl<;>simp only[AD,By,BY,reduceIte]
   have u0:=(uj 0 (by unfold kq;omega)).trans t0;have u13:=(uj 13 (by unfold kq;omega)).trans t13;have u16:=(uj 16 (by unfold kq;omega)).trans t16;have fin:∀ (e2:Env) (h2:Hp),J 17 e2=AI AT (i:Int)->∃ e3,kpI (call AC (m+10)) e2 h2=.norm e3 h2/\J 17 e3=AI AT ((i+1:Nat):Int)/\J 15 e3=J 15 e2/\∀ j,kq j->J j e3=J j e2:=fun e2 h2 r5=>by
    unfold kpI;simp only[sT,By,BY,reduceIte,BG,r5,a3];refine⟨_,rfl,by simp[AD],by simp[AD],fun j hj=>?_⟩;rcases hj with rfl|rfl|rfl|rfl|rfl|rfl|rfl|rfl<;>simp only[AD,By,BY,reduceIte]
   by_cases AKj:150<l.length
   ·left
    have c3:iGt (l.length:Int) 150=true:=GV (by omega);have vl:=V.bl h';obtain⟨e2,r1,AG7,v17,vj⟩:∃ e2,kpB (call AC (m+10)) e1 h'=.exit 1 e2 h'/\J 15 e2=v15/\J 17 e2=AI AT (i:Int)/\∀ j,kq j->J j e2=J j e1:=by
     rw[UT];unfold bK;simp only[sT,By,BY,reduceIte,Ay,u0,u17,q1,AG,AM,AK,AO,q3,AX,vl,AJ,AH,c3];refine⟨_,rfl,by simp[AD,u15],by simp[AD,u17],fun j hj=>?_⟩;rcases hj with rfl|rfl|rfl|rfl|rfl|rfl|rfl|rfl<;>simp only[AD,By,BY,reduceIte]
    obtain⟨e3,f1,f2,f3,fj⟩:=fin e2 h' v17;refine⟨AHU,e3,h',?_,B,fr,v15,xs,y,x',fun j hj=>(fj j hj).trans ((vj j hj).trans ((uj j hj).trans (tj j hj))),f3.trans AG7,f2,AKz,OLh,hxs,by omega,AHU,g1,g2,R,hy⟩;rw[p1,UU];simp only[BB,Ap,r1,Az,A8,f1]
   ·have ok:Fq h0 ⟨kd,a,b,c,no,u,w,l⟩:=⟨V,hlb,Nat.le_of_not_lt AKj,ou,ow⟩
    rcases qY (m:=m) (x:=⟨kd,a,b,c,no,u,w,l⟩) W0 x' hD0 hA hr hrD hrt q1 q2 q3 ok AKz OLh hxs (by omega) g1 g2 R hy u0 u13 u15 u16 u17 with ⟨e2,h2,B',fr',AG7,r1,x2,vj,w15,U2,O2,z1,z2,R2⟩|⟨e2,h2,r1,x2,vj,w15,O2,R2,M,cs,dd,gd⟩
    ·left
     obtain⟨e3,f1,f2,f3,fj⟩:=fin e2 h2 ((vj 17 (.inr rfl)).trans u17);refine⟨AHU,e3,h2,?_,B',fr',AG7,xs++[⟨kd,a,b,c,no,u,w,l⟩],⟨kd,a,b,c,no,u,w,l⟩,x2,fun j hj=>(fj j hj).trans ((vj j (.inl hj)).trans ((uj j hj).trans (tj j hj))),f3.trans w15,f2,U2,O2,fun z hz=>?_,by rw[No];show xs.length+1<=_;omega,AHU,z1,z2,R2,ok⟩
     ·rw[p1,UU]
      simp only[BB,Ap,r1,D9,A8,f1]
     ·rcases wK.1 hz with hz|hz
      ·exact hxs z hz
      ·rw[v7.1 hz];exact ok
    ·right
     have e3:kpL (call AC (m+10)) e' h'=.exit 0 e2 h2:=by
      rw[p1,UU];simp only[BB,Ap,r1];rfl
     rw[e3];obtain⟨_,_,_,_,_,_,iv,_,hc,ha,_⟩:=AKz;exact⟨rfl,e2,h2,rfl,x2,fun j hj=>(vj j hj).trans ((uj j hj).trans (tj j hj)),xs,⟨kd,a,b,c,no,u,w,l⟩,B,fr,true,by rw[w15];exact O2,hxs,by omega,R2,ok,g1,g2,iv,hc,ha,.inr ⟨rfl,M,cs,dd,gd⟩⟩
  ·right
   have c2:iLt (i:Int) 25=false:=HL (by omega);refine done ?_;rw[UV];unfold bL;simp only[sT,By,BY,reduceIte,gD,AX,t0,ln,AJ,AH,t17,c1,c2];refine⟨_,rfl,fun j hj=>?_,by simp[AD,t15]⟩;rcases hj with rfl|rfl|rfl|rfl|rfl|rfl|rfl|rfl<;>simp only[AD,By,BY,reduceIte]
 ·right
  have c1:=Cz (show n<=i by omega);refine done ?_;rw[UV];unfold bL;simp only[sT,By,BY,reduceIte,gD,AX,t0,ln,AJ,AH,t17,c1];refine⟨_,rfl,fun j hj=>?_,by simp[AD,t15]⟩;rcases hj with rfl|rfl|rfl|rfl|rfl|rfl|rfl|rfl<;>simp only[AD,By,BY,reduceIte]
end
end
noncomputable section
open Go
set_option maxRecDepth 100000
theorem qT:kpV=qU:=rfl
theorem qQ:kpU=qR:=rfl
theorem qO:kpT=qP:=rfl
def kr(j:Nat):Prop:=j=2\/j=3\/j=4\/j=11\/j=12\/j=13\/j=16
section
variable {fa:Bool}{F:AEB}{e:Env}{h h' h0 g:Hp}{S:Nat->Prop}{A:At}{T M:List Nat}{m k n r:Nat}{ks B:List Kt}{fr:List Nat}{v w kv kv2:IN}{xs:List Od}{x y:Od}{ov:Bool}{bs bs2:List Bool}
theorem Hp.AL.kp(o:h.AL k v ks)(p:AGU h h'):h'.AL k v ks:=by
 rcases o with h1|⟨b,L,h1,h2,h3,h4,h5⟩
 ·exact .inl h1
 ·refine .inr ⟨b,L,h1,p.row _ _ _ (by omega) h2,h3,h4,fun x hx=>?_⟩
  rcases h5 x hx with q|⟨b,off,c,el,L,q1,q2,q3,q4,q5,q6,q7⟩
  ·exact .inl q
  ·exact .inr ⟨b,off,c,el,L,q1,q2,p.row _ _ _ (by omega) q3,q4,q5,q6,q7⟩
theorem JJ.ext(E:JJ h A T y B fr ov)(W:h.Wf)(x:h.Ext h'):JJ h' A T y B fr ov:=by
 obtain⟨i,c,a,q⟩:=E;refine⟨i,c,a,q.imp (fun q=>⟨q.1,q.2.ext W x⟩) fun⟨q,M,cs,d,g⟩=>⟨q,M,cs,d.ext W x,g⟩⟩
theorem JJ.kp(E:JJ h A T y B fr ov)(p:AGU h h'):JJ h' A T y B fr ov:=by
 obtain⟨i,c,a,q⟩:=E;refine⟨i,c,a,q.imp (fun q=>⟨q.1,q.2.kp p⟩) fun⟨q,M,cs,d,g⟩=>⟨q,M,cs,d.kp p,g⟩⟩
theorem JJ.row(E:JJ h A T y B fr ov):(∃ lv fv bad,h.Row A.bs 0 (slL A.bd A.tb lv fv bad ov))/\h.Row A.tb 0 (T.map wv)/\AE1 T/\(A.bs≠A.bd/\A.bs≠A.bm/\A.bs≠A.bc/\¬ A.D A.tb/\256<=A.bs):=by
 obtain⟨_,_,_,⟨rfl,_,_,_,lv,fv,s,_⟩|⟨rfl,_,_,d,_⟩⟩:=E
 ·exact⟨⟨lv,fv,_,s.row⟩,s.tab,s.tok,s.ne⟩
 ·exact⟨d.row,d.tab,d.tok,d.ne⟩
theorem JJ.lt(E:JJ h A T y B fr ov)(W:h.Wf):∀ b,A.D b->b<h.next:=fun b hb=>by
 obtain⟨_,_,_,⟨_,_,_,_,_,_,s,_⟩|⟨_,_,_,d,_⟩⟩:=E
 ·exact s.AGs W b hb
 ·obtain⟨_,_,_,r⟩:=d.row
  obtain⟨_,q⟩:=d.dk;rcases hb with h1|h1|h1|h1<;>rw[h1]
  ·exact r.lt W
  ·exact(q.lt W).1
  ·exact(q.lt W).2.1
  ·exact(q.lt W).2.2
theorem qN(W0:h0.Wf)(x0:h0.Ext h)(OLh:h.OL h0.next w xs)(hxs:∀ x∈xs,Fq h0 x)(hl:xs.length<=25)(R:h.Row r 0 y.cells)(hy:Fq h0 y)(g1:Cg B (Ga xs).1)(g2:fr=(Ga xs).2)(E:JJ h A T y B fr ov)(s11:J 11 e=pt A.tb)(s13:J 13 e=pt A.bs)(s15:J 15 e=w)(s16:J 16 e=pt r):
  ∃ e' h' v18 v20 k18 k20 AFe AFj,kpT (call AC (m+11)) e h=kpV (call AC (m+11)) e' h'/\h0.Ext h'/\(∀ j,kr j->J j e'=J j e)/\J 18 e'=v18/\J 20 e'=v20/\h'.AL k18 v18 AFe/\h'.AL k20 v20 AFj/\Cg AFe B/\Cg AFj (if ov=true then(nxO (B,fr) y).1 else B)/\
   ((∀ x∈AFe,∀ y∈x.l,y<256)/\AFe.length<=8)/\((∀ x∈AFj,∀ y∈x.l,y<256)/\AFj.length<=8)/\JJ h' A T y B fr ov/\h'.Row r 0 y.cells/\∀ b,A.D b->b<k18/\b<k20:=by
 have W:=x0.wf;obtain⟨_,Rt,hT,_⟩:=E.row;obtain⟨h1,k18,v18,AFe,c1,x1,n1,V1,q1,b1,l1⟩:=XG (m:=m) W0 x0 Rt hT OLh hxs (by omega);have x01:=x0.trans x1;have W1:=x1.wf;have R1:=R.ext W x1;have ld1:loadN 7 ⟨r,0,none⟩ h1=.ok y.val h1:=R1.loadN (off:=0) (n:=7) (by show 0+7<=7;omega);have sl:=fun (F:AEB) (e:Env) (he:J 75 e=y.val)=>SS (F:=F) W1 he
 obtain⟨h2,v2,k2,x2,O2,g4⟩:=(OLh.ext W x1).app (x:=y) W0 x01 (IT _) x01.next (by omega) hy.2.2.2.1 hy.2.2.2.2.1;have kp:=AGU.of W1 g4;have E2:=(E.ext W x1).kp kp;have R2:=kp.row _ _ _ (by omega) R1;have W2:=x2.wf;have AKk:∀ x∈xs++[y],Fq h0 x:=fun z hz=>by
  rcases wK.1 hz with hz|hz
  ·exact hxs z hz
  ·rw[v7.1 hz];exact hy
 obtain⟨_,Rt2,_,_⟩:=E2.row;obtain⟨h3,k20,v20,AFj,c3,x3,n3,V3,q3,b3,l3⟩:=XG (m:=m) W0 x2 Rt2 hT O2 AKk (by rw[No];show xs.length+1<=100;omega);have E3:=E2.ext W2 x3;obtain⟨⟨lv,fv,bad,Rs⟩,_⟩:=E3.row;have c4:call AC (m+11) 27 [pt A.bs] h3=.ok (.bool ov) h3:=MA (m:=m+10) Rs;have V1':=(V1.kp kp).ext W2 x3;have hlt:∀ b,A.D b->b<k18/\b<k20:=fun b hb=>by
  have h1:=E.lt W b hb;have h2:=E2.lt W2 b hb;omega
 have p1:Cg AFe B:=q1.trans g1.symm;obtain⟨p2,_⟩:=Uc (x:=y) g1 g2 E.1;rw[<- Kz]at p2;have p3:Cg AFj (nxO (B,fr) y).1:=q3.trans p2.symm;have run:∃ e1,kpT (call AC (m+11)) e h=kpV (call AC (m+11)) e1 h3/\J 18 e1=v18/\J 20 e1=(if ov=true then v20 else v18)/\∀ j,kr j->J j e1=J j e:=by
  rw[qO];unfold qP;simp only[sT,By,BY,reduceIte,gD,cA0,s11,s15,c1,BK,BW,BZ,Aq,As,s16,ld1,sl,BF,k2,c3,Bi,Bh,xJ];rw[qQ];unfold qR;cases ov with
  |true=>
   simp only[sT,By,BY,reduceIte,gD,cA0,s13,c4,Bi,Bh,xJ];refine⟨_,rfl,by simp[AD],by simp[AD],fun j hj=>?_⟩;rcases hj with rfl|rfl|rfl|rfl|rfl|rfl|rfl<;>simp only[AD,By,BY,reduceIte]
  |false=>
   simp only[sT,By,BY,reduceIte,gD,cA0,s13,c4,Bi,Bh,yA];refine⟨_,rfl,by simp[AD],by simp[AD],fun j hj=>?_⟩;rcases hj with rfl|rfl|rfl|rfl|rfl|rfl|rfl<;>simp only[AD,By,BY,reduceIte]
 obtain⟨e1,r1,t18,t20,tj⟩:=run;cases ov with
 |true=>exact⟨e1,h3,v18,v20,k18,k20,AFe,AFj,r1,x2.trans x3,tj,t18,t20,V1',V3,p1,p3,⟨b1,l1⟩,⟨b3,l3⟩,E3,R2.ext W2 x3,hlt⟩
 |false=>exact⟨e1,h3,v18,v18,k18,k18,AFe,AFe,r1,x2.trans x3,tj,t18,t20,V1',V1',p1,p1,⟨b1,l1⟩,⟨b1,l1⟩,E3,R2.ext W2 x3,fun b hb=>⟨(hlt b hb).1,(hlt b hb).1⟩⟩
def kz(B:List Kt)(fr:List Nat)(y:Od)(ov:Bool)(ks:List Kt):Prop:=
 (ov=false/\Cg ks B)\/(ov=true/\y.kd≠8/\(Cg ks B\/Cg ks (nxO (B,fr) y).1))\/(ov=true/\y.kd=8/\∃ P:Kt->Bool,(∀ k∈B,P k=true->drB y.a y.b y.c k=true)/\Cg ks (B.filter fun k=> !P k))
theorem jp{X Y ks0:List Kt}{fr1:List Nat}(iv:AEq 8 B fr)(hc:Com B)(hA:B.Pairwise LtK)(ix:AEq 8 X fr1)(q:(ov=false/\X=B)\/(ov=true/\Aft B fr y.kd y.a y.b y.c y.l X)){X2:List Kt}{fr2:List Nat}(i2:AEq 8 X2 fr2)(hcn:Cx X2 X2=Cx X X)(pm:(ks0.map Kt.core).Perm (X2.map Kt.core))(hY:Y=Cx (Bq ks0) (Bq ks0)):kz B fr y ov Y:=by
 have go:∀ {Z:List Kt},Z.Pairwise LtK->((Cx X X).map Kt.core).Perm (Z.map Kt.core)->Cg Y Z:=fun hZ hz=>qz pm i2.key hY hZ (by rw[hcn];exact hz.symm)
 rcases q with ⟨h1,rfl⟩|⟨h1,t⟩
 ·exact .inl ⟨h1,go hA (by rw[Gq iv.key hc])⟩
 ·rcases eV iv hc t ix with ⟨h8,p⟩|⟨h8,p⟩|⟨h8,P,hP,e⟩
  ·exact .inr (.inl ⟨h1,h8,.inl (go hA p)⟩)
  ·exact .inr (.inl ⟨h1,h8,.inr (go (WY hA iv.key) p)⟩)
  ·exact .inr (.inr ⟨h1,h8,P,hP,go (hA.filter _) (by rw[e])⟩)
theorem qS{ag:Nat}(W0:h0.Wf)(x0:h0.Ext h)(hD0:∀ b,A.D b->h0.next<=b)(hA:A.n=24)(Kb:KB h0 kv bs)(Kb2:KB h0 kv2 bs2)(E:JJ h A T y B fr ov)(s2:J 2 e=kv)(s3:J 3 e=.int .u8 (ag:Int))(s4:J 4 e=kv2)(s11:J 11 e=pt A.tb)(s12:J 12 e=pt A.bd):
  ∃ e' h' A2 M2 c2 AGd ks fr2 lv fv,kpV (call AC (m+11)) e h=kpW (call AC (m+11)) e' h'/\Fx (fun b=>b=A.bd\/b=A.bm\/b=A.bc) h h'/\h0.Ext h'/\(∀ j,(j=13\/j=16\/j=18\/j=20)->J j e'=J j e)/\J 22 e'=pt A2.bs/\Sl h' A2 T M2 c2 AGd ks fr2 lv fv 0 false/\ks.length<=8/\kz B fr y ov ks:=by
 have W:=x0.wf;obtain⟨iv,hc,ha,q⟩:=E;have st:St h A 8 T fun X=>(ov=false/\X=B)\/(ov=true/\Aft B fr y.kd y.a y.b y.c y.l X):=by
  rcases q with ⟨h1,M,c0,arm,lv,fv,s,iv,md,hc,_,hb⟩|⟨h1,M,cs,d,gd⟩
  ·exact .up M c0 arm B fr lv fv s iv md hc hb (.inl ⟨h1,rfl⟩)
  ·exact .over M cs d fun M' hk=>by
    obtain⟨ks,fr,i,md,t⟩:=gd M' hk;exact⟨ks,fr,i,md,.inr ⟨h1,t⟩⟩
 have hD1:h0.next<=A.bd/\h0.next<=A.bm/\h0.next<=A.bc:=⟨hD0 _ (.inr (.inl rfl)),hD0 _ (.inr (.inr (.inl rfl))),hD0 _ (.inr (.inr (.inr rfl)))⟩;obtain⟨h1,M1,c1,X,fr1,k1,f1,d1,R1,hT,htD,i1,m1,qX⟩:=St.AIb (m:=m+8) W0 x0 hD0 st hA (IT _) Kb;have k1:call AC (m+11) 31 [pt A.bd,kv] h=.ok AEE h1:=k1;have htb:A.tb≠A.bd/\A.tb≠A.bm/\A.tb≠A.bc:=⟨fun e=>htD (.inr (.inl e)),fun e=>htD (.inr (.inr (.inl e))),fun e=>htD (.inr (.inr (.inr e)))⟩;have r5:Sr .u8 (.int .u8 (ag:Int)) (.int .u8 5) h1=.ok (.int .u8 ((ag % 5:Nat):Int)) h1:=dE (k:=5) (by omega);have cv:DS .i64 (.int .u8 ((ag % 5:Nat):Int)) h1=.ok (AI AT ((ag % 5:Nat):Int)) h1:=by rw[Cd,Bb (by omega)]
 obtain⟨h2,k2,f2,d2⟩:=VN (m:=m+9) f1.wf d1 (z:=((ag % 5:Nat):Int)) (by omega);have k2:call AC (m+11) 26 [pt A.bd,AI AT ((ag % 5:Nat):Int)] h1=.ok AEE h2:=k2;have f02:Fx (fun b=>(b=A.bd\/b=A.bm\/b=A.bc)\/h.next<=b) h h2:=(f1.mono fun b hb=>.inl hb).trans (f2.mono fun b hb=>.inl (.inl hb));have R2:h2.Row A.tb 0 (T.map wv):=f2.row f1.wf R1 htb.1;have op:∃ z h3 M3 c3 cs3 a3 dn3,call AC (m+11) 16 [pt A.bd,pt A.tb,AI AT 100] h2=.ok z h3/\Fx (fun b=>(b=A.bd\/b=A.bm\/b=A.bc)\/h.next<=b) h h3/\Dk h3 A.bd A.bm A.bc A.n M3 c3 cs3 a3 dn3/\AFU cs3/\AEv A.n cs3/\h3.Row A.tb 0 (T.map wv)/\
   ∀ M',Kept A.n M3 cs3 M'->∃ X2 fr2,AEq 8 X2 fr2/\AE6 8 T M' X2 fr2/\Cx X2 X2=Cx X X:=by
  rcases SU (m:=m+3) (fa:=true) f2.wf d2 R2 hT hA ⟨by omega,by omega⟩ htb i1 m1 (.may (by omega) (by omega))with ⟨h3,bs3,M3,c3,a3,lv3,fv3,ks3,fr3,ks0,k3,f3,sl3,pm3,e3,_,eM,_⟩|⟨h3,j,ks3,ks0,k3,f3,hj,dd,pm3,e3⟩
  ·refine⟨_,h3,M3,c3,[],a3,false,k3,f02.trans (f3.mono fun b hb=>.inl hb),sl3.dk,(fun i j y z h=>by cases h),(fun y hy=>by cases hy),sl3.tab,fun M' hk=>?_⟩
   rw[hA,eM]at hk;exact On (i:=0) i1 m1 pm3 e3 (.inl ⟨[],rfl,hk⟩)
  ·obtain⟨c3,dk⟩:=dd.dk
   refine⟨_,h3,_,c3,_,-1,true,k3,f02.trans (f3.mono fun b hb=>?_),dk,dd.key,dd.sec,dd.tab,fun M' hk=>?_⟩
   ·rcases hb with hb|hb
    ·have:=f02.next
     exact .inr (by rw[hb];exact this)
    ·exact .inl hb
   ·rw[hA]at hk
    exact On i1 m1 pm3 e3 (.inr ⟨hj,hk⟩)
 obtain⟨z3,h3,M3,c3,cs3,a3,dn3,k3,f03,d3,AJO,AJP,R3,again⟩:=op;have x3:h0.Ext h3:=Fx.xtF x0 f03 fun b hb=>by
  rcases hb with (hb|hb|hb)|hb
  ·rw[hb];exact hD1.1
  ·rw[hb];exact hD1.2.1
  ·rw[hb];exact hD1.2.2
  ·exact wd x0.next hb
 obtain⟨h4,M4,c4,k4,f4,d4,kp4⟩:=Qv (m:=m+8) W0 x3 hD1 d3 AJO AJP (by have:=Zp AJO AJP;omega) Kb2;have k4:call AC (m+11) 31 [pt A.bd,kv2] h3=.ok AEE h4:=k4;obtain⟨X2,fr2,i2,m2,hcn⟩:=again M4 kp4;have f04:=f03.trans (f4.mono (T:=fun b=>(b=A.bd\/b=A.bm\/b=A.bc)\/h.next<=b) fun b hb=>.inl hb);have R4:h4.Row A.tb 0 (T.map wv):=f4.row x3.wf R3 fun h=>htD (.inr h)
 rcases SU (m:=m+3) (fa:=false) f4.wf d4 R4 hT hA ⟨by omega,by omega⟩ htb i2 m2 (.no (by omega) (by omega))with ⟨h5,bs5,M5,c5,a5,lv5,fv5,ks5,fr5,ks0,k5,f5,sl5,pm5,e5,efr,_,_,_⟩|⟨_,_,_,_,_,_,_,dd,_⟩
 case inr=>cases dd.may
 have k5:call AC (m+11) 16 [pt A.bd,pt A.tb,AI AT 100] h4=.ok (.tuple ⟨[pt bs5,AI AT 0]⟩) h5:=k5;have f05:=f04.trans (f5.mono (T:=fun b=>(b=A.bd\/b=A.bm\/b=A.bc)\/h.next<=b) fun b hb=>.inl hb);have td:=jp iv hc ha i1 qX i2 hcn pm5 e5;have k6:call AC (m+11) 19 [pt bs5] h5=.ok (AI AT (0:Nat)) h5:=ex (m:=m+10) sl5.row;have k7:call AC (m+11) 20 [pt bs5] h5=.ok (AI AT (fr5.length:Int)) h5:=ja (m:=m+10) sl5.row sl5.fs.vals;have hsub:∀ k∈ks5,∃ z∈X2,z.core=k.core:=fun k hk=>by
  rw[e5]at hk;exact Zo pm5 (Ep.1 (vz.1 hk).1)
 have hnd:(ks5.map Kt.plc).Nodup:=by
  have e1:∀ l:List Kt,l.map Kt.plc=(l.map Kt.core).map Kc.p:=fun l=>by rw[zb];rfl
  have h1:(ks0.map Kt.plc).Nodup:=by
   rw[e1];exact(pm5.map Kc.p).nodup_iff.2 (by rw[<- e1];exact i2.nd)
  have h2:((Bq ks0).map Kt.plc).Nodup:=((Di ks0).map Kt.plc).nodup_iff.2 h1;rw[e5];exact h2.sublist (List.filter_sublist.map _)
 have hlen:fr5.length+ks5.length=8:=by
  rw[efr];refine Xx hnd fun k hk=>?_
  obtain⟨z,hz,ez⟩:=hsub k hk;have:=i2.lt z hz;rw[(DK ez).2.2.2.2.2]at this;omega
 obtain⟨h6,v6,k8,x6,V6⟩:=PK (m:=m+7) f5.wf sl5.row sl5.ls (Sl.all sl5) (by omega);have k8:call AC (m+11) 21 [pt bs5] h5=.ok v6 h6:=k8;have ln6:=V6.len h6;have s8:Ft Int.sub .i64 (AI AT 8) (AI AT (ks5.length:Int)) h6=.ok (AI AT (fr5.length:Int)) h6:=by
  rw[CV,show Int.sub 8 (ks5.length:Int)=(fr5.length:Int)by show(8:Int) - (ks5.length:Int)=_;omega,Bb (by omega)]
 have c0:iNe 0 0=false:=CY rfl;have c1:iNe ((0:Nat):Int) 0=false:=CY rfl;have c2:iNe (fr5.length:Int) (fr5.length:Int)=false:=CY rfl;obtain⟨e1,p1,t22,tj⟩:∃ e1,kpV (call AC (m+11)) e h=kpW (call AC (m+11)) e1 h6/\J 22 e1=pt bs5/\∀ j,(j=13\/j=16\/j=18\/j=20)->J j e1=J j e:=by
  rw[qT];unfold qU;simp only[sT,By,BY,reduceIte,gD,cA0,s12,s2,k1,Js,s3,r5,CH,cv,k2,s11,k3,s4,k4,k5,BK,BW,BZ,AJ,AH,c0,k6,c1,k7,k8,AX,ln6,Bu,s8,c2];refine⟨_,rfl,by simp[AD],fun j hj=>?_⟩;rcases hj with rfl|rfl|rfl|rfl<;>simp only[AD,By,BY,reduceIte]
 have f06:=f05.trans (Fx.of (S:=fun b=>(b=A.bd\/b=A.bm\/b=A.bc)\/h.next<=b) x6);exact⟨e1,h6,_,M5,c5,a5,ks5,fr5,lv5,fv5,p1,f06.drop,Fx.xtF x0 f06 fun b hb=>by
  rcases hb with (hb|hb|hb)|hb
  ·rw[hb];exact hD1.1
  ·rw[hb];exact hD1.2.1
  ·rw[hb];exact hD1.2.2
  ·exact wd x0.next hb,tj,t22,sl5.ext f5.wf x6,by omega,td⟩
end
end
end Go.Proofs.YtedbmmfebjfibaaGreat

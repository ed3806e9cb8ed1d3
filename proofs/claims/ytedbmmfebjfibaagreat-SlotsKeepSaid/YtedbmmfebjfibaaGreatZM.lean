/-
  Part ZM of what Lawke stands on: printed by program, names and spaces cut.
-/
import Derived.Test.YtedbmmfebjfibaaGreatZL
open Go.Value renaming int→AI
open Go.IntKind renaming i64→AT
open Nat renaming reduceEqDiff→BY,reduceLT→By,reduceAdd→IS,le_refl→IT,zero_add→vk,succ→vo,ble→vx,beq→wB,lt_or_ge→wN,zero_le→wP,mul→wY,add_eq→xZ,add_zero→yc,zero_mul→zB,min_eq_left→zo,mul_zero→ACh
open Go renaming Value→IN,IntKind→wH
open List renaming length_append→No,length_map→OF,getElem?_eq_getElem→sh,getD_eq_getElem?_getD→vm,mem_cons_self→vp,mem_cons_of_mem→vr,length_cons→vw,mem_of_getElem?→vy,mem_singleton→v7,replicate→v8,getElem?_eq_some_iff→wC,getElem?_append_left→wD,append_nil→wF,mem_append→wK,getElem?_append_right→wQ,length_take→wT,map_append→wa,length_nil→wl,range→wm,getElem?_cons_succ→wy,nil_append→xE,drop_zero→xF,drop_of_length_le→xL,length_singleton→xR,drop_eq_getElem_cons→xW,take_length→xn,nodup_cons→xx,range_succ→ye,singleton_append→zJ,eq_of_mem_replicate→zn,find?_cons_of_neg→AAC,any_cons→AAU,length_range→AA0,take_take→ABp,drop→AC7,map_nil→ADG
open Int renaming sub→wi,ofNat→wj
set_option linter.unusedVariables false
set_option linter.unusedSimpArgs false
namespace Go.Proofs.YtedbmmfebjfibaaGreat
noncomputable section
open Go
set_option maxRecDepth 100000
theorem Cp{h:Hp}{b b' el el':Nat}{L L':List IN}(r:h.Row b el L)(r':h.Row b' el' L')(he:el≠el'):b≠b':=fun hb=>by
 subst hb;obtain⟨_,e1,_⟩:=r;obtain⟨_,e2,_⟩:=r';rw[e1]at e2;injection e2 with _ _ e3
 exact he e3
def Hp.Cl(h:Hp)(S:Nat->Prop)(en:Nat)(v:IN)(xs:List IN):Prop:=(v=AEP/\xs=[])\/∃ b el,v=.slice (some ⟨b,0,none⟩) xs.length xs.length/\h.Row b el xs/\(el=en+1\/el=0/\xs=[])/\S b/\256<=b
section
variable {F:AEB}{e:Env}{h h0 h':Hp}{S:Nat->Prop}{en:Nat}{v u:IN}{xs:List IN}
theorem Hp.Cl.vs(o:h.Cl S en v xs):h.VS S v xs:=by
 rcases o with h1|⟨b,el,h1,h2,h3,h4,h5⟩
 ·exact .inl h1
 ·exact .inr ⟨b,0,_,el,xs,h1,IT _,h2,by omega,by rw[xF,xn],h4⟩
theorem Ee{es eb b n:Nat}{cs:List IN}(x0:h0.Ext h)(r:h.Row b 0 [])(hs:∀ k:List IN->R,BJ h es u n k=k cs)(hlv:lenV u=.ok n)(hlen:cs.length=n*es)(hn:0<n)(ha:Bc cs=true)(hm:(n+1)*(eb+1)<=1099511627776):
  ∃ h',DQ es eb en (.slice (some ⟨b,0,none⟩) 0 0) u h=.ok (.slice (some ⟨h.next,0,none⟩) n n) h'/\h0.Ext h'/\h'.Row h.next (en+1) cs/\h'.next=h.next+1/\h.Ext h'/\h'.mark=h.mark/\h'.low=h.low/\h'.high=h.high:=by
 have W:=x0.wf;obtain⟨cc,hcc,hl⟩:=r.rowOf;obtain⟨t,h2,h3⟩:=EC cs cc [] 0 hl (.inr rfl);have h3:t.Is cs:=by simpa using h3
 refine⟨h.push (.cells t cs.length (en+1)),?_,x0.push _,⟨t,by rw[W.AEa,if_pos rfl],h3⟩,rfl,(Hp.Ext.refl W).push _,rfl,rfl,rfl⟩;unfold DQ Dj;simp only[hlv,hs,AZ,xZ,vk];have e1:vx n 0=false:=by
  cases e:vx n 0
  ·rfl
  ·have:=Ac.1 e;omega
 have e2:vx (wY (vo n) (vo eb)) Jm=true:=Ac.2 (IR hm);rw[e1];simp only[e2,cond_true,ha];unfold HJ;have hcc:rowOf h b=.ok cc 0 0:=hcc;have e3:wB 0 (wY 0 es)=true:=Am.2 (zB es).symm;simp only[hcc,e3,h2];unfold E5;simp only[hcc,BL,xZ,vk];unfold CL;rw[AZ,Cv W];rfl
theorem Hv{es eb b:Nat}(W:h.Wf)(AEO:256<=b)(r:h.Row b 0 [])(hs:∀ k:List IN->R,BJ h es u 0 k=k [])(hlv:lenV u=.ok 0):
  DQ es eb en (.slice (some ⟨b,0,none⟩) 0 0) u h=.ok (.slice (some ⟨b,0,none⟩) 0 0) (h.wr b 0 []):=by
 unfold DQ Dj;simp only[hlv,hs,AZ,xZ];have e1:vx 0 0=true:=rfl;have e0:0+0=0:=rfl;simp only[e0,e1];have e2:FD ⟨b,0,none⟩ (wY 0 es)=⟨b,0,none⟩:=by
  rw[show wY 0 es=0 from zB es];rfl
 rw[e2,r.store W AEO (by simp) rfl]
theorem Hp.Row.AGM{es b el off n c sl:Nat}{l:List IN}(r:h.Row b el l)(ho:off+n*es<=l.length){k:List IN->R}:BJ h es (.slice (some ⟨b,off,none⟩) sl c) n k=k ((l.drop off).take (n*es)):=by
 obtain⟨cc,hc,hl⟩:=r.rowOf;unfold BJ;simp only[hc];have e:wY n es=n*es:=rfl;rw[e];simp only[xZ];rw[Ac.2 ho];simp only[cond_true,F6,wF,Is.AFZ hl off _ ho]
theorem Jn{t el:Nat}{k:TK}{g:O}{a:Addr}{n c:Nat}(hk:k=.slice el)(hg:g e=.slice (some a) n c):oEq k false g (kV (.slice none 0 0)) F e h=.ok (.bool false) h:=by
 subst hk;show(match eqV (.slice el) (g e) (.slice none 0 0)with|some r=>okB (false != r) h|none=>.no)=_;rw[hg];exact Ff
theorem Jo{t el:Nat}{k:TK}{g:O}(hk:k=.slice el)(hg:g e=.slice none 0 0):oEq k false g (kV (.slice none 0 0)) F e h=.ok (.bool true) h:=by
 subst hk;show(match eqV (.slice el) (g e) (.slice none 0 0)with|some r=>okB (false != r) h|none=>.no)=_;rw[hg];exact Ff
theorem Kf{t:List IN}(W:h.Wf):Aj 0 (BQ t 0) [] F e h=.ok (.slice (some ⟨h.next,0,none⟩) 0 0) (h.AEA 0 []):=by
 have:BQ t 0=[]:=rfl;rw[this,CT,CO,Cw W];rfl
end
section
variable {h0 h:Hp}{u:IN}{es eb en:Nat}{cs vs:List IN}
theorem L2(x0:h0.Ext h)(hs:∀ k:List IN->R,BJ h es u 1 k=k vs)(hlv:lenV u=.ok 1)(hv:vs.length=es)(ha:Bc vs=true)(hm:2*(eb+1)<=70368744177664):
  ∃ h',DQ es eb en AEP u h=.ok (.slice (some ⟨h.next,0,none⟩) 1 1) h'/\h0.Ext h'/\h'.Row h.next (en+1) vs/\h'.next=h.next+1/\(h'.mark=h.mark/\h'.low=h.low/\h'.high=h.high)/\h.Ext h':=by
 have W:=x0.wf;obtain⟨t1,t2⟩:=Hx vs;refine⟨h.push (.cells (ofL vs) vs.length (en+1)),?_,x0.push _,⟨ofL vs,by rw[W.AEa,if_pos rfl],t2⟩,rfl,⟨rfl,rfl,rfl⟩,(Hp.Ext.refl W).push _⟩;unfold DQ Dj;simp only[hlv,hs,AZ,xZ,vk];have e1:vx 1 0=false:=rfl;have e2:vx (wY (vo 1) (vo eb)) Jm=true:=Ac.2 hm;simp only[e1,e2,cond_true,ha];unfold HJ BJ Jf;simp only[xE,t1];unfold E5;simp only[BL];unfold CL;rw[AZ,Cv W];rfl
theorem ON{n b:Nat}(x0:h0.Ext h)(hs:∀ k:List IN->R,BJ h es u 1 k=k vs)(hlv:lenV u=.ok 1)(hv:vs.length=es)(hes:0<es)(ha:Bc vs=true)(r:h.Row b (en+1) cs)(hlen:cs.length=n*es)(hb:h0.next<=b)(hb2:256<=b)(hm:(n+2)*(eb+1)<=70368744177664):
  ∃ h',DQ es eb en (.slice (some ⟨b,0,none⟩) n n) u h=.ok (.slice (some ⟨h.next,0,none⟩) (n+1) (n+1)) h'/\h0.Ext h'/\h'.Row h.next (en+1) (cs++vs)/\h'.next=h.next+1/\(h'.mark=h.mark/\h'.low=B6 h.low b/\h'.high=Cq h.high b)/\∀ b',b'<h.next->b'≠b->h'.bl.get b'=h.bl.get b':=by
 have W:=x0.wf;obtain⟨cc,hcc,hl⟩:=r.rowOf;obtain⟨t,h2,h3⟩:=EC vs cc cs cs.length hl (.inr rfl);have h3:t.Is (cs++vs):=by
  have e:cs.drop (cs.length+vs.length)=[]:=xL (by omega);rw[e]at h3
  simpa using h3
 have AIH:(cs++vs).length=cs.length+vs.length:=No;have hlt:=r.lt W;have W1:(h.put b .dead).Wf:=W.put hlt _;have x2:h0.Ext (h.put b .dead):=x0.put hb hlt _;refine⟨(h.put b .dead).push (.cells t (cs.length+vs.length) (en+1)),?_,x2.push _,⟨t,by
  have:=W1.AEa (.cells t (cs.length+vs.length) (en+1)) h.next;rw[this,if_pos (show h.next=(h.put b .dead).next from rfl),AIH],h3⟩,rfl,⟨rfl,rfl,rfl⟩,fun b' hb' hne=>?_⟩
 ·unfold DQ Dj
  simp only[hlv,hs,AZ,xZ];have e1:vx (n+1) n=false:=by
   cases e:vx (n+1) n
   ·rfl
   ·have:=Ac.1 e;omega
  have e2:vx (wY (vo (n+1)) (vo eb)) Jm=true:=Ac.2 hm;rw[e1];simp only[e2,cond_true,ha];unfold HJ;have e3:wB cs.length (wY n es)=true:=Am.2 hlen;simp only[hcc,e3,h2];unfold E5;have e4:LJ 0 n es cs.length=true:=by
   unfold LJ;cases n with
   |zero=>rfl
   |succ m=>exact Am.2 (by show 0+(m+1)*es=cs.length;omega)
  simp only[hcc,BL,xZ,Nat.beq_refl,cond_true,e4];rw[Do W hb2 hlt];unfold CL;rw[AZ,Cv W1];rfl
 ·rw[W1.AEa,if_neg (by show b'≠h.next;omega),W.AEk hlt,if_neg hne]
theorem Mu{n b:Nat}(x0:h0.Ext h)(hs:∀ k:List IN->R,BJ h es u 1 k=k vs)(hlv:lenV u=.ok 1)(hv:vs.length=es)(hes:0<es)(ha:Bc vs=true)(r:h.Row b (en+1) cs)(hlen:cs.length=n*es)(hb:h0.next<=b)(hb2:256<=b)(hm:(n+2)*(eb+1)<=70368744177664):
  ∃ h',DQ es eb en (.slice (some ⟨b,0,none⟩) n n) u h=.ok (.slice (some ⟨h.next,0,none⟩) (n+1) (n+1)) h'/\h0.Ext h'/\h'.Row h.next (en+1) (cs++vs)/\h'.next=h.next+1/\(h'.mark=h.mark/\h'.low=B6 h.low b/\h'.high=Cq h.high b)/\∀ b' el L,b'≠b->h.Row b' el L->h'.Row b' el L:=by
 obtain⟨h',a1,a2,a3,a4,a5,a6⟩:=ON x0 hs hlv hv hes ha r hlen hb hb2 hm;refine⟨h',a1,a2,a3,a4,a5,fun b' el L hne r'=>?_⟩;have hb':=r'.lt x0.wf;obtain⟨c',hc',hl'⟩:=r';exact⟨c',(a6 b' hb' hne).trans hc',hl'⟩
end
theorem Qf{g:Hp}{a lo hi:Nat}(h1:a<=lo)(h2:hi<=a):Lg (.ok a) g lo hi=true:=by
 show(bif vx a lo then vx hi a else false)=true;rw[Ac.2 h1,Ac.2 h2];rfl
theorem Zf{h0 h:Hp}{S:Nat->Prop}{eb en:Nat}{v w:IN}{xs:List IN}{bw:Nat}(x0:h0.Ext h)(o:h.Cl S en v xs)(hS:∀ b,S b->h0.next<=b)(rw_:h.Row bw 0 [w])(hw:oneCell w=true)(hl:xs.length<=1000000)(he:eb<=1000):
  ∃ h' b',DQ 1 eb en v (.slice (some ⟨bw,0,none⟩) 1 1) h=.ok (.slice (some ⟨b',0,none⟩) (xs.length+1) (xs.length+1)) h'/\h0.Ext h'/\h'.Row b' (en+1) (xs++[w])/\b'=h.next/\h'.next=h.next+1/\h'.mark=h.mark/\(∀ b el L,¬ S b->h.Row b el L->h'.Row b el L)/\(∀ b el L,el≠en+1->h.Row b el L->h'.Row b el L)/\
   (h.low=h.next->h.high=0->∀ g:Hp,g.next=h.next->Lg (AEn v) g h'.low h'.high=true):=by
 have hs:∀ k,BJ h 1 (.slice (some ⟨bw,0,none⟩) 1 1) 1 k=k [w]:=fun k=>rw_.AGM (es:=1) (off:=0) (n:=1) (by show 0+1*1<=1;omega)
 have ha:Bc [w]=true:=by
  show(bif oneCell w then true else false)=true;rw[hw];rfl
 have hm:(xs.length+2)*(eb+1)<=70368744177664:=by
  have:(xs.length+2)*(eb+1)<=1000002*1001:=Nat.mul_le_mul (by omega) (by omega);omega
 rcases o with ⟨rfl,rfl⟩|⟨b,el,rfl,r,hel,hb,AEO⟩
 ·obtain⟨h5,a1,a2,a3,a4,⟨a5,a7,a8⟩,a6⟩:=L2 (eb:=eb) (en:=en) x0 hs rfl rfl ha (by have:=hm;simp only[wl]at this;omega)
  exact⟨h5,h.next,a1,a2,a3,rfl,a4,a5,fun b el L _ r=>r.ext x0.wf a6,fun b el L _ r=>r.ext x0.wf a6,fun hlo hhi g hg=>by
   show vx g.next h5.low=true;rw[a7,hlo,hg];exact Ac.2 (IT _)⟩
 ·have hlt:=r.lt x0.wf
  rcases hel with rfl|⟨rfl,rfl⟩
  ·obtain⟨h5,a1,a2,a3,a4,⟨a5,a7,a8⟩,a6⟩:=Mu (eb:=eb) (en:=en) (n:=xs.length) x0 hs rfl rfl (by omega) ha r (Nat.mul_one _).symm (hS b hb) AEO hm
   refine⟨h5,h.next,a1,a2,a3,rfl,a4,a5,fun b' el L hne r'=>a6 _ _ _ (fun e=>hne (e ▸ hb)) r',fun b' el L h2 r'=>a6 _ _ _ (Cp r' r h2) r',fun hlo hhi g hg=>?_⟩;have e1:h5.low=b:=by rw[a7,hlo,BM];omega
   have e2:h5.high=b:=by rw[a8,hhi,B4];omega
   rw[e1,e2];exact Qf (IT _) (IT _)
  ·obtain⟨h5,a1,a2,a3,a4,a6,a5,a7,a8⟩:=Ee (eb:=eb) (en:=en) (n:=1) x0 r hs rfl rfl (by omega) ha (by have:=hm;simp only[wl]at this;omega)
   refine⟨h5,h.next,a1,a2,a3,rfl,a4,a5,fun b' el L _ r'=>r'.ext x0.wf a6,fun b' el L _ r'=>r'.ext x0.wf a6,fun hlo hhi g hg=>?_⟩;rw[a7,a8,hlo,hhi];show Lg (.ok b) g h.next 0=true;exact Qf (by omega) (wP _)
theorem VP{h h':Hp}{F:AEB}{e:Env}{x y:O}{eb en:Nat}{v u w:IN}(hx:x e=v)(hy:y e=u)(ha:DQ 1 eb en v u h.quiet=.ok w h')(hk:Lg (AEn v) h h'.low h'.high=true):Nx x (Bk 1 eb en x y) F e h=.ok w (h.back h'):=by
 show(match Bk 1 eb en x y F e h.quiet with|.ok v h'=>bif Lg (AEn (x e)) h h'.low h'.high then EG h v h' else .no|.no=>.no)=_;rw[BF,hx,hy,ha];show(bif Lg (AEn v) h h'.low h'.high then EG h w h' else .no)=_;rw[hk];show EG h w h'=_;unfold EG;simp only[AZ];rfl
inductive AEp where
 |w (i:Nat) (l:List Nat)
 |f
def A9:List Nat:=v8 64 0
def Im(h:Hp)(A:At)(S:Nat->Prop)(v:IN):AEp->Prop
 |.w i l=>(∃ r3 r10 r9 u,v=.func (.func 74) ⟨[]⟩ ⟨[pt r3,pt r10,pt r9]⟩/\h.Row r3 0 [pt A.bs]/\h.Row r10 0 [AI AT (i:Int)]/\h.Row r9 0 [u]/\h.BS S u (l.map bv)/\S r3/\S r10/\S r9)\/
  (∃ r2 r7 p,v=.func (.func 83) ⟨[]⟩ ⟨[pt r2,pt r7]⟩/\h.Row r2 0 [pt A.bs]/\h.Row r7 0 [AI AT ((p:Nat):Int)]/\i=p*3/\p<=65536/\l=A9/\S r2/\S r7)
 |.f=>v=.func (.func 76) ⟨[pt A.bd]⟩ ⟨[]⟩
theorem Hp.BS.AFQ{h h':Hp}{S S':Nat->Prop}{v:IN}{xs:List IN}(o:h.BS S v xs)(hk:∀ b el L,S b->(el=0\/el=6)->h.Row b el L->h'.Row b el L/\S' b):h'.BS S' v xs:=by
 rcases o with h1|⟨b,off,c,el,L,h1,h2,h3,h4,h5,h6,h7⟩
 ·exact .inl h1
 ·exact .inr ⟨b,off,c,el,L,h1,h2,(hk _ _ _ h6 h7 h3).1,h4,h5,(hk _ _ _ h6 h7 h3).2,h7⟩
theorem Im.AFQ{h h':Hp}{A:At}{S S':Nat->Prop}{v:IN}{d:AEp}(o:Im h A S v d)(hr:∀ b el L,S b->(el=0\/el=6)->h.Row b el L->h'.Row b el L/\S' b):Im h' A S' v d:=by
 cases d with
 |f=>exact o
 |w i l=>
  have hr0:=fun b L hs r=>hr b 0 L hs (.inl rfl) r
  rcases o with ⟨r3,r10,r9,u,h1,h2,h3,h4,h5,h6,h7,h8⟩|⟨r2,r7,p,h1,h2,h3,h4,h5,h6,h7,h8⟩
  ·exact .inl ⟨r3,r10,r9,u,h1,(hr0 _ _ h6 h2).1,(hr0 _ _ h7 h3).1,(hr0 _ _ h8 h4).1,h5.AFQ hr,(hr0 _ _ h6 h2).2,(hr0 _ _ h7 h3).2,(hr0 _ _ h8 h4).2⟩
  ·exact .inr ⟨r2,r7,p,h1,(hr0 _ _ h7 h2).1,(hr0 _ _ h8 h3).1,h4,h5,h6,(hr0 _ _ h7 h2).2,(hr0 _ _ h8 h3).2⟩
theorem aI{h:Hp}{A:At}{S:Nat->Prop}{v:IN}{d:AEp}(o:Im h A S v d):oneCell v=true:=by
 cases d with
 |f=>have o:v=_:=o;rw[o];rfl
 |w i l=>rcases o with ⟨r3,r10,r9,u,h1,_⟩|⟨r2,r7,p,h1,_⟩<;>rw[h1]<;>rfl
abbrev GI(h:Hp)(A:At)(v:IN)(d:AEp):Prop:=Im h A (fun b=>¬ A.D b) v d
def DW(n:Nat):List (Nat×List Nat)->List AEp->Prop
 |_,[]=>True
 |cs,.w i l::ds=>(∀ x∈cs,x.1≠i)/\i<n/\l.length=64/\(∀ x∈l,x<256)/\DW n (cs++[(i,l)]) ds
 |cs,.f::ds=>cs≠[]/\cs.length<=60/\DW n [] ds
def BP:List Nat->List (Nat×List Nat)->List AEp->List Nat×List (Nat×List Nat)
 |M,cs,[]=>(M,cs)
 |M,cs,.w i l::ds=>BP M (cs++[(i,l)]) ds
 |M,cs,.f::ds=>BP (E6 M cs) [] ds
structure Sc (h:Hp)(A:At)(T:List Nat)(ks:List Kt)(fr:List Nat)(lv fv:IN)(bad:Nat)(ov:Bool):Prop where
 row:h.Row A.bs 0 (slL A.bd A.tb lv fv bad ov)
 tab:h.Row A.tb 0 (T.map wv)
 tok:AE1 T
 ls:h.KS (fun b=>¬ A.D b) lv ks
 ko:∀ k∈ks,AGZ h (fun b=>¬ A.D b) k
 fs:h.WI (fun b=>¬ A.D b) fv (ints .i64 (fr.map wj))
 ne:A.bs≠A.bd/\A.bs≠A.bm/\A.bs≠A.bc/\¬ A.D A.tb/\256<=A.bs
 le:ks.length<=1000/\fr.length<=1000/\bad<=1000/\∀ p∈fr,3*p+3<=A.n
section
variable {F:AEB}{e:Env}{h h':Hp}{A:At}{T M:List Nat}{c0 bad m:Nat}{arm:Int}{ks:List Kt}{fr:List Nat}{lv fv:IN}{ov:Bool}
theorem Sl.sc(s:Sl h A T M c0 arm ks fr lv fv bad ov):Sc h A T ks fr lv fv bad ov:=⟨s.row,s.tab,s.tok,s.ls,s.ko,s.fs,s.ne,s.le⟩
theorem Sc.sl(s:Sc h A T ks fr lv fv bad ov)(d:Dk h A.bd A.bm A.bc A.n M c0 [] arm false):Sl h A T M c0 arm ks fr lv fv bad ov:=⟨s.row,d,s.tab,s.tok,s.ls,s.ko,s.fs,s.ne,s.le⟩
theorem Sc.keep(s:Sc h A T ks fr lv fv bad ov)(hr:∀ b el L,b≠A.bd->b≠A.bm->b≠A.bc->h.Row b el L->h'.Row b el L):Sc h' A T ks fr lv fv bad ov:=by
 have nd:∀ b,¬ A.D b->b≠A.bd/\b≠A.bm/\b≠A.bc:=fun b hb=>⟨fun e=>hb (.inr (.inl e)),fun e=>hb (.inr (.inr (.inl e))),fun e=>hb (.inr (.inr (.inr e)))⟩
 have ht:=nd _ s.ne.2.2.2.1;exact⟨hr _ _ _ s.ne.1 s.ne.2.1 s.ne.2.2.1 s.row,hr _ _ _ ht.1 ht.2.1 ht.2.2 s.tab,s.tok,s.ls.keep fun b _ _ hb r=>hr _ _ _ (nd b hb).1 (nd b hb).2.1 (nd b hb).2.2 r,fun k hk=>⟨(s.ko k hk).1.keep fun b _ _ hb _ r=>hr _ _ _ (nd b hb).1 (nd b hb).2.1 (nd b hb).2.2 r,(s.ko k hk).2⟩,s.fs.keep fun b _ _ hb r=>hr _ _ _ (nd b hb).1 (nd b hb).2.1 (nd b hb).2.2 r,s.ne,s.le⟩
abbrev At.K(A:At):Nat->Prop:=fun b=>b=A.bd\/b=A.bm\/b=A.bc
theorem Sc.fx(s:Sc h A T ks fr lv fv bad ov)(W:h.Wf)(x:Fx A.K h h'):Sc h' A T ks fr lv fv bad ov:=s.keep fun b el L h1 h2 h3 r=>x.row W r (by rintro (h|h|h)<;>contradiction)
theorem GI.keep{v:IN}{d:AEp}(o:GI h A v d)(hbs:True)(hr:∀ b el L,¬ A.D b->h.Row b el L->h'.Row b el L):GI h' A v d:=o.AFQ fun b el L hb _ r=>⟨hr b el L hb r,hb⟩
theorem UZ{b:Nat}(h:¬ A.D b):¬ A.K b:=fun h1=>h (.inr h1)
theorem Vj(W:h.Wf)(R:h.Row A.bs 0 (slL A.bd A.tb lv fv bad ov))(hne:¬ A.K A.bs){cs:List (Nat×List Nat)}(d:Dk h A.bd A.bm A.bc A.n M c0 cs arm false){k:Nat}(ha:HF arm (k+1)){v:IN}{i:Nat}{l:List Nat}(o:GI h A v (.w i l))(hi:i<A.n)(hc:∀ x∈cs,x.1≠i/\x.1<A.n)(hl:l.length=64):
  ∃ h',HV (call AC (m+4)) v [] h=.ok (AI AT 0) h'/\Fx A.K h h'/\Dk h' A.bd A.bm A.bc A.n M c0 (cs++[(i,l)]) (AFN arm) false:=by
 rcases o with ⟨r3,r10,r9,u,rfl,h2,h3,h4,h5,h6,h7,h8⟩|⟨r2,r7,p,rfl,h2,h3,rfl,h5,rfl,h7,h8⟩
 ·obtain⟨l0,_⟩:=A7 (R.same (h':=h.marked) rfl)
  have m3:AEF ⟨r3,0,none⟩ h.marked=.ok (pt A.bs) h.marked:=(h2.same (h':=h.marked) rfl).AEF (off:=0) (by show 0<1;omega);have m10:AEF ⟨r10,0,none⟩ h.marked=.ok (AI AT (i:Int)) h.marked:=(h3.same (h':=h.marked) rfl).AEF (off:=0) (by show 0<1;omega);have m9:AEF ⟨r9,0,none⟩ h.marked=.ok u h.marked:=(h4.same (h':=h.marked) rfl).AEF (off:=0) (by show 0<1;omega);obtain⟨h1,k1,f1,d1⟩:=TW (m:=m) W.marked.quiet (d.same (h':=h.marked.quiet) rfl) ha hi hc ((h5.vs.same (h':=h.marked.quiet) rfl).mono fun b hb e=>hb (.inr (.inl e))) hl;have q1:∀ e:Env,J 7 e=pt A.bd->J 8 e=AI AT (i:Int)->J 9 e=u->Al .free (AS 75 [J 7,J 8,J 9]) (call AC (m+3)) e h.marked=.ok (AI AT 0) (h.marked.back h1):=fun e e1 e2 e3=>by
   refine BO ?_;rw[Ba,AV,AV,AV,A1,e1,e2,e3];exact k1
  refine⟨h.marked.back h1,?_,((f1.mono (T:=A.K) fun b hb=>hb.elim .inl fun h=>.inr (.inr h)).from (h:=h.marked) rfl rfl).same (h2:=h.marked.back h1) rfl rfl |>.from (h:=h) rfl rfl,d1.same rfl⟩;rw[CI];show call AC (m+3+1) 74 [pt r3,pt r10,pt r9] h=_;rw[ZU rfl];unfold d74;simp only[iN,IS,sT,By,BY,reduceIte,A3,AK,AO,m3,Ao,Ad,AG,AM,vk,l0,m10,m9,q1,lV0]
 ·have m2:AEF ⟨r2,0,none⟩ h.marked=.ok (pt A.bs) h.marked:=(h2.same (h':=h.marked) rfl).AEF (off:=0) (by show 0<1;omega)
  have m7:AEF ⟨r7,0,none⟩ h.marked=.ok (AI AT (p:Int)) h.marked:=(h3.same (h':=h.marked) rfl).AEF (off:=0) (by show 0<1;omega);obtain⟨l0,_⟩:=A7 (R.same (h':=h.marked) rfl);have o1:∀ (off:Nat) (kk:C) (F:AEB) (e:Env),JA (.pointer (some ⟨r2,off,none⟩)) kk F e h.marked=kk F e h.marked:=fun off kk F e=>Dg (h2.lt W)
  have o2:∀ (off:Nat) (kk:C) (F:AEB) (e:Env),JA (.pointer (some ⟨A.bs,off,none⟩)) kk F e h.marked=kk F e h.marked:=fun off kk F e=>Dg (R.lt W)
  have k1:=MQ (m:=m+1) (R.same (h':=h.marked.quiet) rfl) (p:=p) h5;have q1:∀ e:Env,J 7 e=pt A.bs->J 8 e=AI AT (p:Int)->Al .weak (AS 46 [J 7,J 8]) (call AC (m+3)) e h.marked=.ok (AI AT ((p*3:Nat):Int)) (h.marked.back h.marked.quiet):=fun e e1 e2=>by
   refine Ge W.marked ?_ (IT _);rw[Ba,AV,AV,A1,e1,e2];exact k1
  have y2:h.Ext (h.marked.back h.marked.quiet):=Hp.Ext.AFK (Hp.Ext.refl W).marked (Hp.Ext.refl W).marked.quiet;have n2:(h.marked.back h.marked.quiet).next=h.next:=rfl;have b2:(h.marked.back h.marked.quiet).bl=h.bl:=rfl;have mk2:(h.marked.back h.marked.quiet).mark=h.next:=rfl;generalize h.marked.back h.marked.quiet=h2' at q1 y2 n2 b2 mk2;have qm:∀ (F:AEB) (e:Env),Al .AEV (Gb 1 ty5.zero (kV (AI AT 64)) (kV (AI AT 64))) F e h2'=.ok (.slice (some ⟨h2'.next,0,none⟩) 64 64) (h2'.back (h2'.quiet.AEA 0 (A9.map bv))):=fun F e=>by
   have:=L9 (F:=F) (e:=e) y2.quiet.wf (x:=kV (AI AT 64)) (y:=kV (AI AT 64)) (N:=64) rfl rfl (by omega);have hz:v8 64 0=A9:=rfl;exact DP this ((Hp.Ext.refl y2.quiet.wf).AEA _ _) (by omega)
  have y3:h2'.Ext (h2'.back (h2'.quiet.AEA 0 (A9.map bv))):=.back ((Hp.Ext.refl y2.wf.quiet).AEA _ _);have R3:(h2'.back (h2'.quiet.AEA 0 (A9.map bv))).Row h2'.next 0 (A9.map bv):=(Hp.Row.new y2.wf.quiet 0 (A9.map bv)).same rfl;have n3:(h2'.back (h2'.quiet.AEA 0 (A9.map bv))).next=h2'.next+1:=rfl;generalize h2'.back (h2'.quiet.AEA 0 (A9.map bv))=h3' at qm y3 R3 n3;have x3:=y2.trans y3;have hbd:=(d.lt W).1;have AKt:A9.length=64:=rfl;obtain⟨h4,k4,f4,d4⟩:=TW (m:=m) x3.wf.quiet ((d.ext W x3).same (h':=h3'.quiet) rfl) ha hi hc (u:=.slice (some ⟨h2'.next,0,none⟩) 64 64) (l:=A9) (.inr ⟨h2'.next,0,64,0,_,rfl,IT _,R3.same rfl,IT _,rfl,by omega⟩) rfl;have q4:∀ e:Env,J 6 e=pt A.bd->J 9 e=AI AT ((p * 3:Nat):Int)->J 10 e=.slice (some ⟨h2'.next,0,none⟩) 64 64->Al .free (AS 75 [J 6,J 9,J 10]) (call AC (m+3)) e h3'=.ok (AI AT 0) (h3'.back h4):=fun e e1 e2 e3=>by
   refine BO ?_;rw[Ba,AV,AV,AV,A1,e1,e2,e3];exact k4
  refine⟨h3'.back h4,?_,(Fx.of (S:=A.K) x3).trans (((f4.mono (T:=A.K) fun b hb=>hb.elim .inl fun h=>.inr (.inr h)).from (h:=h3') rfl rfl).same (h2:=h3'.back h4) rfl rfl),d4.same rfl⟩;rw[CI];show call AC (m+3+1) 83 [pt r2,pt r7] h=_;rw[ZZ rfl];unfold d83;simp only[iN,IS,sT,By,BY,reduceIte,A3,EH,o1,o2,Da,AK,AO,m2,Ao,Ad,AG,AM,vk,l0,m7,q1,qm,q4,lV0]
theorem Y5:alS=BI (AY 0 (Aw alB)) alE:=rfl
theorem Z3:d47=Xm:=rfl
theorem Ow(M:List Nat)(cs:List (Nat×List Nat))(d:AEp)(ds:List AEp):BP M cs (d::ds)=BP (match d with|.w _ _=>M|.f=>E6 M cs) (match d with|.w i l=>cs++[(i,l)]|.f=>[]) ds:=by cases d<;>rfl
theorem lE(W:h.Wf)(R:h.Row A.bs 0 (slL A.bd A.tb lv fv bad ov))(hne:¬ A.K A.bs)(d:Dk h A.bd A.bm A.bc A.n M c0 [] arm false){ds:List AEp}{vs:List IN}{dv:IN}(V:h.VS (fun b=>¬ A.D b) dv vs)(hlen:vs.length=ds.length)(hd:∀ (i:Nat) (v:IN) (x:AEp),vs[i]? =some v->ds[i]? =some x->GI h A v x)(hok:DW A.n [] ds)(ha:HF arm ds.length)(AFy:ds.length<=100):
  ∃ h' c1 AEc,call AC (m+5) 47 [pt A.bs,dv] h=.ok (AI AT 0) h'/\Fx A.K h h'/\Dk h' A.bd A.bm A.bc A.n (BP M [] ds).1 c1 (BP M [] ds).2 AEc false/\AEc=(wm ds.length).foldl (fun a _=>AFN a) arm:=by
 have Vl:=V.vals.len;have pre:∃ e1,Xm (call AC (m+4)) (AQ e0 0 [pt A.bs,dv]) h=alS (call AC (m+4)) e1 h/\J 0 e1=pt A.bs/\J 8 e1=dv/\J 9 e1=AI AT (vs.length:Int)/\J 10 e1=AI AT ((0:Nat):Int):=by
  unfold Xm;simp only[iN,IS,sT,By,BY,reduceIte,AX,Vl];exact⟨_,rfl,by simp[AD]⟩
 obtain⟨e1,p1,s0,s8,s9,s10⟩:=pre;have run:∃ e' h' c1 AEc,Aw alB (call AC (m+4)) e1 h=.exit 0 e' h'/\Fx A.K h h'/\Dk h' A.bd A.bm A.bc A.n (BP M [] ds).1 c1 (BP M [] ds).2 AEc false/\AEc=(wm ds.length).foldl (fun a _=>AFN a) arm:=by
  refine BU (I:=fun i e' h'=>∃ (M':List Nat) (cs':List (Nat×List Nat)) (c1:Nat) (AEc:Int),Fx A.K h h'/\Dk h' A.bd A.bm A.bc A.n M' c1 cs' AEc false/\AEc=(wm i).foldl (fun a _=>AFN a) arm/\HF AEc (ds.length - i)/\DW A.n cs' (ds.drop i)/\BP M [] ds=BP M' cs' (ds.drop i)/\AFU cs'/\AEv A.n cs'/\i<=ds.length/\J 0 e'=pt A.bs/\J 8 e'=dv/\J 9 e'=AI AT (vs.length:Int)/\J 10 e'=AI AT (i:Int))
   (Q:=fun x=>∃ e' h' c1 AEc,x=.exit 0 e' h'/\Fx A.K h h'/\Dk h' A.bd A.bm A.bc A.n (BP M [] ds).1 c1 (BP M [] ds).2 AEc false/\AEc=(wm ds.length).foldl (fun a _=>AFN a) arm) ds.length (by omega) (fun i e' h' ⟨M',cs',c1,AEc,x',d',ea,ha',ok',er,hK,hS,hi,t0,t8,t9,t10⟩=>?_)
   ⟨M,[],c0,arm,.refl W,d,rfl,by rw[Nat.sub_zero];exact ha,by rw[xF];exact hok,by rw[xF],fun i j y z h=>(by cases h),fun y hy=>(by cases hy),wP _,s0,s8,s9,s10⟩
  by_cases hlt:i<ds.length
  ·left
   have hiv:i<vs.length:=by omega
   have c1':iLt (i:Int) (vs.length:Int)=true:=EF hiv;have V':=V.fx W x' fun b hb=>UZ hb
   obtain⟨a,g1,g2⟩:=V'.vals.at hiv;have hv:vs[i]? =some (vs.getD i AEE):=by rw[vm,sh hiv];rfl
   have hx:ds[i]? =some (ds[i]'hlt):=sh hlt;have dI:=(hd i _ _ hv hx).keep (h':=h') trivial fun b el L hb r=>x'.row W r (UZ hb)
   generalize vs.getD i AEE=v at g2 dI;have AGJ:ds.drop i=ds[i]'hlt::ds.drop (i+1):=xW hlt;rw[AGJ]at ok' er;generalize ds[i]'hlt=x at dI ok' er;have hk:ds.length - i=(ds.length - (i+1))+1:=by omega
   rw[hk]at ha';have R':=x'.row W R hne;have step:∃ h2 M2 cs2 c2,HV (call AC (m+4)) v [] h'=.ok (AI AT 0) h2/\Fx A.K h' h2/\Dk h2 A.bd A.bm A.bc A.n M2 c2 cs2 (AFN AEc) false/\DW A.n cs2 (ds.drop (i+1))/\BP M [] ds=BP M2 cs2 (ds.drop (i+1))/\AFU cs2/\AEv A.n cs2:=by
    cases x with
    |w j l=>
     obtain⟨o1,o2,o3,o4,o5⟩:=ok';obtain⟨h2,k2,f2,d2⟩:=Vj (m:=m) x'.wf R' hne d' ha' dI o2 (fun y hy=>⟨o1 y hy,(hS y hy).1⟩) o3;refine⟨h2,M',cs'++[(j,l)],c1,k2,f2,d2,o5,er,fun p q y z hp hq he=>?_,fun y hy=>?_⟩
     ·rcases wN p cs'.length with hp1|hp1<;>rcases wN q cs'.length with hq1|hq1
      ·rw[wD hp1]at hp
       rw[wD hq1]at hq;exact hK p q y z hp hq he
      ·rw[wD hp1]at hp
       have hzm:=vy hq;rw[wQ hq1]at hq;have hz:=vy hq;rw[v7.1 hz]at he;exact absurd he (o1 y (vy hp))
      ·rw[wD hq1]at hq
       rw[wQ hp1]at hp;have hz:=vy hp;rw[v7.1 hz]at he;exact absurd he.symm (o1 z (vy hq))
      ·have h1:=(wC.1 hp).1
       have h2:=(wC.1 hq).1;rw[No,xR]at h1 h2;omega
     ·rcases wK.1 hy with hy|hy
      ·exact hS y hy
      ·rw[v7.1 hy];exact⟨o2,o3,o4⟩
    |f=>
     obtain⟨o1,o2,o3⟩:=ok';obtain⟨h2,k2,f2,d2⟩:=RF (m:=m+1) x'.wf d' ha' hK hS o1 o2;have dI:v=.func (.func 76) ⟨[pt A.bd]⟩ ⟨[]⟩:=dI;exact⟨h2,E6 M' cs',[],_,by rw[dI,CI];exact k2,f2,d2,o3,er,fun i j y z h=>(by cases h),fun y hy=>by cases hy⟩
   obtain⟨h2,M2,cs2,c2,k2,f2,d2,ok2,er2,hK2,hS2⟩:=step;have c0':iNe 0 0=false:=CY rfl;have a3:=CF (i:=i) (h:=h2) (by omega);have hrun:∃ e2,alB (call AC (m+4)) e' h'=.norm e2 h2/\J 0 e2=pt A.bs/\J 8 e2=dv/\J 9 e2=AI AT (vs.length:Int)/\J 10 e2=AI AT ((i+1:Nat):Int):=by
    unfold alB;simp only[sT,By,BY,reduceIte,AJ,AH,t10,t9,c1',Ay,t8,g1,AK,g2,Ca,A1,k2,c0',BG,a3];exact⟨_,rfl,by simp[AD,t0,t8,t9]⟩
   obtain⟨e2,r1,r2,r3,r4,r5⟩:=hrun;exact⟨hlt,e2,h2,r1,M2,cs2,c2,AFN AEc,x'.trans f2,d2,by rw[ye,List.foldl_append,<- ea];rfl,ha'.one.1,ok2,er2,hK2,hS2,by omega,r2,r3,r4,r5⟩
  ·right
   have hie:i=ds.length:=by omega
   have c1':iLt (i:Int) (vs.length:Int)=false:=Cz (by omega);have hrun:∃ e2,alB (call AC (m+4)) e' h'=.exit 0 e2 h':=by
    unfold alB;simp only[sT,By,BY,reduceIte,AJ,AH,t10,t9,c1'];exact⟨_,rfl⟩
   obtain⟨e2,r1⟩:=hrun;rw[r1];rw[hie,List.drop_length]at er;have er:BP M [] ds=(M',cs'):=er;rw[er];exact⟨rfl,e2,h',c1,AEc,rfl,x',d',by rw[ea,hie]⟩
 obtain⟨e2,h2,c1,AEc,r1,r2,r3,r4⟩:=run;refine⟨h2,c1,AEc,?_,r2,r3,r4⟩;rw[ZP rfl,Z3,p1,Y5];simp only[BB,Ap,r1,Az,A8];unfold alE;simp only[sT,By,BY,reduceIte,lV0]
end
end
noncomputable section
open Go
set_option maxRecDepth 100000
def Ct(l:List Nat)(j:Nat):List Nat:=(l.drop (64*j)).take 64++v8 (64 - ((l.drop (64*j)).take 64).length) 0
theorem CW(l:List Nat)(j:Nat):(Ct l j).length=64:=by
 unfold Ct;rw[No,List.length_replicate,wT];omega
theorem JQ{l:List Nat}(h:∀ x∈l,x<256)(j:Nat):∀ x∈Ct l j,x<256:=fun x hx=>by
 rcases wK.1 hx with hx|hx
 ·exact h x (List.mem_of_mem_drop (List.mem_of_mem_take hx))
 ·rw[zn hx];decide
section
variable {F:AEB}{e:Env}{h h':Hp}{A:At}{bad m:Nat}{lv fv:IN}{ov:Bool}
theorem Hp.AEb.AJ1{v:IN}{l:List IN}(b:h.AEb v l){n:Nat}(hn:n<=l.length)(k:List IN->R):BJ h 1 v n k=k (l.take n):=by
 rcases b with ⟨h1,h2⟩|⟨b,off,c,el,L,h1,h2,h3,h4⟩
 ·subst h1;subst h2
  obtain rfl:n=0:=by simpa using hn
  rfl
 ·rw[h1,h2.src (by omega),<- h4,ABp,zo hn]
theorem Zn(W:h.Wf){x y:O}{r:Nat}{w:IN}{l:List Nat}(AEO:256<=r)(hx:x e=.slice (some ⟨r,0,none⟩) 64 64)(hy:y e=w)(V:h.AEb w (l.map bv))(R:h.Row r 0 (A9.map bv)):
  ∃ v',Jq 1 x y F e h=.ok v' (h.wr r 0 ((l.take 64).map bv))/\over (A9.map bv) 0 ((l.take 64).map bv)=(Ct l 0).map bv:=by
 have hz:(A9.map bv).length=64:=rfl;have hn:B6 l.length 64<=(l.map bv).length:=by rw[OF,BM];omega
 have ht:(l.map bv).take (B6 l.length 64)=(l.take 64).map bv:=by
  rw[<- List.map_take,BM]
  congr 1
  rcases Nat.le_total l.length 64 with h1|h1
  ·rw[zo h1,xn,List.take_of_length_le h1]
  ·rw[Nat.min_eq_right h1]
 refine⟨AI AT (B6 l.length 64:Nat),?_,?_⟩
 ·show Qt 1 (x e) (y e) h=_
  rw[hx,hy];unfold Qt;have lv:=V.lenV;rw[OF]at lv;simp only[lv,AZ,V.AJ1 hn,ht];rw[R.store W AEO (by rw[hz,OF,wT];omega) (C6 _)];rfl
 ·unfold over Ct
  rw[List.take_zero,xE,vk,wa,ACh,xF,OF,<- List.map_drop]
  congr 2
  show AC7 _ (v8 64 0)=_;rw[List.drop_replicate]
theorem j6:B3 .mt 0 [.slice none 0 0]=some vF:=by kernel_rfl
theorem eT:B3 .mt 0 [AI AT 0]=some zt3:=by kernel_rfl
theorem JP(W:h.Wf){t:VT}{z v:IN}(ht:B3 .mt 0 [z]=some t)(h1:cellsOf v=[v])(ho:oneCell v=true):
  ∃ h',(∀ (F:AEB) (e:Env),B7 1 t F e h=.ok (pt h.next) (h.push (.cells t 1 0)))/\AER 1 (pt h.next) v (h.push (.cells t 1 0))=.ok AEE h'/\h.Ext h'/\h'.Row h.next 0 [v]/\h'.next=h.next+1/\h'.mark=h.mark:=by
 have R:=Hp.Row.alloc W ht (show [z].length=1 from rfl);have x:h.Ext (h.push (.cells t 1 0)):=(Hp.Ext.refl W).push _;have hoo:0+(cellsOf v).length<=[z].length:=by rw[h1];exact IT _
 have st:=R.AER (n:=1) (off:=0) x.wf W.big (v:=v) (by rw[h1];rfl) hoo (by
  rw[h1];show(bif oneCell v then true else false)=true;rw[ho];rfl)
 have wr:=R.AET x.wf hoo;rw[Hy (by rw[h1];rfl),h1]at wr;rw[h1]at st;have AII:0+[v].length<=[z].length:=IT _;obtain⟨_,_,ew,_⟩:=R.AFT AII;exact⟨_,fun F e=>Bx W,st,R.AEi x (IT _) AII,wr,R.AEt AII,by rw[ew];rfl⟩
theorem ra:BQ TQ.zero 1=[.nilFunc]:=by kernel_rfl
theorem Jd(W:h.Wf){g:O}{f:Nat}{a b:List IN}(hg:g e=.func (.func f) ⟨a⟩ ⟨b⟩):Aj 1 (BQ TQ.zero 1) [(0,1,g)] F e h=.ok (.slice (some ⟨h.next,0,none⟩) 1 1) (h.AEA 0 [.func (.func f) ⟨a⟩ ⟨b⟩]):=by
 rw[ra];exact IZ W hg rfl rfl
theorem uE{i:Nat}(hi:i<=1000000):UA .i64 (AI AT ((64*i:Nat):Int)) (AI AT 64) h=.ok (AI AT (i:Int)) h:=by
 have:((64*i:Nat):Int).tdiv 64=(i:Int):=by
  show wj ((64*i)/64)=_;rw[Nat.mul_div_cancel_left _ (by decide)];rfl
 rw[Lu (by omega),this,Bb (by omega)]
theorem rV:wrS=BI (AY 0 (Aw wrB)) wrE:=rfl
theorem pK:d45=gB:=rfl
def CJ(h:Hp)(A:At)(k:Nat)(v:IN)(ds:List AEp):Prop:=∃ vs,h.Own k 75 v vs/\vs.length=ds.length/\∀ (i:Nat) (w:IN) (x:AEp),vs[i]? =some w->ds[i]? =some x->Im h A (fun b=>¬ A.D b/\¬ AEe v b) w x
theorem iJ{b k:Nat}(hD:∀ b,A.D b->b<k)(hb:k<=b):¬ A.D b:=fun h=>by have:=hD b h;omega
theorem CJ.ext{k:Nat}{v:IN}{ds:List AEp}(o:CJ h A k v ds)(W:h.Wf)(x:h.Ext h'):CJ h' A k v ds:=by
 obtain⟨vs,a,b,c⟩:=o;exact⟨vs,a.ext W x,b,fun i w y h1 h2=>(c i w y h1 h2).AFQ fun b el L hb _ r=>⟨r.ext W x,hb⟩⟩
theorem CJ.same{k:Nat}{v:IN}{ds:List AEp}(o:CJ h A k v ds)(hb:h'.bl=h.bl):CJ h' A k v ds:=by
 obtain⟨vs,a,b,c⟩:=o;exact⟨vs,a.same hb,b,fun i w y h1 h2=>(c i w y h1 h2).AFQ fun b el L hb' _ r=>⟨r.same hb,hb'⟩⟩
theorem CJ.snoc{h0:Hp}{k:Nat}{v w:IN}{ds:List AEp}{f:Nat}{a b:List IN}(x0:h0.Ext h)(hk:h0.next<=k)(hk2:k<=h.next)(o:CJ h A k v ds)(hw:w=.func (.func f) ⟨a⟩ ⟨b⟩){d:AEp}(hd:Im h A (fun b=>¬ A.D b/\¬ AEe v b) w d)(hl:ds.length<=1000):
  ∃ h' v',DQ 1 8 75 v (.slice (some ⟨h.next,0,none⟩) 1 1) (h.AEA 0 [w])=.ok v' h'/\h0.Ext h'/\CJ h' A k v' (ds++[d])/\h.next<=h'.next/\(∀ b el L,¬ AEe v b->h.Row b el L->h'.Row b el L):=by
 obtain⟨vs,o1,o2,o3⟩:=o;have W:=x0.wf;have x1:=x0.AEA 0 [w];have y1:=(Hp.Ext.refl W).AEA 0 [w];have on:oneCell w=true:=by rw[hw];rfl
 obtain⟨h',v',a1,a2,a3,a4,a5⟩:=En (eb:=8) (en:=75) (k:=k) (u:=.slice (some ⟨h.next,0,none⟩) 1 1) (ys:=[w]) x1 hk (Nat.le_succ_of_le hk2) (o1.ext W y1) (SR W) (by simp) (by
  show(bif oneCell w then true else false)=true;rw[on];rfl) (by simp only[xR];omega)
 have kp:∀ b el L,¬ A.D b/\¬ AEe v b->(el=0\/el=6)->h.Row b el L->h'.Row b el L/\(¬ A.D b/\¬ AEe v' b):=fun b el L hb _ r=>by
  have:=a5 b el L hb.2 (r.ext W y1);exact⟨this.1,hb.1,this.2⟩
 refine⟨h',v',a1,a2,⟨vs++[w],a3,by rw[No,No,o2];rfl,fun i z y h1 h2=>?_⟩,by have:h'.next=h.next+1+1:=a4;omega,fun b el L hb r=>(a5 b el L hb (r.ext W y1)).1⟩;rcases wN i vs.length with hi|hi
 ·rw[wD hi]at h1
  rw[wD (by omega)]at h2;exact(o3 i z y h1 h2).AFQ kp
 ·rw[wQ hi]at h1
  rw[wQ (by omega)]at h2;have e1:=v7.1 (vy h1);have e2:=v7.1 (vy h2);rw[e1,e2];exact hd.AFQ kp
theorem CJ.app{h0:Hp}{k k2:Nat}{v v2:IN}{ds ds2:List AEp}(x0:h0.Ext h)(hk:h0.next<=k)(hk2:k<=h.next)(o:CJ h A k v ds)(o2:CJ h A k2 v2 ds2)(hne:0<ds2.length)(hl:ds.length+ds2.length<=1000):
  ∃ h' v',DQ 1 8 75 v v2 h=.ok v' h'/\h0.Ext h'/\CJ h' A k v' (ds++ds2)/\h.next<=h'.next/\(∀ b el L,(el=0\/el=6)->h.Row b el L->h'.Row b el L):=by
 obtain⟨vs,o1,o2',o3⟩:=o;obtain⟨ws,p1,p2,p3⟩:=o2;have W:=x0.wf;have on:∀ w∈ws,oneCell w=true:=fun w hw=>by
  obtain⟨i,hi⟩:=List.mem_iff_getElem?.1 hw;have hil:=(wC.1 hi).1;exact aI (p3 i w _ hi (sh (by omega)))
 obtain⟨h',v',a1,a2,a3,a4,a5⟩:=En (eb:=8) (en:=75) (k:=k) (u:=v2) (ys:=ws) x0 hk hk2 o1 p1.vals (by omega) (QA on) (by omega);have nbv:∀ b el L,(el=0\/el=6)->h.Row b el L->¬ AEe v b:=fun b el L he r ⟨off,nn,c,e1⟩=>by
  rcases o1 with ⟨h1,h2⟩|⟨b',h1,h2,h3,h4⟩
  ·rw[h1]at e1;cases e1
  ·rw[h1]at e1
   injection e1 with e1 _ _
   injection e1 with e1
   injection e1 with e1 _ _
   rw[e1]at h2;exact Cp r h2 (by omega) rfl
 have kp:∀ b el L,¬ A.D b->(el=0\/el=6)->h.Row b el L->h'.Row b el L/\(¬ A.D b/\¬ AEe v' b):=fun b el L hb he r=>by
  have:=a5 b el L (nbv b el L he r) r;exact⟨this.1,hb,this.2⟩
 refine⟨h',v',a1,a2,⟨vs++ws,a3,by rw[No,No,o2',p2],fun i z y h1 h2=>?_⟩,by omega,fun b el L he r=>(a5 b el L (nbv b el L he r) r).1⟩;rcases wN i vs.length with hi|hi
 ·rw[wD hi]at h1
  rw[wD (by omega)]at h2;exact(o3 i z y h1 h2).AFQ fun b el L hb he r=>kp b el L hb.1 he r
 ·rw[wQ hi]at h1
  rw[wQ (by omega),<- o2']at h2;exact(p3 _ z y h1 h2).AFQ fun b el L hb he r=>kp b el L hb.1 he r
theorem CJ.ends{k:Nat}{v:IN}{ds:List AEp}(o:CJ h A k v ds)(hD:∀ b,A.D b->b<k):∃ vs,h.VS (fun b=>¬ A.D b) v vs/\vs.length=ds.length/\∀ (i:Nat) (w:IN) (x:AEp),vs[i]? =some w->ds[i]? =some x->GI h A w x:=by
 obtain⟨vs,o1,o2,o3⟩:=o;refine⟨vs,?_,o2,fun i w x h1 h2=>(o3 i w x h1 h2).AFQ fun b el L hb _ r=>⟨r,hb.1⟩⟩;rcases o1 with ⟨h1,h2⟩|⟨b,h1,h2,h3,h4⟩
 ·exact .inl ⟨h1,h2⟩
 ·exact .inr ⟨b,0,_,_,vs,h1,IT _,h2,by omega,by rw[xF,xn],iJ hD h3⟩
theorem LF(W:h.Wf)(R:h.Row A.bs 0 (slL A.bd A.tb lv fv bad ov))(hD:∀ b,A.D b->b<h.next){sct:Nat}(hs:sct<=100000){u:IN}{l:List Nat}{ku:Nat}(AKz:Mk h ku u l)(hl:l.length<=6400):
  ∃ h' v,call AC (m+1) 45 [pt A.bs,AI AT (sct:Int),u] h=.ok v h'/\h.Ext h'/\CJ h' A h.next v ((wm ((l.length+63)/64)).map (fun j=>AEp.w (sct+j) (Ct l j))++[.f]):=by
 have bx:=fun (F:AEB) (e:Env) (he:J 0 e=pt A.bs)=>(show DA (J 0) F e h=.ok (pt h.next) (h.AEA 0 [pt A.bs])by rw[Ev,he,Es W];rfl)
 have x1:=(Hp.Ext.refl W).AEA 0 [pt A.bs];have R3:=Hp.Row.new W 0 [pt A.bs];have n1:(h.AEA 0 [pt A.bs]).next=h.next+1:=rfl;generalize h.AEA 0 [pt A.bs]=h1 at bx x1 R3 n1;have nD3:¬ A.D h.next:=iJ hD (IT _);have pre:∃ e1,gB (call AC m) (AQ e0 0 [pt A.bs,AI AT (sct:Int),u]) h=wrS (call AC m) e1 h1/\J 1 e1=AI AT (sct:Int)/\J 2 e1=u/\J 3 e1=pt h.next/\J 7 e1=.slice none 0 0/\J 8 e1=AI AT ((64 * 0:Nat):Int):=by
  unfold gB;simp only[iN,IS,sT,By,BY,reduceIte,bx];exact⟨_,rfl,by simp[AD]⟩
 obtain⟨e1,p1,s1,s2,s3,s7,s8⟩:=pre;have run:∃ e' h' v,Aw wrB (call AC m) e1 h1=.exit 0 e' h'/\h.Ext h'/\CJ h' A h1.next v ((wm ((l.length+63)/64)).map fun j=>AEp.w (sct+j) (Ct l j))/\h'.Row h.next 0 [pt A.bs]/\h1.next<=h'.next/\J 3 e'=pt h.next/\J 7 e'=v:=by
  refine BU (I:=fun i e' h'=>∃ v,h.Ext h'/\CJ h' A h1.next v ((wm i).map fun j=>AEp.w (sct+j) (Ct l j))/\h'.Row h.next 0 [pt A.bs]/\h1.next<=h'.next/\i<=(l.length+63)/64/\J 1 e'=AI AT (sct:Int)/\J 2 e'=u/\J 3 e'=pt h.next/\J 7 e'=v/\J 8 e'=AI AT ((64*i:Nat):Int))
   (Q:=fun x=>∃ e' h' v,x=.exit 0 e' h'/\h.Ext h'/\CJ h' A h1.next v ((wm ((l.length+63)/64)).map fun j=>AEp.w (sct+j) (Ct l j))/\h'.Row h.next 0 [pt A.bs]/\h1.next<=h'.next/\J 3 e'=pt h.next/\J 7 e'=v) ((l.length+63)/64) (by omega) (fun i e' h' ⟨v,x',dv,R',hn',hi,t1,t2,t3,t7,t8⟩=>?_)
   ⟨_,x1,⟨[],.inl ⟨rfl,rfl⟩,rfl,fun i w x h=>by cases h⟩,R3,IT _,wP _,s1,s2,s3,s7,s8⟩
  have Ul:=AKz.vals.bl h';have W':=x'.wf;by_cases hlt:64*i<l.length
  ·left
   have c1:iLt ((64*i:Nat):Int) (l.length:Int)=true:=EF hlt;have mk:∀ (F:AEB) (e:Env),Gb 1 ty5.zero (kV (AI AT 64)) (kV (AI AT 64)) F e h'=.ok (.slice (some ⟨h'.next,0,none⟩) 64 64) (h'.AEA 0 (A9.map bv)):=fun F e=>L9 (F:=F) (e:=e) W' (x:=kV (AI AT 64)) (y:=kV (AI AT 64)) (N:=64) rfl rfl (by omega)
   have y2:=(Hp.Ext.refl W').AEA 0 (A9.map bv);have Rz:=Hp.Row.new W' 0 (A9.map bv);have n2:(h'.AEA 0 (A9.map bv)).next=h'.next+1:=rfl;generalize h'.AEA 0 (A9.map bv)=h2 at mk y2 Rz n2;obtain⟨h3,al,st,y3,R9,n3,_⟩:=JP y2.wf j6 (v:=.slice (some ⟨h'.next,0,none⟩) 64 64) rfl rfl;have y23:=y2.trans y3;have Rz3:=Rz.ext y2.wf y3;have x3:=x'.trans y23;have R9m:h3.marked.Row h2.next 0 [.slice (some ⟨h'.next,0,none⟩) 64 64]:=R9.same rfl;have l9:AEF ⟨h2.next,0,none⟩ h3.marked=.ok (.slice (some ⟨h'.next,0,none⟩) 64 64) h3.marked:=R9m.AEF (off:=0) (by show 0<1;omega);obtain⟨w,ct,Vw⟩:=Qw (((AKz.ext W x3).same (h':=h3.marked) rfl)) (m:=64 * i) (by omega);have AF8:=W'.big;have cpy:∃ h4,(∀ (F:AEB) (e:Env),J 18 e=.slice (some ⟨h'.next,0,none⟩) 64 64->J 21 e=w->∃ vv,Al .free (Jq 1 (J 18) (J 21)) F e h3.marked=.ok vv h4)/\h'.Ext h4/\h4.Row h'.next 0 ((Ct (l.drop (64 * i)) 0).map bv)/\h4.Row h2.next 0 [.slice (some ⟨h'.next,0,none⟩) 64 64]/\h3.next<=h4.next:=by
    have Rq:h3.marked.quiet.Row h'.next 0 (A9.map bv):=Rz3.same rfl;have hle:0+(((l.drop (64*i)).take 64).map bv).length<=(A9.map bv).length:=by
     rw[OF,wT];show _<=64;omega
    have key:=fun (F:AEB) (e:Env) (a1:J 18 e=.slice (some ⟨h'.next,0,none⟩) 64 64) (a2:J 21 e=w)=>Zn (F:=F) (e:=e) (h:=h3.marked.quiet) y23.wf.marked.quiet AF8 a1 a2 (Vw.same (h':=h3.marked.quiet) rfl) Rq
    have wr:=Rq.AET y23.wf.marked.quiet hle;have wx:=Rq.AEi (h0:=h') (y23.marked.quiet) (IT _) hle;have wo:=Rq.AFM y23.wf.marked.quiet hle (R9.same (h':=h3.marked.quiet) rfl) (by omega);have wn:=Rq.AEt hle;have ho:over (A9.map bv) 0 (((l.drop (64*i)).take 64).map bv)=(Ct (l.drop (64*i)) 0).map bv:=by
     have hk:=Zn (F:=call AC m) (e:=Env.set 18 (.slice (some ⟨h'.next,0,none⟩) 64 64) (Env.set 21 w e0)) (h:=h3.marked.quiet) (x:=J 18) (y:=J 21) y23.wf.marked.quiet AF8 (by simp[AD]) (by simp[AD]) (Vw.same (h':=h3.marked.quiet) rfl) Rq;obtain⟨_,_,h2⟩:=hk;exact h2
    rw[ho]at wr;generalize h3.marked.quiet.wr h'.next 0 (((l.drop (64 * i)).take 64).map bv)=g at key wr wx wo wn;refine⟨h3.marked.back g,fun F e a1 a2=>?_,Hp.Ext.AFK y23.marked wx,wr.same rfl,wo.same rfl,by show _<=g.next;rw[wn];exact IT _⟩;obtain⟨vv,k1,_⟩:=key F e a1 a2;exact⟨vv,BO k1⟩
   obtain⟨h4,cp,y4,Rc,R94,n4⟩:=cpy;have x4:=x'.trans y4;have dv4:=uE (h:=h4) (i:=i) (by omega);have ad:=VM (h:=h4) (a:=sct) (b:=i) (by omega);obtain⟨h5,al5,st5,y5,R10,n5,_⟩:=JP y4.wf eT (v:=AI AT ((sct+i:Nat):Int)) rfl rfl;have y45:=y4.trans y5;have x5:=x'.trans y45;have dv5:=(dv.ext W' y45);have hbk:∀ b,h'.next<=b->¬ AEe v b:=fun b hb hv=>by
    obtain⟨vs,o1,_⟩:=dv;rcases o1 with ⟨h1,_⟩|⟨b',h1,h2,_⟩
    ·rw[h1]at hv;exact GN hv
    ·have:=h2.lt W'
     rw[h1]at hv;obtain⟨o,nn,c,hc⟩:=hv;injection hc with hc _ _
     injection hc with hc
     injection hc with hc _ _
     omega
   have hx1:=x1.next;have nDb:∀ b,h.next<=b->¬ A.D b:=fun b hb=>iJ hD hb
   have hb3:¬ AEe v h.next:=fun hv=>by
    obtain⟨vs,o1,_⟩:=dv;rcases o1 with ⟨h1',_⟩|⟨b',h1',h2',h3',_⟩
    ·rw[h1']at hv;exact GN hv
    ·rw[h1']at hv
     obtain⟨o,nn,c,hc⟩:=hv;injection hc with hc _ _
     injection hc with hc
     injection hc with hc _ _
     omega
   have R3':=R'.ext W' y45;have ds:Im h5 A (fun b=>¬ A.D b/\¬ AEe v b) (.func (.func 74) ⟨[]⟩ ⟨[pt h.next,pt h4.next,pt h2.next]⟩) (.w (sct+i) (Ct l i)):=by
    refine .inl ⟨h.next,h4.next,h2.next,.slice (some ⟨h'.next,0,none⟩) 64 64,rfl,R3',R10,R94.ext y4.wf y5,.inr ⟨h'.next,0,64,0,_,by rw[OF,CW],by rw[OF,CW];exact IT _,Rc.ext y4.wf y5,?_,?_,⟨nDb _ (by omega),hbk _ (IT _)⟩,.inl rfl⟩,⟨nDb _ (IT _),hb3⟩,⟨nDb _ (by omega),hbk _ (by omega)⟩,⟨nDb _ (by omega),hbk _ (by omega)⟩⟩
    ·rw[OF,OF,CW,CW];exact IT _
    ·have:Ct (l.drop (64*i)) 0=Ct l i:=by unfold Ct;rw[ACh,xF]
     rw[this,xF,xn]
   obtain⟨h6,v6,k6,x6,dv6,n6,kp6⟩:=dv5.snoc (f:=74) x5 (Nat.le_trans hx1 (IT _)) (by omega) rfl ds (by rw[OF,AA0];omega);have er:(wm (i+1)).map (fun j=>AEp.w (sct+j) (Ct l j))=(wm i).map (fun j=>AEp.w (sct+j) (Ct l j))++[AEp.w (sct+i) (Ct l i)]:=by rw[ye,wa];rfl
   rw[<- er]at dv6;have fs:=fun (F:AEB) (e:Env) (a:J 28 e=.func (.func 74) ⟨[]⟩ ⟨[pt h.next,pt h4.next,pt h2.next]⟩)=>Jd (F:=F) (e:=e) x5.wf a
   have a3:Fs .i64 (AI AT ((64*i:Nat):Int)) (AI AT 64) h6=.ok (AI AT ((64*(i+1):Nat):Int)) h6:=by
    have:=VM (h:=h6) (a:=64*i) (b:=64) (by omega);rw[show 64*i+64=64*(i+1)by omega]at this;exact this
   have hrun:∃ e2,wrB (call AC m) e' h'=.norm e2 h6/\J 1 e2=AI AT (sct:Int)/\J 2 e2=u/\J 3 e2=pt h.next/\J 7 e2=v6/\J 8 e2=AI AT ((64*(i+1):Nat):Int):=by
    obtain⟨vv,cp⟩:=cp (call AC m) (Env.set 21 w (Env.set 18 (.slice (some ⟨h'.next,0,none⟩) 64 64) (Env.set 9 (pt h2.next) (Env.set 17 (.slice (some ⟨h'.next,0,none⟩) 64 64) (Env.set 14 (.bool true) (Env.set 13 (AI AT (l.length:Int)) e')))))) (by simp[AD]) (by simp[AD]);unfold wrB;simp only[sT,By,BY,reduceIte,AX,t2,Ul,AJ,AH,t8,c1,mk,al,Ab,st,A3,AK,AO,l9];rw[ct _ _ _ _ (by simp[AD,t2]) (by simp[AD,t8])];simp only[sT,By,BY,reduceIte,cp,Jr,t8,dv4,BG,t1,ad,al5,Ab,st5,Df,AV,A1,t3,fs,BF,t7,k6,a3];exact⟨_,rfl,by simp[AD,t1,t2,t3]⟩
   obtain⟨e2,r1,r2,r3,r4,r5,r6⟩:=hrun;exact⟨by omega,e2,h6,r1,v6,x6,dv6,kp6 _ _ _ hb3 R3',by omega,by omega,r2,r3,r4,r5,r6⟩
  ·right
   have hie:i=(l.length+63)/64:=by omega
   have c1:iLt ((64*i:Nat):Int) (l.length:Int)=false:=Cz (by omega);have hrun:∃ e2,wrB (call AC m) e' h'=.exit 0 e2 h'/\J 3 e2=pt h.next/\J 7 e2=v:=by
    unfold wrB;simp only[sT,By,BY,reduceIte,AX,t2,Ul,AJ,AH,t8,c1];exact⟨_,rfl,by simp[AD,t3,t7]⟩
   obtain⟨e2,r1,r2,r3⟩:=hrun;rw[r1];exact⟨rfl,e2,h',v,rfl,x',by rw[<- hie];exact dv,R',hn',r2,r3⟩
 obtain⟨e2,h2,v2,r1,x2,dv2,R2,n2,t3,t7⟩:=run;have l3:AEF ⟨h.next,0,none⟩ h2=.ok (pt A.bs) h2:=R2.AEF (off:=0) (by show 0<1;omega);obtain⟨l0,_⟩:=A7 (R.ext W x2);obtain⟨h6,v6,k6,x6,dv6,n6,_⟩:=dv2.snoc (f:=76) (d:=.f) x2 x1.next n2 (w:=.func (.func 76) ⟨[pt A.bd]⟩ ⟨[]⟩) rfl rfl (by rw[OF,AA0];omega);have fs:=fun (F:AEB) (e:Env) (a:J 36 e=.func (.func 76) ⟨[pt A.bd]⟩ ⟨[]⟩)=>Jd (F:=F) (e:=e) x2.wf a
 refine⟨h6,v6,?_,x6,?_⟩
 ·rw[nt rfl,pK,p1,rV]
  simp only[BB,Ap,r1,Az,A8];unfold wrE;simp only[sT,By,BY,reduceIte,AK,AO,t3,l3,Ao,Ad,AG,AM,vk,l0,Df,AV,A1,fs,BF,t7,k6,lV0]
 ·obtain⟨vs,a,b,c⟩:=dv6
  exact⟨vs,a.le x1.next,b,c⟩
end
end
noncomputable section
open Go
set_option maxRecDepth 100000
section
variable {F:AEB}{e:Env}{h h':Hp}{A:At}{T M:List Nat}{c0 bad:Nat}{arm:Int}{ks:List Kt}{fr:List Nat}{lv fv:IN}{ov:Bool}
theorem fQ{x y:O}{K:C}{v:IN}{b r:Nat}(hx:x e=v)(hv:v=.slice none 0 0\/∃ o n c,v=.slice (some ⟨b,o,none⟩) n c)(hy:y e=pt r)(hr:v=.slice none 0 0\/r≠b):DI x [y] K F e h=K F e h:=by
 unfold DI;rw[hx];rcases hv with rfl|⟨o,n,c,rfl⟩
 ·rfl
 ·rcases hr with hr|hr
  ·cases hr
  ·show(bif DZ b e [y]then K F e h else .no)=_
   have:DZ b e [y]=true:=by
    unfold DZ;rw[hy];show(bif wB r b then false else DZ b e [])=true;have n1:wB r b=false:=by
     cases e:wB r b
     ·rfl
     ·exact absurd (Am.1 e) hr
    rw[n1];rfl
   rw[this];rfl
theorem CJ.atB{h0:Hp}{k bw:Nat}{v w:IN}{ds:List AEp}{f:Nat}{a b:List IN}(x0:h0.Ext h)(hk:h0.next<=k)(hk2:k<=h.next)(o:CJ h A k v ds)(hw:w=.func (.func f) ⟨a⟩ ⟨b⟩)(Rw:h.Row bw 0 [w]){d:AEp}(hd:Im h A (fun b=>¬ A.D b/\¬ AEe v b) w d)(hl:ds.length<=1000):
  ∃ h' v',(∀ (F:AEB) (e:Env) (x y:O),x e=v->y e=.slice (some ⟨bw,0,none⟩) 1 1->Nx x (Bk 1 8 75 x y) F e h=.ok v' h')/\h0.Ext h'/\CJ h' A k v' (ds++[d])/\h.next<=h'.next:=by
 obtain⟨vs,o1,o2,o3⟩:=o;have W:=x0.wf;have on:oneCell w=true:=by rw[hw];rfl
 have cl:h.quiet.Cl (AEe v) 75 v vs:=by
  rcases o1 with ⟨h1,h2⟩|⟨b,h1,h2,h3,h4⟩
  ·exact .inl ⟨h1,h2⟩
  ·exact .inr ⟨b,76,h1,h2.same rfl,.inl rfl,⟨0,_,_,h1⟩,h4⟩
 have kb:∀ b,AEe v b->h0.next<=b:=fun b hb=>by
  obtain⟨off,n,c,e1⟩:=hb;rcases o1 with ⟨h1,h2⟩|⟨b',h1,h2,h3,h4⟩
  ·rw[h1]at e1;cases e1
  ·rw[h1]at e1
   injection e1 with e1 _ _
   injection e1 with e1
   injection e1 with e1 _ _
   omega
 obtain⟨h5,b5,a1,a2,a3,a4,a5,a6,a7,a8,a9⟩:=Zf (eb:=8) (en:=75) x0.quiet cl kb (Rw.same (h':=h.quiet) rfl) on (by rw[o2];omega) (by omega);have hvb:¬ AEe (.slice (some ⟨b5,0,none⟩) (vs.length+1) (vs.length+1)) b5->False:=fun h=>h ⟨0,_,_,rfl⟩
 have a4:b5=h.next:=a4;have kp:∀ b el L,¬ A.D b/\¬ AEe v b->(el=0\/el=6)->h.Row b el L->(h.back h5).Row b el L/\(¬ A.D b/\¬ AEe (.slice (some ⟨b5,0,none⟩) (vs.length+1) (vs.length+1)) b):=fun b el L hb _ r=>⟨(a7 b el L hb.2 (r.same rfl)).same rfl,hb.1,Lq (by have:=r.lt W;omega)⟩
 have a5:h5.next=h.next+1:=a5;have AEO:=W.big;refine⟨h.back h5,.slice (some ⟨b5,0,none⟩) (vs.length+1) (vs.length+1),fun F e x y hx hy=>VP hx hy a1 (a9 rfl rfl h rfl),x0.AFK a2,⟨vs++[w],.inr ⟨b5,by rw[No];rfl,a3.same rfl,?_,by omega⟩,by rw[No,No,o2];rfl,fun i z y h1 h2=>?_⟩,by show h.next<=h5.next;omega⟩
 ·omega
 ·rcases wN i vs.length with hi|hi
  ·rw[wD hi]at h1
   rw[wD (by omega)]at h2;exact(o3 i z y h1 h2).AFQ kp
  ·rw[wQ hi]at h1
   rw[wQ (by omega)]at h2;have e1:=v7.1 (vy h1);have e2:=v7.1 (vy h2);rw[e1,e2];exact hd.AFQ kp
theorem rH:skS=BI (AY 0 (Aw skB)) skE:=rfl
theorem Z4:d53=Z5:=rfl
def Fy(M:List Nat)(ps:List Nat):List Nat:=E6 M (ps.map fun p=>(p*3,A9))
theorem Sx:∀ (ps:List Nat) (M:List Nat) (cs:List (Nat×List Nat)),BP M cs (ps.map (fun p=>AEp.w (p*3) A9)++[.f])=(E6 M (cs++ps.map fun p=>(p*3,A9)),[])
 |[],M,cs=>by rw[ADG,ADG,wF];rfl
 |p::ps,M,cs=>by
  show BP M (cs++[(p*3,A9)]) (ps.map (fun p=>AEp.w (p*3) A9)++[.f])=_;rw[Sx ps,List.append_assoc];rfl
theorem cX{n:Nat}:∀ (ps:List Nat) (cs:List (Nat×List Nat)),(cs≠[]\/ps≠[])->cs.length+ps.length<=60->(∀ p∈ps,3*p+3<=n/\∀ x∈cs,x.1≠p*3)->ps.Nodup->DW n cs (ps.map (fun p=>AEp.w (p*3) A9)++[.f])
 |[],cs,h0,hl,_,_=>⟨h0.elim (fun h=>h) fun h=>absurd rfl h,by simpa using hl,trivial⟩
 |p::ps,cs,h0,hl,hp,hn=>by
  obtain⟨p1,p2⟩:=hp p vp;rw[vw]at hl;refine⟨p2,by omega,rfl,fun x hx=>by rw[zn hx];decide,cX ps _ (.inl (by simp)) (by rw[No];simp only[xR];omega) (fun q hq=>⟨(hp q (vr _ hq)).1,fun x hx=>?_⟩) (xx.1 hn).2⟩;rcases wK.1 hx with hx|hx
  ·exact(hp q (vr _ hq)).2 x hx
  ·rw[v7.1 hx]
   show p*3≠q*3;intro he;have:p=q:=by omega
   exact(xx.1 hn).1 (this ▸ hq)
theorem Sl.AGs(s:Sl h A T M c0 arm ks fr lv fv bad ov)(W:h.Wf):∀ b,A.D b->b<h.next:=fun b hb=>by
 obtain⟨h1,h2,h3⟩:=s.dk.lt W;rcases hb with rfl|rfl|rfl|rfl
 ·exact s.row.lt W
 ·exact h1
 ·exact h2
 ·exact h3
theorem Sl.nK(s:Sl h A T M c0 arm ks fr lv fv bad ov):¬ A.K A.bs:=by
 obtain⟨h1,h2,h3,_⟩:=s.ne;rintro (h|h|h)<;>contradiction
end
end
noncomputable section
open Go
set_option maxRecDepth 100000
def GJ(P:Kt->Bool):Nat->List Kt->Int
 |_,[]=> -1
 |i,k::l=>if P k=true then(i:Int)else GJ P (i+1) l
theorem Pg(P:Kt->Bool):∀ (l:List Kt) (i:Nat),(l.any P=false/\GJ P i l= -1)\/(l.any P=true/\∃ j k,l[j]? =some k/\P k=true/\GJ P i l=((i+j:Nat):Int))
 |[],i=>.inl ⟨rfl,rfl⟩
 |k::l,i=>by
  unfold GJ;by_cases h:P k=true
  ·rw[if_pos h]
   exact .inr ⟨by rw[AAU,h];rfl,0,k,rfl,h,rfl⟩
  ·rw[if_neg h]
   have hf:P k=false:=by simpa using h
   rcases Pg P l (i+1)with ⟨h1,h2⟩|⟨h1,j,k',h2,h3,h4⟩
   ·exact .inl ⟨by rw[AAU,hf,h1];rfl,h2⟩
   ·exact .inr ⟨by rw[AAU,h1,Bool.or_true],j+1,k',by rw[wy];exact h2,h3,by rw[h4];congr 1;omega⟩
section
variable {F:AEB}{e:Env}{h h':Hp}{S:Nat->Prop}{A:At}{bad m:Nat}{ks:List Kt}{v lv fv:IN}{ov:Bool}
theorem bG:kiS=BI (AY 0 (Aw kiB)) kiE:=rfl
theorem Z6:d69=gE:=rfl
theorem Pt{g:Nat}{caps:List IN}{P:Kt->Bool}(W:h.Wf)(K:h.KS S v ks)(hl:ks.length<=100000)(hP:∀ h',h.Ext h'->∀ k∈ks,∃ h'',call AC m g (ktV k::caps) h'=.ok (.bool (P k)) h''/\h'.Ext h''):
  ∃ h',call AC (m+1) 69 [v,.func (.func g) ⟨[]⟩ ⟨caps⟩] h=.ok (AI AT (GJ P 0 ks)) h'/\h.Ext h':=by
 have ln:=K.len h;have pre:∃ e1,gE (call AC m) (AQ e0 0 [v,.func (.func g) ⟨[]⟩ ⟨caps⟩]) h=kiS (call AC m) e1 h/\J 0 e1=v/\J 1 e1=.func (.func g) ⟨[]⟩ ⟨caps⟩/\J 7 e1=AI AT (ks.length:Int)/\J 8 e1=AI AT ((0:Nat):Int):=by
  unfold gE;simp only[iN,IS,sT,By,BY,reduceIte,AX,ln];exact⟨_,rfl,by simp[AD]⟩
 obtain⟨e1,p1,s0,s1,s7,s8⟩:=pre;have run:(∃ e' h',Aw kiB (call AC m) e1 h=.exit 0 e' h'/\h.Ext h'/\GJ P 0 ks= -1)\/(∃ e' h',Aw kiB (call AC m) e1 h=.ret e' h'/\h.Ext h'/\J 4 e'=AI AT (GJ P 0 ks)):=by
  refine BU (I:=fun i e' h'=>h.Ext h'/\J 0 e'=v/\J 1 e'=.func (.func g) ⟨[]⟩ ⟨caps⟩/\J 7 e'=AI AT (ks.length:Int)/\J 8 e'=AI AT (i:Int)/\i<=ks.length/\GJ P 0 ks=GJ P i (ks.drop i))
   (Q:=fun x=>(∃ e' h',x=.exit 0 e' h'/\h.Ext h'/\GJ P 0 ks= -1)\/(∃ e' h',x=.ret e' h'/\h.Ext h'/\J 4 e'=AI AT (GJ P 0 ks))) ks.length (by omega) (fun i e' h' ⟨x',t0,t1,t7,t8,hi,hr⟩=>?_) ⟨.refl W,s0,s1,s7,s8,wP _,by rw[xF]⟩
  by_cases hlt:i<ks.length
  ·obtain⟨k,hk⟩:∃ k,ks[i]? =some k:=⟨_,sh hlt⟩
   have hd:ks.drop i=k::ks.drop (i+1):=by
    rw[xW hlt];rw[sh hlt]at hk;rw[Option.some.inj hk]
   rw[hd]at hr;have hr:GJ P 0 ks=if P k=true then(i:Int)else GJ P (i+1) (ks.drop (i+1)):=hr
   have c1:=EF hlt;obtain⟨b,_,ix,ld,_⟩:=(K.ext W x').at hk;obtain⟨h2,k2,x2⟩:=hP h' x' k (vy hk);by_cases hp:P k=true
   ·right
    rw[hp]at k2;rw[if_pos hp]at hr;have hrun:∃ e2,kiB (call AC m) e' h'=.ret e2 h2/\J 4 e2=AI AT (i:Int):=by
     unfold kiB;simp only[sT,By,BY,reduceIte,AJ,AH,t8,t7,c1,Ay,t0,ix,Aq,As,ld,Ca,t1,CI,AV,A1,xE,zJ,k2];exact⟨_,rfl,by simp[AD]⟩
    obtain⟨e2,r1,r2⟩:=hrun;rw[r1];exact⟨rfl,.inr ⟨e2,h2,rfl,x'.trans x2,by rw[r2,hr]⟩⟩
   ·left
    have hf:P k=false:=by simpa using hp
    rw[hf]at k2;rw[if_neg hp]at hr;have a3:=CF (i:=i) (h:=h2) (by omega);have hrun:∃ e2,kiB (call AC m) e' h'=.norm e2 h2/\J 0 e2=v/\J 1 e2=.func (.func g) ⟨[]⟩ ⟨caps⟩/\J 7 e2=AI AT (ks.length:Int)/\J 8 e2=AI AT ((i+1:Nat):Int):=by
     unfold kiB;simp only[sT,By,BY,reduceIte,AJ,AH,t8,t7,c1,Ay,t0,ix,Aq,As,ld,Ca,t1,CI,AV,A1,xE,zJ,k2,BG,a3];exact⟨_,rfl,by simp[AD,t0,t1,t7]⟩
    obtain⟨e2,r1,r2,r3,r4,r5⟩:=hrun;exact⟨hlt,e2,h2,r1,x'.trans x2,r2,r3,r4,r5,by omega,hr⟩
  ·right
   have c1:=Cz (show ks.length<=i by omega);have hrun:∃ e2,kiB (call AC m) e' h'=.exit 0 e2 h':=by
    unfold kiB;simp only[sT,By,BY,reduceIte,AJ,AH,t8,t7,c1];exact⟨_,rfl⟩
   obtain⟨e2,r1⟩:=hrun;rw[r1];exact⟨rfl,.inl ⟨e2,h',rfl,x',by rw[hr,xL (by omega)];rfl⟩⟩
 rcases run with ⟨e2,h2,r1,x2,r2⟩|⟨e2,h2,r1,x2,r2⟩
 ·refine⟨h2,?_,x2⟩
  rw[ZT rfl,Z6,p1,bG,r2];simp only[BB,Ap,r1,Az,A8];unfold kiE;simp only[sT,By,BY,reduceIte,lV0]
 ·refine⟨h2,?_,x2⟩
  rw[ZT rfl,Z6,p1,bG];simp only[BB,Ap,r1,Bz,CU,lV0,r2]
theorem Pr{g:Nat}{caps:List IN}{P:Kt->Bool}(W:h.Wf)(K:h.KS S v ks)(hl:ks.length<=100000)(hP:∀ h',h.Ext h'->∀ k∈ks,∃ h'',call AC m g (ktV k::caps) h'=.ok (.bool (P k)) h''/\h'.Ext h''):
  ∃ h',call AC (m+2) 61 [v,.func (.func g) ⟨[]⟩ ⟨caps⟩] h=.ok (.bool (ks.any P)) h'/\h.Ext h':=by
 obtain⟨h2,k2,x2⟩:=Pt W K hl hP;have c1:iGe (GJ P 0 ks) 0=ks.any P:=by
  rcases Pg P ks 0 with ⟨h1,h2⟩|⟨h1,j,k,_,_,h2⟩
  ·rw[h1,h2];exact FZ (by omega)
  ·rw[h1,h2];exact Hi (by omega)
 refine⟨h2,?_,x2⟩;rw[oI rfl];unfold d61;simp only[iN,IS,sT,By,BY,reduceIte,cA0,k2,AJ,AH,c1,lV0]
theorem Hr(W:h.Wf){k:Kt}{g:O}(hg:g e=ktV k):DA g F e h=.ok (pt h.next) (h.AEA 0 (AU k)):=by rw[Ev,hg,Es W];rfl
theorem Bt{r:Nat}{k:Kt}(R:h.Row r 0 (AU k)):AEF ⟨r,0,none⟩ h=.ok (AI AT k.a) h/\AEF ⟨r,1,none⟩ h=.ok (AI AT k.b) h/\AEF ⟨r,2,none⟩ h=.ok (AI AT k.c) h/\AEF ⟨r,3,none⟩ h=.ok (.int .u8 (k.s:Int)) h/\AEF ⟨r,4,none⟩ h=.ok k.u h/\AEF ⟨r,5,none⟩ h=.ok (AI AT (k.p:Int)) h/\loadN 6 ⟨r,0,none⟩ h=.ok (ktV k) h/\loadN 5 ⟨r,0,none⟩ h=.ok (Bv k.a k.b k.c k.s k.u) h:=
 ⟨R.AEF (off:=0) (by show 0<6;omega),R.AEF (off:=1) (by show 1<6;omega),R.AEF (off:=2) (by show 2<6;omega),R.AEF (off:=3) (by show 3<6;omega),R.AEF (off:=4) (by show 4<6;omega),R.AEF (off:=5) (by show 5<6;omega),R.loadN (off:=0) (n:=6) (by show 0+6<=6;omega),R.loadN (off:=0) (n:=5) (by show 0+5<=6;omega)⟩
def BN(a b c:Int)(k:Kt):Bool:=decide (k.a=a) && decide (k.b=b) && decide (k.c=c)
def Kw(a b:Int)(k:Kt):Bool:=decide (k.a=a) && decide (k.b=b) && decide (k.s=2)
theorem DB{r:Nat}{w:IN}(R:h.Row r 0 [w]):AEF ⟨r,0,none⟩ h=.ok w h:=R.AEF (off:=0) (by show 0<1;omega)
theorem pY(W:h.Wf){r1 r2 r3:Nat}{a b c:Int}(R1:h.Row r1 0 [AI AT a])(R2:h.Row r2 0 [AI AT b])(R3:h.Row r3 0 [AI AT c])(k:Kt):
  ∃ h',call AC (m+1) 70 [ktV k,pt r1,pt r2,pt r3] h=.ok (.bool (BN a b c k)) h'/\h.Ext h':=by
 have bx:=fun (F:AEB) (e:Env) (he:J 0 e=ktV k)=>Hr (F:=F) W he
 have x1:=(Hp.Ext.refl W).AEA 0 (AU k);have R:=Hp.Row.new W 0 (AU k);generalize h.AEA 0 (AU k)=h1 at bx x1 R;obtain⟨l0,l1,l2,l3,_,l5,_⟩:=Bt R;have m1:=DB (R1.ext W x1);have m2:=DB (R2.ext W x1);have m3:=DB (R3.ext W x1);refine⟨h1,?_,x1⟩;unfold BN;rw[oO rfl];unfold d70;by_cases h1:k.a=a
 ·have c1:iEq k.a a=true:=Ci h1
  by_cases h2:k.b=b
  ·have c2:iEq k.b b=true:=Ci h2
   have c3:iEq k.c c=decide (k.c=c):=by rw[EM];by_cases h3:k.c=c<;>simp[h3]
   simp only[iN,IS,sT,By,BY,reduceIte,gD,bx,AG,AM,vk,AK,AO,l0,l1,l2,m1,m2,m3,AJ,AH,c1,c2,c3,lV0];rw[decide_eq_true h1,decide_eq_true h2];rfl
  ·have c2:iEq k.b b=false:=Bj h2
   simp only[iN,IS,sT,By,BY,reduceIte,gD,bx,AG,AM,vk,AK,AO,l0,l1,l2,m1,m2,m3,AJ,AH,c1,c2,lV0];rw[decide_eq_true h1,decide_eq_false h2];rfl
 ·have c1:iEq k.a a=false:=Bj h1
  simp only[iN,IS,sT,By,BY,reduceIte,gD,bx,AG,AM,vk,AK,AO,l0,l1,l2,m1,m2,m3,AJ,AH,c1,lV0];rw[decide_eq_false h1];rfl
theorem pf(W:h.Wf){r1 r2:Nat}{a b:Int}(R1:h.Row r1 0 [AI AT a])(R2:h.Row r2 0 [AI AT b])(k:Kt):
  ∃ h',call AC (m+1) 92 [ktV k,pt r1,pt r2] h=.ok (.bool (Kw a b k)) h'/\h.Ext h':=by
 have bx:=fun (F:AEB) (e:Env) (he:J 0 e=ktV k)=>Hr (F:=F) W he
 have x1:=(Hp.Ext.refl W).AEA 0 (AU k);have R:=Hp.Row.new W 0 (AU k);generalize h.AEA 0 (AU k)=h1 at bx x1 R;obtain⟨l0,l1,l2,l3,_,l5,_⟩:=Bt R;have m1:=DB (R1.ext W x1);have m2:=DB (R2.ext W x1);refine⟨h1,?_,x1⟩;unfold Kw;rw[oh rfl];unfold d92;by_cases h1:k.a=a
 ·have c1:iEq k.a a=true:=Ci h1
  by_cases h2:k.b=b
  ·have c2:iEq k.b b=true:=Ci h2
   have c3:iEq (k.s:Int) 2=decide (k.s=2):=by
    by_cases h3:k.s=2
    ·rw[decide_eq_true h3];exact Ci (by omega)
    ·rw[decide_eq_false h3];exact Bj (by omega)
   simp only[iN,IS,sT,By,BY,reduceIte,gD,bx,AG,AM,vk,AK,AO,l0,l1,l3,m1,m2,AJ,AH,c1,c2,c3,lV0];rw[decide_eq_true h1,decide_eq_true h2];rfl
  ·have c2:iEq k.b b=false:=Bj h2
   simp only[iN,IS,sT,By,BY,reduceIte,gD,bx,AG,AM,vk,AK,AO,l0,l1,l3,m1,m2,AJ,AH,c1,c2,lV0];rw[decide_eq_true h1,decide_eq_false h2];rfl
 ·have c1:iEq k.a a=false:=Bj h1
  simp only[iN,IS,sT,By,BY,reduceIte,gD,bx,AG,AM,vk,AK,AO,l0,l1,l3,m1,m2,AJ,AH,c1,lV0];rw[decide_eq_false h1];rfl
theorem IO(W:h.Wf){z:Int}{g:O}(hg:g e=AI AT z):DA g F e h=.ok (pt h.next) (h.AEA 0 [AI AT z]):=by rw[Ev,hg,Es W];rfl
theorem IM(W:h.Wf)(R:h.Row A.bs 0 (slL A.bd A.tb lv fv bad ov))(K:h.KS S lv ks)(hl:ks.length<=100000)(a b c:Int):
  ∃ h',call AC (m+3) 41 [pt A.bs,AI AT a,AI AT b,AI AT c] h=.ok (AI AT (GJ (BN a b c) 0 ks)) h'/\h.Ext h':=by
 have b1:=fun (F:AEB) (e:Env) (he:J 1 e=AI AT a)=>IO (F:=F) W he
 have x1:=(Hp.Ext.refl W).AEA 0 [AI AT a];have R1:=Hp.Row.new W 0 [AI AT a];generalize h.AEA 0 [AI AT a]=h1 at b1 x1 R1;have b2:=fun (F:AEB) (e:Env) (he:J 2 e=AI AT b)=>IO (F:=F) x1.wf he
 have y2:=(Hp.Ext.refl x1.wf).AEA 0 [AI AT b];have R2:=Hp.Row.new x1.wf 0 [AI AT b];generalize h1.AEA 0 [AI AT b]=h2 at b2 y2 R2;have b3:=fun (F:AEB) (e:Env) (he:J 3 e=AI AT c)=>IO (F:=F) y2.wf he
 have y3:=(Hp.Ext.refl y2.wf).AEA 0 [AI AT c];have R3:=Hp.Row.new y2.wf 0 [AI AT c];generalize h2.AEA 0 [AI AT c]=h3 at b3 y3 R3;have x3:=(x1.trans y2).trans y3;obtain⟨_,_,_,l3,_⟩:=A7 (R.ext W x3);obtain⟨h4,k4,x4⟩:=Pt (m:=m+1) (g:=70) (caps:=[pt h.next,pt h1.next,pt h2.next]) (P:=BN a b c) x3.wf (K.ext W x3) hl fun h' x' k _=>pY x'.wf ((R1.ext x1.wf (y2.trans y3)).ext x3.wf x') ((R2.ext y2.wf y3).ext x3.wf x') (R3.ext x3.wf x') k
 refine⟨h4,?_,x3.trans x4⟩;rw[nl rfl];unfold d41;simp only[iN,IS,sT,By,BY,reduceIte,b1,b2,b3,Ao,Ad,AG,AM,vk,AK,AO,l3,Df,AV,A1,Ba,k4,lV0]
theorem qf(W:h.Wf)(R:h.Row A.bs 0 (slL A.bd A.tb lv fv bad ov))(K:h.KS S lv ks)(hl:ks.length<=100000)(a b:Int):
  ∃ h',call AC (m+3) 64 [pt A.bs,AI AT a,AI AT b] h=.ok (AI AT (GJ (Kw a b) 0 ks)) h'/\h.Ext h':=by
 have b1:=fun (F:AEB) (e:Env) (he:J 1 e=AI AT a)=>IO (F:=F) W he
 have x1:=(Hp.Ext.refl W).AEA 0 [AI AT a];have R1:=Hp.Row.new W 0 [AI AT a];generalize h.AEA 0 [AI AT a]=h1 at b1 x1 R1;have b2:=fun (F:AEB) (e:Env) (he:J 2 e=AI AT b)=>IO (F:=F) x1.wf he
 have y2:=(Hp.Ext.refl x1.wf).AEA 0 [AI AT b];have R2:=Hp.Row.new x1.wf 0 [AI AT b];generalize h1.AEA 0 [AI AT b]=h2 at b2 y2 R2;have x2:=x1.trans y2;obtain⟨_,_,_,l3,_⟩:=A7 (R.ext W x2);obtain⟨h4,k4,x4⟩:=Pt (m:=m+1) (g:=92) (caps:=[pt h.next,pt h1.next]) (P:=Kw a b) x2.wf (K.ext W x2) hl fun h' x' k _=>pf x'.wf ((R1.ext x1.wf y2).ext x2.wf x') (R2.ext x2.wf x') k
 refine⟨h4,?_,x2.trans x4⟩;rw[oL rfl];unfold d64;simp only[iN,IS,sT,By,BY,reduceIte,b1,b2,Ao,Ad,AG,AM,vk,AK,AO,l3,Df,AV,A1,Ba,k4,lV0]
def Bm(a b c:Int)(ks:List Kt):Bool:=match ks.find? (Kw a b)with
 |some k=>decide (c<=k.c)
 |none=>false
theorem Ef(P:Kt->Bool):∀ (l:List Kt) (i:Nat),(l.find? P=none/\GJ P i l= -1)\/∃ j k,l.find? P=some k/\l[j]? =some k/\GJ P i l=((i+j:Nat):Int)
 |[],i=>.inl ⟨rfl,rfl⟩
 |k::l,i=>by
  unfold GJ;by_cases h:P k=true
  ·rw[if_pos h]
   exact .inr ⟨0,k,by rw[List.find?_cons_of_pos h],rfl,rfl⟩
  ·rw[if_neg h]
   rcases Ef P l (i+1)with ⟨h1,h2⟩|⟨j,k',h1,h2,h4⟩
   ·exact .inl ⟨by rw[AAC h];exact h1,h2⟩
   ·exact .inr ⟨j+1,k',by rw[AAC h];exact h1,by rw[wy];exact h2,by rw[h4];congr 1;omega⟩
theorem Gg(W:h.Wf)(R:h.Row A.bs 0 (slL A.bd A.tb lv fv bad ov))(K:h.KS S lv ks)(hl:ks.length<=100000)(a b c:Int):
  ∃ h',call AC (m+4) 43 [pt A.bs,AI AT a,AI AT b,AI AT c] h=.ok (.bool (Bm a b c ks)) h'/\h.Ext h':=by
 obtain⟨h1,k1,x1⟩:=qf (m:=m) W R K hl a b;refine⟨h1,?_,x1⟩;unfold Bm;rw[nr rfl];unfold d43;rcases Ef (Kw a b) ks 0 with ⟨e1,e2⟩|⟨j,k,e1,e2,e3⟩
 ·rw[e2]at k1
  have c1:iGe (-1) 0=false:=FZ (by omega);simp only[iN,IS,sT,By,BY,reduceIte,gD,cA0,k1,AJ,AH,c1,lV0,e1]
 ·rw[e3,vk]at k1
  have c1:iGe (j:Int) 0=true:=Hi (by omega);obtain⟨b',_,ix,_,ld⟩:=(K.ext W x1).at e2;have l2:=ld 2 (AI AT k.c) rfl;obtain⟨_,_,_,l3,_⟩:=A7 (R.ext W x1);have c2:iGe k.c c=decide (c<=k.c):=Pf _ _;simp only[iN,IS,sT,By,BY,reduceIte,gD,cA0,k1,AJ,AH,c1,Ao,Ad,AG,AM,vk,yc,AK,AO,l3,Ay,ix,l2,c2,lV0,e1]
end
end
noncomputable section
open Go
set_option maxRecDepth 100000
def C2(a b:Int):Int:=if a<b then -1 else if b<a then 1 else 0
def orZ:List Int->Int
 |[]=>0
 |z::l=>if z=0 then orZ l else z
def Gz(x y:Kt):Int:=orZ [C2 x.a y.a,C2 x.b y.b,C2 x.c y.c,C2 x.p y.p]
theorem Dc{e:Env}{h:Hp}:FF [] e h=.ok AEE h:=rfl
section
variable {F:AEB}{e:Env}{h h':Hp}{S:Nat->Prop}{m:Nat}{ks:List Kt}{v:IN}
theorem pB{a b:Int}:call AC (m+2) 80 [AI AT a,AI AT b] h=.ok (AI AT (C2 a b)) h:=by
 have n1:∀ z:Int,call AC (m+1) 107 [AI AT z] h=.ok (.bool false) h:=fun z=>by
  have c1:iNe z z=false:=CY rfl;rw[VY rfl];unfold Zt;simp only[iN,IS,sT,By,BY,reduceIte,AJ,AH,c1,lV0]
 unfold C2;rw[oV rfl];unfold d80;by_cases h1:a<b
 ·have c1:iLt a b=true:=LQ h1
  rw[if_pos h1];simp only[iN,IS,sT,By,BY,reduceIte,cA0,n1,AJ,AH,c1,lV0]
 ·have c1:iLt a b=false:=HL h1
  rw[if_neg h1];by_cases h2:b<a
  ·have c2:iGt a b=true:=GV h2
   rw[if_pos h2];simp only[iN,IS,sT,By,BY,reduceIte,cA0,n1,AJ,AH,c1,c2,lV0]
  ·have c2:iGt a b=false:=Fa h2
   rw[if_neg h2];simp only[iN,IS,sT,By,BY,reduceIte,cA0,n1,AJ,AH,c1,c2,lV0]
theorem cf:orS=BI (AY 0 (Aw orB)) orE:=rfl
theorem aA:d79=gI:=rfl
theorem ug{zs:List Int}(V:h.AEb v (ints .i64 zs))(hl:zs.length<=1000):call AC (m+1) 79 [v] h=.ok (AI AT (orZ zs)) h:=by
 have hil:(ints .i64 zs).length=zs.length:=OF ..;have ln:=V.len;rw[hil]at ln;have pre:∃ e1,gI (call AC m) (AQ e0 0 [v]) h=orS (call AC m) e1 h/\J 3 e1=AI AT 0/\J 6 e1=v/\J 7 e1=AI AT (zs.length:Int)/\J 8 e1=AI AT ((0:Nat):Int):=by
  unfold gI;simp only[iN,IS,sT,By,BY,reduceIte,AX,ln];exact⟨_,rfl,by simp[AD]⟩
 obtain⟨e1,p1,s3,s6,s7,s8⟩:=pre;have run:(∃ e',Aw orB (call AC m) e1 h=.exit 0 e' h/\orZ zs=0/\J 3 e'=AI AT 0)\/(∃ e',Aw orB (call AC m) e1 h=.ret e' h/\J 2 e'=AI AT (orZ zs)):=by
  refine BU (I:=fun i e' h'=>h'=h/\J 3 e'=AI AT 0/\J 6 e'=v/\J 7 e'=AI AT (zs.length:Int)/\J 8 e'=AI AT (i:Int)/\i<=zs.length/\orZ zs=orZ (zs.drop i))
   (Q:=fun x=>(∃ e',x=.exit 0 e' h/\orZ zs=0/\J 3 e'=AI AT 0)\/(∃ e',x=.ret e' h/\J 2 e'=AI AT (orZ zs))) zs.length (by omega) (fun i e' h' ⟨hh,t3,t6,t7,t8,hi,hr⟩=>?_) ⟨rfl,s3,s6,s7,s8,wP _,by rw[xF]⟩
  subst hh;by_cases hlt:i<zs.length
  ·obtain⟨a,g1,g2⟩:=V.at (i:=i) (by rw[hil];exact hlt)
   obtain⟨z,hz⟩:∃ z,zs[i]? =some z:=⟨_,sh hlt⟩;have g2:HN (.pointer (some a)) h'=.ok (AI AT z) h':=by
    rw[g2];have:(ints .i64 zs).getD i AEE=AI AT z:=by
     rw[vm];simp[ints,hz]
    rw[this]
   have hd:zs.drop i=z::zs.drop (i+1):=by
    rw[xW hlt];rw[sh hlt]at hz;rw[Option.some.inj hz]
   rw[hd]at hr;have hr:orZ zs=if z=0 then orZ (zs.drop (i+1))else z:=hr
   have c1:=EF hlt;by_cases h0:z=0
   ·left
    rw[if_pos h0]at hr;have c2:iNe z 0=false:=CY h0;have a3:=CF (i:=i) (h:=h') (by omega);have hrun:∃ e2,orB (call AC m) e' h'=.norm e2 h'/\J 3 e2=AI AT 0/\J 6 e2=v/\J 7 e2=AI AT (zs.length:Int)/\J 8 e2=AI AT ((i+1:Nat):Int):=by
     unfold orB;simp only[sT,By,BY,reduceIte,AJ,AH,t8,t7,c1,Ay,t6,g1,AK,g2,t3,c2,BG,a3];exact⟨_,rfl,by simp[AD,t3,t6,t7]⟩
    obtain⟨e2,r1,r2,r3,r4,r5⟩:=hrun;exact⟨hlt,e2,h',r1,rfl,r2,r3,r4,r5,by omega,hr⟩
   ·right
    rw[if_neg h0]at hr;have c2:iNe z 0=true:=FH h0;have hrun:∃ e2,orB (call AC m) e' h'=.ret e2 h'/\J 2 e2=AI AT z:=by
     unfold orB;simp only[sT,By,BY,reduceIte,AJ,AH,t8,t7,c1,Ay,t6,g1,AK,g2,t3,c2];exact⟨_,rfl,by simp[AD]⟩
    obtain⟨e2,r1,r2⟩:=hrun;rw[r1];exact⟨rfl,.inr ⟨e2,rfl,by rw[r2,hr]⟩⟩
  ·right
   have c1:=Cz (show zs.length<=i by omega);have hrun:∃ e2,orB (call AC m) e' h'=.exit 0 e2 h'/\J 3 e2=AI AT 0:=by
    unfold orB;simp only[sT,By,BY,reduceIte,AJ,AH,t8,t7,c1];exact⟨_,rfl,by simp[AD,t3]⟩
   obtain⟨e2,r1,r2⟩:=hrun;rw[r1];exact⟨rfl,.inl ⟨e2,rfl,by rw[hr,xL (by omega)];rfl,r2⟩⟩
 rcases run with ⟨e2,r1,r2,r3⟩|⟨e2,r1,r2⟩
 ·rw[ZY rfl,aA,p1,cf,r2]
  simp only[BB,Ap,r1,Az,A8];unfold orE;simp only[sT,By,BY,reduceIte,r3,lV0]
 ·rw[ZY rfl,aA,p1,cf]
  simp only[BB,Ap,r1,Bz,CU,lV0,r2]
theorem rZ:BQ ty3.zero 4=[AI AT 0,AI AT 0,AI AT 0,AI AT 0]:=by kernel_rfl
theorem Xw(W:h.Wf){g1 g2 g3 g4:O}{a b c d:Int}(h1:g1 e=AI AT a)(h2:g2 e=AI AT b)(h3:g3 e=AI AT c)(h4:g4 e=AI AT d):
  Aj 4 (BQ ty3.zero 4) [(0,1,g1),(1,1,g2),(2,1,g3),(3,1,g4)] F e h=.ok (.slice (some ⟨h.next,0,none⟩) 4 4) (h.AEA 0 (ints .i64 [a,b,c,d])):=by
 rw[CT,rZ,BE (hk:=by rw[h1];rfl),h1,BE (hk:=by rw[h2];rfl),h2,BE (hk:=by rw[h3];rfl),h3,BE (hk:=by rw[h4];rfl),h4];simp only[Dl,xR,vw,wl,over,List.take,AC7,List.append_eq,xE,List.cons_append,IS,Nat.reduceLeDiff,if_true,CO,reduceIte];rw[Cw W];rfl
theorem cg(W:h.Wf)(x y:Kt):∃ h',call AC (m+3) 51 [ktV x,ktV y] h=.ok (AI AT (Gz x y)) h'/\h.Ext h':=by
 have b1:=fun (F:AEB) (e:Env) (he:J 0 e=ktV x)=>Hr (F:=F) W he
 have x1:=(Hp.Ext.refl W).AEA 0 (AU x);have R1:=Hp.Row.new W 0 (AU x);have n1:(h.AEA 0 (AU x)).next=h.next+1:=rfl;generalize h.AEA 0 (AU x)=h1 at b1 x1 R1 n1;have b2:=fun (F:AEB) (e:Env) (he:J 1 e=ktV y)=>Hr (F:=F) x1.wf he
 have y2:=(Hp.Ext.refl x1.wf).AEA 0 (AU y);have R2:=Hp.Row.new x1.wf 0 (AU y);have n2:(h1.AEA 0 (AU y)).next=h1.next+1:=rfl;generalize h1.AEA 0 (AU y)=h2 at b2 y2 R2 n2;have x2:=(x1.trans y2).marked;have R1m:h2.marked.Row h.next 0 (AU x):=(R1.ext x1.wf y2).same rfl;have R2m:h2.marked.Row h1.next 0 (AU y):=R2.same rfl;have mk:h2.marked.mark=h2.next:=rfl;have nx:h2.marked.next=h2.next:=rfl;generalize hg0:h2.marked=g0 at x2 R1m R2m mk nx;have wk:∀ (g:Hp) (W:g.Wf) (hm:g.mark<=g.next) (mm:Qm) (i j:Nat) (a b:Int) (e:Env),J i e=AI AT a->J j e=AI AT b->Al mm (AS 80 [J i,J j]) (call AC (m+2)) e g=.ok (AI AT (C2 a b)) (g.back g.quiet):=fun g W hm mm i j a b e e1 e2=>by
  refine Ge W ?_ hm;rw[Ba,AV,AV,A1,e1,e2];exact pB
 have bk:∀ g:Hp,g.Wf->g.Ext (g.back g.quiet)/\(g.back g.quiet).next=g.next/\(g.back g.quiet).mark=g.mark:=fun g W=>⟨Hp.Ext.AFK (.refl W) (Hp.Ext.refl W).quiet,rfl,rfl⟩
 have ol:∀ (g:Hp) (hm:g.mark=h2.next) (r off:Nat) (kk:C) (F:AEB) (e:Env),r<h2.next->JA (.pointer (some ⟨r,off,none⟩)) kk F e g=kk F e g:=fun g hm r off kk F e hr=>Dg (by rw[hm];exact hr)
 obtain⟨l0,_⟩:=Bt R1m;obtain⟨k0,_⟩:=Bt R2m;have w1:=wk g0 x2.wf (by omega) .weak 7 10 x.a y.a;obtain⟨z1,v1,u1⟩:=bk g0 x2.wf;generalize g0.back g0.quiet=g1 at w1 z1 v1 u1;have o1:=ol g1 (u1.trans mk);obtain⟨_,l1,_⟩:=Bt (R1m.ext x2.wf z1);obtain⟨_,k1,_⟩:=Bt (R2m.ext x2.wf z1);have w2:=wk g1 z1.wf (by omega) .weak 14 17 x.b y.b;obtain⟨z2',v2,u2⟩:=bk g1 z1.wf;generalize g1.back g1.quiet=g2 at w2 z2' v2 u2;have z2:=z1.trans z2';have o2:=ol g2 (by omega);obtain⟨_,_,l2,_⟩:=Bt (R1m.ext x2.wf z2);obtain⟨_,_,k2,_⟩:=Bt (R2m.ext x2.wf z2);have w3:=wk g2 z2.wf (by omega) .weak 21 24 x.c y.c;obtain⟨z3',v3,u3⟩:=bk g2 z2.wf;generalize g2.back g2.quiet=g3 at w3 z3' v3 u3;have z3:=z2.trans z3';have o3:=ol g3 (by omega);obtain⟨_,_,_,_,_,l5,_⟩:=Bt (R1m.ext x2.wf z3);obtain⟨_,_,_,_,_,k5,_⟩:=Bt (R2m.ext x2.wf z3);have w4:=wk g3 z3.wf (by omega) .free 27 29 x.p y.p;obtain⟨z4',v4,u4⟩:=bk g3 z3.wf;generalize g3.back g3.quiet=g4 at w4 z4' v4 u4;have z4:=z3.trans z4';have q5:∀ (F:AEB) (e:Env),J 11 e=AI AT (C2 x.a y.a)->J 18 e=AI AT (C2 x.b y.b)->J 25 e=AI AT (C2 x.c y.c)->J 30 e=AI AT (C2 x.p y.p)->Al .AEV (Aj 4 (BQ ty3.zero 4) [(0,1,J 11),(1,1,J 18),(2,1,J 25),(3,1,J 30)]) F e g4=.ok (.slice (some ⟨g4.next,0,none⟩) 4 4) (g4.back (g4.quiet.AEA 0 (ints .i64 [C2 x.a y.a,C2 x.b y.b,C2 x.c y.c,C2 x.p y.p]))):=fun F e e1 e2 e3 e4=>DP (Xw z4.wf.quiet e1 e2 e3 e4) ((Hp.Ext.refl z4.wf.quiet).AEA _ _) (by omega)
 have y5:g4.Ext (g4.back (g4.quiet.AEA 0 (ints .i64 [C2 x.a y.a,C2 x.b y.b,C2 x.c y.c,C2 x.p y.p]))):=.back ((Hp.Ext.refl z4.wf.quiet).AEA _ _);have R5:(g4.back (g4.quiet.AEA 0 (ints .i64 [C2 x.a y.a,C2 x.b y.b,C2 x.c y.c,C2 x.p y.p]))).Row g4.next 0 (ints .i64 [C2 x.a y.a,C2 x.b y.b,C2 x.c y.c,C2 x.p y.p]):=(Hp.Row.new z4.wf.quiet 0 (ints .i64 [C2 x.a y.a,C2 x.b y.b,C2 x.c y.c,C2 x.p y.p])).same rfl;generalize g4.back (g4.quiet.AEA 0 (ints .i64 [C2 x.a y.a,C2 x.b y.b,C2 x.c y.c,C2 x.p y.p]))=g5 at q5 y5 R5;have z5:=z4.trans y5;have k6:=ug (m:=m+1) (h:=g5.quiet) (v:=.slice (some ⟨g4.next,0,none⟩) 4 4) (zs:=[C2 x.a y.a,C2 x.b y.b,C2 x.c y.c,C2 x.p y.p]) (.inr ⟨g4.next,0,4,0,_,rfl,R5.same rfl,IT _,rfl⟩) (by show 4<=1000;omega);have q6:∀ e:Env,J 31 e=.slice (some ⟨g4.next,0,none⟩) 4 4->Al .free (AS 79 [J 31]) (call AC (m+2)) e g5=.ok (AI AT (Gz x y)) (g5.back g5.quiet):=fun e e1=>by
  refine BO ?_;rw[Ba,AV,A1,e1];exact k6
 refine⟨g5.back g5.quiet,?_,(x2.trans z5).trans (bk g5 z5.wf).1⟩;rw[ny rfl];unfold d51;have hx1:h.next<h2.next:=by omega
 have hx2:h1.next<h2.next:=by omega
 have o11:=fun off kk F e=>o1 h.next off kk F e hx1
 have o12:=fun off kk F e=>o1 h1.next off kk F e hx2
 have o21:=fun off kk F e=>o2 h.next off kk F e hx1
 have o22:=fun off kk F e=>o2 h1.next off kk F e hx2
 have o31:=fun off kk F e=>o3 h.next off kk F e hx1
 have o32:=fun off kk F e=>o3 h1.next off kk F e hx2
 simp only[iN,IS,sT,By,BY,reduceIte,b1,b2,A3,hg0,AG,AM,vk,yc,AK,AO,l0,k0,w1,EH,o11,o12,Da,l1,k1,w2,o21,o22,l2,k2,w3,o31,o32,l5,k5,w4,q5,q6,lV0]
theorem YB{body:C}{i:Nat}{e':Env}(hb:body F e h=.exit i e' h'):Aw body F e h=.exit i e' h':=by
 show iter body (8796093022207+1) F e h=_;unfold iter;rw[hb]
theorem Pq:jsB=X4:=rfl
theorem aC:d97=gM:=rfl
theorem uJ(W:h.Wf)(K:h.KS S v ks)(hl:ks.length<=1000)(hs:∀ (i:Nat) (x y:Kt),ks[i]? =some x->ks[i+1]? =some y->0<=Gz y x):
  ∃ h',call AC (m+4) 97 [v,AI AT 0,AI AT (ks.length:Int),.func (.func 51) ⟨[]⟩ ⟨[]⟩] h=.ok AEE h'/\h.Ext h':=by
 have run:∀ e1:Env,J 0 e1=v->J 1 e1=AI AT 0->J 2 e1=AI AT (ks.length:Int)->J 3 e1=.func (.func 51) ⟨[]⟩ ⟨[]⟩->J 8 e1=AI AT ((1:Nat):Int)->∃ e' h',Aw jsB (call AC (m+3)) e1 h=.exit 0 e' h'/\h.Ext h':=fun e1 s0 s1 s2 s3 s8=>by
  refine BU (I:=fun i e' h'=>h.Ext h'/\J 0 e'=v/\J 1 e'=AI AT 0/\J 2 e'=AI AT (ks.length:Int)/\J 3 e'=.func (.func 51) ⟨[]⟩ ⟨[]⟩/\J 8 e'=AI AT ((i+1:Nat):Int)) (Q:=fun x=>∃ e' h',x=.exit 0 e' h'/\h.Ext h') ks.length (by omega) (fun i e' h' ⟨x',t0,t1,t2,t3,t8⟩=>?_) ⟨.refl W,s0,s1,s2,s3,s8⟩;by_cases hlt:i+1<ks.length
  ·left
   have c1:iLt ((i+1:Nat):Int) (ks.length:Int)=true:=EF hlt;have c2:iGt ((i+1:Nat):Int) 0=true:=GV (by omega);obtain⟨y,hy⟩:∃ y,ks[i+1]? =some y:=⟨_,sh hlt⟩;obtain⟨x,hx⟩:∃ x,ks[i]? =some x:=⟨_,sh (by omega)⟩;have x1:=x'.marked;have K1:=K.ext W x1;obtain⟨b,_,ix,ld,_⟩:=K1.at hy;obtain⟨b',_,ix',ld',_⟩:=K1.at hx;have a1:Ft wi .i64 (AI AT ((i+1:Nat):Int)) (AI AT 1) h'.marked=.ok (AI AT (i:Int)) h'.marked:=by
    have:wi ((i+1:Nat):Int) 1=(i:Int):=by
     show((i+1:Nat):Int) - 1=_;omega
    rw[CV,this,Bb (by omega)]
   obtain⟨h2,k2,x2⟩:=cg (m:=m) x1.quiet.wf y x;have q2:∀ e:Env,J 22 e=.func (.func 51) ⟨[]⟩ ⟨[]⟩->J 26 e=ktV y->J 31 e=ktV x->Al .free (Ei (J 22) [J 26,J 31]) (call AC (m+3)) e h'.marked=.ok (AI AT (Gz y x)) (h'.marked.back h2):=fun e e1 e2 e3=>by
    refine BO ?_;rw[Ca,AV,AV,A1,e1,e2,e3];exact k2
   have y2:h'.marked.Ext (h'.marked.back h2):=.back x2;generalize h'.marked.back h2=h3 at q2 y2;have x3:=x1.trans y2;have c3:iLt (Gz y x) 0=false:=HL (by have:=hs i x y hx hy;omega);have a3:Fs .i64 (AI AT ((i+1:Nat):Int)) (AI AT 1) h3=.ok (AI AT ((i+1+1:Nat):Int)) h3:=CF (by omega);have inn:∀ e:Env,J 0 e=v->J 1 e=AI AT 0->J 3 e=.func (.func 51) ⟨[]⟩ ⟨[]⟩->J 9 e=AI AT ((i+1:Nat):Int)->∃ e2,jnB (call AC (m+3)) e h'=.exit 2 e2 h3/\∀ j,j=0\/j=1\/j=2\/j=3\/j=8->J j e2=J j e:=fun e t0 t1 t3 t9=>by
    unfold jnB X3 swB An;simp only[sT,By,BY,reduceIte,gD,A3,AJ,AH,t9,t1,c2,t3,t0,Ay,ix,ix',Aq,As,ld,ld',Bu,a1,q2,c3];refine⟨_,rfl,fun j hj=>?_⟩;rcases hj with rfl|rfl|rfl|rfl|rfl<;>simp only[AD,By,BY,reduceIte]
   obtain⟨e2,i1,i2⟩:=inn (Env.set 9 (AI AT ((i+1:Nat):Int)) (Env.set 14 (.bool true) e')) (by simp[AD,t0]) (by simp[AD,t1]) (by simp[AD,t3]) (by simp[AD]);have i1:=YB i1;have g0:=i2 0 (by omega);have g1:=i2 1 (by omega);have g2:=i2 2 (by omega);have g3:=i2 3 (by omega);have g8:=i2 8 (by omega);simp only[AD,By,BY,reduceIte,t0]at g0;simp only[AD,By,BY,reduceIte,t1]at g1;simp only[AD,By,BY,reduceIte,t2]at g2;simp only[AD,By,BY,reduceIte,t3]at g3;simp only[AD,By,BY,reduceIte,t8]at g8;have hrun:∃ e3,jsB (call AC (m+3)) e' h'=.norm e3 h3/\J 0 e3=v/\J 1 e3=AI AT 0/\J 2 e3=AI AT (ks.length:Int)/\J 3 e3=.func (.func 51) ⟨[]⟩ ⟨[]⟩/\J 8 e3=AI AT ((i+1+1:Nat):Int):=by
    rw[Pq];unfold X4;simp only[sT,By,BY,reduceIte,AJ,AH,t8,t2,c1,i1,g8,BG,a3];exact⟨_,rfl,by simp[AD,g0,g1,g2,g3]⟩
   obtain⟨e3,r1,r2,r3,r4,r5,r6⟩:=hrun;exact⟨by omega,e3,h3,r1,x3,r2,r3,r4,r5,r6⟩
  ·right
   have c1:iLt ((i+1:Nat):Int) (ks.length:Int)=false:=Cz (by omega);have hrun:∃ e3,jsB (call AC (m+3)) e' h'=.exit 0 e3 h':=by
    rw[Pq];unfold X4;simp only[sT,By,BY,reduceIte,AJ,AH,t8,t2,c1];exact⟨_,rfl⟩
   obtain⟨e3,r1⟩:=hrun;rw[r1];exact⟨rfl,e3,h',rfl,x'⟩
 have a1:Fs .i64 (AI AT 0) (AI AT 1) h=.ok (AI AT ((1:Nat):Int)) h:=CF (i:=0) (by omega);obtain⟨e2,h2,r1,x2⟩:=run (Env.set 8 (AI AT ((1:Nat):Int)) (Env.set 11 (AI AT ((1:Nat):Int)) (AQ e0 0 [v,AI AT 0,AI AT (ks.length:Int),.func (.func 51) ⟨[]⟩ ⟨[]⟩]))) (by simp only[iN,IS,AD,By,BY,reduceIte]) (by simp only[iN,IS,AD,By,BY,reduceIte]) (by simp only[iN,IS,AD,By,BY,reduceIte]) (by simp only[iN,IS,AD,By,BY,reduceIte]) (by simp[AD]);simp only[iN,IS]at r1;refine⟨h2,?_,x2⟩;rw[Zc rfl,aC];unfold gM;simp only[iN,IS,sT,By,BY,reduceIte,BG,a1,r1,De,Dc]
theorem Z9:d77=gH:=rfl
theorem cr:pdB=jS:=rfl
theorem ND{body:C}{e':Env}(hb:body F e h=.ret e' h'):Aw body F e h=.ret e' h':=by
 show iter body (8796093022207+1) F e h=_;unfold iter;rw[hb]
theorem Y8{x y:O}{n:Nat}{s:ByteArray}(hx:x e=.string s)(hy:y e=.int .u8 (n:Int))(hn:n<s.data.toList.length):∃ b:Nat,I7 x y F e h=.ok (.int .u8 (b:Int)) h/\b<256:=by
 have e1:I7 x y F e h=KH (x e) (DE (y e)) h:=rfl;have e2:nth s.data.toList n=some (s.data.toList[n]'hn):=by rw[Fc,sh hn]
 refine⟨(s.data.toList[n]'hn).toNat,?_,UInt8.toNat_lt _⟩;rw[e1,hx,hy,C9];unfold KH;simp only[e2];exact El ..
theorem PM{n:Nat}(hn:n<256):∃ k:Nat,call AC (m+2) 78 [.int .u64 (n:Int)] h=.ok (AI AT (k:Int)) h:=by
 have c1:iGe (n:Int) 4294967296=false:=FZ (by omega);have c2:iGe (n:Int) 65536=false:=FZ (by omega);have c3:iGe (n:Int) 256=false:=FZ (by omega);have v1:DS .u8 (.int .u64 (n:Int)) h=.ok (.int .u8 (n:Int)) h:=by rw[Cd,Ii,Nat.mod_eq_of_lt hn]
 have key:∃ k:Nat,call AC (m+1) 106 [.int .u64 (n:Int)] h=.ok (AI AT (k:Int)) h:=by
  rw[fI rfl];unfold fc;simp only[iN,IS,sT,By,BY,reduceIte,AJ,AH,c1,c2,c3,CH,v1];obtain⟨b,hb,hlt⟩:=Y8 (F:=call AC m) (h:=h) (e:=Env.set 21 (.int .u8 (n:Int)) (Env.set 14 (.bool false) (Env.set 8 (.bool false) (Env.set 4 (.bool false) (Env.set 2 (AI AT 0) (Env.set 0 (.int .u64 (n:Int)) e0)))))) (x:=(kV (.string ⟨#[0,1,2,2,3,3,3,3,4,4,4,4,4,4,4,4,5,5,5,5,5,5,5,5,5,5,5,5,5,5,5,5,6,6,6,6,6,6,6,6,6,6,6,6,6,6,6,6,6,6,6,6,6,6,6,6,6,6,6,6,6,6,6,6,7,7,7,7,7,7,7,7,7,7,7,7,7,7,7,7,7,7,7,7,7,7,7,7,7,7,7,7,7,7,7,7,7,7,7,7,7,7,7,7,7,7,7,7,7,7,7,7,7,7,7,7,7,7,7,7,7,7,7,7,7,7,7,7,8,8,8,8,8,8,8,8,8,8,8,8,8,8,8,8,8,8,8,8,8,8,8,8,8,8,8,8,8,8,8,8,8,8,8,8,8,8,8,8,8,8,8,8,8,8,8,8,8,8,8,8,8,8,8,8,8,8,8,8,8,8,8,8,8,8,8,8,8,8,8,8,8,8,8,8,8,8,8,8,8,8,8,8,8,8,8,8,8,8,8,8,8,8,8,8,8,8,8,8,8,8,8,8,8,8,8,8,8,8,8,8,8,8,8,8,8,8,8,8,8,8,8,8,8,8,8,8]⟩))) (y:=J 21) (n:=n) rfl (by simp[AD]) (by
   refine Nat.lt_of_lt_of_eq hn ?_
   kernel_rfl)
  rw[hb];have v2:DS .i64 (.int .u8 (b:Int)) h=.ok (AI AT (b:Int)) h:=by rw[Cd,Bb (by omega)]
  have a2:Fs .i64 (AI AT 0) (AI AT (b:Int)) h=.ok (AI AT (b:Int)) h:=by
   have:=VM (h:=h) (a:=0) (b:=b) (by omega);rw[vk]at this;exact this
  simp only[sT,By,BY,reduceIte,CH,v2,BG,a2,lV0];exact⟨b,rfl⟩
 obtain⟨k,hk⟩:=key;refine⟨k,?_⟩;rw[oU rfl];unfold d78;simp only[iN,IS,sT,By,BY,reduceIte,cA0,hk,lV0]
theorem jh(W:h.Wf)(K:h.KS S v ks)(hl:ks.length<=12)(hs:∀ (i:Nat) (x y:Kt),ks[i]? =some x->ks[i+1]? =some y->0<=Gz y x):
  ∃ h',call AC (m+6) 50 [v,.func (.func 51) ⟨[]⟩ ⟨[]⟩] h=.ok AEE h'/\h.Ext h':=by
 have ln:=K.len h;obtain⟨h2,k2,x2⟩:=uJ (m:=m) W K (by omega) hs;obtain⟨k,kb⟩:=PM (m:=m+3) (h:=h) (n:=ks.length) (by omega);have cv:DS .u64 (AI AT (ks.length:Int)) h=.ok (.int .u64 (ks.length:Int)) h:=by rw[Cd,EV (by omega)]
 have a1:Ft wi .i64 (AI AT (ks.length:Int)) (AI AT 0) h=.ok (AI AT (ks.length:Int)) h:=by
  have:wi (ks.length:Int) 0=(ks.length:Int):=Int.sub_zero _;rw[CV,this,Bb (by omega)]
 have c1:iLe (ks.length:Int) 12=true:=LP (by omega);have pd:call AC (m+5) 77 [v,AI AT 0,AI AT (ks.length:Int),AI AT (k:Int),.func (.func 51) ⟨[]⟩ ⟨[]⟩] h=.ok AEE h2:=by
  have hb:∃ e2,pdB (call AC (m+4)) (Env.set 11 (.bool true) (Env.set 10 (.bool true) (AQ e0 0 [v,AI AT 0,AI AT (ks.length:Int),AI AT (k:Int),.func (.func 51) ⟨[]⟩ ⟨[]⟩]))) h=.ret e2 h2:=by
   rw[cr];unfold jS;simp only[iN,IS,sT,By,BY,reduceIte,Bu,a1,AJ,AH,c1,cA0,k2];exact⟨_,rfl⟩
  obtain⟨e2,r1⟩:=hb;have r1:=ND r1;simp only[iN,IS]at r1;rw[ZX rfl,Z9];unfold gH;simp only[iN,IS,sT,By,BY,reduceIte,r1,Bg,Dc]
 refine⟨h2,?_,x2⟩;rw[ZQ rfl];unfold d50;simp only[iN,IS,sT,By,BY,reduceIte,AX,ln,CH,cv,cA0,kb,pd,De,Dc]
end
end
noncomputable section
open Go
set_option maxRecDepth 100000
theorem RR{k:wH}{Z:List Int}:(ints k Z).length=Z.length:=OF ..
theorem gn{k:wH}{Z:List Int}{i:Nat}(hi:i<Z.length):(ints k Z).getD i AEE=.int k (Z.getD i 0):=by
 unfold ints;rw[vm,List.getElem?_map,vm,sh hi];rfl
theorem Hp.AEb.int{h:Hp}{k:wH}{u:IN}{Z:List Int}(V:h.AEb u (ints k Z)){i:Nat}(hi:i<Z.length):∃ a,AE0 1 u (AI AT (i:Int)) h=.ok (.pointer (some a)) h/\HN (.pointer (some a)) h=.ok (.int k (Z.getD i 0)) h:=by
 obtain⟨a,g1,g2⟩:=V.at (i:=i) (by rw[RR];exact hi);rw[gn hi]at g2;exact⟨a,g1,g2⟩
theorem Hp.AEb.AJ2{h:Hp}{k:wH}{u:IN}{Z:List Int}(V:h.AEb u (ints k Z)):AE5 u h=.ok (AI AT (Z.length:Int)) h:=by
 have:=V.len;rwa [RR]at this
def I5(x:Int):Nat->List Int->Int
 |_,[]=> -1
 |i,z::l=>if x=z then(i:Int)else I5 x (i+1) l
theorem WK(x:Int):∀ (zs:List Int) (i:Nat),(x∉zs/\I5 x i zs= -1)\/(x∈zs/\∃ k,k<zs.length/\I5 x i zs=((i+k:Nat):Int)/\zs.getD k 0=x)
 |[],i=>.inl ⟨fun h=>(by cases h),rfl⟩
 |z::l,i=>by
  unfold I5;by_cases h:x=z
  ·rw[if_pos h]
   exact .inr ⟨by rw[h];exact vp,0,Nat.succ_pos _,rfl,h.symm⟩
  ·rw[if_neg h]
   rcases WK x l (i+1)with ⟨h1,h2⟩|⟨h1,k,h2,h3,h4⟩
   ·refine .inl ⟨fun hx=>?_,h2⟩
    rcases List.mem_cons.1 hx with hx|hx
    ·exact h hx
    ·exact h1 hx
   ·exact .inr ⟨vr _ h1,k+1,Nat.succ_lt_succ h2,by rw[h3];congr 1;omega,h4⟩
theorem gk(x:Int)(zs:List Int):(0<=I5 x 0 zs)↔x∈zs:=by
 rcases WK x zs 0 with ⟨h1,h2⟩|⟨h1,k,_,h3,_⟩
 ·rw[h2];exact⟨fun h=>by omega,fun h=>absurd h h1⟩
 ·rw[h3];exact⟨fun _=>h1,fun _=>by omega⟩
theorem gj(x:Int)(zs:List Int):iGe (I5 x 0 zs) 0=decide (x∈zs):=by
 rw[Pf,decide_eq_decide];exact gk x zs
theorem qJ:ixS=BI (AY 0 (Aw ixB)) ixE:=rfl
theorem pR:d91=gL:=rfl
theorem gq{F:AEB}{h:Hp}{u:IN}{zs:List Int}{x:Int}(V:h.AEb u (ints .i64 zs))(hl:zs.length<900000){e:Env}(s0:J 0 e=u)(s1:J 1 e=AI AT x)(s7:J 7 e=AI AT (zs.length:Int))(s8:J 8 e=AI AT 0):
  (∃ e',Aw ixB F e h=.exit 0 e' h/\I5 x 0 zs= -1)\/(∃ e',Aw ixB F e h=.ret e' h/\J 4 e'=AI AT (I5 x 0 zs)):=by
 refine BU (I:=fun i e' h'=>h'=h/\J 0 e'=u/\J 1 e'=AI AT x/\J 7 e'=AI AT (zs.length:Int)/\J 8 e'=AI AT (i:Int)/\i<=zs.length/\I5 x 0 zs=I5 x i (zs.drop i))
  (Q:=fun y=>(∃ e',y=.exit 0 e' h/\I5 x 0 zs= -1)\/(∃ e',y=.ret e' h/\J 4 e'=AI AT (I5 x 0 zs))) zs.length (by omega) (fun i e' h' ⟨hh,t0,t1,t7,t8,hi,hr⟩=>?_)
  ⟨rfl,s0,s1,s7,s8,wP _,rfl⟩
 subst hh;by_cases hlt:i<zs.length
 ·obtain⟨a,g1,g2⟩:=V.int hlt
  have hd:zs.drop i=zs.getD i 0::zs.drop (i+1):=by
   rw[xW hlt,vm,sh hlt];rfl
  rw[hd]at hr;generalize zs.getD i 0=z at g2 hr;have hr:I5 x 0 zs=if x=z then(i:Int)else I5 x (i+1) (zs.drop (i+1)):=hr
  have c1:iLt (i:Int) (zs.length:Int)=true:=by rw[C4];simp;omega
  by_cases hx:x=z
  ·right
   have c2:iEq x z=true:=by rw[EM];simpa using hx
   have hrun:∃ e2,ixB F e' h'=.ret e2 h'/\J 4 e2=AI AT (i:Int):=by
    unfold ixB;simp only[sT,By,BY,reduceIte,AJ,AH,t8,t7,c1,Ay,t0,g1,AK,g2,t1,c2];exact⟨_,rfl,by simp[AD]⟩
   obtain⟨e2,r1,r2⟩:=hrun;rw[r1];refine⟨rfl,.inr ⟨e2,rfl,?_⟩⟩;rw[r2,hr,if_pos hx]
  ·left
   have c2:iEq x z=false:=by rw[EM];simpa using hx
   have a3:Fs .i64 (AI AT (i:Int)) (AI AT 1) h'=.ok (AI AT ((i+1:Nat):Int)) h':=by
    have:(i:Int)+1=((i+1:Nat):Int):=by omega
    rw[Er,this,Bb (by omega)]
   have hrun:∃ e2,ixB F e' h'=.norm e2 h'/\J 0 e2=u/\J 1 e2=AI AT x/\J 7 e2=AI AT (zs.length:Int)/\J 8 e2=AI AT ((i+1:Nat):Int):=by
    unfold ixB;simp only[sT,By,BY,reduceIte,AJ,AH,t8,t7,c1,Ay,t0,g1,AK,g2,t1,c2,BG,a3];exact⟨_,rfl,by simp[AD,t0,t1,t7]⟩
   obtain⟨e2,r1,r2,r3,r4,r5⟩:=hrun;rw[if_neg hx]at hr;exact⟨hlt,e2,h',r1,rfl,r2,r3,r4,r5,hlt,hr⟩
 ·right
  have c1:iLt (i:Int) (zs.length:Int)=false:=by rw[C4];simp;omega
  have hrun:∃ e2,ixB F e' h'=.exit 0 e2 h':=by
   unfold ixB;simp only[sT,By,BY,reduceIte,AJ,AH,t8,t7,c1];exact⟨_,rfl⟩
  obtain⟨e2,r1⟩:=hrun;rw[r1];refine⟨rfl,.inl ⟨e2,rfl,?_⟩⟩;rw[hr,xL (by omega)];rfl
theorem aq{n:Nat}{h:Hp}{u:IN}{zs:List Int}{x:Int}(V:h.AEb u (ints .i64 zs))(hl:zs.length<900000):call AC (n+1) 91 [u,AI AT x] h=.ok (AI AT (I5 x 0 zs)) h:=by
 have pre:∃ e1,gL (call AC n) (AQ e0 0 [u,AI AT x]) h=ixS (call AC n) e1 h/\J 0 e1=u/\J 1 e1=AI AT x/\J 7 e1=AI AT (zs.length:Int)/\J 8 e1=AI AT 0:=by
  unfold gL;simp only[iN,IS,Gl,Gx,Dw,Gw,Ho,AD,By,BY,reduceIte,AX,V.AJ2];exact⟨_,rfl,by simp[AD]⟩
 obtain⟨e1,p1,p0,pp1,p7,p8⟩:=pre;rw[oe rfl,pR,p1,qJ];rcases gq (F:=call AC n) V hl p0 pp1 p7 p8 with ⟨e2,q1,q2⟩|⟨e2,q1,q2⟩
 ·simp only[BB,Ap,q1,Az,A8]
  unfold ixE;simp only[sT,By,BY,reduceIte,lV0,q2]
 ·simp only[BB,Ap,q1,Bz,CU,lV0,q2]
theorem Qs{n:Nat}{h:Hp}{u:IN}{zs:List Int}{x:Int}(V:h.AEb u (ints .i64 zs))(hl:zs.length<900000):call AC (n+2) 63 [u,AI AT x] h=.ok (.bool (decide (x∈zs))) h:=by
 have k1:=aq (n:=n) (x:=x) V hl;rw[oK rfl];unfold d63;simp only[iN,IS,sT,By,BY,reduceIte,cA0,k1,AJ,AH,gj,lV0]
section
variable {F:AEB}{e:Env}{h h' h0:Hp}{S:Nat->Prop}{m k:Nat}{ks:List Kt}{v:IN}
def Hp.KO(h:Hp)(k:Nat)(v:IN)(ks:List Kt):Prop:=(v=.slice none 0 0/\ks=[])\/∃ b,v=.slice (some ⟨b,0,none⟩) ks.length ks.length/\h.Row b 84 (flK ks)/\k<=b/\256<=b
theorem Hp.KO.lst(o:h.KO k v ks):h.KS (fun b=>k<=b) v ks:=by
 rcases o with h1|⟨b,h1,h2,h3,h4⟩
 ·exact .inl h1
 ·exact .inr ⟨b,_,84,_,h1,IT _,h2,by rw[CQ];omega,by rw[<- CQ,xn],.inl rfl,h3⟩
theorem Hp.KO.keep(o:h.KO k v ks)(hk:∀ b el L,AEe v b->h.Row b el L->h'.Row b el L):h'.KO k v ks:=by
 rcases o with h1|⟨b,h1,h2,h3,h4⟩
 ·exact .inl h1
 ·exact .inr ⟨b,h1,hk b _ _ ⟨0,_,_,h1⟩ h2,h3,h4⟩
theorem Hp.KO.ext(o:h.KO k v ks)(W:h.Wf)(x:h.Ext h'):h'.KO k v ks:=o.keep fun _ _ _ _ r=>r.ext W x
theorem Hp.KO.same(o:h.KO k v ks)(hb:h'.bl=h.bl):h'.KO k v ks:=o.keep fun _ _ _ _ r=>r.same hb
theorem Hp.KO.blk(o:h.KO k v ks)(W:h.Wf){b:Nat}(hb:AEe v b):k<=b/\b<h.next:=by
 obtain⟨off,n,c,e1⟩:=hb;rcases o with ⟨h1,h2⟩|⟨b',h1,h2,h3,h4⟩
 ·rw[h1]at e1;cases e1
 ·have:=h2.lt W
  rw[h1]at e1;injection e1 with e1 _ _
  injection e1 with e1
  injection e1 with e1 _ _
  omega
theorem XO:BQ Fm.zero 1=AU K0:=by kernel_rfl
theorem NA(W:h.Wf){g:O}{x:Kt}(hg:g e=ktV x):Aj 1 (BQ Fm.zero 1) [(0,6,g)] F e h=.ok (.slice (some ⟨h.next,0,none⟩) 1 1) (h.AEA 0 (AU x)):=by
 rw[XO,CT,BE (hk:=by rw[hg];rfl),hg,show cellsOf (ktV x)=AU x from rfl,if_pos (show(AU x).length=6 from rfl),if_pos (show 0+6<=(AU K0).length from IT _),CO,Cw W];rfl
theorem Gn{x:Kt}(hu:oneCell x.u=true):Bc (AU x)=true:=by
 show(bif oneCell x.u then true else false)=true;rw[hu];rfl
theorem US(x0:h0.Ext h)(hk:h0.next<=k)(hk2:k<=h.next)(o:h.KO k v ks){x:Kt}(hu:oneCell x.u=true)(hl:ks.length<=100000):
  ∃ h' v',DQ 6 64 83 v (.slice (some ⟨h.next,0,none⟩) 1 1) (h.AEA 0 (AU x))=.ok v' h'/\h0.Ext h'/\h'.KO k v' (ks++[x])/\h.next<=h'.next/\∀ b el L,¬ AEe v b->h.Row b el L->h'.Row b el L:=by
 have W:=x0.wf;have x1:=x0.AEA 0 (AU x);have y1:=(Hp.Ext.refl W).AEA 0 (AU x);have Rw:=Hp.Row.new W 0 (AU x);have n1:(h.AEA 0 (AU x)).next=h.next+1:=rfl;have o1:=o.ext W y1;generalize h.AEA 0 (AU x)=h1 at x1 y1 Rw n1 o1;have hs:∀ K:List IN->R,BJ h1 6 (.slice (some ⟨h.next,0,none⟩) 1 1) 1 K=K (AU x):=fun K=>Rw.AGM (es:=6) (off:=0) (n:=1) (by show 0+1 * 6<=6;omega)
 have ha:=Gn hu;rcases o1 with ⟨rfl,rfl⟩|⟨b,rfl,r,hb,AEO⟩
 ·obtain⟨h5,a1,a2,a3,a4,_,a6⟩:=L2 (eb:=64) (en:=83) x1 hs rfl rfl ha (by omega)
  refine⟨h5,_,a1,a2,.inr ⟨h1.next,rfl,?_,by omega,by have:=W.big;omega⟩,by omega,fun b el L _ r=>(r.ext W y1).ext x1.wf a6⟩;show h5.Row h1.next 84 (AU x++[]);rw[wF];exact a3
 ·obtain⟨h5,a1,a2,a3,a4,_,a6⟩:=Mu (eb:=64) (en:=83) (n:=ks.length) x1 hs rfl rfl (by omega) ha r (by rw[CQ];omega) (by omega) AEO (by omega)
  refine⟨h5,_,a1,a2,.inr ⟨h1.next,by rw[No];rfl,?_,by omega,by have:=W.big;omega⟩,by omega,fun b' el L hne r'=>a6 b' el L (fun e=>hne ⟨0,ks.length,ks.length,by rw[e]⟩) (r'.ext W y1)⟩;rw[Jc,show flK [x]=AU x from wF _];exact a3
def Mx(x y:Kt):Prop:=y.a=x.a/\y.b=x.b/\y.p≠x.p/\y.s=2/\(x.c<y.c\/y.c=x.c/\x.s=1)
def uv(x y:Kt):Prop:=y.a=x.a/\y.b=x.b/\y.c=x.c/\y.s=x.s
theorem GU(a b:Int):(iEq a b=true/\a=b)\/(iEq a b=false/\a≠b):=by
 by_cases h:a=b
 ·exact .inl ⟨Ci h,h⟩
 ·exact .inr ⟨Bj h,h⟩
theorem pq:hiB=pr:=rfl
theorem pQ:d89=gK:=rfl
theorem pZ(W:h.Wf){r5:Nat}{x y:Kt}(R5:h.Row r5 0 (AU x))(hn:¬ uv x y):∃ h',call AC (m+1) 90 [ktV y,pt r5] h=.ok (.bool false) h'/\h.Ext h':=by
 have bx:=fun (F:AEB) (e:Env) (he:J 0 e=ktV y)=>Hr (F:=F) W he
 have x1:=(Hp.Ext.refl W).AEA 0 (AU y);have R:=Hp.Row.new W 0 (AU y);generalize h.AEA 0 (AU y)=h1 at bx x1 R;obtain⟨l0,l1,l2,l3,_,l5,_⟩:=Bt R;obtain⟨k0,k1,k2,k3,_,k5,_⟩:=Bt (R5.ext W x1);refine⟨h1,?_,x1⟩;rw[od rfl];unfold d90;rcases GU y.a x.a with ⟨c1,e1⟩|⟨c1,e1⟩
 ·rcases GU y.b x.b with ⟨c2,e2⟩|⟨c2,e2⟩
  ·rcases GU y.c x.c with ⟨c3,e3⟩|⟨c3,e3⟩
   ·rcases GU (y.s:Int) (x.s:Int)with ⟨c4,e4⟩|⟨c4,e4⟩
    ·exact absurd ⟨e1,e2,e3,by omega⟩ hn
    ·simp only[iN,IS,sT,By,BY,reduceIte,gD,bx,AG,AM,vk,AK,AO,l0,l1,l2,l3,l5,k0,k1,k2,k3,k5,AJ,AH,c1,c2,c3,c4,lV0]
   ·simp only[iN,IS,sT,By,BY,reduceIte,gD,bx,AG,AM,vk,AK,AO,l0,l1,l2,l3,l5,k0,k1,k2,k3,k5,AJ,AH,c1,c2,c3,lV0]
  ·simp only[iN,IS,sT,By,BY,reduceIte,gD,bx,AG,AM,vk,AK,AO,l0,l1,l2,l3,l5,k0,k1,k2,k3,k5,AJ,AH,c1,c2,lV0]
 ·simp only[iN,IS,sT,By,BY,reduceIte,gD,bx,AG,AM,vk,AK,AO,l0,l1,l2,l3,l5,k0,k1,k2,k3,k5,AJ,AH,c1,lV0]
theorem lF{P:Kt->Bool}(h:∀ k∈ks,P k=false):ks.any P=false:=by
 induction ks with
 |nil=>rfl
 |cons k l ih=>rw[AAU,h k vp,ih fun x hx=>h x (vr _ hx)];rfl
theorem qZ(K:h.KS S v ks){i:Nat}(hi:i<ks.length):∃ w,h.KS S w (ks.take i)/\∀ (F:AEB) (e:Env) (x y:O),x e=v->y e=AI AT (i:Int)->D5 83 6 x none (some y) none F e h=.ok w h:=by
 rcases K with ⟨rfl,rfl⟩|⟨b,c,el,L,rfl,h2,h3,h4,h5,h6,h7⟩
 ·cases hi
 ·have ht:(ks.take i).length=i:=by rw[wT];omega
  refine⟨.slice (some ⟨b,0,none⟩) i c,.inr ⟨b,c,el,L,by rw[ht],by rw[ht];omega,h3,by rw[ht];omega,?_,h6,h7⟩,fun F e x y hx hy=>?_⟩
  ·have e1:flK (ks.take i)=(flK ks).take (6*i):=by
    conv=>rhs;rw[<- List.take_append_drop i ks,Jc]
    rw[List.take_left' (by rw[CQ,ht])]
   rw[ht,e1,<- h5,ABp,zo (by omega)]
  ·show(match x e with|.slice a n c=>DR e n c none (some y) none (fun l hh m=>EL 83 6 a false l hh m h)|_=>.no)=_
   rw[hx];show(match DE (y e)with|.ok n=>(bif vx n c then EL 83 6 (some ⟨b,0,none⟩) false 0 n c h else .no)|.no=>.no)=_;rw[hy,C9];simp only;rw[Ac.2 (show i<=c by omega)];show Bn (some ⟨b,0,none⟩) 6 0 i c h=_;unfold Bn;simp only[AZ];cases c with
   |zero=>rfl
   |succ c=>rfl
theorem pD:coS=BI (AY 0 (Aw coB)) coE:=rfl
theorem pM:d59=gC:=rfl
end
end
end Go.Proofs.YtedbmmfebjfibaaGreat

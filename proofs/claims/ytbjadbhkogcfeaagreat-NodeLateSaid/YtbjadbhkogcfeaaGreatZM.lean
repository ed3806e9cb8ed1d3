/-
  Part ZM of what Lawlt stands on: printed by program, names and spaces cut.
-/
import Derived.Test.YtbjadbhkogcfeaaGreatZL
open Go.Value renaming int→AI
open Go.IntKind renaming i64→AT
open Nat renaming reduceEqDiff→BY,reduceLT→By,reduceAdd→IS,le_refl→IT,zero_add→If,succ→yg,ble→yl,beq→yu,lt_or_ge→zD,zero_le→zL,le_trans→zO,mul→zi,add_eq→AAD,add_zero→AAE,zero_mul→AAw,min_eq_left→ACd,mul_zero→AEL
open Go renaming Value→IN
open List renaming length_append→No,length_map→OF,getElem?_eq_getElem→sh,getD_eq_getElem?_getD→yf,length_cons→yh,mem_cons_of_mem→yj,replicate→yp,append_nil→yw,mem_of_getElem?→yz,mem_singleton→zB,getElem?_append_left→zF,getElem?_eq_some_iff→zG,getElem?_append_right→zI,length_take→zJ,mem_append→zK,length_nil→zS,nil_append→zU,map_append→zb,length_singleton→zh,getElem?_cons_succ→zk,drop_zero→zr,range→zu,drop_of_length_le→zx,take_length→AAF,drop_eq_getElem_cons→AAV,range_succ→AAf,take_of_length_le→AAo,singleton_append→ABE,nodup_cons→ABH,eq_of_mem_replicate→ABq,length_range→ACm,foldl_append→ACn,drop→ACo,any_cons→ADC,find?_cons_of_neg→ADK,map_nil→AEw
open Int renaming sub→zX,ofNat→zY
set_option linter.unusedVariables false
set_option linter.unusedSimpArgs false
namespace Go.Proofs.YtbjadbhkogcfeaaGreat
noncomputable section
open Go
set_option maxRecDepth 100000
theorem EE{h:Hp}{b b' el el':Nat}{L L':List IN}(r:h.Row b el L)(r':h.Row b' el' L')(he:el≠el'):b≠b':=fun hb=>by
 subst hb;obtain⟨_,e1,_⟩:=r;obtain⟨_,e2,_⟩:=r';rw[e1]at e2;injection e2 with _ _ e3
 exact he e3
def Hp.Cl(h:Hp)(S:Nat->Prop)(en:Nat)(v:IN)(xs:List IN):Prop:=(v=AFn/\xs=[])\/∃ b el,v=.slice (some ⟨b,0,none⟩) xs.length xs.length/\h.Row b el xs/\(el=en+1\/el=0/\xs=[])/\S b/\256<=b
section
variable {F:AFi}{e:Env}{h h0 h':Hp}{S:Nat->Prop}{en:Nat}{v u:IN}{xs:List IN}
theorem Hp.Cl.vs(o:h.Cl S en v xs):h.VS S v xs:=by
 rcases o with h1|⟨b,el,h1,h2,h3,h4,h5⟩
 ·exact .inl h1
 ·exact .inr ⟨b,0,_,el,xs,h1,IT _,h2,by omega,by rw[zr,AAF],h4⟩
theorem Ep{es eb b n:Nat}{cs:List IN}(x0:h0.Ext h)(r:h.Row b 0 [])(hs:∀ k:List IN->R,BP h es u n k=k cs)(hlv:lenV u=.ok n)(hlen:cs.length=n*es)(hn:0<n)(ha:Bc cs=true)(hm:(n+1)*(eb+1)<=1099511627776):
  ∃ h',DU es eb en (.slice (some ⟨b,0,none⟩) 0 0) u h=.ok (.slice (some ⟨h.next,0,none⟩) n n) h'/\h0.Ext h'/\h'.Row h.next (en+1) cs/\h'.next=h.next+1/\h.Ext h'/\h'.mark=h.mark/\h'.low=h.low/\h'.high=h.high:=by
 have W:=x0.wf;obtain⟨cc,hcc,hl⟩:=r.rowOf;obtain⟨t,h2,h3⟩:=EM cs cc [] 0 hl (.inr rfl);have h3:t.Is cs:=by simpa using h3
 refine⟨h.push (.cells t cs.length (en+1)),?_,x0.push _,⟨t,by rw[W.AF6,if_pos rfl],h3⟩,rfl,(Hp.Ext.refl W).push _,rfl,rfl,rfl⟩;unfold DU Dr;simp only[hlv,hs,Ao,AAD,If];have e1:yl n 0=false:=by
  cases e:yl n 0
  ·rfl
  ·have:=Av.1 e;omega
 have e2:yl (zi (yg n) (yg eb)) Jk=true:=Av.2 (IJ hm);rw[e1];simp only[e2,cond_true,ha];unfold HL;have hcc:rowOf h b=.ok cc 0 0:=hcc;have e3:yu 0 (zi 0 es)=true:=Ay.2 (AAw es).symm;simp only[hcc,e3,h2];unfold E7;simp only[hcc,Bi,AAD,If];unfold CW;rw[Ao,C8 W];rfl
theorem Hr{es eb b:Nat}(W:h.Wf)(AFs:256<=b)(r:h.Row b 0 [])(hs:∀ k:List IN->R,BP h es u 0 k=k [])(hlv:lenV u=.ok 0):
  DU es eb en (.slice (some ⟨b,0,none⟩) 0 0) u h=.ok (.slice (some ⟨b,0,none⟩) 0 0) (h.wr b 0 []):=by
 unfold DU Dr;simp only[hlv,hs,Ao,AAD];have e1:yl 0 0=true:=rfl;have e0:0+0=0:=rfl;simp only[e0,e1];have e2:FH ⟨b,0,none⟩ (zi 0 es)=⟨b,0,none⟩:=by
  rw[show zi 0 es=0 from AAw es];rfl
 rw[e2,r.store W AFs (by simp) rfl]
theorem Hp.Row.AHh{es b el off n c sl:Nat}{l:List IN}(r:h.Row b el l)(ho:off+n*es<=l.length){k:List IN->R}:BP h es (.slice (some ⟨b,off,none⟩) sl c) n k=k ((l.drop off).take (n*es)):=by
 obtain⟨cc,hc,hl⟩:=r.rowOf;unfold BP;simp only[hc];have e:zi n es=n*es:=rfl;rw[e];simp only[AAD];rw[Av.2 ho];simp only[cond_true,F6,yw,Is.AG1 hl off _ ho]
theorem Jn{t el:Nat}{k:TK}{g:O}{a:Addr}{n c:Nat}(hk:k=.slice el)(hg:g e=.slice (some a) n c):oEq k false g (kV (.slice none 0 0)) F e h=.ok (.bool false) h:=by
 subst hk;show(match eqV (.slice el) (g e) (.slice none 0 0)with|some r=>okB (false != r) h|none=>.no)=_;rw[hg];exact Fg
theorem Jo{t el:Nat}{k:TK}{g:O}(hk:k=.slice el)(hg:g e=.slice none 0 0):oEq k false g (kV (.slice none 0 0)) F e h=.ok (.bool true) h:=by
 subst hk;show(match eqV (.slice el) (g e) (.slice none 0 0)with|some r=>okB (false != r) h|none=>.no)=_;rw[hg];exact Fg
theorem Kg{t:List IN}(W:h.Wf):As 0 (Bb t 0) [] F e h=.ok (.slice (some ⟨h.next,0,none⟩) 0 0) (h.AFh 0 []):=by
 have:Bb t 0=[]:=rfl;rw[this,CR,Bs,C9 W];rfl
end
section
variable {h0 h:Hp}{u:IN}{es eb en:Nat}{cs vs:List IN}
theorem Jm(x0:h0.Ext h)(hs:∀ k:List IN->R,BP h es u 1 k=k vs)(hlv:lenV u=.ok 1)(hv:vs.length=es)(ha:Bc vs=true)(hm:2*(eb+1)<=70368744177664):
  ∃ h',DU es eb en AFn u h=.ok (.slice (some ⟨h.next,0,none⟩) 1 1) h'/\h0.Ext h'/\h'.Row h.next (en+1) vs/\h'.next=h.next+1/\(h'.mark=h.mark/\h'.low=h.low/\h'.high=h.high)/\h.Ext h':=by
 have W:=x0.wf;obtain⟨t1,t2⟩:=Hs vs;refine⟨h.push (.cells (ofL vs) vs.length (en+1)),?_,x0.push _,⟨ofL vs,by rw[W.AF6,if_pos rfl],t2⟩,rfl,⟨rfl,rfl,rfl⟩,(Hp.Ext.refl W).push _⟩;unfold DU Dr;simp only[hlv,hs,Ao,AAD,If];have e1:yl 1 0=false:=rfl;have e2:yl (zi (yg 1) (yg eb)) Jk=true:=Av.2 hm;simp only[e1,e2,cond_true,ha];unfold HL BP Jd;simp only[zU,t1];unfold E7;simp only[Bi];unfold CW;rw[Ao,C8 W];rfl
theorem N3{n b:Nat}(x0:h0.Ext h)(hs:∀ k:List IN->R,BP h es u 1 k=k vs)(hlv:lenV u=.ok 1)(hv:vs.length=es)(hes:0<es)(ha:Bc vs=true)(r:h.Row b (en+1) cs)(hlen:cs.length=n*es)(hb:h0.next<=b)(hb2:256<=b)(hm:(n+2)*(eb+1)<=70368744177664):
  ∃ h',DU es eb en (.slice (some ⟨b,0,none⟩) n n) u h=.ok (.slice (some ⟨h.next,0,none⟩) (n+1) (n+1)) h'/\h0.Ext h'/\h'.Row h.next (en+1) (cs++vs)/\h'.next=h.next+1/\(h'.mark=h.mark/\h'.low=B9 h.low b/\h'.high=Cy h.high b)/\∀ b',b'<h.next->b'≠b->h'.bl.get b'=h.bl.get b':=by
 have W:=x0.wf;obtain⟨cc,hcc,hl⟩:=r.rowOf;obtain⟨t,h2,h3⟩:=EM vs cc cs cs.length hl (.inr rfl);have h3:t.Is (cs++vs):=by
  have e:cs.drop (cs.length+vs.length)=[]:=zx (by omega);rw[e]at h3
  simpa using h3
 have AJh:(cs++vs).length=cs.length+vs.length:=No;have hlt:=r.lt W;have W1:(h.put b .dead).Wf:=W.put hlt _;have x2:h0.Ext (h.put b .dead):=x0.put hb hlt _;refine⟨(h.put b .dead).push (.cells t (cs.length+vs.length) (en+1)),?_,x2.push _,⟨t,by
  have:=W1.AF6 (.cells t (cs.length+vs.length) (en+1)) h.next;rw[this,if_pos (show h.next=(h.put b .dead).next from rfl),AJh],h3⟩,rfl,⟨rfl,rfl,rfl⟩,fun b' hb' hne=>?_⟩
 ·unfold DU Dr
  simp only[hlv,hs,Ao,AAD];have e1:yl (n+1) n=false:=by
   cases e:yl (n+1) n
   ·rfl
   ·have:=Av.1 e;omega
  have e2:yl (zi (yg (n+1)) (yg eb)) Jk=true:=Av.2 hm;rw[e1];simp only[e2,cond_true,ha];unfold HL;have e3:yu cs.length (zi n es)=true:=Ay.2 hlen;simp only[hcc,e3,h2];unfold E7;have e4:LG 0 n es cs.length=true:=by
   unfold LG;cases n with
   |zero=>rfl
   |succ m=>exact Ay.2 (by show 0+(m+1)*es=cs.length;omega)
  simp only[hcc,Bi,AAD,Nat.beq_refl,cond_true,e4];rw[Dw W hb2 hlt];unfold CW;rw[Ao,C8 W1];rfl
 ·rw[W1.AF6,if_neg (by show b'≠h.next;omega),W.AGF hlt,if_neg hne]
theorem Je{n b:Nat}(x0:h0.Ext h)(hs:∀ k:List IN->R,BP h es u 1 k=k vs)(hlv:lenV u=.ok 1)(hv:vs.length=es)(hes:0<es)(ha:Bc vs=true)(r:h.Row b (en+1) cs)(hlen:cs.length=n*es)(hb:h0.next<=b)(hb2:256<=b)(hm:(n+2)*(eb+1)<=70368744177664):
  ∃ h',DU es eb en (.slice (some ⟨b,0,none⟩) n n) u h=.ok (.slice (some ⟨h.next,0,none⟩) (n+1) (n+1)) h'/\h0.Ext h'/\h'.Row h.next (en+1) (cs++vs)/\h'.next=h.next+1/\(h'.mark=h.mark/\h'.low=B9 h.low b/\h'.high=Cy h.high b)/\∀ b' el L,b'≠b->h.Row b' el L->h'.Row b' el L:=by
 obtain⟨h',a1,a2,a3,a4,a5,a6⟩:=N3 x0 hs hlv hv hes ha r hlen hb hb2 hm;refine⟨h',a1,a2,a3,a4,a5,fun b' el L hne r'=>?_⟩;have hb':=r'.lt x0.wf;obtain⟨c',hc',hl'⟩:=r';exact⟨c',(a6 b' hb' hne).trans hc',hl'⟩
end
theorem Pv{g:Hp}{a lo hi:Nat}(h1:a<=lo)(h2:hi<=a):Io (.ok a) g lo hi=true:=by
 show(bif yl a lo then yl hi a else false)=true;rw[Av.2 h1,Av.2 h2];rfl
theorem ZZ{h0 h:Hp}{S:Nat->Prop}{eb en:Nat}{v w:IN}{xs:List IN}{bw:Nat}(x0:h0.Ext h)(o:h.Cl S en v xs)(hS:∀ b,S b->h0.next<=b)(rw_:h.Row bw 0 [w])(hw:oneCell w=true)(hl:xs.length<=1000000)(he:eb<=1000):
  ∃ h' b',DU 1 eb en v (.slice (some ⟨bw,0,none⟩) 1 1) h=.ok (.slice (some ⟨b',0,none⟩) (xs.length+1) (xs.length+1)) h'/\h0.Ext h'/\h'.Row b' (en+1) (xs++[w])/\b'=h.next/\h'.next=h.next+1/\h'.mark=h.mark/\(∀ b el L,¬ S b->h.Row b el L->h'.Row b el L)/\(∀ b el L,el≠en+1->h.Row b el L->h'.Row b el L)/\
   (h.low=h.next->h.high=0->∀ g:Hp,g.next=h.next->Io (AGG v) g h'.low h'.high=true):=by
 have hs:∀ k,BP h 1 (.slice (some ⟨bw,0,none⟩) 1 1) 1 k=k [w]:=fun k=>rw_.AHh (es:=1) (off:=0) (n:=1) (by show 0+1*1<=1;omega)
 have ha:Bc [w]=true:=by
  show(bif oneCell w then true else false)=true;rw[hw];rfl
 have hm:(xs.length+2)*(eb+1)<=70368744177664:=by
  have:(xs.length+2)*(eb+1)<=1000002*1001:=Nat.mul_le_mul (by omega) (by omega);omega
 rcases o with ⟨rfl,rfl⟩|⟨b,el,rfl,r,hel,hb,AFs⟩
 ·obtain⟨h5,a1,a2,a3,a4,⟨a5,a7,a8⟩,a6⟩:=Jm (eb:=eb) (en:=en) x0 hs rfl rfl ha (by have:=hm;simp only[zS]at this;omega)
  exact⟨h5,h.next,a1,a2,a3,rfl,a4,a5,fun b el L _ r=>r.ext x0.wf a6,fun b el L _ r=>r.ext x0.wf a6,fun hlo hhi g hg=>by
   show yl g.next h5.low=true;rw[a7,hlo,hg];exact Av.2 (IT _)⟩
 ·have hlt:=r.lt x0.wf
  rcases hel with rfl|⟨rfl,rfl⟩
  ·obtain⟨h5,a1,a2,a3,a4,⟨a5,a7,a8⟩,a6⟩:=Je (eb:=eb) (en:=en) (n:=xs.length) x0 hs rfl rfl (by omega) ha r (Nat.mul_one _).symm (hS b hb) AFs hm
   refine⟨h5,h.next,a1,a2,a3,rfl,a4,a5,fun b' el L hne r'=>a6 _ _ _ (fun e=>hne (e ▸ hb)) r',fun b' el L h2 r'=>a6 _ _ _ (EE r' r h2) r',fun hlo hhi g hg=>?_⟩;have e1:h5.low=b:=by rw[a7,hlo,BZ];omega
   have e2:h5.high=b:=by rw[a8,hhi,B7];omega
   rw[e1,e2];exact Pv (IT _) (IT _)
  ·obtain⟨h5,a1,a2,a3,a4,a6,a5,a7,a8⟩:=Ep (eb:=eb) (en:=en) (n:=1) x0 r hs rfl rfl (by omega) ha (by have:=hm;simp only[zS]at this;omega)
   refine⟨h5,h.next,a1,a2,a3,rfl,a4,a5,fun b' el L _ r'=>r'.ext x0.wf a6,fun b' el L _ r'=>r'.ext x0.wf a6,fun hlo hhi g hg=>?_⟩;rw[a7,a8,hlo,hhi];show Io (.ok b) g h.next 0=true;exact Pv (by omega) (zL _)
theorem UL{h h':Hp}{F:AFi}{e:Env}{x y:O}{eb en:Nat}{v u w:IN}(hx:x e=v)(hy:y e=u)(ha:DU 1 eb en v u h.quiet=.ok w h')(hk:Io (AGG v) h h'.low h'.high=true):Jr x (Bp 1 eb en x y) F e h=.ok w (h.back h'):=by
 show(match Bp 1 eb en x y F e h.quiet with|.ok v h'=>bif Io (AGG (x e)) h h'.low h'.high then Dg h v h' else .no|.no=>.no)=_;rw[BN,hx,hy,ha];show(bif Io (AGG v) h h'.low h'.high then Dg h w h' else .no)=_;rw[hk];show Dg h w h'=_;unfold Dg;simp only[Ao];rfl
inductive AGY where
 |w (i:Nat) (l:List Nat)
 |f
def Bj:List Nat:=yp 64 0
def Ib(h:Hp)(A:At)(S:Nat->Prop)(v:IN):AGY->Prop
 |.w i l=>(∃ r3 r10 r9 u,v=.func (.func 129) ⟨[]⟩ ⟨[pt r3,pt r10,pt r9]⟩/\h.Row r3 0 [pt A.bs]/\h.Row r10 0 [AI AT (i:Int)]/\h.Row r9 0 [u]/\h.BS S u (l.map bv)/\S r3/\S r10/\S r9)\/
  (∃ r2 r7 p,v=.func (.func 122) ⟨[]⟩ ⟨[pt r2,pt r7]⟩/\h.Row r2 0 [pt A.bs]/\h.Row r7 0 [AI AT ((p:Nat):Int)]/\i=p*3/\p<=65536/\l=Bj/\S r2/\S r7)
 |.f=>v=.func (.func 124) ⟨[pt A.bd]⟩ ⟨[]⟩
theorem Hp.BS.AGp{h h':Hp}{S S':Nat->Prop}{v:IN}{xs:List IN}(o:h.BS S v xs)(hk:∀ b el L,S b->(el=0\/el=6)->h.Row b el L->h'.Row b el L/\S' b):h'.BS S' v xs:=by
 rcases o with h1|⟨b,off,c,el,L,h1,h2,h3,h4,h5,h6,h7⟩
 ·exact .inl h1
 ·exact .inr ⟨b,off,c,el,L,h1,h2,(hk _ _ _ h6 h7 h3).1,h4,h5,(hk _ _ _ h6 h7 h3).2,h7⟩
theorem Ib.AGp{h h':Hp}{A:At}{S S':Nat->Prop}{v:IN}{d:AGY}(o:Ib h A S v d)(hr:∀ b el L,S b->(el=0\/el=6)->h.Row b el L->h'.Row b el L/\S' b):Ib h' A S' v d:=by
 cases d with
 |f=>exact o
 |w i l=>
  have hr0:=fun b L hs r=>hr b 0 L hs (.inl rfl) r
  rcases o with ⟨r3,r10,r9,u,h1,h2,h3,h4,h5,h6,h7,h8⟩|⟨r2,r7,p,h1,h2,h3,h4,h5,h6,h7,h8⟩
  ·exact .inl ⟨r3,r10,r9,u,h1,(hr0 _ _ h6 h2).1,(hr0 _ _ h7 h3).1,(hr0 _ _ h8 h4).1,h5.AGp hr,(hr0 _ _ h6 h2).2,(hr0 _ _ h7 h3).2,(hr0 _ _ h8 h4).2⟩
  ·exact .inr ⟨r2,r7,p,h1,(hr0 _ _ h7 h2).1,(hr0 _ _ h8 h3).1,h4,h5,h6,(hr0 _ _ h7 h2).2,(hr0 _ _ h8 h3).2⟩
theorem Zy{h:Hp}{A:At}{S:Nat->Prop}{v:IN}{d:AGY}(o:Ib h A S v d):oneCell v=true:=by
 cases d with
 |f=>have o:v=_:=o;rw[o];rfl
 |w i l=>rcases o with ⟨r3,r10,r9,u,h1,_⟩|⟨r2,r7,p,h1,_⟩<;>rw[h1]<;>rfl
abbrev KI(h:Hp)(A:At)(v:IN)(d:AGY):Prop:=Ib h A (fun b=>¬ A.D b) v d
def FN(n:Nat):List (Nat×List Nat)->List AGY->Prop
 |_,[]=>True
 |cs,.w i l::ds=>(∀ x∈cs,x.1≠i)/\i<n/\l.length=64/\(∀ x∈l,x<256)/\FN n (cs++[(i,l)]) ds
 |cs,.f::ds=>cs≠[]/\cs.length<=60/\FN n [] ds
def Gg:List Nat->List (Nat×List Nat)->List AGY->List Nat×List (Nat×List Nat)
 |M,cs,[]=>(M,cs)
 |M,cs,.w i l::ds=>Gg M (cs++[(i,l)]) ds
 |M,cs,.f::ds=>Gg (GA M cs) [] ds
structure Sc (h:Hp)(A:At)(T:List Nat)(ks:List Kt)(fr:List Nat)(lv fv:IN)(bad:Nat)(ov:Bool):Prop where
 row:h.Row A.bs 0 (slL A.bd A.tb lv fv bad ov)
 tab:h.Row A.tb 0 (T.map wv)
 tok:AGc T
 ls:h.KS (fun b=>¬ A.D b) lv ks
 ko:∀ k∈ks,AHy h (fun b=>¬ A.D b) k
 fs:h.WI (fun b=>¬ A.D b) fv (ints .i64 (fr.map zY))
 ne:A.bs≠A.bd/\A.bs≠A.bm/\A.bs≠A.bc/\¬ A.D A.tb/\256<=A.bs
 le:ks.length<=1000/\fr.length<=1000/\bad<=1000/\∀ p∈fr,3*p+3<=A.n
section
variable {F:AFi}{e:Env}{h h':Hp}{A:At}{T M:List Nat}{c0 bad m:Nat}{arm:Int}{ks:List Kt}{fr:List Nat}{lv fv:IN}{ov:Bool}
theorem Sl.sc(s:Sl h A T M c0 arm ks fr lv fv bad ov):Sc h A T ks fr lv fv bad ov:=⟨s.row,s.tab,s.tok,s.ls,s.ko,s.fs,s.ne,s.le⟩
theorem Sc.sl(s:Sc h A T ks fr lv fv bad ov)(d:Dk h A.bd A.bm A.bc A.n M c0 [] arm false):Sl h A T M c0 arm ks fr lv fv bad ov:=⟨s.row,d,s.tab,s.tok,s.ls,s.ko,s.fs,s.ne,s.le⟩
theorem Sc.keep(s:Sc h A T ks fr lv fv bad ov)(hr:∀ b el L,b≠A.bd->b≠A.bm->b≠A.bc->h.Row b el L->h'.Row b el L):Sc h' A T ks fr lv fv bad ov:=by
 have nd:∀ b,¬ A.D b->b≠A.bd/\b≠A.bm/\b≠A.bc:=fun b hb=>⟨fun e=>hb (.inr (.inl e)),fun e=>hb (.inr (.inr (.inl e))),fun e=>hb (.inr (.inr (.inr e)))⟩
 have ht:=nd _ s.ne.2.2.2.1;exact⟨hr _ _ _ s.ne.1 s.ne.2.1 s.ne.2.2.1 s.row,hr _ _ _ ht.1 ht.2.1 ht.2.2 s.tab,s.tok,s.ls.keep fun b _ _ hb r=>hr _ _ _ (nd b hb).1 (nd b hb).2.1 (nd b hb).2.2 r,fun k hk=>⟨(s.ko k hk).1.keep fun b _ _ hb _ r=>hr _ _ _ (nd b hb).1 (nd b hb).2.1 (nd b hb).2.2 r,(s.ko k hk).2⟩,s.fs.keep fun b _ _ hb r=>hr _ _ _ (nd b hb).1 (nd b hb).2.1 (nd b hb).2.2 r,s.ne,s.le⟩
abbrev At.K(A:At):Nat->Prop:=fun b=>b=A.bd\/b=A.bm\/b=A.bc
theorem Sc.fx(s:Sc h A T ks fr lv fv bad ov)(W:h.Wf)(x:Fx A.K h h'):Sc h' A T ks fr lv fv bad ov:=s.keep fun b el L h1 h2 h3 r=>x.row W r (by rintro (h|h|h)<;>contradiction)
theorem KI.keep{v:IN}{d:AGY}(o:KI h A v d)(hbs:True)(hr:∀ b el L,¬ A.D b->h.Row b el L->h'.Row b el L):KI h' A v d:=o.AGp fun b el L hb _ r=>⟨hr b el L hb r,hb⟩
theorem ax{b:Nat}(h:¬ A.D b):¬ A.K b:=fun h1=>h (.inr h1)
theorem iE(W:h.Wf)(R:h.Row A.bs 0 (slL A.bd A.tb lv fv bad ov))(hne:¬ A.K A.bs){cs:List (Nat×List Nat)}(d:Dk h A.bd A.bm A.bc A.n M c0 cs arm false){k:Nat}(ha:CB arm (k+1)){v:IN}{i:Nat}{l:List Nat}(o:KI h A v (.w i l))(hi:i<A.n)(hc:∀ x∈cs,x.1≠i/\x.1<A.n)(hl:l.length=64):
  ∃ h',KK (call AC (m+4)) v [] h=.ok (AI AT 0) h'/\Fx A.K h h'/\Dk h' A.bd A.bm A.bc A.n M c0 (cs++[(i,l)]) (GL arm) false:=by
 rcases o with ⟨r3,r10,r9,u,rfl,h2,h3,h4,h5,h6,h7,h8⟩|⟨r2,r7,p,rfl,h2,h3,rfl,h5,rfl,h7,h8⟩
 ·obtain⟨l0,_⟩:=BG (R.same (h':=h.marked) rfl)
  have m3:AFk ⟨r3,0,none⟩ h.marked=.ok (pt A.bs) h.marked:=(h2.same (h':=h.marked) rfl).AFk (off:=0) (by show 0<1;omega);have m10:AFk ⟨r10,0,none⟩ h.marked=.ok (AI AT (i:Int)) h.marked:=(h3.same (h':=h.marked) rfl).AFk (off:=0) (by show 0<1;omega);have m9:AFk ⟨r9,0,none⟩ h.marked=.ok u h.marked:=(h4.same (h':=h.marked) rfl).AFk (off:=0) (by show 0<1;omega);obtain⟨h1,k1,f1,d1⟩:=SY (m:=m) W.marked.quiet (d.same (h':=h.marked.quiet) rfl) ha hi hc ((h5.vs.same (h':=h.marked.quiet) rfl).mono fun b hb e=>hb (.inr (.inl e))) hl;have q1:∀ e:Env,J 7 e=pt A.bd->J 8 e=AI AT (i:Int)->J 9 e=u->Ad .free (AU 123 [J 7,J 8,J 9]) (call AC (m+3)) e h.marked=.ok (AI AT 0) (h.marked.back h1):=fun e e1 e2 e3=>by
   refine BO ?_;rw[BR,AV,AV,AV,A3,e1,e2,e3];exact k1
  refine⟨h.marked.back h1,?_,((f1.mono (T:=A.K) fun b hb=>hb.elim .inl fun h=>.inr (.inr h)).from (h:=h.marked) rfl rfl).same (h2:=h.marked.back h1) rfl rfl |>.from (h:=h) rfl rfl,d1.same rfl⟩;rw[Cr];show call AC (m+3+1) 129 [pt r3,pt r10,pt r9] h=_;rw[fQ rfl];unfold gb;simp only[iN,IS,sT,By,BY,reduceIte,A1,AM,AP,m3,Ax,Al,AH,AN,If,l0,m10,m9,q1,lV0]
 ·have m2:AFk ⟨r2,0,none⟩ h.marked=.ok (pt A.bs) h.marked:=(h2.same (h':=h.marked) rfl).AFk (off:=0) (by show 0<1;omega)
  have m7:AFk ⟨r7,0,none⟩ h.marked=.ok (AI AT (p:Int)) h.marked:=(h3.same (h':=h.marked) rfl).AFk (off:=0) (by show 0<1;omega);obtain⟨l0,_⟩:=BG (R.same (h':=h.marked) rfl);have o1:∀ (off:Nat) (kk:C) (F:AFi) (e:Env),JA (.pointer (some ⟨r2,off,none⟩)) kk F e h.marked=kk F e h.marked:=fun off kk F e=>Dl (h2.lt W)
  have o2:∀ (off:Nat) (kk:C) (F:AFi) (e:Env),JA (.pointer (some ⟨A.bs,off,none⟩)) kk F e h.marked=kk F e h.marked:=fun off kk F e=>Dl (R.lt W)
  have k1:=Nk (m:=m+1) (R.same (h':=h.marked.quiet) rfl) (p:=p) h5;have q1:∀ e:Env,J 7 e=pt A.bs->J 8 e=AI AT (p:Int)->Ad .weak (AU 100 [J 7,J 8]) (call AC (m+3)) e h.marked=.ok (AI AT ((p*3:Nat):Int)) (h.marked.back h.marked.quiet):=fun e e1 e2=>by
   refine Hv W.marked ?_ (IT _);rw[BR,AV,AV,A3,e1,e2];exact k1
  have y2:h.Ext (h.marked.back h.marked.quiet):=Hp.Ext.AGo (Hp.Ext.refl W).marked (Hp.Ext.refl W).marked.quiet;have n2:(h.marked.back h.marked.quiet).next=h.next:=rfl;have b2:(h.marked.back h.marked.quiet).bl=h.bl:=rfl;have mk2:(h.marked.back h.marked.quiet).mark=h.next:=rfl;generalize h.marked.back h.marked.quiet=h2' at q1 y2 n2 b2 mk2;have qm:∀ (F:AFi) (e:Env),Ad .AFz (HM 1 ty5.zero (kV (AI AT 64)) (kV (AI AT 64))) F e h2'=.ok (.slice (some ⟨h2'.next,0,none⟩) 64 64) (h2'.back (h2'.quiet.AFh 0 (Bj.map bv))):=fun F e=>by
   have:=PN (F:=F) (e:=e) y2.quiet.wf (x:=kV (AI AT 64)) (y:=kV (AI AT 64)) (N:=64) rfl rfl (by omega);have hz:yp 64 0=Bj:=rfl;exact Cp this ((Hp.Ext.refl y2.quiet.wf).AFh _ _) (by omega)
  have y3:h2'.Ext (h2'.back (h2'.quiet.AFh 0 (Bj.map bv))):=.back ((Hp.Ext.refl y2.wf.quiet).AFh _ _);have R3:(h2'.back (h2'.quiet.AFh 0 (Bj.map bv))).Row h2'.next 0 (Bj.map bv):=(Hp.Row.new y2.wf.quiet 0 (Bj.map bv)).same rfl;have n3:(h2'.back (h2'.quiet.AFh 0 (Bj.map bv))).next=h2'.next+1:=rfl;generalize h2'.back (h2'.quiet.AFh 0 (Bj.map bv))=h3' at qm y3 R3 n3;have x3:=y2.trans y3;have hbd:=(d.lt W).1;have AMI:Bj.length=64:=rfl;obtain⟨h4,k4,f4,d4⟩:=SY (m:=m) x3.wf.quiet ((d.ext W x3).same (h':=h3'.quiet) rfl) ha hi hc (u:=.slice (some ⟨h2'.next,0,none⟩) 64 64) (l:=Bj) (.inr ⟨h2'.next,0,64,0,_,rfl,IT _,R3.same rfl,IT _,rfl,by omega⟩) rfl;have q4:∀ e:Env,J 6 e=pt A.bd->J 9 e=AI AT ((p * 3:Nat):Int)->J 10 e=.slice (some ⟨h2'.next,0,none⟩) 64 64->Ad .free (AU 123 [J 6,J 9,J 10]) (call AC (m+3)) e h3'=.ok (AI AT 0) (h3'.back h4):=fun e e1 e2 e3=>by
   refine BO ?_;rw[BR,AV,AV,AV,A3,e1,e2,e3];exact k4
  refine⟨h3'.back h4,?_,(Fx.of (S:=A.K) x3).trans (((f4.mono (T:=A.K) fun b hb=>hb.elim .inl fun h=>.inr (.inr h)).from (h:=h3') rfl rfl).same (h2:=h3'.back h4) rfl rfl),d4.same rfl⟩;rw[Cr];show call AC (m+3+1) 122 [pt r2,pt r7] h=_;rw[fL rfl];unfold gV;simp only[iN,IS,sT,By,BY,reduceIte,A1,ED,o1,o2,DV,AM,AP,m2,Ax,Al,AH,AN,If,l0,m7,q1,qm,q4,lV0]
theorem mh:alS=BL (Ae 0 (A9 alB)) alE:=rfl
theorem gB:gA=Uc:=rfl
theorem Sb(W:h.Wf)(R:h.Row A.bs 0 (slL A.bd A.tb lv fv bad ov))(hne:¬ A.K A.bs)(d:Dk h A.bd A.bm A.bc A.n M c0 [] arm false){ds:List AGY}{vs:List IN}{dv:IN}(V:h.VS (fun b=>¬ A.D b) dv vs)(hlen:vs.length=ds.length)(hd:∀ (i:Nat) (v:IN) (x:AGY),vs[i]? =some v->ds[i]? =some x->KI h A v x)(hok:FN A.n [] ds)(ha:CB arm ds.length)(AHs:ds.length<=100):
  ∃ h' c1 AGB,call AC (m+5) 101 [pt A.bs,dv] h=.ok (AI AT 0) h'/\Fx A.K h h'/\Dk h' A.bd A.bm A.bc A.n (Gg M [] ds).1 c1 (Gg M [] ds).2 AGB false/\AGB=(zu ds.length).foldl (fun a _=>GL a) arm:=by
 have Vl:=V.vals.len;have pre:∃ e1,Uc (call AC (m+4)) (AS e0 0 [pt A.bs,dv]) h=alS (call AC (m+4)) e1 h/\J 0 e1=pt A.bs/\J 8 e1=dv/\J 9 e1=AI AT (vs.length:Int)/\J 10 e1=AI AT ((0:Nat):Int):=by
  unfold Uc;simp only[iN,IS,sT,By,BY,reduceIte,Ah,Vl];exact⟨_,rfl,by simp[AG]⟩
 obtain⟨e1,p1,s0,s8,s9,s10⟩:=pre;have run:∃ e' h' c1 AGB,A9 alB (call AC (m+4)) e1 h=.exit 0 e' h'/\Fx A.K h h'/\Dk h' A.bd A.bm A.bc A.n (Gg M [] ds).1 c1 (Gg M [] ds).2 AGB false/\AGB=(zu ds.length).foldl (fun a _=>GL a) arm:=by
  refine Bh (I:=fun i e' h'=>∃ (M':List Nat) (cs':List (Nat×List Nat)) (c1:Nat) (AGB:Int),Fx A.K h h'/\Dk h' A.bd A.bm A.bc A.n M' c1 cs' AGB false/\AGB=(zu i).foldl (fun a _=>GL a) arm/\CB AGB (ds.length - i)/\FN A.n cs' (ds.drop i)/\Gg M [] ds=Gg M' cs' (ds.drop i)/\AHk cs'/\AG3 A.n cs'/\i<=ds.length/\J 0 e'=pt A.bs/\J 8 e'=dv/\J 9 e'=AI AT (vs.length:Int)/\J 10 e'=AI AT (i:Int))
   (Q:=fun x=>∃ e' h' c1 AGB,x=.exit 0 e' h'/\Fx A.K h h'/\Dk h' A.bd A.bm A.bc A.n (Gg M [] ds).1 c1 (Gg M [] ds).2 AGB false/\AGB=(zu ds.length).foldl (fun a _=>GL a) arm) ds.length (by omega) (fun i e' h' ⟨M',cs',c1,AGB,x',d',ea,ha',ok',er,hK,hS,hi,t0,t8,t9,t10⟩=>?_)
   ⟨M,[],c0,arm,.refl W,d,rfl,by rw[Nat.sub_zero];exact ha,by rw[zr];exact hok,by rw[zr],fun i j y z h=>(by cases h),fun y hy=>(by cases hy),zL _,s0,s8,s9,s10⟩
  by_cases hlt:i<ds.length
  ·left
   have hiv:i<vs.length:=by omega
   have c1':iLt (i:Int) (vs.length:Int)=true:=E9 hiv;have V':=V.fx W x' fun b hb=>ax hb
   obtain⟨a,g1,g2⟩:=V'.vals.at hiv;have hv:vs[i]? =some (vs.getD i AFl):=by rw[yf,sh hiv];rfl
   have hx:ds[i]? =some (ds[i]'hlt):=sh hlt;have dI:=(hd i _ _ hv hx).keep (h':=h') trivial fun b el L hb r=>x'.row W r (ax hb)
   generalize vs.getD i AFl=v at g2 dI;have AIG:ds.drop i=ds[i]'hlt::ds.drop (i+1):=AAV hlt;rw[AIG]at ok' er;generalize ds[i]'hlt=x at dI ok' er;have hk:ds.length - i=(ds.length - (i+1))+1:=by omega
   rw[hk]at ha';have R':=x'.row W R hne;have step:∃ h2 M2 cs2 c2,KK (call AC (m+4)) v [] h'=.ok (AI AT 0) h2/\Fx A.K h' h2/\Dk h2 A.bd A.bm A.bc A.n M2 c2 cs2 (GL AGB) false/\FN A.n cs2 (ds.drop (i+1))/\Gg M [] ds=Gg M2 cs2 (ds.drop (i+1))/\AHk cs2/\AG3 A.n cs2:=by
    cases x with
    |w j l=>
     obtain⟨o1,o2,o3,o4,o5⟩:=ok';obtain⟨h2,k2,f2,d2⟩:=iE (m:=m) x'.wf R' hne d' ha' dI o2 (fun y hy=>⟨o1 y hy,(hS y hy).1⟩) o3;refine⟨h2,M',cs'++[(j,l)],c1,k2,f2,d2,o5,er,fun p q y z hp hq he=>?_,fun y hy=>?_⟩
     ·rcases zD p cs'.length with hp1|hp1<;>rcases zD q cs'.length with hq1|hq1
      ·rw[zF hp1]at hp
       rw[zF hq1]at hq;exact hK p q y z hp hq he
      ·rw[zF hp1]at hp
       have hzm:=yz hq;rw[zI hq1]at hq;have hz:=yz hq;rw[zB.1 hz]at he;exact absurd he (o1 y (yz hp))
      ·rw[zF hq1]at hq
       rw[zI hp1]at hp;have hz:=yz hp;rw[zB.1 hz]at he;exact absurd he.symm (o1 z (yz hq))
      ·have h1:=(zG.1 hp).1
       have h2:=(zG.1 hq).1;rw[No,zh]at h1 h2;omega
     ·rcases zK.1 hy with hy|hy
      ·exact hS y hy
      ·rw[zB.1 hy];exact⟨o2,o3,o4⟩
    |f=>
     obtain⟨o1,o2,o3⟩:=ok';obtain⟨h2,k2,f2,d2⟩:=aE (m:=m+1) x'.wf d' ha' hK hS o1 o2;have dI:v=.func (.func 124) ⟨[pt A.bd]⟩ ⟨[]⟩:=dI;exact⟨h2,GA M' cs',[],_,by rw[dI,Cr];exact k2,f2,d2,o3,er,fun i j y z h=>(by cases h),fun y hy=>by cases hy⟩
   obtain⟨h2,M2,cs2,c2,k2,f2,d2,ok2,er2,hK2,hS2⟩:=step;have c0':iNe 0 0=false:=CH rfl;have a3:=Cc (i:=i) (h:=h2) (by omega);have hrun:∃ e2,alB (call AC (m+4)) e' h'=.norm e2 h2/\J 0 e2=pt A.bs/\J 8 e2=dv/\J 9 e2=AI AT (vs.length:Int)/\J 10 e2=AI AT ((i+1:Nat):Int):=by
    unfold alB;simp only[sT,By,BY,reduceIte,AK,AJ,t10,t9,c1',BB,t8,g1,AM,g2,Ca,A3,k2,c0',BM,a3];exact⟨_,rfl,by simp[AG,t0,t8,t9]⟩
   obtain⟨e2,r1,r2,r3,r4,r5⟩:=hrun;exact⟨hlt,e2,h2,r1,M2,cs2,c2,GL AGB,x'.trans f2,d2,by rw[AAf,ACn,<- ea];rfl,ha'.one.1,ok2,er2,hK2,hS2,by omega,r2,r3,r4,r5⟩
  ·right
   have hie:i=ds.length:=by omega
   have c1':iLt (i:Int) (vs.length:Int)=false:=DJ (by omega);have hrun:∃ e2,alB (call AC (m+4)) e' h'=.exit 0 e2 h':=by
    unfold alB;simp only[sT,By,BY,reduceIte,AK,AJ,t10,t9,c1'];exact⟨_,rfl⟩
   obtain⟨e2,r1⟩:=hrun;rw[r1];rw[hie,List.drop_length]at er;have er:Gg M [] ds=(M',cs'):=er;rw[er];exact⟨rfl,e2,h',c1,AGB,rfl,x',d',by rw[ea,hie]⟩
 obtain⟨e2,h2,c1,AGB,r1,r2,r3,r4⟩:=run;refine⟨h2,c1,AGB,?_,r2,r3,r4⟩;rw[et rfl,gB,p1,mh];simp only[BJ,Az,r1,BD,BA];unfold alE;simp only[sT,By,BY,reduceIte,lV0]
end
end
noncomputable section
open Go
set_option maxRecDepth 100000
def C4(l:List Nat)(j:Nat):List Nat:=(l.drop (64*j)).take 64++yp (64 - ((l.drop (64*j)).take 64).length) 0
theorem Cs(l:List Nat)(j:Nat):(C4 l j).length=64:=by
 unfold C4;rw[No,List.length_replicate,zJ];omega
theorem MQ{l:List Nat}(h:∀ x∈l,x<256)(j:Nat):∀ x∈C4 l j,x<256:=fun x hx=>by
 rcases zK.1 hx with hx|hx
 ·exact h x (List.mem_of_mem_drop (List.mem_of_mem_take hx))
 ·rw[ABq hx];decide
section
variable {F:AFi}{e:Env}{h h':Hp}{A:At}{bad m:Nat}{lv fv:IN}{ov:Bool}
theorem Hp.AF5.ALL{v:IN}{l:List IN}(b:h.AF5 v l){n:Nat}(hn:n<=l.length)(k:List IN->R):BP h 1 v n k=k (l.take n):=by
 rcases b with ⟨h1,h2⟩|⟨b,off,c,el,L,h1,h2,h3,h4⟩
 ·subst h1;subst h2
  obtain rfl:n=0:=by simpa using hn
  rfl
 ·rw[h1,h2.src (by omega),<- h4,List.take_take,ACd hn]
theorem Zf(W:h.Wf){x y:O}{r:Nat}{w:IN}{l:List Nat}(AFs:256<=r)(hx:x e=.slice (some ⟨r,0,none⟩) 64 64)(hy:y e=w)(V:h.AF5 w (l.map bv))(R:h.Row r 0 (Bj.map bv)):
  ∃ v',Js 1 x y F e h=.ok v' (h.wr r 0 ((l.take 64).map bv))/\over (Bj.map bv) 0 ((l.take 64).map bv)=(C4 l 0).map bv:=by
 have hz:(Bj.map bv).length=64:=rfl;have hn:B9 l.length 64<=(l.map bv).length:=by rw[OF,BZ];omega
 have ht:(l.map bv).take (B9 l.length 64)=(l.take 64).map bv:=by
  rw[<- List.map_take,BZ]
  congr 1
  rcases Nat.le_total l.length 64 with h1|h1
  ·rw[ACd h1,AAF,AAo h1]
  ·rw[Nat.min_eq_right h1]
 refine⟨AI AT (B9 l.length 64:Nat),?_,?_⟩
 ·show QD 1 (x e) (y e) h=_
  rw[hx,hy];unfold QD;have lv:=V.lenV;rw[OF]at lv;simp only[lv,Ao,V.ALL hn,ht];rw[R.store W AFs (by rw[hz,OF,zJ];omega) (DZ _)];rfl
 ·unfold over C4
  rw[List.take_zero,zU,If,zb,AEL,zr,OF,<- List.map_drop]
  congr 2
  show ACo _ (yp 64 0)=_;rw[List.drop_replicate]
theorem lH:Bt .mt 0 [.slice none 0 0]=some yC:=by kernel_rfl
theorem dT:Bt .mt 0 [AI AT 0]=some zt3:=by kernel_rfl
theorem JO(W:h.Wf){t:VT}{z v:IN}(ht:Bt .mt 0 [z]=some t)(h1:cellsOf v=[v])(ho:oneCell v=true):
  ∃ h',(∀ (F:AFi) (e:Env),Ba 1 t F e h=.ok (pt h.next) (h.push (.cells t 1 0)))/\AFr 1 (pt h.next) v (h.push (.cells t 1 0))=.ok AFl h'/\h.Ext h'/\h'.Row h.next 0 [v]/\h'.next=h.next+1/\h'.mark=h.mark:=by
 have R:=Hp.Row.alloc W ht (show [z].length=1 from rfl);have x:h.Ext (h.push (.cells t 1 0)):=(Hp.Ext.refl W).push _;have hoo:0+(cellsOf v).length<=[z].length:=by rw[h1];exact IT _
 have st:=R.AFr (n:=1) (off:=0) x.wf W.big (v:=v) (by rw[h1];rfl) hoo (by
  rw[h1];show(bif oneCell v then true else false)=true;rw[ho];rfl)
 have wr:=R.AFu x.wf hoo;rw[Fi (by rw[h1];rfl),h1]at wr;rw[h1]at st;have AJi:0+[v].length<=[z].length:=IT _;obtain⟨_,_,ew,_⟩:=R.AGt AJi;exact⟨_,fun F e=>BW W,st,R.AGE x (IT _) AJi,wr,R.AGN AJi,by rw[ew];rfl⟩
theorem tq:Bb SS.zero 1=[.nilFunc]:=by kernel_rfl
theorem Jb(W:h.Wf){g:O}{f:Nat}{a b:List IN}(hg:g e=.func (.func f) ⟨a⟩ ⟨b⟩):As 1 (Bb SS.zero 1) [(0,1,g)] F e h=.ok (.slice (some ⟨h.next,0,none⟩) 1 1) (h.AFh 0 [.func (.func f) ⟨a⟩ ⟨b⟩]):=by
 rw[tq];exact IQ W hg rfl rfl
theorem vx{i:Nat}(hi:i<=1000000):Sx .i64 (AI AT ((64*i:Nat):Int)) (AI AT 64) h=.ok (AI AT (i:Int)) h:=by
 have:((64*i:Nat):Int).tdiv 64=(i:Int):=by
  show zY ((64*i)/64)=_;rw[Nat.mul_div_cancel_left _ (by decide)];rfl
 rw[Lp (by omega),this,Bf (by omega)]
theorem td:wrS=BL (Ae 0 (A9 wrB)) wrE:=rfl
theorem qp:d99=iD:=rfl
def CV(h:Hp)(A:At)(k:Nat)(v:IN)(ds:List AGY):Prop:=∃ vs,h.Own k 76 v vs/\vs.length=ds.length/\∀ (i:Nat) (w:IN) (x:AGY),vs[i]? =some w->ds[i]? =some x->Ib h A (fun b=>¬ A.D b/\¬ AGA v b) w x
theorem jH{b k:Nat}(hD:∀ b,A.D b->b<k)(hb:k<=b):¬ A.D b:=fun h=>by have:=hD b h;omega
theorem CV.ext{k:Nat}{v:IN}{ds:List AGY}(o:CV h A k v ds)(W:h.Wf)(x:h.Ext h'):CV h' A k v ds:=by
 obtain⟨vs,a,b,c⟩:=o;exact⟨vs,a.ext W x,b,fun i w y h1 h2=>(c i w y h1 h2).AGp fun b el L hb _ r=>⟨r.ext W x,hb⟩⟩
theorem CV.same{k:Nat}{v:IN}{ds:List AGY}(o:CV h A k v ds)(hb:h'.bl=h.bl):CV h' A k v ds:=by
 obtain⟨vs,a,b,c⟩:=o;exact⟨vs,a.same hb,b,fun i w y h1 h2=>(c i w y h1 h2).AGp fun b el L hb' _ r=>⟨r.same hb,hb'⟩⟩
theorem CV.snoc{h0:Hp}{k:Nat}{v w:IN}{ds:List AGY}{f:Nat}{a b:List IN}(x0:h0.Ext h)(hk:h0.next<=k)(hk2:k<=h.next)(o:CV h A k v ds)(hw:w=.func (.func f) ⟨a⟩ ⟨b⟩){d:AGY}(hd:Ib h A (fun b=>¬ A.D b/\¬ AGA v b) w d)(hl:ds.length<=1000):
  ∃ h' v',DU 1 8 76 v (.slice (some ⟨h.next,0,none⟩) 1 1) (h.AFh 0 [w])=.ok v' h'/\h0.Ext h'/\CV h' A k v' (ds++[d])/\h.next<=h'.next/\(∀ b el L,¬ AGA v b->h.Row b el L->h'.Row b el L):=by
 obtain⟨vs,o1,o2,o3⟩:=o;have W:=x0.wf;have x1:=x0.AFh 0 [w];have y1:=(Hp.Ext.refl W).AFh 0 [w];have on:oneCell w=true:=by rw[hw];rfl
 obtain⟨h',v',a1,a2,a3,a4,a5⟩:=Es (eb:=8) (en:=76) (k:=k) (u:=.slice (some ⟨h.next,0,none⟩) 1 1) (ys:=[w]) x1 hk (Nat.le_succ_of_le hk2) (o1.ext W y1) (RJ W) (by simp) (by
  show(bif oneCell w then true else false)=true;rw[on];rfl) (by simp only[zh];omega)
 have kp:∀ b el L,¬ A.D b/\¬ AGA v b->(el=0\/el=6)->h.Row b el L->h'.Row b el L/\(¬ A.D b/\¬ AGA v' b):=fun b el L hb _ r=>by
  have:=a5 b el L hb.2 (r.ext W y1);exact⟨this.1,hb.1,this.2⟩
 refine⟨h',v',a1,a2,⟨vs++[w],a3,by rw[No,No,o2];rfl,fun i z y h1 h2=>?_⟩,by have:h'.next=h.next+1+1:=a4;omega,fun b el L hb r=>(a5 b el L hb (r.ext W y1)).1⟩;rcases zD i vs.length with hi|hi
 ·rw[zF hi]at h1
  rw[zF (by omega)]at h2;exact(o3 i z y h1 h2).AGp kp
 ·rw[zI hi]at h1
  rw[zI (by omega)]at h2;have e1:=zB.1 (yz h1);have e2:=zB.1 (yz h2);rw[e1,e2];exact hd.AGp kp
theorem CV.app{h0:Hp}{k k2:Nat}{v v2:IN}{ds ds2:List AGY}(x0:h0.Ext h)(hk:h0.next<=k)(hk2:k<=h.next)(o:CV h A k v ds)(o2:CV h A k2 v2 ds2)(hne:0<ds2.length)(hl:ds.length+ds2.length<=1000):
  ∃ h' v',DU 1 8 76 v v2 h=.ok v' h'/\h0.Ext h'/\CV h' A k v' (ds++ds2)/\h.next<=h'.next/\(∀ b el L,(el=0\/el=6)->h.Row b el L->h'.Row b el L):=by
 obtain⟨vs,o1,o2',o3⟩:=o;obtain⟨ws,p1,p2,p3⟩:=o2;have W:=x0.wf;have on:∀ w∈ws,oneCell w=true:=fun w hw=>by
  obtain⟨i,hi⟩:=List.mem_iff_getElem?.1 hw;have hil:=(zG.1 hi).1;exact Zy (p3 i w _ hi (sh (by omega)))
 obtain⟨h',v',a1,a2,a3,a4,a5⟩:=Es (eb:=8) (en:=76) (k:=k) (u:=v2) (ys:=ws) x0 hk hk2 o1 p1.vals (by omega) (PR on) (by omega);have nbv:∀ b el L,(el=0\/el=6)->h.Row b el L->¬ AGA v b:=fun b el L he r ⟨off,nn,c,e1⟩=>by
  rcases o1 with ⟨h1,h2⟩|⟨b',h1,h2,h3,h4⟩
  ·rw[h1]at e1;cases e1
  ·rw[h1]at e1
   injection e1 with e1 _ _
   injection e1 with e1
   injection e1 with e1 _ _
   rw[e1]at h2;exact EE r h2 (by omega) rfl
 have kp:∀ b el L,¬ A.D b->(el=0\/el=6)->h.Row b el L->h'.Row b el L/\(¬ A.D b/\¬ AGA v' b):=fun b el L hb he r=>by
  have:=a5 b el L (nbv b el L he r) r;exact⟨this.1,hb,this.2⟩
 refine⟨h',v',a1,a2,⟨vs++ws,a3,by rw[No,No,o2',p2],fun i z y h1 h2=>?_⟩,by omega,fun b el L he r=>(a5 b el L (nbv b el L he r) r).1⟩;rcases zD i vs.length with hi|hi
 ·rw[zF hi]at h1
  rw[zF (by omega)]at h2;exact(o3 i z y h1 h2).AGp fun b el L hb he r=>kp b el L hb.1 he r
 ·rw[zI hi]at h1
  rw[zI (by omega),<- o2']at h2;exact(p3 _ z y h1 h2).AGp fun b el L hb he r=>kp b el L hb.1 he r
theorem CV.ends{k:Nat}{v:IN}{ds:List AGY}(o:CV h A k v ds)(hD:∀ b,A.D b->b<k):∃ vs,h.VS (fun b=>¬ A.D b) v vs/\vs.length=ds.length/\∀ (i:Nat) (w:IN) (x:AGY),vs[i]? =some w->ds[i]? =some x->KI h A w x:=by
 obtain⟨vs,o1,o2,o3⟩:=o;refine⟨vs,?_,o2,fun i w x h1 h2=>(o3 i w x h1 h2).AGp fun b el L hb _ r=>⟨r,hb.1⟩⟩;rcases o1 with ⟨h1,h2⟩|⟨b,h1,h2,h3,h4⟩
 ·exact .inl ⟨h1,h2⟩
 ·exact .inr ⟨b,0,_,_,vs,h1,IT _,h2,by omega,by rw[zr,AAF],jH hD h3⟩
theorem LD(W:h.Wf)(R:h.Row A.bs 0 (slL A.bd A.tb lv fv bad ov))(hD:∀ b,A.D b->b<h.next){sct:Nat}(hs:sct<=100000){u:IN}{l:List Nat}{ku:Nat}(U:Mk h ku u l)(hl:l.length<=6400):
  ∃ h' v,call AC (m+1) 99 [pt A.bs,AI AT (sct:Int),u] h=.ok v h'/\h.Ext h'/\CV h' A h.next v ((zu ((l.length+63)/64)).map (fun j=>AGY.w (sct+j) (C4 l j))++[.f]):=by
 have bx:=fun (F:AFi) (e:Env) (he:J 0 e=pt A.bs)=>(show Ce (J 0) F e h=.ok (pt h.next) (h.AFh 0 [pt A.bs])by rw[EF,he,EC W];rfl)
 have x1:=(Hp.Ext.refl W).AFh 0 [pt A.bs];have R3:=Hp.Row.new W 0 [pt A.bs];have n1:(h.AFh 0 [pt A.bs]).next=h.next+1:=rfl;generalize h.AFh 0 [pt A.bs]=h1 at bx x1 R3 n1;have nD3:¬ A.D h.next:=jH hD (IT _);have pre:∃ e1,iD (call AC m) (AS e0 0 [pt A.bs,AI AT (sct:Int),u]) h=wrS (call AC m) e1 h1/\J 1 e1=AI AT (sct:Int)/\J 2 e1=u/\J 3 e1=pt h.next/\J 7 e1=.slice none 0 0/\J 8 e1=AI AT ((64 * 0:Nat):Int):=by
  unfold iD;simp only[iN,IS,sT,By,BY,reduceIte,bx];exact⟨_,rfl,by simp[AG]⟩
 obtain⟨e1,p1,s1,s2,s3,s7,s8⟩:=pre;have run:∃ e' h' v,A9 wrB (call AC m) e1 h1=.exit 0 e' h'/\h.Ext h'/\CV h' A h1.next v ((zu ((l.length+63)/64)).map fun j=>AGY.w (sct+j) (C4 l j))/\h'.Row h.next 0 [pt A.bs]/\h1.next<=h'.next/\J 3 e'=pt h.next/\J 7 e'=v:=by
  refine Bh (I:=fun i e' h'=>∃ v,h.Ext h'/\CV h' A h1.next v ((zu i).map fun j=>AGY.w (sct+j) (C4 l j))/\h'.Row h.next 0 [pt A.bs]/\h1.next<=h'.next/\i<=(l.length+63)/64/\J 1 e'=AI AT (sct:Int)/\J 2 e'=u/\J 3 e'=pt h.next/\J 7 e'=v/\J 8 e'=AI AT ((64*i:Nat):Int))
   (Q:=fun x=>∃ e' h' v,x=.exit 0 e' h'/\h.Ext h'/\CV h' A h1.next v ((zu ((l.length+63)/64)).map fun j=>AGY.w (sct+j) (C4 l j))/\h'.Row h.next 0 [pt A.bs]/\h1.next<=h'.next/\J 3 e'=pt h.next/\J 7 e'=v) ((l.length+63)/64) (by omega) (fun i e' h' ⟨v,x',dv,R',hn',hi,t1,t2,t3,t7,t8⟩=>?_)
   ⟨_,x1,⟨[],.inl ⟨rfl,rfl⟩,rfl,fun i w x h=>by cases h⟩,R3,IT _,zL _,s1,s2,s3,s7,s8⟩
  have Ul:=U.vals.bl h';have W':=x'.wf;by_cases hlt:64*i<l.length
  ·left
   have c1:iLt ((64*i:Nat):Int) (l.length:Int)=true:=E9 hlt;have mk:∀ (F:AFi) (e:Env),HM 1 ty5.zero (kV (AI AT 64)) (kV (AI AT 64)) F e h'=.ok (.slice (some ⟨h'.next,0,none⟩) 64 64) (h'.AFh 0 (Bj.map bv)):=fun F e=>PN (F:=F) (e:=e) W' (x:=kV (AI AT 64)) (y:=kV (AI AT 64)) (N:=64) rfl rfl (by omega)
   have y2:=(Hp.Ext.refl W').AFh 0 (Bj.map bv);have Rz:=Hp.Row.new W' 0 (Bj.map bv);have n2:(h'.AFh 0 (Bj.map bv)).next=h'.next+1:=rfl;generalize h'.AFh 0 (Bj.map bv)=h2 at mk y2 Rz n2;obtain⟨h3,al,st,y3,R9,n3,_⟩:=JO y2.wf lH (v:=.slice (some ⟨h'.next,0,none⟩) 64 64) rfl rfl;have y23:=y2.trans y3;have Rz3:=Rz.ext y2.wf y3;have x3:=x'.trans y23;have R9m:h3.marked.Row h2.next 0 [.slice (some ⟨h'.next,0,none⟩) 64 64]:=R9.same rfl;have l9:AFk ⟨h2.next,0,none⟩ h3.marked=.ok (.slice (some ⟨h'.next,0,none⟩) 64 64) h3.marked:=R9m.AFk (off:=0) (by show 0<1;omega);obtain⟨w,ct,Vw⟩:=QF (((U.ext W x3).same (h':=h3.marked) rfl)) (m:=64 * i) (by omega);have AHX:=W'.big;have cpy:∃ h4,(∀ (F:AFi) (e:Env),J 18 e=.slice (some ⟨h'.next,0,none⟩) 64 64->J 21 e=w->∃ vv,Ad .free (Js 1 (J 18) (J 21)) F e h3.marked=.ok vv h4)/\h'.Ext h4/\h4.Row h'.next 0 ((C4 (l.drop (64 * i)) 0).map bv)/\h4.Row h2.next 0 [.slice (some ⟨h'.next,0,none⟩) 64 64]/\h3.next<=h4.next:=by
    have Rq:h3.marked.quiet.Row h'.next 0 (Bj.map bv):=Rz3.same rfl;have hle:0+(((l.drop (64*i)).take 64).map bv).length<=(Bj.map bv).length:=by
     rw[OF,zJ];show _<=64;omega
    have key:=fun (F:AFi) (e:Env) (a1:J 18 e=.slice (some ⟨h'.next,0,none⟩) 64 64) (a2:J 21 e=w)=>Zf (F:=F) (e:=e) (h:=h3.marked.quiet) y23.wf.marked.quiet AHX a1 a2 (Vw.same (h':=h3.marked.quiet) rfl) Rq
    have wr:=Rq.AFu y23.wf.marked.quiet hle;have wx:=Rq.AGE (h0:=h') (y23.marked.quiet) (IT _) hle;have wo:=Rq.AGr y23.wf.marked.quiet hle (R9.same (h':=h3.marked.quiet) rfl) (by omega);have wn:=Rq.AGN hle;have ho:over (Bj.map bv) 0 (((l.drop (64*i)).take 64).map bv)=(C4 (l.drop (64*i)) 0).map bv:=by
     have hk:=Zf (F:=call AC m) (e:=Env.set 18 (.slice (some ⟨h'.next,0,none⟩) 64 64) (Env.set 21 w e0)) (h:=h3.marked.quiet) (x:=J 18) (y:=J 21) y23.wf.marked.quiet AHX (by simp[AG]) (by simp[AG]) (Vw.same (h':=h3.marked.quiet) rfl) Rq;obtain⟨_,_,h2⟩:=hk;exact h2
    rw[ho]at wr;generalize h3.marked.quiet.wr h'.next 0 (((l.drop (64 * i)).take 64).map bv)=g at key wr wx wo wn;refine⟨h3.marked.back g,fun F e a1 a2=>?_,Hp.Ext.AGo y23.marked wx,wr.same rfl,wo.same rfl,by show _<=g.next;rw[wn];exact IT _⟩;obtain⟨vv,k1,_⟩:=key F e a1 a2;exact⟨vv,BO k1⟩
   obtain⟨h4,cp,y4,Rc,R94,n4⟩:=cpy;have x4:=x'.trans y4;have dv4:=vx (h:=h4) (i:=i) (by omega);have ad:=UK (h:=h4) (a:=sct) (b:=i) (by omega);obtain⟨h5,al5,st5,y5,R10,n5,_⟩:=JO y4.wf dT (v:=AI AT ((sct+i:Nat):Int)) rfl rfl;have y45:=y4.trans y5;have x5:=x'.trans y45;have dv5:=(dv.ext W' y45);have hbk:∀ b,h'.next<=b->¬ AGA v b:=fun b hb hv=>by
    obtain⟨vs,o1,_⟩:=dv;rcases o1 with ⟨h1,_⟩|⟨b',h1,h2,_⟩
    ·rw[h1]at hv;exact GQ hv
    ·have:=h2.lt W'
     rw[h1]at hv;obtain⟨o,nn,c,hc⟩:=hv;injection hc with hc _ _
     injection hc with hc
     injection hc with hc _ _
     omega
   have hx1:=x1.next;have nDb:∀ b,h.next<=b->¬ A.D b:=fun b hb=>jH hD hb
   have hb3:¬ AGA v h.next:=fun hv=>by
    obtain⟨vs,o1,_⟩:=dv;rcases o1 with ⟨h1',_⟩|⟨b',h1',h2',h3',_⟩
    ·rw[h1']at hv;exact GQ hv
    ·rw[h1']at hv
     obtain⟨o,nn,c,hc⟩:=hv;injection hc with hc _ _
     injection hc with hc
     injection hc with hc _ _
     omega
   have R3':=R'.ext W' y45;have ds:Ib h5 A (fun b=>¬ A.D b/\¬ AGA v b) (.func (.func 129) ⟨[]⟩ ⟨[pt h.next,pt h4.next,pt h2.next]⟩) (.w (sct+i) (C4 l i)):=by
    refine .inl ⟨h.next,h4.next,h2.next,.slice (some ⟨h'.next,0,none⟩) 64 64,rfl,R3',R10,R94.ext y4.wf y5,.inr ⟨h'.next,0,64,0,_,by rw[OF,Cs],by rw[OF,Cs];exact IT _,Rc.ext y4.wf y5,?_,?_,⟨nDb _ (by omega),hbk _ (IT _)⟩,.inl rfl⟩,⟨nDb _ (IT _),hb3⟩,⟨nDb _ (by omega),hbk _ (by omega)⟩,⟨nDb _ (by omega),hbk _ (by omega)⟩⟩
    ·rw[OF,OF,Cs,Cs];exact IT _
    ·have:C4 (l.drop (64*i)) 0=C4 l i:=by unfold C4;rw[AEL,zr]
     rw[this,zr,AAF]
   obtain⟨h6,v6,k6,x6,dv6,n6,kp6⟩:=dv5.snoc (f:=129) x5 (zO hx1 (IT _)) (by omega) rfl ds (by rw[OF,ACm];omega);have er:(zu (i+1)).map (fun j=>AGY.w (sct+j) (C4 l j))=(zu i).map (fun j=>AGY.w (sct+j) (C4 l j))++[AGY.w (sct+i) (C4 l i)]:=by rw[AAf,zb];rfl
   rw[<- er]at dv6;have fs:=fun (F:AFi) (e:Env) (a:J 28 e=.func (.func 129) ⟨[]⟩ ⟨[pt h.next,pt h4.next,pt h2.next]⟩)=>Jb (F:=F) (e:=e) x5.wf a
   have a3:Ez .i64 (AI AT ((64*i:Nat):Int)) (AI AT 64) h6=.ok (AI AT ((64*(i+1):Nat):Int)) h6:=by
    have:=UK (h:=h6) (a:=64*i) (b:=64) (by omega);rw[show 64*i+64=64*(i+1)by omega]at this;exact this
   have hrun:∃ e2,wrB (call AC m) e' h'=.norm e2 h6/\J 1 e2=AI AT (sct:Int)/\J 2 e2=u/\J 3 e2=pt h.next/\J 7 e2=v6/\J 8 e2=AI AT ((64*(i+1):Nat):Int):=by
    obtain⟨vv,cp⟩:=cp (call AC m) (Env.set 21 w (Env.set 18 (.slice (some ⟨h'.next,0,none⟩) 64 64) (Env.set 9 (pt h2.next) (Env.set 17 (.slice (some ⟨h'.next,0,none⟩) 64 64) (Env.set 14 (.bool true) (Env.set 13 (AI AT (l.length:Int)) e')))))) (by simp[AG]) (by simp[AG]);unfold wrB;simp only[sT,By,BY,reduceIte,Ah,t2,Ul,AK,AJ,t8,c1,mk,al,AX,st,A1,AM,AP,l9];rw[ct _ _ _ _ (by simp[AG,t2]) (by simp[AG,t8])];simp only[sT,By,BY,reduceIte,cp,Jt,t8,dv4,BM,t1,ad,al5,AX,st5,DX,AV,A3,t3,fs,BN,t7,k6,a3];exact⟨_,rfl,by simp[AG,t1,t2,t3]⟩
   obtain⟨e2,r1,r2,r3,r4,r5,r6⟩:=hrun;exact⟨by omega,e2,h6,r1,v6,x6,dv6,kp6 _ _ _ hb3 R3',by omega,by omega,r2,r3,r4,r5,r6⟩
  ·right
   have hie:i=(l.length+63)/64:=by omega
   have c1:iLt ((64*i:Nat):Int) (l.length:Int)=false:=DJ (by omega);have hrun:∃ e2,wrB (call AC m) e' h'=.exit 0 e2 h'/\J 3 e2=pt h.next/\J 7 e2=v:=by
    unfold wrB;simp only[sT,By,BY,reduceIte,Ah,t2,Ul,AK,AJ,t8,c1];exact⟨_,rfl,by simp[AG,t3,t7]⟩
   obtain⟨e2,r1,r2,r3⟩:=hrun;rw[r1];exact⟨rfl,e2,h',v,rfl,x',by rw[<- hie];exact dv,R',hn',r2,r3⟩
 obtain⟨e2,h2,v2,r1,x2,dv2,R2,n2,t3,t7⟩:=run;have l3:AFk ⟨h.next,0,none⟩ h2=.ok (pt A.bs) h2:=R2.AFk (off:=0) (by show 0<1;omega);obtain⟨l0,_⟩:=BG (R.ext W x2);obtain⟨h6,v6,k6,x6,dv6,n6,_⟩:=dv2.snoc (f:=124) (d:=.f) x2 x1.next n2 (w:=.func (.func 124) ⟨[pt A.bd]⟩ ⟨[]⟩) rfl rfl (by rw[OF,ACm];omega);have fs:=fun (F:AFi) (e:Env) (a:J 36 e=.func (.func 124) ⟨[pt A.bd]⟩ ⟨[]⟩)=>Jb (F:=F) (e:=e) x2.wf a
 refine⟨h6,v6,?_,x6,?_⟩
 ·rw[qI rfl,qp,p1,td]
  simp only[BJ,Az,r1,BD,BA];unfold wrE;simp only[sT,By,BY,reduceIte,AM,AP,t3,l3,Ax,Al,AH,AN,If,l0,DX,AV,A3,fs,BN,t7,k6,lV0]
 ·obtain⟨vs,a,b,c⟩:=dv6
  exact⟨vs,a.le x1.next,b,c⟩
end
end
noncomputable section
open Go
set_option maxRecDepth 100000
section
variable {F:AFi}{e:Env}{h h':Hp}{A:At}{T M:List Nat}{c0 bad m:Nat}{arm:Int}{ks:List Kt}{fr:List Nat}{lv fv:IN}{ov:Bool}
theorem Ha:∀ (n k:Nat) (a:Int),CB a (n+k)->CB ((zu n).foldl (fun a _=>GL a) a) k
 |0,k,a,h=>by rw[If]at h;exact h
 |n+1,k,a,h=>by
  rw[AAf,ACn];have h1:=Ha n (k+1) a (by rw[show n+(k+1)=n+1+k by omega];exact h);exact h1.one.1
theorem fe{x y:O}{K:C}{v:IN}{b r:Nat}(hx:x e=v)(hv:v=.slice none 0 0\/∃ o n c,v=.slice (some ⟨b,o,none⟩) n c)(hy:y e=pt r)(hr:v=.slice none 0 0\/r≠b):Cn x [y] K F e h=K F e h:=by
 unfold Cn;rw[hx];rcases hv with rfl|⟨o,n,c,rfl⟩
 ·rfl
 ·rcases hr with hr|hr
  ·cases hr
  ·show(bif DE b e [y]then K F e h else .no)=_
   have:DE b e [y]=true:=by
    unfold DE;rw[hy];show(bif yu r b then false else DE b e [])=true;have n1:yu r b=false:=by
     cases e:yu r b
     ·rfl
     ·exact absurd (Ay.1 e) hr
    rw[n1];rfl
   rw[this];rfl
theorem CV.atB{h0:Hp}{k bw:Nat}{v w:IN}{ds:List AGY}{f:Nat}{a b:List IN}(x0:h0.Ext h)(hk:h0.next<=k)(hk2:k<=h.next)(o:CV h A k v ds)(hw:w=.func (.func f) ⟨a⟩ ⟨b⟩)(Rw:h.Row bw 0 [w]){d:AGY}(hd:Ib h A (fun b=>¬ A.D b/\¬ AGA v b) w d)(hl:ds.length<=1000):
  ∃ h' v',(∀ (F:AFi) (e:Env) (x y:O),x e=v->y e=.slice (some ⟨bw,0,none⟩) 1 1->Jr x (Bp 1 8 76 x y) F e h=.ok v' h')/\h0.Ext h'/\CV h' A k v' (ds++[d])/\h.next<=h'.next:=by
 obtain⟨vs,o1,o2,o3⟩:=o;have W:=x0.wf;have on:oneCell w=true:=by rw[hw];rfl
 have cl:h.quiet.Cl (AGA v) 76 v vs:=by
  rcases o1 with ⟨h1,h2⟩|⟨b,h1,h2,h3,h4⟩
  ·exact .inl ⟨h1,h2⟩
  ·exact .inr ⟨b,_,h1,h2.same rfl,.inl rfl,⟨0,_,_,h1⟩,h4⟩
 have kb:∀ b,AGA v b->h0.next<=b:=fun b hb=>by
  obtain⟨off,n,c,e1⟩:=hb;rcases o1 with ⟨h1,h2⟩|⟨b',h1,h2,h3,h4⟩
  ·rw[h1]at e1;cases e1
  ·rw[h1]at e1
   injection e1 with e1 _ _
   injection e1 with e1
   injection e1 with e1 _ _
   omega
 obtain⟨h5,b5,a1,a2,a3,a4,a5,a6,a7,a8,a9⟩:=ZZ (eb:=8) (en:=76) x0.quiet cl kb (Rw.same (h':=h.quiet) rfl) on (by rw[o2];omega) (by omega);have hvb:¬ AGA (.slice (some ⟨b5,0,none⟩) (vs.length+1) (vs.length+1)) b5->False:=fun h=>h ⟨0,_,_,rfl⟩
 have a4:b5=h.next:=a4;have kp:∀ b el L,¬ A.D b/\¬ AGA v b->(el=0\/el=6)->h.Row b el L->(h.back h5).Row b el L/\(¬ A.D b/\¬ AGA (.slice (some ⟨b5,0,none⟩) (vs.length+1) (vs.length+1)) b):=fun b el L hb _ r=>⟨(a7 b el L hb.2 (r.same rfl)).same rfl,hb.1,Ll (by have:=r.lt W;omega)⟩
 have a5:h5.next=h.next+1:=a5;have AFs:=W.big;refine⟨h.back h5,.slice (some ⟨b5,0,none⟩) (vs.length+1) (vs.length+1),fun F e x y hx hy=>UL hx hy a1 (a9 rfl rfl h rfl),x0.AGo a2,⟨vs++[w],.inr ⟨b5,by rw[No];rfl,a3.same rfl,?_,by omega⟩,by rw[No,No,o2];rfl,fun i z y h1 h2=>?_⟩,by show h.next<=h5.next;omega⟩
 ·omega
 ·rcases zD i vs.length with hi|hi
  ·rw[zF hi]at h1
   rw[zF (by omega)]at h2;exact(o3 i z y h1 h2).AGp kp
  ·rw[zI hi]at h1
   rw[zI (by omega)]at h2;have e1:=zB.1 (yz h1);have e2:=zB.1 (yz h2);rw[e1,e2];exact hd.AGp kp
theorem tH:skS=BL (Ae 0 (A9 skB)) skE:=rfl
theorem Zn:d81=Zo:=rfl
def G9(M:List Nat)(ps:List Nat):List Nat:=GA M (ps.map fun p=>(p*3,Bj))
theorem Rv:∀ (ps:List Nat) (M:List Nat) (cs:List (Nat×List Nat)),Gg M cs (ps.map (fun p=>AGY.w (p*3) Bj)++[.f])=(GA M (cs++ps.map fun p=>(p*3,Bj)),[])
 |[],M,cs=>by rw[AEw,AEw,yw];rfl
 |p::ps,M,cs=>by
  show Gg M (cs++[(p*3,Bj)]) (ps.map (fun p=>AGY.w (p*3) Bj)++[.f])=_;rw[Rv ps,List.append_assoc];rfl
theorem bf{n:Nat}:∀ (ps:List Nat) (cs:List (Nat×List Nat)),(cs≠[]\/ps≠[])->cs.length+ps.length<=60->(∀ p∈ps,3*p+3<=n/\∀ x∈cs,x.1≠p*3)->ps.Nodup->FN n cs (ps.map (fun p=>AGY.w (p*3) Bj)++[.f])
 |[],cs,h0,hl,_,_=>⟨h0.elim (fun h=>h) fun h=>absurd rfl h,by simpa using hl,trivial⟩
 |p::ps,cs,h0,hl,hp,hn=>by
  obtain⟨p1,p2⟩:=hp p List.mem_cons_self;rw[yh]at hl;refine⟨p2,by omega,rfl,fun x hx=>by rw[ABq hx];decide,bf ps _ (.inl (by simp)) (by rw[No];simp only[zh];omega) (fun q hq=>⟨(hp q (yj _ hq)).1,fun x hx=>?_⟩) (ABH.1 hn).2⟩;rcases zK.1 hx with hx|hx
  ·exact(hp q (yj _ hq)).2 x hx
  ·rw[zB.1 hx]
   show p*3≠q*3;intro he;have:p=q:=by omega
   exact(ABH.1 hn).1 (this ▸ hq)
theorem Sl.AHz(s:Sl h A T M c0 arm ks fr lv fv bad ov)(W:h.Wf):∀ b,A.D b->b<h.next:=fun b hb=>by
 obtain⟨h1,h2,h3⟩:=s.dk.lt W;rcases hb with rfl|rfl|rfl|rfl
 ·exact s.row.lt W
 ·exact h1
 ·exact h2
 ·exact h3
theorem Sl.nK(s:Sl h A T M c0 arm ks fr lv fv bad ov):¬ A.K A.bs:=by
 obtain⟨h1,h2,h3,_⟩:=s.ne;rintro (h|h|h)<;>contradiction
theorem LB(W:h.Wf)(s:Sl h A T M c0 arm ks fr lv fv bad ov){ps:List Nat}{pv:IN}(V:h.AF5 pv (ints .i64 (ps.map zY)))(hp:∀ p∈ps,3*p+3<=A.n)(hnd:ps.Nodup)(hl:ps.length<=50){k:Nat}(ha:CB arm (ps.length+1+k)):
  ∃ h' c1 AGB,call AC (m+6) 81 [pt A.bs,pv] h=.ok (AI AT 0) h'/\Fx A.K h h'/\Sl h' A T (G9 M ps) c1 AGB ks fr lv fv bad ov/\CB AGB k:=by
 have ln:∀ g:Hp,AGQ pv g=.ok (AI AT (ps.length:Int)) g:=fun g=>by
  have:=V.shape;obtain⟨a,c,rfl⟩:=this;rw[show(ints .i64 (ps.map zY)).length=ps.length by simp[ints]];rfl
 have bx:=fun (F:AFi) (e:Env) (he:J 0 e=pt A.bs)=>(show Ce (J 0) F e h=.ok (pt h.next) (h.AFh 0 [pt A.bs])by rw[EF,he,EC W];rfl)
 have x1:=(Hp.Ext.refl W).AFh 0 [pt A.bs];have R2:=Hp.Row.new W 0 [pt A.bs];have n1:(h.AFh 0 [pt A.bs]).next=h.next+1:=rfl;generalize h.AFh 0 [pt A.bs]=h1 at bx x1 R2 n1;have hD:=s.AHz W;have hDn:A.n<=65536:=s.dk.n1.2;by_cases h0:ps=[]
 ·subst h0
  have c1:iEq ((([]:List Nat).length:Nat):Int) 0=true:=Cb rfl;refine⟨h1,c0,arm,?_,.of x1,s.ext W x1,ha.le (by omega)⟩;rw[ZT rfl,Zn];unfold Zo;simp only[iN,IS,sT,By,BY,reduceIte,bx,Ah,ln,AK,AJ,c1,lV0]
 have hpos:0<ps.length:=by
  cases ps with
  |nil=>exact absurd rfl h0
  |cons _ _=>exact Nat.succ_pos _
 have c1:iEq (ps.length:Int) 0=false:=B6 (by omega);have pre:∃ e1,Zo (call AC (m+5)) (AS e0 0 [pt A.bs,pv]) h=skS (call AC (m+5)) e1 h1/\J 2 e1=pt h.next/\J 5 e1=.slice none 0 0/\J 11 e1=pv/\J 12 e1=AI AT (ps.length:Int)/\J 13 e1=AI AT ((0:Nat):Int):=by
  unfold Zo;simp only[iN,IS,sT,By,BY,reduceIte,bx,Ah,ln,AK,AJ,c1];exact⟨_,rfl,by simp[AG]⟩
 obtain⟨e1,p1,s2,s5,s11,s12,s13⟩:=pre;have run:∃ e' h' v,A9 skB (call AC (m+5)) e1 h1=.exit 0 e' h'/\h.Ext h'/\CV h' A h1.next v (ps.map fun p=>AGY.w (p*3) Bj)/\h'.Row h.next 0 [pt A.bs]/\h1.next<=h'.next/\J 2 e'=pt h.next/\J 5 e'=v:=by
  refine Bh (I:=fun i e' h'=>∃ v,h.Ext h'/\CV h' A h1.next v ((ps.take i).map fun p=>AGY.w (p*3) Bj)/\h'.Row h.next 0 [pt A.bs]/\h1.next<=h'.next/\i<=ps.length/\J 2 e'=pt h.next/\J 5 e'=v/\J 11 e'=pv/\J 12 e'=AI AT (ps.length:Int)/\J 13 e'=AI AT (i:Int))
   (Q:=fun x=>∃ e' h' v,x=.exit 0 e' h'/\h.Ext h'/\CV h' A h1.next v (ps.map fun p=>AGY.w (p*3) Bj)/\h'.Row h.next 0 [pt A.bs]/\h1.next<=h'.next/\J 2 e'=pt h.next/\J 5 e'=v) ps.length (by omega) (fun i e' h' ⟨v,x',dv,R',hn',hi,t2,t5,t11,t12,t13⟩=>?_)
   ⟨_,x1,⟨[],.inl ⟨rfl,rfl⟩,rfl,fun i w x h=>by cases h⟩,R2,IT _,zL _,s2,s5,s11,s12,s13⟩
  have W':=x'.wf;by_cases hlt:i<ps.length
  ·left
   have c1:=E9 hlt;obtain⟨p,hpi⟩:∃ p,ps[i]? =some p:=⟨_,sh hlt⟩;have hpm:=yz hpi;obtain⟨a,g1,g2⟩:=(V.ext W x').at (i:=i) (by simp[ints];exact hlt);have g2:Hn (.pointer (some a)) h'=.ok (AI AT (p:Int)) h':=by
    rw[g2];have:(ints .i64 (ps.map zY)).getD i AFl=AI AT (p:Int):=by
     rw[yf];simp[ints,hpi]
    rw[this]
   obtain⟨h2,al,st,y2,R7,n2,_⟩:=JO W' dT (v:=AI AT (p:Int)) rfl rfl;have x2:=x'.trans y2;have nDb:∀ b,h.next<=b->¬ A.D b:=fun b hb=>jH hD hb
   have hvb:∀ b,AGA v b->h1.next<=b/\b<h'.next:=fun b hb=>by
    obtain⟨vs,o1,_⟩:=dv;obtain⟨o,nn,c,hc⟩:=hb;rcases o1 with ⟨h1',_⟩|⟨b',h1',h2',h3',_⟩
    ·rw[h1']at hc;cases hc
    ·rw[h1']at hc
     have:=h2'.lt W';injection hc with hc _ _
     injection hc with hc
     injection hc with hc _ _
     omega
   have ds:Ib h2 A (fun b=>¬ A.D b/\¬ AGA v b) (.func (.func 122) ⟨[]⟩ ⟨[pt h.next,pt h'.next]⟩) (.w (p*3) Bj):=.inr ⟨h.next,h'.next,p,rfl,R'.ext W' y2,R7,rfl,by have:=hp p hpm;omega,rfl,⟨nDb _ (IT _),fun hb=>by have:=hvb _ hb;omega⟩,⟨nDb _ (by have:=x'.next;omega),fun hb=>by have:=hvb _ hb;omega⟩⟩;obtain⟨h3,v3,k3,x3,dv3,n3,kp3⟩:=(dv.ext W' y2).snoc (f:=122) x2 x1.next (by omega) rfl ds (by rw[OF,zJ];omega);have er:(ps.take (i+1)).map (fun p=>AGY.w (p*3) Bj)=(ps.take i).map (fun p=>AGY.w (p*3) Bj)++[AGY.w (p*3) Bj]:=by
    rw[List.take_add_one,hpi,zb];rfl
   rw[<- er]at dv3;have fs:=fun (F:AFi) (e:Env) (a:J 18 e=.func (.func 122) ⟨[]⟩ ⟨[pt h.next,pt h'.next]⟩)=>Jb (F:=F) (e:=e) x2.wf a
   have a3:=Cc (i:=i) (h:=h3) (by omega);have hrun:∃ e2,skB (call AC (m+5)) e' h'=.norm e2 h3/\J 2 e2=pt h.next/\J 5 e2=v3/\J 11 e2=pv/\J 12 e2=AI AT (ps.length:Int)/\J 13 e2=AI AT ((i+1:Nat):Int):=by
    unfold skB;simp only[sT,By,BY,reduceIte,AK,AJ,t13,t12,c1,BB,t11,g1,AM,g2,al,AX,st,DX,AV,A3,t2,fs,BN,t5,k3,BM,a3];exact⟨_,rfl,by simp[AG,t2,t11,t12]⟩
   obtain⟨e2,r1,r2,r3,r4,r5,r6⟩:=hrun;exact⟨hlt,e2,h3,r1,v3,x3,dv3,kp3 _ _ _ (fun hb=>by have:=hvb _ hb;omega) (R'.ext W' y2),by omega,by omega,r2,r3,r4,r5,r6⟩
  ·right
   have c1:=DJ (show ps.length<=i by omega);have hrun:∃ e2,skB (call AC (m+5)) e' h'=.exit 0 e2 h'/\J 2 e2=pt h.next/\J 5 e2=v:=by
    unfold skB;simp only[sT,By,BY,reduceIte,AK,AJ,t13,t12,c1];exact⟨_,rfl,by simp[AG,t2,t5]⟩
   obtain⟨e2,r1,r2,r3⟩:=hrun;rw[r1];rw[AAo (by omega)]at dv;exact⟨rfl,e2,h',v,rfl,x',dv,R',hn',r2,r3⟩
 obtain⟨e2,h2,v2,r1,x2,dv2,R2',n2,t2,t5⟩:=run;have x2m:=x2.marked;have R2m:h2.marked.Row h.next 0 [pt A.bs]:=R2'.same rfl;have l2:AFk ⟨h.next,0,none⟩ h2.marked=.ok (pt A.bs) h2.marked:=R2m.AFk (off:=0) (by show 0<1;omega);obtain⟨l0,_⟩:=BG (s.row.ext W x2m);have qs:∀ (F:AFi) (e:Env),J 28 e=.func (.func 124) ⟨[pt A.bd]⟩ ⟨[]⟩->Ad .AFz (As 1 (Bb SS.zero 1) [(0,1,J 28)]) F e h2.marked=.ok (.slice (some ⟨h2.next,0,none⟩) 1 1) (h2.marked.back (h2.marked.quiet.AFh 0 [.func (.func 124) ⟨[pt A.bd]⟩ ⟨[]⟩])):=fun F e he=>Cp (Jb x2m.wf.quiet he) ((Hp.Ext.refl x2m.wf.quiet).AFh _ _) (IT _)
 have y3:h2.Ext (h2.marked.back (h2.marked.quiet.AFh 0 [.func (.func 124) ⟨[pt A.bd]⟩ ⟨[]⟩])):=Hp.Ext.AGo (Hp.Ext.refl x2.wf).marked ((Hp.Ext.refl x2.wf).marked.quiet.AFh _ _);have Rw:(h2.marked.back (h2.marked.quiet.AFh 0 [.func (.func 124) ⟨[pt A.bd]⟩ ⟨[]⟩])).Row h2.next 0 [.func (.func 124) ⟨[pt A.bd]⟩ ⟨[]⟩]:=(Hp.Row.new x2m.wf.quiet 0 [.func (.func 124) ⟨[pt A.bd]⟩ ⟨[]⟩]).same rfl;generalize h2.marked.back (h2.marked.quiet.AFh 0 [.func (.func 124) ⟨[pt A.bd]⟩ ⟨[]⟩])=h3 at qs y3 Rw;have x3:=x2.trans y3;obtain⟨h4,v4,k4,x4,dv4,n4⟩:=(dv2.ext x2.wf y3).atB (f:=124) (d:=.f) x3 x1.next (zO n2 y3.next) rfl Rw rfl (by rw[OF];omega);have ck:∀ (K:C) (F:AFi) (e:Env),J 5 e=v2->J 2 e=pt h.next->Cn (J 5) [J 2] K F e h3=K F e h3:=fun K F e a1 a2=>by
  obtain⟨vs,o1,_⟩:=dv2;rcases o1 with ⟨h1',_⟩|⟨b',h1',h2',h3',_⟩
  ·exact fe (b:=0) a1 (.inl h1') a2 (.inl h1')
  ·exact fe (b:=b') a1 (.inr ⟨_,_,_,h1'⟩) a2 (.inr (by omega))
 have s4:=s.ext W x4;obtain⟨vs,w1,w2,w3⟩:=dv4.ends fun b hb=>by have:=hD b hb;have:=x1.next;omega
 obtain⟨h5,c5,ALM,k5,f5,d5,ea⟩:=Sb (m:=m) x4.wf.quiet (s4.row.same (h':=h4.quiet) rfl) s.nK (s4.dk.same (h':=h4.quiet) rfl) (w1.same (h':=h4.quiet) rfl) w2 (fun i v x a b=>(w3 i v x a b).AGp fun b el L hb _ r=>⟨r.same rfl,hb⟩) (bf ps [] (.inr h0) (by simp only[zS];omega) (fun p hq=>⟨hp p hq,fun x hx=>by cases hx⟩) hnd)
  (by rw[No,OF];exact ha.le (by show ps.length+1<=_;omega)) (by rw[No,OF];show ps.length+1<=_;omega)
 rw[Rv]at d5;have q5:∀ e:Env,J 22 e=pt A.bs->J 30 e=v4->Ad .free (AU 101 [J 22,J 30]) (call AC (m+5)) e h4=.ok (AI AT 0) (h4.back h5):=fun e a1 a2=>by
  refine BO ?_;rw[BR,AV,AV,A3,a1,a2];exact k5
 have f5':Fx A.K h4 (h4.back h5):=(f5.from (h:=h4) rfl rfl).same rfl rfl;refine⟨h4.back h5,c5,ALM,?_,(Fx.of x4).trans f5',((s4.sc.fx x4.wf f5').sl (d5.same rfl)),?_⟩
 ·rw[ZT rfl,Zn,p1,tH]
  simp only[BJ,Az,r1,BD,BA];unfold skE;simp only[sT,By,BY,reduceIte,A1,AM,AP,t2,l2,Ax,Al,AH,AN,If,l0,DX,AV,A3,qs];rw[ck _ _ _ (by simp[AG,t5]) (by simp[AG,t2])];simp only[sT,By,BY,reduceIte];rw[k4 _ _ _ _ (by simp[AG,t5]) (by simp[AG])];simp only[sT,By,BY,reduceIte,q5,lV0]
 ·rw[ea,No,OF]
  exact Ha _ k arm ha
end
end
noncomputable section
open Go
set_option maxRecDepth 100000
def Fc(P:Kt->Bool):Nat->List Kt->Int
 |_,[]=> -1
 |i,k::l=>if P k=true then(i:Int)else Fc P (i+1) l
theorem O6(P:Kt->Bool):∀ (l:List Kt) (i:Nat),(l.any P=false/\Fc P i l= -1)\/(l.any P=true/\∃ j k,l[j]? =some k/\P k=true/\Fc P i l=((i+j:Nat):Int))
 |[],i=>.inl ⟨rfl,rfl⟩
 |k::l,i=>by
  unfold Fc;by_cases h:P k=true
  ·rw[if_pos h]
   exact .inr ⟨by rw[ADC,h];rfl,0,k,rfl,h,rfl⟩
  ·rw[if_neg h]
   have hf:P k=false:=by simpa using h
   rcases O6 P l (i+1)with ⟨h1,h2⟩|⟨h1,j,k',h2,h3,h4⟩
   ·exact .inl ⟨by rw[ADC,hf,h1];rfl,h2⟩
   ·exact .inr ⟨by rw[ADC,h1,Bool.or_true],j+1,k',by rw[zk];exact h2,h3,by rw[h4];congr 1;omega⟩
section
variable {F:AFi}{e:Env}{h h':Hp}{S:Nat->Prop}{A:At}{bad m:Nat}{ks:List Kt}{v lv fv:IN}{ov:Bool}
theorem aV:kiS=BL (Ae 0 (A9 kiB)) kiE:=rfl
theorem Um:gS=Un:=rfl
theorem PH{g:Nat}{caps:List IN}{P:Kt->Bool}(W:h.Wf)(K:h.KS S v ks)(hl:ks.length<=100000)(hP:∀ h',h.Ext h'->∀ k∈ks,∃ h'',call AC m g (ktV k::caps) h'=.ok (.bool (P k)) h''/\h'.Ext h''):
  ∃ h',call AC (m+1) 120 [v,.func (.func g) ⟨[]⟩ ⟨caps⟩] h=.ok (AI AT (Fc P 0 ks)) h'/\h.Ext h':=by
 have ln:=K.len h;have pre:∃ e1,Un (call AC m) (AS e0 0 [v,.func (.func g) ⟨[]⟩ ⟨caps⟩]) h=kiS (call AC m) e1 h/\J 0 e1=v/\J 1 e1=.func (.func g) ⟨[]⟩ ⟨caps⟩/\J 7 e1=AI AT (ks.length:Int)/\J 8 e1=AI AT ((0:Nat):Int):=by
  unfold Un;simp only[iN,IS,sT,By,BY,reduceIte,Ah,ln];exact⟨_,rfl,by simp[AG]⟩
 obtain⟨e1,p1,s0,s1,s7,s8⟩:=pre;have run:(∃ e' h',A9 kiB (call AC m) e1 h=.exit 0 e' h'/\h.Ext h'/\Fc P 0 ks= -1)\/(∃ e' h',A9 kiB (call AC m) e1 h=.ret e' h'/\h.Ext h'/\J 4 e'=AI AT (Fc P 0 ks)):=by
  refine Bh (I:=fun i e' h'=>h.Ext h'/\J 0 e'=v/\J 1 e'=.func (.func g) ⟨[]⟩ ⟨caps⟩/\J 7 e'=AI AT (ks.length:Int)/\J 8 e'=AI AT (i:Int)/\i<=ks.length/\Fc P 0 ks=Fc P i (ks.drop i))
   (Q:=fun x=>(∃ e' h',x=.exit 0 e' h'/\h.Ext h'/\Fc P 0 ks= -1)\/(∃ e' h',x=.ret e' h'/\h.Ext h'/\J 4 e'=AI AT (Fc P 0 ks))) ks.length (by omega) (fun i e' h' ⟨x',t0,t1,t7,t8,hi,hr⟩=>?_) ⟨.refl W,s0,s1,s7,s8,zL _,by rw[zr]⟩
  by_cases hlt:i<ks.length
  ·obtain⟨k,hk⟩:∃ k,ks[i]? =some k:=⟨_,sh hlt⟩
   have hd:ks.drop i=k::ks.drop (i+1):=by
    rw[AAV hlt];rw[sh hlt]at hk;rw[Option.some.inj hk]
   rw[hd]at hr;have hr:Fc P 0 ks=if P k=true then(i:Int)else Fc P (i+1) (ks.drop (i+1)):=hr
   have c1:=E9 hlt;obtain⟨b,_,ix,ld,_⟩:=(K.ext W x').at hk;obtain⟨h2,k2,x2⟩:=hP h' x' k (yz hk);by_cases hp:P k=true
   ·right
    rw[hp]at k2;rw[if_pos hp]at hr;have hrun:∃ e2,kiB (call AC m) e' h'=.ret e2 h2/\J 4 e2=AI AT (i:Int):=by
     unfold kiB;simp only[sT,By,BY,reduceIte,AK,AJ,t8,t7,c1,BB,t0,ix,Au,Am,ld,Ca,t1,Cr,AV,A3,zU,ABE,k2];exact⟨_,rfl,by simp[AG]⟩
    obtain⟨e2,r1,r2⟩:=hrun;rw[r1];exact⟨rfl,.inr ⟨e2,h2,rfl,x'.trans x2,by rw[r2,hr]⟩⟩
   ·left
    have hf:P k=false:=by simpa using hp
    rw[hf]at k2;rw[if_neg hp]at hr;have a3:=Cc (i:=i) (h:=h2) (by omega);have hrun:∃ e2,kiB (call AC m) e' h'=.norm e2 h2/\J 0 e2=v/\J 1 e2=.func (.func g) ⟨[]⟩ ⟨caps⟩/\J 7 e2=AI AT (ks.length:Int)/\J 8 e2=AI AT ((i+1:Nat):Int):=by
     unfold kiB;simp only[sT,By,BY,reduceIte,AK,AJ,t8,t7,c1,BB,t0,ix,Au,Am,ld,Ca,t1,Cr,AV,A3,zU,ABE,k2,BM,a3];exact⟨_,rfl,by simp[AG,t0,t1,t7]⟩
    obtain⟨e2,r1,r2,r3,r4,r5⟩:=hrun;exact⟨hlt,e2,h2,r1,x'.trans x2,r2,r3,r4,r5,by omega,hr⟩
  ·right
   have c1:=DJ (show ks.length<=i by omega);have hrun:∃ e2,kiB (call AC m) e' h'=.exit 0 e2 h':=by
    unfold kiB;simp only[sT,By,BY,reduceIte,AK,AJ,t8,t7,c1];exact⟨_,rfl⟩
   obtain⟨e2,r1⟩:=hrun;rw[r1];exact⟨rfl,.inl ⟨e2,h',rfl,x',by rw[hr,zx (by omega)];rfl⟩⟩
 rcases run with ⟨e2,h2,r1,x2,r2⟩|⟨e2,h2,r1,x2,r2⟩
 ·refine⟨h2,?_,x2⟩
  rw[UW rfl,Um,p1,aV,r2];simp only[BJ,Az,r1,BD,BA];unfold kiE;simp only[sT,By,BY,reduceIte,lV0]
 ·refine⟨h2,?_,x2⟩
  rw[UW rfl,Um,p1,aV];simp only[BJ,Az,r1,CQ,DC,lV0,r2]
theorem PG{g:Nat}{caps:List IN}{P:Kt->Bool}(W:h.Wf)(K:h.KS S v ks)(hl:ks.length<=100000)(hP:∀ h',h.Ext h'->∀ k∈ks,∃ h'',call AC m g (ktV k::caps) h'=.ok (.bool (P k)) h''/\h'.Ext h''):
  ∃ h',call AC (m+2) 78 [v,.func (.func g) ⟨[]⟩ ⟨caps⟩] h=.ok (.bool (ks.any P)) h'/\h.Ext h':=by
 obtain⟨h2,k2,x2⟩:=PH W K hl hP;have c1:iGe (Fc P 0 ks) 0=ks.any P:=by
  rcases O6 P ks 0 with ⟨h1,h2⟩|⟨h1,j,k,_,_,h2⟩
  ·rw[h1,h2];exact E8 (by omega)
  ·rw[h1,h2];exact F7 (by omega)
 refine⟨h2,?_,x2⟩;rw[pz rfl];unfold d78;simp only[iN,IS,sT,By,BY,reduceIte,cA0,k2,AK,AJ,c1,lV0]
theorem Hl(W:h.Wf){k:Kt}{g:O}(hg:g e=ktV k):Ce g F e h=.ok (pt h.next) (h.AFh 0 (AZ k)):=by rw[EF,hg,EC W];rfl
theorem Bw{r:Nat}{k:Kt}(R:h.Row r 0 (AZ k)):AFk ⟨r,0,none⟩ h=.ok (AI AT k.a) h/\AFk ⟨r,1,none⟩ h=.ok (AI AT k.b) h/\AFk ⟨r,2,none⟩ h=.ok (AI AT k.c) h/\AFk ⟨r,3,none⟩ h=.ok (.int .u8 (k.s:Int)) h/\AFk ⟨r,4,none⟩ h=.ok k.u h/\AFk ⟨r,5,none⟩ h=.ok (AI AT (k.p:Int)) h/\loadN 6 ⟨r,0,none⟩ h=.ok (ktV k) h/\loadN 5 ⟨r,0,none⟩ h=.ok (Bu k.a k.b k.c k.s k.u) h:=
 ⟨R.AFk (off:=0) (by show 0<6;omega),R.AFk (off:=1) (by show 1<6;omega),R.AFk (off:=2) (by show 2<6;omega),R.AFk (off:=3) (by show 3<6;omega),R.AFk (off:=4) (by show 4<6;omega),R.AFk (off:=5) (by show 5<6;omega),R.loadN (off:=0) (n:=6) (by show 0+6<=6;omega),R.loadN (off:=0) (n:=5) (by show 0+5<=6;omega)⟩
def Bo(a b c:Int)(k:Kt):Bool:=decide (k.a=a) && decide (k.b=b) && decide (k.c=c)
def HO(a b:Int)(k:Kt):Bool:=decide (k.a=a) && decide (k.b=b) && decide (k.s=2)
theorem DK{r:Nat}{w:IN}(R:h.Row r 0 [w]):AFk ⟨r,0,none⟩ h=.ok w h:=R.AFk (off:=0) (by show 0<1;omega)
theorem rB(W:h.Wf){r1 r2 r3:Nat}{a b c:Int}(R1:h.Row r1 0 [AI AT a])(R2:h.Row r2 0 [AI AT b])(R3:h.Row r3 0 [AI AT c])(k:Kt):
  ∃ h',call AC (m+1) 127 [ktV k,pt r1,pt r2,pt r3] h=.ok (.bool (Bo a b c k)) h'/\h.Ext h':=by
 have bx:=fun (F:AFi) (e:Env) (he:J 0 e=ktV k)=>Hl (F:=F) W he
 have x1:=(Hp.Ext.refl W).AFh 0 (AZ k);have R:=Hp.Row.new W 0 (AZ k);generalize h.AFh 0 (AZ k)=h1 at bx x1 R;obtain⟨l0,l1,l2,l3,_,l5,_⟩:=Bw R;have m1:=DK (R1.ext W x1);have m2:=DK (R2.ext W x1);have m3:=DK (R3.ext W x1);refine⟨h1,?_,x1⟩;unfold Bo;rw[fO rfl];unfold gZ;by_cases h1:k.a=a
 ·have c1:iEq k.a a=true:=Cb h1
  by_cases h2:k.b=b
  ·have c2:iEq k.b b=true:=Cb h2
   have c3:iEq k.c c=decide (k.c=c):=by rw[Dc];by_cases h3:k.c=c<;>simp[h3]
   simp only[iN,IS,sT,By,BY,reduceIte,gD,bx,AH,AN,If,AM,AP,l0,l1,l2,m1,m2,m3,AK,AJ,c1,c2,c3,lV0];rw[decide_eq_true h1,decide_eq_true h2];rfl
  ·have c2:iEq k.b b=false:=B6 h2
   simp only[iN,IS,sT,By,BY,reduceIte,gD,bx,AH,AN,If,AM,AP,l0,l1,l2,m1,m2,m3,AK,AJ,c1,c2,lV0];rw[decide_eq_true h1,decide_eq_false h2];rfl
 ·have c1:iEq k.a a=false:=B6 h1
  simp only[iN,IS,sT,By,BY,reduceIte,gD,bx,AH,AN,If,AM,AP,l0,l1,l2,m1,m2,m3,AK,AJ,c1,lV0];rw[decide_eq_false h1];rfl
theorem rE(W:h.Wf){r1 r2:Nat}{a b:Int}(R1:h.Row r1 0 [AI AT a])(R2:h.Row r2 0 [AI AT b])(k:Kt):
  ∃ h',call AC (m+1) 148 [ktV k,pt r1,pt r2] h=.ok (.bool (HO a b k)) h'/\h.Ext h':=by
 have bx:=fun (F:AFi) (e:Env) (he:J 0 e=ktV k)=>Hl (F:=F) W he
 have x1:=(Hp.Ext.refl W).AFh 0 (AZ k);have R:=Hp.Row.new W 0 (AZ k);generalize h.AFh 0 (AZ k)=h1 at bx x1 R;obtain⟨l0,l1,l2,l3,_,l5,_⟩:=Bw R;have m1:=DK (R1.ext W x1);have m2:=DK (R2.ext W x1);refine⟨h1,?_,x1⟩;unfold HO;rw[fZ rfl];unfold gn;by_cases h1:k.a=a
 ·have c1:iEq k.a a=true:=Cb h1
  by_cases h2:k.b=b
  ·have c2:iEq k.b b=true:=Cb h2
   have c3:iEq (k.s:Int) 2=decide (k.s=2):=by
    by_cases h3:k.s=2
    ·rw[decide_eq_true h3];exact Cb (by omega)
    ·rw[decide_eq_false h3];exact B6 (by omega)
   simp only[iN,IS,sT,By,BY,reduceIte,gD,bx,AH,AN,If,AM,AP,l0,l1,l3,m1,m2,AK,AJ,c1,c2,c3,lV0];rw[decide_eq_true h1,decide_eq_true h2];rfl
  ·have c2:iEq k.b b=false:=B6 h2
   simp only[iN,IS,sT,By,BY,reduceIte,gD,bx,AH,AN,If,AM,AP,l0,l1,l3,m1,m2,AK,AJ,c1,c2,lV0];rw[decide_eq_true h1,decide_eq_false h2];rfl
 ·have c1:iEq k.a a=false:=B6 h1
  simp only[iN,IS,sT,By,BY,reduceIte,gD,bx,AH,AN,If,AM,AP,l0,l1,l3,m1,m2,AK,AJ,c1,lV0];rw[decide_eq_false h1];rfl
theorem IG(W:h.Wf){z:Int}{g:O}(hg:g e=AI AT z):Ce g F e h=.ok (pt h.next) (h.AFh 0 [AI AT z]):=by rw[EF,hg,EC W];rfl
theorem F5(W:h.Wf)(R:h.Row A.bs 0 (slL A.bd A.tb lv fv bad ov))(K:h.KS S lv ks)(hl:ks.length<=100000)(a b c:Int):
  ∃ h',call AC (m+3) 95 [pt A.bs,AI AT a,AI AT b,AI AT c] h=.ok (AI AT (Fc (Bo a b c) 0 ks)) h'/\h.Ext h':=by
 have b1:=fun (F:AFi) (e:Env) (he:J 1 e=AI AT a)=>IG (F:=F) W he
 have x1:=(Hp.Ext.refl W).AFh 0 [AI AT a];have R1:=Hp.Row.new W 0 [AI AT a];generalize h.AFh 0 [AI AT a]=h1 at b1 x1 R1;have b2:=fun (F:AFi) (e:Env) (he:J 2 e=AI AT b)=>IG (F:=F) x1.wf he
 have y2:=(Hp.Ext.refl x1.wf).AFh 0 [AI AT b];have R2:=Hp.Row.new x1.wf 0 [AI AT b];generalize h1.AFh 0 [AI AT b]=h2 at b2 y2 R2;have b3:=fun (F:AFi) (e:Env) (he:J 3 e=AI AT c)=>IG (F:=F) y2.wf he
 have y3:=(Hp.Ext.refl y2.wf).AFh 0 [AI AT c];have R3:=Hp.Row.new y2.wf 0 [AI AT c];generalize h2.AFh 0 [AI AT c]=h3 at b3 y3 R3;have x3:=(x1.trans y2).trans y3;obtain⟨_,_,_,l3,_⟩:=BG (R.ext W x3);obtain⟨h4,k4,x4⟩:=PH (m:=m+1) (g:=127) (caps:=[pt h.next,pt h1.next,pt h2.next]) (P:=Bo a b c) x3.wf (K.ext W x3) hl fun h' x' k _=>rB x'.wf ((R1.ext x1.wf (y2.trans y3)).ext x3.wf x') ((R2.ext y2.wf y3).ext x3.wf x') (R3.ext x3.wf x') k
 refine⟨h4,?_,x3.trans x4⟩;rw[qG rfl];unfold d95;simp only[iN,IS,sT,By,BY,reduceIte,b1,b2,b3,Ax,Al,AH,AN,If,AM,AP,l3,DX,AV,A3,BR,k4,lV0]
theorem sS(W:h.Wf)(R:h.Row A.bs 0 (slL A.bd A.tb lv fv bad ov))(K:h.KS S lv ks)(hl:ks.length<=100000)(a b:Int):
  ∃ h',call AC (m+3) 128 [pt A.bs,AI AT a,AI AT b] h=.ok (AI AT (Fc (HO a b) 0 ks)) h'/\h.Ext h':=by
 have b1:=fun (F:AFi) (e:Env) (he:J 1 e=AI AT a)=>IG (F:=F) W he
 have x1:=(Hp.Ext.refl W).AFh 0 [AI AT a];have R1:=Hp.Row.new W 0 [AI AT a];generalize h.AFh 0 [AI AT a]=h1 at b1 x1 R1;have b2:=fun (F:AFi) (e:Env) (he:J 2 e=AI AT b)=>IG (F:=F) x1.wf he
 have y2:=(Hp.Ext.refl x1.wf).AFh 0 [AI AT b];have R2:=Hp.Row.new x1.wf 0 [AI AT b];generalize h1.AFh 0 [AI AT b]=h2 at b2 y2 R2;have x2:=x1.trans y2;obtain⟨_,_,_,l3,_⟩:=BG (R.ext W x2);obtain⟨h4,k4,x4⟩:=PH (m:=m+1) (g:=148) (caps:=[pt h.next,pt h1.next]) (P:=HO a b) x2.wf (K.ext W x2) hl fun h' x' k _=>rE x'.wf ((R1.ext x1.wf y2).ext x2.wf x') (R2.ext x2.wf x') k
 refine⟨h4,?_,x2.trans x4⟩;rw[fP rfl];unfold ga;simp only[iN,IS,sT,By,BY,reduceIte,b1,b2,Ax,Al,AH,AN,If,AM,AP,l3,DX,AV,A3,BR,k4,lV0]
def CA(a b c:Int)(ks:List Kt):Bool:=match ks.find? (HO a b)with
 |some k=>decide (c<=k.c)
 |none=>false
theorem Du(P:Kt->Bool):∀ (l:List Kt) (i:Nat),(l.find? P=none/\Fc P i l= -1)\/∃ j k,l.find? P=some k/\l[j]? =some k/\Fc P i l=((i+j:Nat):Int)
 |[],i=>.inl ⟨rfl,rfl⟩
 |k::l,i=>by
  unfold Fc;by_cases h:P k=true
  ·rw[if_pos h]
   exact .inr ⟨0,k,by rw[List.find?_cons_of_pos h],rfl,rfl⟩
  ·rw[if_neg h]
   rcases Du P l (i+1)with ⟨h1,h2⟩|⟨j,k',h1,h2,h4⟩
   ·exact .inl ⟨by rw[ADK h];exact h1,h2⟩
   ·exact .inr ⟨j+1,k',by rw[ADK h];exact h1,by rw[zk];exact h2,by rw[h4];congr 1;omega⟩
theorem Gi(W:h.Wf)(R:h.Row A.bs 0 (slL A.bd A.tb lv fv bad ov))(K:h.KS S lv ks)(hl:ks.length<=100000)(a b c:Int):
  ∃ h',call AC (m+4) 97 [pt A.bs,AI AT a,AI AT b,AI AT c] h=.ok (.bool (CA a b c ks)) h'/\h.Ext h':=by
 obtain⟨h1,k1,x1⟩:=sS (m:=m) W R K hl a b;refine⟨h1,?_,x1⟩;unfold CA;rw[qH rfl];unfold d97;rcases Du (HO a b) ks 0 with ⟨e1,e2⟩|⟨j,k,e1,e2,e3⟩
 ·rw[e2]at k1
  have c1:iGe (-1) 0=false:=E8 (by omega);simp only[iN,IS,sT,By,BY,reduceIte,gD,cA0,k1,AK,AJ,c1,lV0,e1]
 ·rw[e3,If]at k1
  have c1:iGe (j:Int) 0=true:=F7 (by omega);obtain⟨b',_,ix,_,ld⟩:=(K.ext W x1).at e2;have l2:=ld 2 (AI AT k.c) rfl;obtain⟨_,_,_,l3,_⟩:=BG (R.ext W x1);have c2:iGe k.c c=decide (c<=k.c):=O4 _ _;simp only[iN,IS,sT,By,BY,reduceIte,gD,cA0,k1,AK,AJ,c1,Ax,Al,AH,AN,If,AAE,AM,AP,l3,BB,ix,l2,c2,lV0,e1]
end
end
noncomputable section
open Go
set_option maxRecDepth 100000
def DR(a b:Int):Int:=if a<b then -1 else if b<a then 1 else 0
def orZ:List Int->Int
 |[]=>0
 |z::l=>if z=0 then orZ l else z
def Ht(x y:Kt):Int:=orZ [DR x.a y.a,DR x.b y.b,DR x.c y.c,DR x.p y.p]
theorem D6{e:Env}{h:Hp}:En [] e h=.ok AFl h:=rfl
section
variable {F:AFi}{e:Env}{h h':Hp}{S:Nat->Prop}{m:Nat}{ks:List Kt}{v:IN}
theorem qR{a b:Int}:call AC (m+2) 117 [AI AT a,AI AT b] h=.ok (AI AT (DR a b)) h:=by
 have n1:∀ z:Int,call AC (m+1) 146 [AI AT z] h=.ok (.bool false) h:=fun z=>by
  have c1:iNe z z=false:=CH rfl;rw[UY rfl];unfold Zk;simp only[iN,IS,sT,By,BY,reduceIte,AK,AJ,c1,lV0]
 unfold DR;rw[fG rfl];unfold gN;by_cases h1:a<b
 ·have c1:iLt a b=true:=Hd h1
  rw[if_pos h1];simp only[iN,IS,sT,By,BY,reduceIte,cA0,n1,AK,AJ,c1,lV0]
 ·have c1:iLt a b=false:=Fb h1
  rw[if_neg h1];by_cases h2:b<a
  ·have c2:iGt a b=true:=GZ h2
   rw[if_pos h2];simp only[iN,IS,sT,By,BY,reduceIte,cA0,n1,AK,AJ,c1,c2,lV0]
  ·have c2:iGt a b=false:=Fa h2
   rw[if_neg h2];simp only[iN,IS,sT,By,BY,reduceIte,cA0,n1,AK,AJ,c1,c2,lV0]
theorem bp:orS=BL (Ae 0 (A9 orB)) orE:=rfl
theorem Ui:gM=Uj:=rfl
theorem xS{zs:List Int}(V:h.AF5 v (ints .i64 zs))(hl:zs.length<=1000):call AC (m+1) 116 [v] h=.ok (AI AT (orZ zs)) h:=by
 have hil:(ints .i64 zs).length=zs.length:=OF ..;have ln:=V.len;rw[hil]at ln;have pre:∃ e1,Uj (call AC m) (AS e0 0 [v]) h=orS (call AC m) e1 h/\J 3 e1=AI AT 0/\J 6 e1=v/\J 7 e1=AI AT (zs.length:Int)/\J 8 e1=AI AT ((0:Nat):Int):=by
  unfold Uj;simp only[iN,IS,sT,By,BY,reduceIte,Ah,ln];exact⟨_,rfl,by simp[AG]⟩
 obtain⟨e1,p1,s3,s6,s7,s8⟩:=pre;have run:(∃ e',A9 orB (call AC m) e1 h=.exit 0 e' h/\orZ zs=0/\J 3 e'=AI AT 0)\/(∃ e',A9 orB (call AC m) e1 h=.ret e' h/\J 2 e'=AI AT (orZ zs)):=by
  refine Bh (I:=fun i e' h'=>h'=h/\J 3 e'=AI AT 0/\J 6 e'=v/\J 7 e'=AI AT (zs.length:Int)/\J 8 e'=AI AT (i:Int)/\i<=zs.length/\orZ zs=orZ (zs.drop i))
   (Q:=fun x=>(∃ e',x=.exit 0 e' h/\orZ zs=0/\J 3 e'=AI AT 0)\/(∃ e',x=.ret e' h/\J 2 e'=AI AT (orZ zs))) zs.length (by omega) (fun i e' h' ⟨hh,t3,t6,t7,t8,hi,hr⟩=>?_) ⟨rfl,s3,s6,s7,s8,zL _,by rw[zr]⟩
  subst hh;by_cases hlt:i<zs.length
  ·obtain⟨a,g1,g2⟩:=V.at (i:=i) (by rw[hil];exact hlt)
   obtain⟨z,hz⟩:∃ z,zs[i]? =some z:=⟨_,sh hlt⟩;have g2:Hn (.pointer (some a)) h'=.ok (AI AT z) h':=by
    rw[g2];have:(ints .i64 zs).getD i AFl=AI AT z:=by
     rw[yf];simp[ints,hz]
    rw[this]
   have hd:zs.drop i=z::zs.drop (i+1):=by
    rw[AAV hlt];rw[sh hlt]at hz;rw[Option.some.inj hz]
   rw[hd]at hr;have hr:orZ zs=if z=0 then orZ (zs.drop (i+1))else z:=hr
   have c1:=E9 hlt;by_cases h0:z=0
   ·left
    rw[if_pos h0]at hr;have c2:iNe z 0=false:=CH h0;have a3:=Cc (i:=i) (h:=h') (by omega);have hrun:∃ e2,orB (call AC m) e' h'=.norm e2 h'/\J 3 e2=AI AT 0/\J 6 e2=v/\J 7 e2=AI AT (zs.length:Int)/\J 8 e2=AI AT ((i+1:Nat):Int):=by
     unfold orB;simp only[sT,By,BY,reduceIte,AK,AJ,t8,t7,c1,BB,t6,g1,AM,g2,t3,c2,BM,a3];exact⟨_,rfl,by simp[AG,t3,t6,t7]⟩
    obtain⟨e2,r1,r2,r3,r4,r5⟩:=hrun;exact⟨hlt,e2,h',r1,rfl,r2,r3,r4,r5,by omega,hr⟩
   ·right
    rw[if_neg h0]at hr;have c2:iNe z 0=true:=F8 h0;have hrun:∃ e2,orB (call AC m) e' h'=.ret e2 h'/\J 2 e2=AI AT z:=by
     unfold orB;simp only[sT,By,BY,reduceIte,AK,AJ,t8,t7,c1,BB,t6,g1,AM,g2,t3,c2];exact⟨_,rfl,by simp[AG]⟩
    obtain⟨e2,r1,r2⟩:=hrun;rw[r1];exact⟨rfl,.inr ⟨e2,rfl,by rw[r2,hr]⟩⟩
  ·right
   have c1:=DJ (show zs.length<=i by omega);have hrun:∃ e2,orB (call AC m) e' h'=.exit 0 e2 h'/\J 3 e2=AI AT 0:=by
    unfold orB;simp only[sT,By,BY,reduceIte,AK,AJ,t8,t7,c1];exact⟨_,rfl,by simp[AG,t3]⟩
   obtain⟨e2,r1,r2⟩:=hrun;rw[r1];exact⟨rfl,.inl ⟨e2,rfl,by rw[hr,zx (by omega)];rfl,r2⟩⟩
 rcases run with ⟨e2,r1,r2,r3⟩|⟨e2,r1,r2⟩
 ·rw[UV rfl,Ui,p1,bp,r2]
  simp only[BJ,Az,r1,BD,BA];unfold orE;simp only[sT,By,BY,reduceIte,r3,lV0]
 ·rw[UV rfl,Ui,p1,bp]
  simp only[BJ,Az,r1,CQ,DC,lV0,r2]
theorem th:Bb ty3.zero 4=[AI AT 0,AI AT 0,AI AT 0,AI AT 0]:=by kernel_rfl
theorem Xo(W:h.Wf){g1 g2 g3 g4:O}{a b c d:Int}(h1:g1 e=AI AT a)(h2:g2 e=AI AT b)(h3:g3 e=AI AT c)(h4:g4 e=AI AT d):
  As 4 (Bb ty3.zero 4) [(0,1,g1),(1,1,g2),(2,1,g3),(3,1,g4)] F e h=.ok (.slice (some ⟨h.next,0,none⟩) 4 4) (h.AFh 0 (ints .i64 [a,b,c,d])):=by
 rw[CR,th,Af (hk:=by rw[h1];rfl),h1,Af (hk:=by rw[h2];rfl),h2,Af (hk:=by rw[h3];rfl),h3,Af (hk:=by rw[h4];rfl),h4];simp only[Ch,zh,yh,zS,over,List.take,ACo,List.append_eq,zU,List.cons_append,IS,Nat.reduceLeDiff,if_true,Bs,reduceIte];rw[C9 W];rfl
theorem br(W:h.Wf)(x y:Kt):∃ h',call AC (m+3) 75 [ktV x,ktV y] h=.ok (AI AT (Ht x y)) h'/\h.Ext h':=by
 have b1:=fun (F:AFi) (e:Env) (he:J 0 e=ktV x)=>Hl (F:=F) W he
 have x1:=(Hp.Ext.refl W).AFh 0 (AZ x);have R1:=Hp.Row.new W 0 (AZ x);have n1:(h.AFh 0 (AZ x)).next=h.next+1:=rfl;generalize h.AFh 0 (AZ x)=h1 at b1 x1 R1 n1;have b2:=fun (F:AFi) (e:Env) (he:J 1 e=ktV y)=>Hl (F:=F) x1.wf he
 have y2:=(Hp.Ext.refl x1.wf).AFh 0 (AZ y);have R2:=Hp.Row.new x1.wf 0 (AZ y);have n2:(h1.AFh 0 (AZ y)).next=h1.next+1:=rfl;generalize h1.AFh 0 (AZ y)=h2 at b2 y2 R2 n2;have x2:=(x1.trans y2).marked;have R1m:h2.marked.Row h.next 0 (AZ x):=(R1.ext x1.wf y2).same rfl;have R2m:h2.marked.Row h1.next 0 (AZ y):=R2.same rfl;have mk:h2.marked.mark=h2.next:=rfl;have nx:h2.marked.next=h2.next:=rfl;generalize hg0:h2.marked=g0 at x2 R1m R2m mk nx;have wk:∀ (g:Hp) (W:g.Wf) (hm:g.mark<=g.next) (mm:Qm) (i j:Nat) (a b:Int) (e:Env),J i e=AI AT a->J j e=AI AT b->Ad mm (AU 117 [J i,J j]) (call AC (m+2)) e g=.ok (AI AT (DR a b)) (g.back g.quiet):=fun g W hm mm i j a b e e1 e2=>by
  refine Hv W ?_ hm;rw[BR,AV,AV,A3,e1,e2];exact qR
 have bk:∀ g:Hp,g.Wf->g.Ext (g.back g.quiet)/\(g.back g.quiet).next=g.next/\(g.back g.quiet).mark=g.mark:=fun g W=>⟨Hp.Ext.AGo (.refl W) (Hp.Ext.refl W).quiet,rfl,rfl⟩
 have ol:∀ (g:Hp) (hm:g.mark=h2.next) (r off:Nat) (kk:C) (F:AFi) (e:Env),r<h2.next->JA (.pointer (some ⟨r,off,none⟩)) kk F e g=kk F e g:=fun g hm r off kk F e hr=>Dl (by rw[hm];exact hr)
 obtain⟨l0,_⟩:=Bw R1m;obtain⟨k0,_⟩:=Bw R2m;have w1:=wk g0 x2.wf (by omega) .weak 7 10 x.a y.a;obtain⟨z1,v1,u1⟩:=bk g0 x2.wf;generalize g0.back g0.quiet=g1 at w1 z1 v1 u1;have o1:=ol g1 (u1.trans mk);obtain⟨_,l1,_⟩:=Bw (R1m.ext x2.wf z1);obtain⟨_,k1,_⟩:=Bw (R2m.ext x2.wf z1);have w2:=wk g1 z1.wf (by omega) .weak 14 17 x.b y.b;obtain⟨z2',v2,u2⟩:=bk g1 z1.wf;generalize g1.back g1.quiet=g2 at w2 z2' v2 u2;have z2:=z1.trans z2';have o2:=ol g2 (by omega);obtain⟨_,_,l2,_⟩:=Bw (R1m.ext x2.wf z2);obtain⟨_,_,k2,_⟩:=Bw (R2m.ext x2.wf z2);have w3:=wk g2 z2.wf (by omega) .weak 21 24 x.c y.c;obtain⟨z3',v3,u3⟩:=bk g2 z2.wf;generalize g2.back g2.quiet=g3 at w3 z3' v3 u3;have z3:=z2.trans z3';have o3:=ol g3 (by omega);obtain⟨_,_,_,_,_,l5,_⟩:=Bw (R1m.ext x2.wf z3);obtain⟨_,_,_,_,_,k5,_⟩:=Bw (R2m.ext x2.wf z3);have w4:=wk g3 z3.wf (by omega) .free 27 29 x.p y.p;obtain⟨z4',v4,u4⟩:=bk g3 z3.wf;generalize g3.back g3.quiet=g4 at w4 z4' v4 u4;have z4:=z3.trans z4';have q5:∀ (F:AFi) (e:Env),J 11 e=AI AT (DR x.a y.a)->J 18 e=AI AT (DR x.b y.b)->J 25 e=AI AT (DR x.c y.c)->J 30 e=AI AT (DR x.p y.p)->Ad .AFz (As 4 (Bb ty3.zero 4) [(0,1,J 11),(1,1,J 18),(2,1,J 25),(3,1,J 30)]) F e g4=.ok (.slice (some ⟨g4.next,0,none⟩) 4 4) (g4.back (g4.quiet.AFh 0 (ints .i64 [DR x.a y.a,DR x.b y.b,DR x.c y.c,DR x.p y.p]))):=fun F e e1 e2 e3 e4=>Cp (Xo z4.wf.quiet e1 e2 e3 e4) ((Hp.Ext.refl z4.wf.quiet).AFh _ _) (by omega)
 have y5:g4.Ext (g4.back (g4.quiet.AFh 0 (ints .i64 [DR x.a y.a,DR x.b y.b,DR x.c y.c,DR x.p y.p]))):=.back ((Hp.Ext.refl z4.wf.quiet).AFh _ _);have R5:(g4.back (g4.quiet.AFh 0 (ints .i64 [DR x.a y.a,DR x.b y.b,DR x.c y.c,DR x.p y.p]))).Row g4.next 0 (ints .i64 [DR x.a y.a,DR x.b y.b,DR x.c y.c,DR x.p y.p]):=(Hp.Row.new z4.wf.quiet 0 (ints .i64 [DR x.a y.a,DR x.b y.b,DR x.c y.c,DR x.p y.p])).same rfl;generalize g4.back (g4.quiet.AFh 0 (ints .i64 [DR x.a y.a,DR x.b y.b,DR x.c y.c,DR x.p y.p]))=g5 at q5 y5 R5;have z5:=z4.trans y5;have k6:=xS (m:=m+1) (h:=g5.quiet) (v:=.slice (some ⟨g4.next,0,none⟩) 4 4) (zs:=[DR x.a y.a,DR x.b y.b,DR x.c y.c,DR x.p y.p]) (.inr ⟨g4.next,0,4,0,_,rfl,R5.same rfl,IT _,rfl⟩) (by show 4<=1000;omega);have q6:∀ e:Env,J 31 e=.slice (some ⟨g4.next,0,none⟩) 4 4->Ad .free (AU 116 [J 31]) (call AC (m+2)) e g5=.ok (AI AT (Ht x y)) (g5.back g5.quiet):=fun e e1=>by
  refine BO ?_;rw[BR,AV,A3,e1];exact k6
 refine⟨g5.back g5.quiet,?_,(x2.trans z5).trans (bk g5 z5.wf).1⟩;rw[pu rfl];unfold d75;have hx1:h.next<h2.next:=by omega
 have hx2:h1.next<h2.next:=by omega
 have o11:=fun off kk F e=>o1 h.next off kk F e hx1
 have o12:=fun off kk F e=>o1 h1.next off kk F e hx2
 have o21:=fun off kk F e=>o2 h.next off kk F e hx1
 have o22:=fun off kk F e=>o2 h1.next off kk F e hx2
 have o31:=fun off kk F e=>o3 h.next off kk F e hx1
 have o32:=fun off kk F e=>o3 h1.next off kk F e hx2
 simp only[iN,IS,sT,By,BY,reduceIte,b1,b2,A1,hg0,AH,AN,If,AAE,AM,AP,l0,k0,w1,ED,o11,o12,DV,l1,k1,w2,o21,o22,l2,k2,w3,o31,o32,l5,k5,w4,q5,q6,lV0]
theorem X9{body:C}{i:Nat}{e':Env}(hb:body F e h=.exit i e' h'):A9 body F e h=.exit i e' h':=by
 show iter body (8796093022207+1) F e h=_;unfold iter;rw[hb]
theorem PF:jsB=Xx:=rfl
theorem Uq:gj=Ur:=rfl
theorem wD(W:h.Wf)(K:h.KS S v ks)(hl:ks.length<=1000)(hs:∀ (i:Nat) (x y:Kt),ks[i]? =some x->ks[i+1]? =some y->0<=Ht y x):
  ∃ h',call AC (m+4) 136 [v,AI AT 0,AI AT (ks.length:Int),.func (.func 75) ⟨[]⟩ ⟨[]⟩] h=.ok AFl h'/\h.Ext h':=by
 have run:∀ e1:Env,J 0 e1=v->J 1 e1=AI AT 0->J 2 e1=AI AT (ks.length:Int)->J 3 e1=.func (.func 75) ⟨[]⟩ ⟨[]⟩->J 8 e1=AI AT ((1:Nat):Int)->∃ e' h',A9 jsB (call AC (m+3)) e1 h=.exit 0 e' h'/\h.Ext h':=fun e1 s0 s1 s2 s3 s8=>by
  refine Bh (I:=fun i e' h'=>h.Ext h'/\J 0 e'=v/\J 1 e'=AI AT 0/\J 2 e'=AI AT (ks.length:Int)/\J 3 e'=.func (.func 75) ⟨[]⟩ ⟨[]⟩/\J 8 e'=AI AT ((i+1:Nat):Int)) (Q:=fun x=>∃ e' h',x=.exit 0 e' h'/\h.Ext h') ks.length (by omega) (fun i e' h' ⟨x',t0,t1,t2,t3,t8⟩=>?_) ⟨.refl W,s0,s1,s2,s3,s8⟩;by_cases hlt:i+1<ks.length
  ·left
   have c1:iLt ((i+1:Nat):Int) (ks.length:Int)=true:=E9 hlt;have c2:iGt ((i+1:Nat):Int) 0=true:=GZ (by omega);obtain⟨y,hy⟩:∃ y,ks[i+1]? =some y:=⟨_,sh hlt⟩;obtain⟨x,hx⟩:∃ x,ks[i]? =some x:=⟨_,sh (by omega)⟩;have x1:=x'.marked;have K1:=K.ext W x1;obtain⟨b,_,ix,ld,_⟩:=K1.at hy;obtain⟨b',_,ix',ld',_⟩:=K1.at hx;have a1:Fv zX .i64 (AI AT ((i+1:Nat):Int)) (AI AT 1) h'.marked=.ok (AI AT (i:Int)) h'.marked:=by
    have:zX ((i+1:Nat):Int) 1=(i:Int):=by
     show((i+1:Nat):Int) - 1=_;omega
    rw[Cg,this,Bf (by omega)]
   obtain⟨h2,k2,x2⟩:=br (m:=m) x1.quiet.wf y x;have q2:∀ e:Env,J 22 e=.func (.func 75) ⟨[]⟩ ⟨[]⟩->J 26 e=ktV y->J 31 e=ktV x->Ad .free (EI (J 22) [J 26,J 31]) (call AC (m+3)) e h'.marked=.ok (AI AT (Ht y x)) (h'.marked.back h2):=fun e e1 e2 e3=>by
    refine BO ?_;rw[Ca,AV,AV,A3,e1,e2,e3];exact k2
   have y2:h'.marked.Ext (h'.marked.back h2):=.back x2;generalize h'.marked.back h2=h3 at q2 y2;have x3:=x1.trans y2;have c3:iLt (Ht y x) 0=false:=Fb (by have:=hs i x y hx hy;omega);have a3:Ez .i64 (AI AT ((i+1:Nat):Int)) (AI AT 1) h3=.ok (AI AT ((i+1+1:Nat):Int)) h3:=Cc (by omega);have inn:∀ e:Env,J 0 e=v->J 1 e=AI AT 0->J 3 e=.func (.func 75) ⟨[]⟩ ⟨[]⟩->J 9 e=AI AT ((i+1:Nat):Int)->∃ e2,jnB (call AC (m+3)) e h'=.exit 2 e2 h3/\∀ j,j=0\/j=1\/j=2\/j=3\/j=8->J j e2=J j e:=fun e t0 t1 t3 t9=>by
    unfold jnB Xw swB Aw;simp only[sT,By,BY,reduceIte,gD,A1,AK,AJ,t9,t1,c2,t3,t0,BB,ix,ix',Au,Am,ld,ld',B3,a1,q2,c3];refine⟨_,rfl,fun j hj=>?_⟩;rcases hj with rfl|rfl|rfl|rfl|rfl<;>simp only[AG,By,BY,reduceIte]
   obtain⟨e2,i1,i2⟩:=inn (Env.set 9 (AI AT ((i+1:Nat):Int)) (Env.set 14 (.bool true) e')) (by simp[AG,t0]) (by simp[AG,t1]) (by simp[AG,t3]) (by simp[AG]);have i1:=X9 i1;have g0:=i2 0 (by omega);have g1:=i2 1 (by omega);have g2:=i2 2 (by omega);have g3:=i2 3 (by omega);have g8:=i2 8 (by omega);simp only[AG,By,BY,reduceIte,t0]at g0;simp only[AG,By,BY,reduceIte,t1]at g1;simp only[AG,By,BY,reduceIte,t2]at g2;simp only[AG,By,BY,reduceIte,t3]at g3;simp only[AG,By,BY,reduceIte,t8]at g8;have hrun:∃ e3,jsB (call AC (m+3)) e' h'=.norm e3 h3/\J 0 e3=v/\J 1 e3=AI AT 0/\J 2 e3=AI AT (ks.length:Int)/\J 3 e3=.func (.func 75) ⟨[]⟩ ⟨[]⟩/\J 8 e3=AI AT ((i+1+1:Nat):Int):=by
    rw[PF];unfold Xx;simp only[sT,By,BY,reduceIte,AK,AJ,t8,t2,c1,i1,g8,BM,a3];exact⟨_,rfl,by simp[AG,g0,g1,g2,g3]⟩
   obtain⟨e3,r1,r2,r3,r4,r5,r6⟩:=hrun;exact⟨by omega,e3,h3,r1,x3,r2,r3,r4,r5,r6⟩
  ·right
   have c1:iLt ((i+1:Nat):Int) (ks.length:Int)=false:=DJ (by omega);have hrun:∃ e3,jsB (call AC (m+3)) e' h'=.exit 0 e3 h':=by
    rw[PF];unfold Xx;simp only[sT,By,BY,reduceIte,AK,AJ,t8,t2,c1];exact⟨_,rfl⟩
   obtain⟨e3,r1⟩:=hrun;rw[r1];exact⟨rfl,e3,h',rfl,x'⟩
 have a1:Ez .i64 (AI AT 0) (AI AT 1) h=.ok (AI AT ((1:Nat):Int)) h:=Cc (i:=0) (by omega);obtain⟨e2,h2,r1,x2⟩:=run (Env.set 8 (AI AT ((1:Nat):Int)) (Env.set 11 (AI AT ((1:Nat):Int)) (AS e0 0 [v,AI AT 0,AI AT (ks.length:Int),.func (.func 75) ⟨[]⟩ ⟨[]⟩]))) (by simp only[iN,IS,AG,By,BY,reduceIte]) (by simp only[iN,IS,AG,By,BY,reduceIte]) (by simp only[iN,IS,AG,By,BY,reduceIte]) (by simp only[iN,IS,AG,By,BY,reduceIte]) (by simp[AG]);simp only[iN,IS]at r1;refine⟨h2,?_,x2⟩;rw[UX rfl,Uq];unfold Ur;simp only[iN,IS,sT,By,BY,reduceIte,BM,a1,r1,EH,D6]
theorem Uf:gK=Uh:=rfl
theorem cC:pdB=j7:=rfl
theorem Ms{body:C}{e':Env}(hb:body F e h=.ret e' h'):A9 body F e h=.ret e' h':=by
 show iter body (8796093022207+1) F e h=_;unfold iter;rw[hb]
theorem Y7{x y:O}{n:Nat}{s:ByteArray}(hx:x e=.string s)(hy:y e=.int .u8 (n:Int))(hn:n<s.data.toList.length):∃ b:Nat,I8 x y F e h=.ok (.int .u8 (b:Int)) h/\b<256:=by
 have e1:I8 x y F e h=KP (x e) (De (y e)) h:=rfl;have e2:nth s.data.toList n=some (s.data.toList[n]'hn):=by rw[GO,sh hn]
 refine⟨(s.data.toList[n]'hn).toNat,?_,UInt8.toNat_lt _⟩;rw[e1,hx,hy,DI];unfold KP;simp only[e2];exact Er ..
theorem Oj{n:Nat}(hn:n<256):∃ k:Nat,call AC (m+2) 115 [.int .u64 (n:Int)] h=.ok (AI AT (k:Int)) h:=by
 have c1:iGe (n:Int) 4294967296=false:=E8 (by omega);have c2:iGe (n:Int) 65536=false:=E8 (by omega);have c3:iGe (n:Int) 256=false:=E8 (by omega);have v1:Di .u8 (.int .u64 (n:Int)) h=.ok (.int .u8 (n:Int)) h:=by rw[Cw,IY,Nat.mod_eq_of_lt hn]
 have key:∃ k:Nat,call AC (m+1) 145 [.int .u64 (n:Int)] h=.ok (AI AT (k:Int)) h:=by
  rw[fX rfl];unfold gk;simp only[iN,IS,sT,By,BY,reduceIte,AK,AJ,c1,c2,c3,CX,v1];obtain⟨b,hb,hlt⟩:=Y7 (F:=call AC m) (h:=h) (e:=Env.set 21 (.int .u8 (n:Int)) (Env.set 14 (.bool false) (Env.set 8 (.bool false) (Env.set 4 (.bool false) (Env.set 2 (AI AT 0) (Env.set 0 (.int .u64 (n:Int)) e0)))))) (x:=(kV (.string ⟨#[0,1,2,2,3,3,3,3,4,4,4,4,4,4,4,4,5,5,5,5,5,5,5,5,5,5,5,5,5,5,5,5,6,6,6,6,6,6,6,6,6,6,6,6,6,6,6,6,6,6,6,6,6,6,6,6,6,6,6,6,6,6,6,6,7,7,7,7,7,7,7,7,7,7,7,7,7,7,7,7,7,7,7,7,7,7,7,7,7,7,7,7,7,7,7,7,7,7,7,7,7,7,7,7,7,7,7,7,7,7,7,7,7,7,7,7,7,7,7,7,7,7,7,7,7,7,7,7,8,8,8,8,8,8,8,8,8,8,8,8,8,8,8,8,8,8,8,8,8,8,8,8,8,8,8,8,8,8,8,8,8,8,8,8,8,8,8,8,8,8,8,8,8,8,8,8,8,8,8,8,8,8,8,8,8,8,8,8,8,8,8,8,8,8,8,8,8,8,8,8,8,8,8,8,8,8,8,8,8,8,8,8,8,8,8,8,8,8,8,8,8,8,8,8,8,8,8,8,8,8,8,8,8,8,8,8,8,8,8,8,8,8,8,8,8,8,8,8,8,8,8,8,8,8,8,8]⟩))) (y:=J 21) (n:=n) rfl (by simp[AG]) (by
   refine Nat.lt_of_lt_of_eq hn ?_
   kernel_rfl)
  rw[hb];have v2:Di .i64 (.int .u8 (b:Int)) h=.ok (AI AT (b:Int)) h:=by rw[Cw,Bf (by omega)]
  have a2:Ez .i64 (AI AT 0) (AI AT (b:Int)) h=.ok (AI AT (b:Int)) h:=by
   have:=UK (h:=h) (a:=0) (b:=b) (by omega);rw[If]at this;exact this
  simp only[sT,By,BY,reduceIte,CX,v2,BM,a2,lV0];exact⟨b,rfl⟩
 obtain⟨k,hk⟩:=key;refine⟨k,?_⟩;rw[fF rfl];unfold gL;simp only[iN,IS,sT,By,BY,reduceIte,cA0,hk,lV0]
theorem kO(W:h.Wf)(K:h.KS S v ks)(hl:ks.length<=12)(hs:∀ (i:Nat) (x y:Kt),ks[i]? =some x->ks[i+1]? =some y->0<=Ht y x):
  ∃ h',call AC (m+6) 74 [v,.func (.func 75) ⟨[]⟩ ⟨[]⟩] h=.ok AFl h'/\h.Ext h':=by
 have ln:=K.len h;obtain⟨h2,k2,x2⟩:=wD (m:=m) W K (by omega) hs;obtain⟨k,kb⟩:=Oj (m:=m+3) (h:=h) (n:=ks.length) (by omega);have cv:Di .u64 (AI AT (ks.length:Int)) h=.ok (.int .u64 (ks.length:Int)) h:=by rw[Cw,Ee (by omega)]
 have a1:Fv zX .i64 (AI AT (ks.length:Int)) (AI AT 0) h=.ok (AI AT (ks.length:Int)) h:=by
  have:zX (ks.length:Int) 0=(ks.length:Int):=Int.sub_zero _;rw[Cg,this,Bf (by omega)]
 have c1:iLe (ks.length:Int) 12=true:=Hc (by omega);have pd:call AC (m+5) 114 [v,AI AT 0,AI AT (ks.length:Int),AI AT (k:Int),.func (.func 75) ⟨[]⟩ ⟨[]⟩] h=.ok AFl h2:=by
  have hb:∃ e2,pdB (call AC (m+4)) (Env.set 11 (.bool true) (Env.set 10 (.bool true) (AS e0 0 [v,AI AT 0,AI AT (ks.length:Int),AI AT (k:Int),.func (.func 75) ⟨[]⟩ ⟨[]⟩]))) h=.ret e2 h2:=by
   rw[cC];unfold j7;simp only[iN,IS,sT,By,BY,reduceIte,B3,a1,AK,AJ,c1,cA0,k2];exact⟨_,rfl⟩
  obtain⟨e2,r1⟩:=hb;have r1:=Ms r1;simp only[iN,IS]at r1;rw[UU rfl,Uf];unfold Uh;simp only[iN,IS,sT,By,BY,reduceIte,r1,BI,D6]
 refine⟨h2,?_,x2⟩;rw[ZS rfl];unfold d74;simp only[iN,IS,sT,By,BY,reduceIte,Ah,ln,CX,cv,cA0,kb,pd,EH,D6]
end
end
end Go.Proofs.YtbjadbhkogcfeaaGreat

/-
  Part ZM of what Lawru stands on: printed by program, names and spaces cut.
-/
import Derived.Test.YtedbmmfebjfibaaGreatZL
open Nat renaming reduceEqDiff→AI,reduceLT→AT,reduceAdd→By,le_refl→IN,zero_add→sh,succ→vD,ble→vJ,beq→vO,lt_or_ge→vd,zero_le→vi,mul→vr,add_eq→wd,add_zero→xM,zero_mul→yd,min_eq_left→yz,mul_zero→ABw
open Go renaming Value→BY,IntKind→vQ
open List renaming length_append→IT,length_map→If,getElem?_eq_getElem→No,getD_eq_getElem?_getD→OF,mem_cons_self→vG,mem_cons_of_mem→vH,length_cons→vI,replicate→vL,mem_singleton→vM,mem_of_getElem?→vN,getElem?_append_left→vP,append_nil→vR,getElem?_eq_some_iff→vW,mem_append→va,getElem?_append_right→ve,length_take→vp,map_append→v8,length_nil→wB,getElem?_cons_succ→wE,range→wI,nil_append→wL,drop_zero→wM,drop_of_length_le→wR,length_singleton→wU,drop_eq_getElem_cons→wY,take_length→wh,range_succ→xU,nodup_cons→xn,singleton_append→yI,eq_of_mem_replicate→yy,any_cons→zf,length_range→AAL,find?_cons_of_neg→AAw,take_take→AA8,drop→ACP,map_nil→ACY
open Int renaming sub→wA,ofNat→wC
set_option linter.unusedVariables false
set_option linter.unusedSimpArgs false
namespace Go.Proofs.YtedbmmfebjfibaaGreat
noncomputable section
open Go
set_option maxRecDepth 100000
theorem Dn{h:Hp}{b b' el el':Nat}{L L':List BY}(r:h.Row b el L)(r':h.Row b' el' L')(he:el≠el'):b≠b':=fun hb=>by
 subst hb;obtain⟨_,e1,_⟩:=r;obtain⟨_,e2,_⟩:=r';rw[e1]at e2;injection e2 with _ _ e3
 exact he e3
def Hp.Cl(h:Hp)(S:Nat→Prop)(en:Nat)(v:BY)(xs:List BY):Prop:=(v=ADj∧xs=[])∨∃ b el,v=.slice (some ⟨b,0,none⟩) xs.length xs.length∧h.Row b el xs∧(el=en+1∨el=0∧xs=[])∧S b∧256≤b
section
variable {F:ADS}{e:Env}{h h0 h':Hp}{S:Nat→Prop}{en:Nat}{v u:BY}{xs:List BY}
theorem Hp.Cl.vs(o:h.Cl S en v xs):h.VS S v xs:=by
 rcases o with h1|⟨b,el,h1,h2,h3,h4,h5⟩
 ·exact .inl h1
 ·exact .inr ⟨b,0,_,el,xs,h1,IN _,h2,by omega,by rw[wM,wh],h4⟩
theorem ET{es eb b n:Nat}{cs:List BY}(x0:h0.Ext h)(r:h.Row b 0 [])(hs:∀ k:List BY→R,BH h es u n k=k cs)(hlv:lenV u=.ok n)(hlen:cs.length=n*es)(hn:0<n)(ha:Bd cs=true)(hm:(n+1)*(eb+1)≤1099511627776):
  ∃ h',DQ es eb en (.slice (some ⟨b,0,none⟩) 0 0) u h=.ok (.slice (some ⟨h.next,0,none⟩) n n) h'∧h0.Ext h'∧h'.Row h.next (en+1) cs∧h'.next=h.next+1∧h.Ext h'∧h'.mark=h.mark∧h'.low=h.low∧h'.high=h.high:=by
 have W:=x0.wf;obtain⟨cc,hcc,hl⟩:=r.rowOf;obtain⟨t,h2,h3⟩:=Dw cs cc [] 0 hl (.inr rfl);have h3:t.Is cs:=by simpa using h3
 refine⟨h.push (.cells t cs.length (en+1)),?_,x0.push _,⟨t,by rw[W.ADs,if_pos rfl],h3⟩,rfl,(Hp.Ext.refl W).push _,rfl,rfl,rfl⟩;unfold DQ Db;simp only[hlv,hs,AZ,wd,sh];have e1:vJ n 0=false:=by
  cases e:vJ n 0
  ·rfl
  ·have:=Ab.1 e;omega
 have e2:vJ (vr (vD n) (vD eb)) JN=true:=Ab.2 (Hw hm);rw[e1];simp only[e2,cond_true,ha];unfold Gw;have hcc:rowOf h b=.ok cc 0 0:=hcc;have e3:vO 0 (vr 0 es)=true:=Am.2 (yd es).symm;simp only[hcc,e3,h2];unfold Ep;simp only[hcc,BI,wd,sh];unfold CE;rw[AZ,Cp W];rfl
theorem HU{es eb b:Nat}(W:h.Wf)(ADg:256≤b)(r:h.Row b 0 [])(hs:∀ k:List BY→R,BH h es u 0 k=k [])(hlv:lenV u=.ok 0):
  DQ es eb en (.slice (some ⟨b,0,none⟩) 0 0) u h=.ok (.slice (some ⟨b,0,none⟩) 0 0) (h.wr b 0 []):=by
 unfold DQ Db;simp only[hlv,hs,AZ,wd];have e1:vJ 0 0=true:=rfl;have e0:0+0=0:=rfl;simp only[e0,e1];have e2:Ey ⟨b,0,none⟩ (vr 0 es)=⟨b,0,none⟩:=by
  rw[show vr 0 es=0 from yd es];rfl
 rw[e2,r.store W ADg (by simp) rfl]
theorem Hp.Row.AFi{es b el off n c sl:Nat}{l:List BY}(r:h.Row b el l)(ho:off+n*es≤l.length){k:List BY→R}:BH h es (.slice (some ⟨b,off,none⟩) sl c) n k=k ((l.drop off).take (n*es)):=by
 obtain⟨cc,hc,hl⟩:=r.rowOf;unfold BH;simp only[hc];have e:vr n es=n*es:=rfl;rw[e];simp only[wd];rw[Ab.2 ho];simp only[cond_true,Fo,vR,Is.AEo hl off _ ho]
theorem JO{t el:Nat}{k:TK}{g:O}{a:Addr}{n c:Nat}(hk:k=.slice el)(hg:g e=.slice (some a) n c):oEq k false g (kV (.slice none 0 0)) F e h=.ok (.bool false) h:=by
 subst hk;show(match eqV (.slice el) (g e) (.slice none 0 0)with|some r=>okB (false != r) h|none=>.no)=_;rw[hg];exact F7
theorem JP{t el:Nat}{k:TK}{g:O}(hk:k=.slice el)(hg:g e=.slice none 0 0):oEq k false g (kV (.slice none 0 0)) F e h=.ok (.bool true) h:=by
 subst hk;show(match eqV (.slice el) (g e) (.slice none 0 0)with|some r=>okB (false != r) h|none=>.no)=_;rw[hg];exact F7
theorem J3{t:List BY}(W:h.Wf):Ak 0 (BO t 0) [] F e h=.ok (.slice (some ⟨h.next,0,none⟩) 0 0) (h.ADR 0 []):=by
 have:BO t 0=[]:=rfl;rw[this,Ce,CP,Cv W];rfl
end
section
variable {h0 h:Hp}{u:BY}{es eb en:Nat}{cs vs:List BY}
theorem Ou(x0:h0.Ext h)(hs:∀ k:List BY→R,BH h es u 1 k=k vs)(hlv:lenV u=.ok 1)(hv:vs.length=es)(ha:Bd vs=true)(hm:2*(eb+1)≤70368744177664):
  ∃ h',DQ es eb en ADj u h=.ok (.slice (some ⟨h.next,0,none⟩) 1 1) h'∧h0.Ext h'∧h'.Row h.next (en+1) vs∧h'.next=h.next+1∧(h'.mark=h.mark∧h'.low=h.low∧h'.high=h.high)∧h.Ext h':=by
 have W:=x0.wf;obtain⟨t1,t2⟩:=HV vs;refine⟨h.push (.cells (ofL vs) vs.length (en+1)),?_,x0.push _,⟨ofL vs,by rw[W.ADs,if_pos rfl],t2⟩,rfl,⟨rfl,rfl,rfl⟩,(Hp.Ext.refl W).push _⟩;unfold DQ Db;simp only[hlv,hs,AZ,wd,sh];have e1:vJ 1 0=false:=rfl;have e2:vJ (vr (vD 1) (vD eb)) JN=true:=Ab.2 hm;simp only[e1,e2,cond_true,ha];unfold Gw BH JH;simp only[wL,t1];unfold Ep;simp only[BI];unfold CE;rw[AZ,Cp W];rfl
theorem MD{n b:Nat}(x0:h0.Ext h)(hs:∀ k:List BY→R,BH h es u 1 k=k vs)(hlv:lenV u=.ok 1)(hv:vs.length=es)(hes:0<es)(ha:Bd vs=true)(r:h.Row b (en+1) cs)(hlen:cs.length=n*es)(hb:h0.next≤b)(hb2:256≤b)(hm:(n+2)*(eb+1)≤70368744177664):
  ∃ h',DQ es eb en (.slice (some ⟨b,0,none⟩) n n) u h=.ok (.slice (some ⟨h.next,0,none⟩) (n+1) (n+1)) h'∧h0.Ext h'∧h'.Row h.next (en+1) (cs++vs)∧h'.next=h.next+1∧(h'.mark=h.mark∧h'.low=B4 h.low b∧h'.high=Co h.high b)∧∀ b' el L,b'≠b→h.Row b' el L→h'.Row b' el L:=by
 have W:=x0.wf;obtain⟨cc,hcc,hl⟩:=r.rowOf;obtain⟨t,h2,h3⟩:=Dw vs cc cs cs.length hl (.inr rfl);have h3:t.Is (cs++vs):=by
  have e:cs.drop (cs.length+vs.length)=[]:=wR (by omega);rw[e]at h3
  simpa using h3
 have AFX:(cs++vs).length=cs.length+vs.length:=IT;have hlt:=r.lt W;have W1:(h.put b .dead).Wf:=W.put hlt _;have x2:h0.Ext (h.put b .dead):=x0.put hb hlt _;refine⟨(h.put b .dead).push (.cells t (cs.length+vs.length) (en+1)),?_,x2.push _,⟨t,by
  have:=W1.ADs (.cells t (cs.length+vs.length) (en+1)) h.next;rw[this,if_pos (show h.next=(h.put b .dead).next from rfl),AFX],h3⟩,rfl,⟨rfl,rfl,rfl⟩,fun b' el' L' hne r'=>?_⟩
 ·unfold DQ Db
  simp only[hlv,hs,AZ,wd];have e1:vJ (n+1) n=false:=by
   cases e:vJ (n+1) n
   ·rfl
   ·have:=Ab.1 e;omega
  have e2:vJ (vr (vD (n+1)) (vD eb)) JN=true:=Ab.2 hm;rw[e1];simp only[e2,cond_true,ha];unfold Gw;have e3:vO cs.length (vr n es)=true:=Am.2 hlen;simp only[hcc,e3,h2];unfold Ep;have e4:Kf 0 n es cs.length=true:=by
   unfold Kf;cases n with
   |zero=>rfl
   |succ m=>exact Am.2 (by show 0+(m+1)*es=cs.length;omega)
  simp only[hcc,BI,wd,Nat.beq_refl,cond_true,e4];rw[Df W hb2 hlt];unfold CE;rw[AZ,Cp W1];rfl
 ·have hb':b'<h.next:=r'.lt W
  obtain⟨c',hc',hl'⟩:=r';refine⟨c',?_,hl'⟩;rw[W1.ADs,if_neg (by show b'≠h.next;omega),W.AD0 hlt,if_neg hne,hc']
end
theorem PV{g:Hp}{a lo hi:Nat}(h1:a≤lo)(h2:hi≤a):K5 (.ok a) g lo hi=true:=by
 show(bif vJ a lo then vJ hi a else false)=true;rw[Ab.2 h1,Ab.2 h2];rfl
theorem Xv{h0 h:Hp}{S:Nat→Prop}{eb en:Nat}{v w:BY}{xs:List BY}{bw:Nat}(x0:h0.Ext h)(o:h.Cl S en v xs)(hS:∀ b,S b→h0.next≤b)(rw_:h.Row bw 0 [w])(hw:oneCell w=true)(hl:xs.length≤1000000)(he:eb≤1000):
  ∃ h' b',DQ 1 eb en v (.slice (some ⟨bw,0,none⟩) 1 1) h=.ok (.slice (some ⟨b',0,none⟩) (xs.length+1) (xs.length+1)) h'∧h0.Ext h'∧h'.Row b' (en+1) (xs++[w])∧b'=h.next∧h'.next=h.next+1∧h'.mark=h.mark∧(∀ b el L,¬ S b→h.Row b el L→h'.Row b el L)∧(∀ b el L,el≠en+1→h.Row b el L→h'.Row b el L)∧
   (h.low=h.next→h.high=0→∀ g:Hp,g.next=h.next→K5 (AD3 v) g h'.low h'.high=true):=by
 have hs:∀ k,BH h 1 (.slice (some ⟨bw,0,none⟩) 1 1) 1 k=k [w]:=fun k=>rw_.AFi (es:=1) (off:=0) (n:=1) (by show 0+1*1≤1;omega)
 have ha:Bd [w]=true:=by
  show(bif oneCell w then true else false)=true;rw[hw];rfl
 have hm:(xs.length+2)*(eb+1)≤70368744177664:=by
  have:(xs.length+2)*(eb+1)≤1000002*1001:=Nat.mul_le_mul (by omega) (by omega);omega
 rcases o with ⟨rfl,rfl⟩|⟨b,el,rfl,r,hel,hb,ADg⟩
 ·obtain⟨h5,a1,a2,a3,a4,⟨a5,a7,a8⟩,a6⟩:=Ou (eb:=eb) (en:=en) x0 hs rfl rfl ha (by have:=hm;simp only[wB]at this;omega)
  exact⟨h5,h.next,a1,a2,a3,rfl,a4,a5,fun b el L _ r=>r.ext x0.wf a6,fun b el L _ r=>r.ext x0.wf a6,fun hlo hhi g hg=>by
   show vJ g.next h5.low=true;rw[a7,hlo,hg];exact Ab.2 (IN _)⟩
 ·have hlt:=r.lt x0.wf
  rcases hel with rfl|⟨rfl,rfl⟩
  ·obtain⟨h5,a1,a2,a3,a4,⟨a5,a7,a8⟩,a6⟩:=MD (eb:=eb) (en:=en) (n:=xs.length) x0 hs rfl rfl (by omega) ha r (Nat.mul_one _).symm (hS b hb) ADg hm
   refine⟨h5,h.next,a1,a2,a3,rfl,a4,a5,fun b' el L hne r'=>a6 _ _ _ (fun e=>hne (e ▸ hb)) r',fun b' el L h2 r'=>a6 _ _ _ (Dn r' r h2) r',fun hlo hhi g hg=>?_⟩;have e1:h5.low=b:=by rw[a7,hlo,BJ];omega
   have e2:h5.high=b:=by rw[a8,hhi,Bw];omega
   rw[e1,e2];exact PV (IN _) (IN _)
  ·obtain⟨h5,a1,a2,a3,a4,a6,a5,a7,a8⟩:=ET (eb:=eb) (en:=en) (n:=1) x0 r hs rfl rfl (by omega) ha (by have:=hm;simp only[wB]at this;omega)
   refine⟨h5,h.next,a1,a2,a3,rfl,a4,a5,fun b' el L _ r'=>r'.ext x0.wf a6,fun b' el L _ r'=>r'.ext x0.wf a6,fun hlo hhi g hg=>?_⟩;rw[a7,a8,hlo,hhi];show K5 (.ok b) g h.next 0=true;exact PV (by omega) (vi _)
theorem Te{h h':Hp}{F:ADS}{e:Env}{x y:O}{eb en:Nat}{v u w:BY}(hx:x e=v)(hy:y e=u)(ha:DQ 1 eb en v u h.quiet=.ok w h')(hk:K5 (AD3 v) h h'.low h'.high=true):NA x (Bi 1 eb en x y) F e h=.ok w (h.back h'):=by
 show(match Bi 1 eb en x y F e h.quiet with|.ok v h'=>bif K5 (AD3 (x e)) h h'.low h'.high then Dz h v h' else .no|.no=>.no)=_;rw[BG,hx,hy,ha];show(bif K5 (AD3 v) h h'.low h'.high then Dz h w h' else .no)=_;rw[hk];show Dz h w h'=_;unfold Dz;simp only[AZ];rfl
inductive AD6 where
 |w (i:Nat) (l:List Nat)
 |f
def A5:List Nat:=vL 64 0
def IE(h:Hp)(A:At)(S:Nat→Prop)(v:BY):AD6→Prop
 |.w i l=>(∃ r3 r10 r9 u,v=.func (.func 74) ⟨[]⟩ ⟨[pt r3,pt r10,pt r9]⟩∧h.Row r3 0 [pt A.bs]∧h.Row r10 0 [.int .i64 (i:Int)]∧h.Row r9 0 [u]∧h.BS S u (l.map bv)∧S r3∧S r10∧S r9)∨
  (∃ r2 r7 p,v=.func (.func 83) ⟨[]⟩ ⟨[pt r2,pt r7]⟩∧h.Row r2 0 [pt A.bs]∧h.Row r7 0 [.int .i64 ((p:Nat):Int)]∧i=p*3∧p≤65536∧l=A5∧S r2∧S r7)
 |.f=>v=.func (.func 76) ⟨[pt A.bd]⟩ ⟨[]⟩
theorem Hp.BS.AEW{h h':Hp}{S S':Nat→Prop}{v:BY}{xs:List BY}(o:h.BS S v xs)(hk:∀ b el L,S b→(el=0∨el=6)→h.Row b el L→h'.Row b el L∧S' b):h'.BS S' v xs:=by
 rcases o with h1|⟨b,off,c,el,L,h1,h2,h3,h4,h5,h6,h7⟩
 ·exact .inl h1
 ·exact .inr ⟨b,off,c,el,L,h1,h2,(hk _ _ _ h6 h7 h3).1,h4,h5,(hk _ _ _ h6 h7 h3).2,h7⟩
theorem IE.AEW{h h':Hp}{A:At}{S S':Nat→Prop}{v:BY}{d:AD6}(o:IE h A S v d)(hr:∀ b el L,S b→(el=0∨el=6)→h.Row b el L→h'.Row b el L∧S' b):IE h' A S' v d:=by
 cases d with
 |f=>exact o
 |w i l=>
  have hr0:=fun b L hs r=>hr b 0 L hs (.inl rfl) r
  rcases o with ⟨r3,r10,r9,u,h1,h2,h3,h4,h5,h6,h7,h8⟩|⟨r2,r7,p,h1,h2,h3,h4,h5,h6,h7,h8⟩
  ·exact .inl ⟨r3,r10,r9,u,h1,(hr0 _ _ h6 h2).1,(hr0 _ _ h7 h3).1,(hr0 _ _ h8 h4).1,h5.AEW hr,(hr0 _ _ h6 h2).2,(hr0 _ _ h7 h3).2,(hr0 _ _ h8 h4).2⟩
  ·exact .inr ⟨r2,r7,p,h1,(hr0 _ _ h7 h2).1,(hr0 _ _ h8 h3).1,h4,h5,h6,(hr0 _ _ h7 h2).2,(hr0 _ _ h8 h3).2⟩
theorem YU{h:Hp}{A:At}{S:Nat→Prop}{v:BY}{d:AD6}(o:IE h A S v d):oneCell v=true:=by
 cases d with
 |f=>have o:v=_:=o;rw[o];rfl
 |w i l=>rcases o with ⟨r3,r10,r9,u,h1,_⟩|⟨r2,r7,p,h1,_⟩<;>rw[h1]<;>rfl
abbrev F2(h:Hp)(A:At)(v:BY)(d:AD6):Prop:=IE h A (fun b=>¬ A.D b) v d
def DO(n:Nat):List (Nat×List Nat)→List AD6→Prop
 |_,[]=>True
 |cs,.w i l::ds=>(∀ x∈cs,x.1≠i)∧i<n∧l.length=64∧(∀ x∈l,x<256)∧DO n (cs++[(i,l)]) ds
 |cs,.f::ds=>cs≠[]∧cs.length≤60∧DO n [] ds
def BN:List Nat→List (Nat×List Nat)→List AD6→List Nat×List (Nat×List Nat)
 |M,cs,[]=>(M,cs)
 |M,cs,.w i l::ds=>BN M (cs++[(i,l)]) ds
 |M,cs,.f::ds=>BN (Er M cs) [] ds
structure Sc (h:Hp)(A:At)(T:List Nat)(ks:List Kt)(fr:List Nat)(lv fv:BY)(bad:Nat)(ov:Bool):Prop where
 row:h.Row A.bs 0 (slL A.bd A.tb lv fv bad ov)
 tab:h.Row A.tb 0 (T.map wv)
 tok:AEM T
 ls:h.KS (fun b=>¬ A.D b) lv ks
 ko:∀ k∈ks,AFm h (fun b=>¬ A.D b) k
 fs:h.WI (fun b=>¬ A.D b) fv (ints .i64 (fr.map wC))
 ne:A.bs≠A.bd∧A.bs≠A.bm∧A.bs≠A.bc∧¬ A.D A.tb∧256≤A.bs
 le:ks.length≤1000∧fr.length≤1000∧bad≤1000∧∀ p∈fr,3*p+3≤A.n
section
variable {F:ADS}{e:Env}{h h':Hp}{A:At}{T M:List Nat}{c0 bad m:Nat}{arm:Int}{ks:List Kt}{fr:List Nat}{lv fv:BY}{ov:Bool}
theorem Sl.sc(s:Sl h A T M c0 arm ks fr lv fv bad ov):Sc h A T ks fr lv fv bad ov:=⟨s.row,s.tab,s.tok,s.ls,s.ko,s.fs,s.ne,s.le⟩
theorem Sc.sl(s:Sc h A T ks fr lv fv bad ov)(d:Dk h A.bd A.bm A.bc A.n M c0 [] arm false):Sl h A T M c0 arm ks fr lv fv bad ov:=⟨s.row,d,s.tab,s.tok,s.ls,s.ko,s.fs,s.ne,s.le⟩
theorem Sc.keep(s:Sc h A T ks fr lv fv bad ov)(hr:∀ b el L,b≠A.bd→b≠A.bm→b≠A.bc→h.Row b el L→h'.Row b el L):Sc h' A T ks fr lv fv bad ov:=by
 have nd:∀ b,¬ A.D b→b≠A.bd∧b≠A.bm∧b≠A.bc:=fun b hb=>⟨fun e=>hb (.inr (.inl e)),fun e=>hb (.inr (.inr (.inl e))),fun e=>hb (.inr (.inr (.inr e)))⟩
 have ht:=nd _ s.ne.2.2.2.1;exact⟨hr _ _ _ s.ne.1 s.ne.2.1 s.ne.2.2.1 s.row,hr _ _ _ ht.1 ht.2.1 ht.2.2 s.tab,s.tok,s.ls.keep fun b _ _ hb r=>hr _ _ _ (nd b hb).1 (nd b hb).2.1 (nd b hb).2.2 r,fun k hk=>⟨(s.ko k hk).1.keep fun b _ _ hb _ r=>hr _ _ _ (nd b hb).1 (nd b hb).2.1 (nd b hb).2.2 r,(s.ko k hk).2⟩,s.fs.keep fun b _ _ hb r=>hr _ _ _ (nd b hb).1 (nd b hb).2.1 (nd b hb).2.2 r,s.ne,s.le⟩
abbrev At.K(A:At):Nat→Prop:=fun b=>b=A.bd∨b=A.bm∨b=A.bc
theorem Sc.fx(s:Sc h A T ks fr lv fv bad ov)(W:h.Wf)(x:Fx A.K h h'):Sc h' A T ks fr lv fv bad ov:=s.keep fun b el L h1 h2 h3 r=>x.row W r (by rintro (h|h|h)<;>contradiction)
theorem F2.keep{v:BY}{d:AD6}(o:F2 h A v d)(hbs:True)(hr:∀ b el L,¬ A.D b→h.Row b el L→h'.Row b el L):F2 h' A v d:=o.AEW fun b el L hb _ r=>⟨hr b el L hb r,hb⟩
theorem Su{b:Nat}(h:¬ A.D b):¬ A.K b:=fun h1=>h (.inr h1)
theorem Tv(W:h.Wf)(R:h.Row A.bs 0 (slL A.bd A.tb lv fv bad ov))(hne:¬ A.K A.bs){cs:List (Nat×List Nat)}(d:Dk h A.bd A.bm A.bc A.n M c0 cs arm false){k:Nat}(ha:Gs arm (k+1)){v:BY}{i:Nat}{l:List Nat}(o:F2 h A v (.w i l))(hi:i<A.n)(hc:∀ x∈cs,x.1≠i∧x.1<A.n)(hl:l.length=64):
  ∃ h',G8 (call AD (m+4)) v [] h=.ok (.int .i64 0) h'∧Fx A.K h h'∧Dk h' A.bd A.bm A.bc A.n M c0 (cs++[(i,l)]) (AEe arm) false:=by
 rcases o with ⟨r3,r10,r9,u,rfl,h2,h3,h4,h5,h6,h7,h8⟩|⟨r2,r7,p,rfl,h2,h3,rfl,h5,rfl,h7,h8⟩
 ·obtain⟨l0,_⟩:=A7 (R.same (h':=h.marked) rfl)
  have m3:ADW ⟨r3,0,none⟩ h.marked=.ok (pt A.bs) h.marked:=(h2.same (h':=h.marked) rfl).ADW (off:=0) (by show 0<1;omega);have m10:ADW ⟨r10,0,none⟩ h.marked=.ok (.int .i64 (i:Int)) h.marked:=(h3.same (h':=h.marked) rfl).ADW (off:=0) (by show 0<1;omega);have m9:ADW ⟨r9,0,none⟩ h.marked=.ok u h.marked:=(h4.same (h':=h.marked) rfl).ADW (off:=0) (by show 0<1;omega);obtain⟨h1,k1,f1,d1⟩:=SB (m:=m) W.marked.quiet (d.same (h':=h.marked.quiet) rfl) ha hi hc ((h5.vs.same (h':=h.marked.quiet) rfl).mono fun b hb e=>hb (.inr (.inl e))) hl;have q1:∀ e:Env,AB 7 e=pt A.bd→AB 8 e=.int .i64 (i:Int)→AB 9 e=u→Al .free (AU 75 [AB 7,AB 8,AB 9]) (call AD (m+3)) e h.marked=.ok (.int .i64 0) (h.marked.back h1):=fun e e1 e2 e3=>by
   refine BQ ?_;rw[BV,AW,AW,AW,Az,e1,e2,e3];exact k1
  refine⟨h.marked.back h1,?_,((f1.mono (T:=A.K) fun b hb=>hb.elim .inl fun h=>.inr (.inr h)).from (h:=h.marked) rfl rfl).same (h2:=h.marked.back h1) rfl rfl |>.from (h:=h) rfl rfl,d1.same rfl⟩;rw[B9];show call AD (m+3+1) 74 [pt r3,pt r10,pt r9] h=_;rw[Xj rfl];unfold d74;simp only[iN,By,sT,AT,AI,reduceIte,A3,AN,AQ,m3,Ao,Ae,AJ,AO,sh,l0,m10,m9,q1,lV0]
 ·have m2:ADW ⟨r2,0,none⟩ h.marked=.ok (pt A.bs) h.marked:=(h2.same (h':=h.marked) rfl).ADW (off:=0) (by show 0<1;omega)
  have m7:ADW ⟨r7,0,none⟩ h.marked=.ok (.int .i64 (p:Int)) h.marked:=(h3.same (h':=h.marked) rfl).ADW (off:=0) (by show 0<1;omega);obtain⟨l0,_⟩:=A7 (R.same (h':=h.marked) rfl);have o1:∀ (off:Nat) (kk:C) (F:ADS) (e:Env),Ih (.pointer (some ⟨r2,off,none⟩)) kk F e h.marked=kk F e h.marked:=fun off kk F e=>DZ (h2.lt W)
  have o2:∀ (off:Nat) (kk:C) (F:ADS) (e:Env),Ih (.pointer (some ⟨A.bs,off,none⟩)) kk F e h.marked=kk F e h.marked:=fun off kk F e=>DZ (R.lt W)
  have k1:=Lg (m:=m+1) (R.same (h':=h.marked.quiet) rfl) (p:=p) h5;have q1:∀ e:Env,AB 7 e=pt A.bs→AB 8 e=.int .i64 (p:Int)→Al .weak (AU 46 [AB 7,AB 8]) (call AD (m+3)) e h.marked=.ok (.int .i64 ((p*3:Nat):Int)) (h.marked.back h.marked.quiet):=fun e e1 e2=>by
   refine GL W.marked ?_ (IN _);rw[BV,AW,AW,Az,e1,e2];exact k1
  have y2:h.Ext (h.marked.back h.marked.quiet):=Hp.Ext.AEc (Hp.Ext.refl W).marked (Hp.Ext.refl W).marked.quiet;have n2:(h.marked.back h.marked.quiet).next=h.next:=rfl;have b2:(h.marked.back h.marked.quiet).bl=h.bl:=rfl;have mk2:(h.marked.back h.marked.quiet).mark=h.next:=rfl;generalize h.marked.back h.marked.quiet=h2' at q1 y2 n2 b2 mk2;have qm:∀ (F:ADS) (e:Env),Al .ADk (GJ 1 ty5.zero (kV (.int .i64 64)) (kV (.int .i64 64))) F e h2'=.ok (.slice (some ⟨h2'.next,0,none⟩) 64 64) (h2'.back (h2'.quiet.ADR 0 (A5.map bv))):=fun F e=>by
   have:=LR (F:=F) (e:=e) y2.quiet.wf (x:=kV (.int .i64 64)) (y:=kV (.int .i64 64)) (N:=64) rfl rfl (by omega);have hz:vL 64 0=A5:=rfl;exact DF this ((Hp.Ext.refl y2.quiet.wf).ADR _ _) (by omega)
  have y3:h2'.Ext (h2'.back (h2'.quiet.ADR 0 (A5.map bv))):=.back ((Hp.Ext.refl y2.wf.quiet).ADR _ _);have R3:(h2'.back (h2'.quiet.ADR 0 (A5.map bv))).Row h2'.next 0 (A5.map bv):=(Hp.Row.new y2.wf.quiet 0 (A5.map bv)).same rfl;have n3:(h2'.back (h2'.quiet.ADR 0 (A5.map bv))).next=h2'.next+1:=rfl;generalize h2'.back (h2'.quiet.ADR 0 (A5.map bv))=h3' at qm y3 R3 n3;have x3:=y2.trans y3;have hbd:=(d.lt W).1;have AJ8:A5.length=64:=rfl;obtain⟨h4,k4,f4,d4⟩:=SB (m:=m) x3.wf.quiet ((d.ext W x3).same (h':=h3'.quiet) rfl) ha hi hc (u:=.slice (some ⟨h2'.next,0,none⟩) 64 64) (l:=A5) (.inr ⟨h2'.next,0,64,0,_,rfl,IN _,R3.same rfl,IN _,rfl,by omega⟩) rfl;have q4:∀ e:Env,AB 6 e=pt A.bd→AB 9 e=.int .i64 ((p * 3:Nat):Int)→AB 10 e=.slice (some ⟨h2'.next,0,none⟩) 64 64→Al .free (AU 75 [AB 6,AB 9,AB 10]) (call AD (m+3)) e h3'=.ok (.int .i64 0) (h3'.back h4):=fun e e1 e2 e3=>by
   refine BQ ?_;rw[BV,AW,AW,AW,Az,e1,e2,e3];exact k4
  refine⟨h3'.back h4,?_,(Fx.of (S:=A.K) x3).trans (((f4.mono (T:=A.K) fun b hb=>hb.elim .inl fun h=>.inr (.inr h)).from (h:=h3') rfl rfl).same (h2:=h3'.back h4) rfl rfl),d4.same rfl⟩;rw[B9];show call AD (m+3+1) 83 [pt r2,pt r7] h=_;rw[Xo rfl];unfold d83;simp only[iN,By,sT,AT,AI,reduceIte,A3,D0,o1,o2,DT,AN,AQ,m2,Ao,Ae,AJ,AO,sh,l0,m7,q1,qm,q4,lV0]
theorem XI:alS=BK (Ad 0 (Ay alB)) alE:=rfl
theorem YE:d47=Vo:=rfl
theorem Nz(M:List Nat)(cs:List (Nat×List Nat))(d:AD6)(ds:List AD6):BN M cs (d::ds)=BN (match d with|.w _ _=>M|.f=>Er M cs) (match d with|.w i l=>cs++[(i,l)]|.f=>[]) ds:=by cases d<;>rfl
theorem iM(W:h.Wf)(R:h.Row A.bs 0 (slL A.bd A.tb lv fv bad ov))(hne:¬ A.K A.bs)(d:Dk h A.bd A.bm A.bc A.n M c0 [] arm false){ds:List AD6}{vs:List BY}{dv:BY}(V:h.VS (fun b=>¬ A.D b) dv vs)(hlen:vs.length=ds.length)(hd:∀ (i:Nat) (v:BY) (x:AD6),vs[i]? =some v→ds[i]? =some x→F2 h A v x)(hok:DO A.n [] ds)(ha:Gs arm ds.length)(AFD:ds.length≤100):
  ∃ h' c1 ADu,call AD (m+5) 47 [pt A.bs,dv] h=.ok (.int .i64 0) h'∧Fx A.K h h'∧Dk h' A.bd A.bm A.bc A.n (BN M [] ds).1 c1 (BN M [] ds).2 ADu false∧ADu=(wI ds.length).foldl (fun a _=>AEe a) arm:=by
 have Vl:=V.vals.len;have pre:∃ e1,Vo (call AD (m+4)) (AS e0 0 [pt A.bs,dv]) h=alS (call AD (m+4)) e1 h∧AB 0 e1=pt A.bs∧AB 8 e1=dv∧AB 9 e1=.int .i64 (vs.length:Int)∧AB 10 e1=.int .i64 ((0:Nat):Int):=by
  unfold Vo;simp only[iN,By,sT,AT,AI,reduceIte,Af,Vl];exact⟨_,rfl,by simp[AF]⟩
 obtain⟨e1,p1,s0,s8,s9,s10⟩:=pre;have run:∃ e' h' c1 ADu,Ay alB (call AD (m+4)) e1 h=.exit 0 e' h'∧Fx A.K h h'∧Dk h' A.bd A.bm A.bc A.n (BN M [] ds).1 c1 (BN M [] ds).2 ADu false∧ADu=(wI ds.length).foldl (fun a _=>AEe a) arm:=by
  refine BU (I:=fun i e' h'=>∃ (M':List Nat) (cs':List (Nat×List Nat)) (c1:Nat) (ADu:Int),Fx A.K h h'∧Dk h' A.bd A.bm A.bc A.n M' c1 cs' ADu false∧ADu=(wI i).foldl (fun a _=>AEe a) arm∧Gs ADu (ds.length - i)∧DO A.n cs' (ds.drop i)∧BN M [] ds=BN M' cs' (ds.drop i)∧AEk cs'∧AEC A.n cs'∧i≤ds.length∧AB 0 e'=pt A.bs∧AB 8 e'=dv∧AB 9 e'=.int .i64 (vs.length:Int)∧AB 10 e'=.int .i64 (i:Int))
   (Q:=fun x=>∃ e' h' c1 ADu,x=.exit 0 e' h'∧Fx A.K h h'∧Dk h' A.bd A.bm A.bc A.n (BN M [] ds).1 c1 (BN M [] ds).2 ADu false∧ADu=(wI ds.length).foldl (fun a _=>AEe a) arm) ds.length (by omega) (fun i e' h' ⟨M',cs',c1,ADu,x',d',ea,ha',ok',er,hK,hS,hi,t0,t8,t9,t10⟩=>?_)
   ⟨M,[],c0,arm,.refl W,d,rfl,by rw[Nat.sub_zero];exact ha,by rw[wM];exact hok,by rw[wM],fun i j y z h=>(by cases h),fun y hy=>(by cases hy),vi _,s0,s8,s9,s10⟩
  by_cases hlt:i<ds.length
  ·left
   have hiv:i<vs.length:=by omega
   have c1':iLt (i:Int) (vs.length:Int)=true:=Es hiv;have V':=V.fx W x' fun b hb=>Su hb
   obtain⟨a,g1,g2⟩:=V'.vals.at hiv;have hv:vs[i]? =some (vs.getD i ADV):=by rw[OF,No hiv];rfl
   have hx:ds[i]? =some (ds[i]'hlt):=No hlt;have dI:=(hd i _ _ hv hx).keep (h':=h') trivial fun b el L hb r=>x'.row W r (Su hb)
   generalize vs.getD i ADV=v at g2 dI;have AFY:ds.drop i=ds[i]'hlt::ds.drop (i+1):=wY hlt;rw[AFY]at ok' er;generalize ds[i]'hlt=x at dI ok' er;have hk:ds.length - i=(ds.length - (i+1))+1:=by omega
   rw[hk]at ha';have R':=x'.row W R hne;have step:∃ h2 M2 cs2 c2,G8 (call AD (m+4)) v [] h'=.ok (.int .i64 0) h2∧Fx A.K h' h2∧Dk h2 A.bd A.bm A.bc A.n M2 c2 cs2 (AEe ADu) false∧DO A.n cs2 (ds.drop (i+1))∧BN M [] ds=BN M2 cs2 (ds.drop (i+1))∧AEk cs2∧AEC A.n cs2:=by
    cases x with
    |w j l=>
     obtain⟨o1,o2,o3,o4,o5⟩:=ok';obtain⟨h2,k2,f2,d2⟩:=Tv (m:=m) x'.wf R' hne d' ha' dI o2 (fun y hy=>⟨o1 y hy,(hS y hy).1⟩) o3;refine⟨h2,M',cs'++[(j,l)],c1,k2,f2,d2,o5,er,fun p q y z hp hq he=>?_,fun y hy=>?_⟩
     ·rcases vd p cs'.length with hp1|hp1<;>rcases vd q cs'.length with hq1|hq1
      ·rw[vP hp1]at hp
       rw[vP hq1]at hq;exact hK p q y z hp hq he
      ·rw[vP hp1]at hp
       have hzm:=vN hq;rw[ve hq1]at hq;have hz:=vN hq;rw[vM.1 hz]at he;exact absurd he (o1 y (vN hp))
      ·rw[vP hq1]at hq
       rw[ve hp1]at hp;have hz:=vN hp;rw[vM.1 hz]at he;exact absurd he.symm (o1 z (vN hq))
      ·have h1:=(vW.1 hp).1
       have h2:=(vW.1 hq).1;rw[IT,wU]at h1 h2;omega
     ·rcases va.1 hy with hy|hy
      ·exact hS y hy
      ·rw[vM.1 hy];exact⟨o2,o3,o4⟩
    |f=>
     obtain⟨o1,o2,o3⟩:=ok';obtain⟨h2,k2,f2,d2⟩:=QB (m:=m+1) x'.wf d' ha' hK hS o1 o2;have dI:v=.func (.func 76) ⟨[pt A.bd]⟩ ⟨[]⟩:=dI;exact⟨h2,Er M' cs',[],_,by rw[dI,B9];exact k2,f2,d2,o3,er,fun i j y z h=>(by cases h),fun y hy=>by cases hy⟩
   obtain⟨h2,M2,cs2,c2,k2,f2,d2,ok2,er2,hK2,hS2⟩:=step;have c0':iNe 0 0=false:=CV rfl;have a3:=CH (i:=i) (h:=h2) (by omega);have hrun:∃ e2,alB (call AD (m+4)) e' h'=.norm e2 h2∧AB 0 e2=pt A.bs∧AB 8 e2=dv∧AB 9 e2=.int .i64 (vs.length:Int)∧AB 10 e2=.int .i64 ((i+1:Nat):Int):=by
    unfold alB;simp only[sT,AT,AI,reduceIte,AM,AK,t10,t9,c1',A1,t8,g1,AN,g2,CR,Az,k2,c0',BF,a3];exact⟨_,rfl,by simp[AF,t0,t8,t9]⟩
   obtain⟨e2,r1,r2,r3,r4,r5⟩:=hrun;exact⟨hlt,e2,h2,r1,M2,cs2,c2,AEe ADu,x'.trans f2,d2,by rw[xU,List.foldl_append,← ea];rfl,ha'.one.1,ok2,er2,hK2,hS2,by omega,r2,r3,r4,r5⟩
  ·right
   have hie:i=ds.length:=by omega
   have c1':iLt (i:Int) (vs.length:Int)=false:=DE (by omega);have hrun:∃ e2,alB (call AD (m+4)) e' h'=.exit 0 e2 h':=by
    unfold alB;simp only[sT,AT,AI,reduceIte,AM,AK,t10,t9,c1'];exact⟨_,rfl⟩
   obtain⟨e2,r1⟩:=hrun;rw[r1];rw[hie,List.drop_length]at er;have er:BN M [] ds=(M',cs'):=er;rw[er];exact⟨rfl,e2,h',c1,ADu,rfl,x',d',by rw[ea,hie]⟩
 obtain⟨e2,h2,c1,ADu,r1,r2,r3,r4⟩:=run;refine⟨h2,c1,ADu,?_,r2,r3,r4⟩;rw[Xd rfl,YE,p1,XI];simp only[BE,Ax,r1,A2,BA];unfold alE;simp only[sT,AT,AI,reduceIte,lV0]
end
end
noncomputable section
open Go
set_option maxRecDepth 100000
def Cm(l:List Nat)(j:Nat):List Nat:=(l.drop (64*j)).take 64++vL (64 - ((l.drop (64*j)).take 64).length) 0
theorem CO(l:List Nat)(j:Nat):(Cm l j).length=64:=by
 unfold Cm;rw[IT,List.length_replicate,vp];omega
theorem Iy{l:List Nat}(h:∀ x∈l,x<256)(j:Nat):∀ x∈Cm l j,x<256:=fun x hx=>by
 rcases va.1 hx with hx|hx
 ·exact h x (List.mem_of_mem_drop (List.mem_of_mem_take hx))
 ·rw[yy hx];decide
section
variable {F:ADS}{e:Env}{h h':Hp}{A:At}{bad m:Nat}{lv fv:BY}{ov:Bool}
theorem Hp.ADo.AI9{v:BY}{l:List BY}(b:h.ADo v l){n:Nat}(hn:n≤l.length)(k:List BY→R):BH h 1 v n k=k (l.take n):=by
 rcases b with ⟨h1,h2⟩|⟨b,off,c,el,L,h1,h2,h3,h4⟩
 ·subst h1;subst h2
  obtain rfl:n=0:=by simpa using hn
  rfl
 ·rw[h1,h2.src (by omega),← h4,AA8,yz hn]
theorem X0(W:h.Wf){x y:O}{r:Nat}{w:BY}{l:List Nat}(ADg:256≤r)(hx:x e=.slice (some ⟨r,0,none⟩) 64 64)(hy:y e=w)(V:h.ADo w (l.map bv))(R:h.Row r 0 (A5.map bv)):
  ∃ v',JR 1 x y F e h=.ok v' (h.wr r 0 ((l.take 64).map bv))∧over (A5.map bv) 0 ((l.take 64).map bv)=(Cm l 0).map bv:=by
 have hz:(A5.map bv).length=64:=rfl;have hn:B4 l.length 64≤(l.map bv).length:=by rw[If,BJ];omega
 have ht:(l.map bv).take (B4 l.length 64)=(l.take 64).map bv:=by
  rw[← List.map_take,BJ]
  congr 1
  rcases Nat.le_total l.length 64 with h1|h1
  ·rw[yz h1,wh,List.take_of_length_le h1]
  ·rw[Nat.min_eq_right h1]
 refine⟨.int .i64 (B4 l.length 64:Nat),?_,?_⟩
 ·show Pj 1 (x e) (y e) h=_
  rw[hx,hy];unfold Pj;have lv:=V.lenV;rw[If]at lv;simp only[lv,AZ,V.AI9 hn,ht];rw[R.store W ADg (by rw[hz,If,vp];omega) (Ct _)];rfl
 ·unfold over Cm
  rw[List.take_zero,wL,sh,v8,ABw,wM,If,← List.map_drop]
  congr 2
  show ACP _ (vL 64 0)=_;rw[List.drop_replicate]
theorem gX:Bx .mt 0 [.slice none 0 0]=some tC:=by kernel_rfl
theorem bN:Bx .mt 0 [.int .i64 0]=some zt3:=by kernel_rfl
theorem Ix(W:h.Wf){t:VT}{z v:BY}(ht:Bx .mt 0 [z]=some t)(h1:cellsOf v=[v])(ho:oneCell v=true):
  ∃ h',(∀ (F:ADS) (e:Env),Bv 1 t F e h=.ok (pt h.next) (h.push (.cells t 1 0)))∧ADl 1 (pt h.next) v (h.push (.cells t 1 0))=.ok ADV h'∧h.Ext h'∧h'.Row h.next 0 [v]∧h'.next=h.next+1∧h'.mark=h.mark:=by
 have R:=Hp.Row.alloc W ht (show [z].length=1 from rfl);have x:h.Ext (h.push (.cells t 1 0)):=(Hp.Ext.refl W).push _;have hoo:0+(cellsOf v).length≤[z].length:=by rw[h1];exact IN _
 have st:=R.ADl (n:=1) (off:=0) x.wf W.big (v:=v) (by rw[h1];rfl) hoo (by
  rw[h1];show(bif oneCell v then true else false)=true;rw[ho];rfl)
 have wr:=R.ADm x.wf hoo;rw[KT (by rw[h1];rfl),h1]at wr;rw[h1]at st;have AHV:0+[v].length≤[z].length:=IN _;obtain⟨_,_,ew,_⟩:=R.AEh AHV;exact⟨_,fun F e=>Bm W,st,R.AD5 x (IN _) AHV,wr,R.AD9 AHV,by rw[ew];rfl⟩
theorem oD:BO Rx.zero 1=[.nilFunc]:=by kernel_rfl
theorem JF(W:h.Wf){g:O}{f:Nat}{a b:List BY}(hg:g e=.func (.func f) ⟨a⟩ ⟨b⟩):Ak 1 (BO Rx.zero 1) [(0,1,g)] F e h=.ok (.slice (some ⟨h.next,0,none⟩) 1 1) (h.ADR 0 [.func (.func f) ⟨a⟩ ⟨b⟩]):=by
 rw[oD];exact H6 W hg rfl rfl
theorem qP{i:Nat}(hi:i≤1000000):OR .i64 (.int .i64 ((64*i:Nat):Int)) (.int .i64 64) h=.ok (.int .i64 (i:Int)) h:=by
 have:((64*i:Nat):Int).tdiv 64=(i:Int):=by
  show wC ((64*i)/64)=_;rw[Nat.mul_div_cancel_left _ (by decide)];rfl
 rw[I5 (by omega),this,BW (by omega)]
theorem ny:wrS=BK (Ad 0 (Ay wrB)) wrE:=rfl
theorem ll:d45=cf:=rfl
def CB(h:Hp)(A:At)(k:Nat)(v:BY)(ds:List AD6):Prop:=∃ vs,h.Own k 75 v vs∧vs.length=ds.length∧∀ (i:Nat) (w:BY) (x:AD6),vs[i]? =some w→ds[i]? =some x→IE h A (fun b=>¬ A.D b∧¬ ADv v b) w x
theorem eA{b k:Nat}(hD:∀ b,A.D b→b<k)(hb:k≤b):¬ A.D b:=fun h=>by have:=hD b h;omega
theorem CB.ext{k:Nat}{v:BY}{ds:List AD6}(o:CB h A k v ds)(W:h.Wf)(x:h.Ext h'):CB h' A k v ds:=by
 obtain⟨vs,a,b,c⟩:=o;exact⟨vs,a.ext W x,b,fun i w y h1 h2=>(c i w y h1 h2).AEW fun b el L hb _ r=>⟨r.ext W x,hb⟩⟩
theorem CB.same{k:Nat}{v:BY}{ds:List AD6}(o:CB h A k v ds)(hb:h'.bl=h.bl):CB h' A k v ds:=by
 obtain⟨vs,a,b,c⟩:=o;exact⟨vs,a.same hb,b,fun i w y h1 h2=>(c i w y h1 h2).AEW fun b el L hb' _ r=>⟨r.same hb,hb'⟩⟩
theorem CB.snoc{h0:Hp}{k:Nat}{v w:BY}{ds:List AD6}{f:Nat}{a b:List BY}(x0:h0.Ext h)(hk:h0.next≤k)(hk2:k≤h.next)(o:CB h A k v ds)(hw:w=.func (.func f) ⟨a⟩ ⟨b⟩){d:AD6}(hd:IE h A (fun b=>¬ A.D b∧¬ ADv v b) w d)(hl:ds.length≤1000):
  ∃ h' v',DQ 1 8 75 v (.slice (some ⟨h.next,0,none⟩) 1 1) (h.ADR 0 [w])=.ok v' h'∧h0.Ext h'∧CB h' A k v' (ds++[d])∧h.next≤h'.next∧(∀ b el L,¬ ADv v b→h.Row b el L→h'.Row b el L):=by
 obtain⟨vs,o1,o2,o3⟩:=o;have W:=x0.wf;have x1:=x0.ADR 0 [w];have y1:=(Hp.Ext.refl W).ADR 0 [w];have on:oneCell w=true:=by rw[hw];rfl
 obtain⟨h',v',a1,a2,a3,a4,a5⟩:=Ec (eb:=8) (en:=75) (k:=k) (u:=.slice (some ⟨h.next,0,none⟩) 1 1) (ys:=[w]) x1 hk (Nat.le_succ_of_le hk2) (o1.ext W y1) (Q0 W) (by simp) (by
  show(bif oneCell w then true else false)=true;rw[on];rfl) (by simp only[wU];omega)
 have kp:∀ b el L,¬ A.D b∧¬ ADv v b→(el=0∨el=6)→h.Row b el L→h'.Row b el L∧(¬ A.D b∧¬ ADv v' b):=fun b el L hb _ r=>by
  have:=a5 b el L hb.2 (r.ext W y1);exact⟨this.1,hb.1,this.2⟩
 refine⟨h',v',a1,a2,⟨vs++[w],a3,by rw[IT,IT,o2];rfl,fun i z y h1 h2=>?_⟩,by have:h'.next=h.next+1+1:=a4;omega,fun b el L hb r=>(a5 b el L hb (r.ext W y1)).1⟩;rcases vd i vs.length with hi|hi
 ·rw[vP hi]at h1
  rw[vP (by omega)]at h2;exact(o3 i z y h1 h2).AEW kp
 ·rw[ve hi]at h1
  rw[ve (by omega)]at h2;have e1:=vM.1 (vN h1);have e2:=vM.1 (vN h2);rw[e1,e2];exact hd.AEW kp
theorem CB.app{h0:Hp}{k k2:Nat}{v v2:BY}{ds ds2:List AD6}(x0:h0.Ext h)(hk:h0.next≤k)(hk2:k≤h.next)(o:CB h A k v ds)(o2:CB h A k2 v2 ds2)(hne:0<ds2.length)(hl:ds.length+ds2.length≤1000):
  ∃ h' v',DQ 1 8 75 v v2 h=.ok v' h'∧h0.Ext h'∧CB h' A k v' (ds++ds2)∧h.next≤h'.next∧(∀ b el L,(el=0∨el=6)→h.Row b el L→h'.Row b el L):=by
 obtain⟨vs,o1,o2',o3⟩:=o;obtain⟨ws,p1,p2,p3⟩:=o2;have W:=x0.wf;have on:∀ w∈ws,oneCell w=true:=fun w hw=>by
  obtain⟨i,hi⟩:=List.mem_iff_getElem?.1 hw;have hil:=(vW.1 hi).1;exact YU (p3 i w _ hi (No (by omega)))
 obtain⟨h',v',a1,a2,a3,a4,a5⟩:=Ec (eb:=8) (en:=75) (k:=k) (u:=v2) (ys:=ws) x0 hk hk2 o1 p1.vals (by omega) (O4 on) (by omega);have nbv:∀ b el L,(el=0∨el=6)→h.Row b el L→¬ ADv v b:=fun b el L he r ⟨off,nn,c,e1⟩=>by
  rcases o1 with ⟨h1,h2⟩|⟨b',h1,h2,h3,h4⟩
  ·rw[h1]at e1;cases e1
  ·rw[h1]at e1
   injection e1 with e1 _ _
   injection e1 with e1
   injection e1 with e1 _ _
   rw[e1]at h2;exact Dn r h2 (by omega) rfl
 have kp:∀ b el L,¬ A.D b→(el=0∨el=6)→h.Row b el L→h'.Row b el L∧(¬ A.D b∧¬ ADv v' b):=fun b el L hb he r=>by
  have:=a5 b el L (nbv b el L he r) r;exact⟨this.1,hb,this.2⟩
 refine⟨h',v',a1,a2,⟨vs++ws,a3,by rw[IT,IT,o2',p2],fun i z y h1 h2=>?_⟩,by omega,fun b el L he r=>(a5 b el L (nbv b el L he r) r).1⟩;rcases vd i vs.length with hi|hi
 ·rw[vP hi]at h1
  rw[vP (by omega)]at h2;exact(o3 i z y h1 h2).AEW fun b el L hb he r=>kp b el L hb.1 he r
 ·rw[ve hi]at h1
  rw[ve (by omega),← o2']at h2;exact(p3 _ z y h1 h2).AEW fun b el L hb he r=>kp b el L hb.1 he r
theorem CB.ends{k:Nat}{v:BY}{ds:List AD6}(o:CB h A k v ds)(hD:∀ b,A.D b→b<k):∃ vs,h.VS (fun b=>¬ A.D b) v vs∧vs.length=ds.length∧∀ (i:Nat) (w:BY) (x:AD6),vs[i]? =some w→ds[i]? =some x→F2 h A w x:=by
 obtain⟨vs,o1,o2,o3⟩:=o;refine⟨vs,?_,o2,fun i w x h1 h2=>(o3 i w x h1 h2).AEW fun b el L hb _ r=>⟨r,hb.1⟩⟩;rcases o1 with ⟨h1,h2⟩|⟨b,h1,h2,h3,h4⟩
 ·exact .inl ⟨h1,h2⟩
 ·exact .inr ⟨b,0,_,_,vs,h1,IN _,h2,by omega,by rw[wM,wh],eA hD h3⟩
theorem KZ(W:h.Wf)(R:h.Row A.bs 0 (slL A.bd A.tb lv fv bad ov))(hD:∀ b,A.D b→b<h.next){sct:Nat}(hs:sct≤100000){u:BY}{l:List Nat}{ku:Nat}(U:Mk h ku u l)(hl:l.length≤6400):
  ∃ h' v,call AD (m+1) 45 [pt A.bs,.int .i64 (sct:Int),u] h=.ok v h'∧h.Ext h'∧CB h' A h.next v ((wI ((l.length+63)/64)).map (fun j=>AD6.w (sct+j) (Cm l j))++[.f]):=by
 have bx:=fun (F:ADS) (e:Env) (he:AB 0 e=pt A.bs)=>(show C7 (AB 0) F e h=.ok (pt h.next) (h.ADR 0 [pt A.bs])by rw[E6,he,E3 W];rfl)
 have x1:=(Hp.Ext.refl W).ADR 0 [pt A.bs];have R3:=Hp.Row.new W 0 [pt A.bs];have n1:(h.ADR 0 [pt A.bs]).next=h.next+1:=rfl;generalize h.ADR 0 [pt A.bs]=h1 at bx x1 R3 n1;have nD3:¬ A.D h.next:=eA hD (IN _);have pre:∃ e1,cf (call AD m) (AS e0 0 [pt A.bs,.int .i64 (sct:Int),u]) h=wrS (call AD m) e1 h1∧AB 1 e1=.int .i64 (sct:Int)∧AB 2 e1=u∧AB 3 e1=pt h.next∧AB 7 e1=.slice none 0 0∧AB 8 e1=.int .i64 ((64 * 0:Nat):Int):=by
  unfold cf;simp only[iN,By,sT,AT,AI,reduceIte,bx];exact⟨_,rfl,by simp[AF]⟩
 obtain⟨e1,p1,s1,s2,s3,s7,s8⟩:=pre;have run:∃ e' h' v,Ay wrB (call AD m) e1 h1=.exit 0 e' h'∧h.Ext h'∧CB h' A h1.next v ((wI ((l.length+63)/64)).map fun j=>AD6.w (sct+j) (Cm l j))∧h'.Row h.next 0 [pt A.bs]∧h1.next≤h'.next∧AB 3 e'=pt h.next∧AB 7 e'=v:=by
  refine BU (I:=fun i e' h'=>∃ v,h.Ext h'∧CB h' A h1.next v ((wI i).map fun j=>AD6.w (sct+j) (Cm l j))∧h'.Row h.next 0 [pt A.bs]∧h1.next≤h'.next∧i≤(l.length+63)/64∧AB 1 e'=.int .i64 (sct:Int)∧AB 2 e'=u∧AB 3 e'=pt h.next∧AB 7 e'=v∧AB 8 e'=.int .i64 ((64*i:Nat):Int))
   (Q:=fun x=>∃ e' h' v,x=.exit 0 e' h'∧h.Ext h'∧CB h' A h1.next v ((wI ((l.length+63)/64)).map fun j=>AD6.w (sct+j) (Cm l j))∧h'.Row h.next 0 [pt A.bs]∧h1.next≤h'.next∧AB 3 e'=pt h.next∧AB 7 e'=v) ((l.length+63)/64) (by omega) (fun i e' h' ⟨v,x',dv,R',hn',hi,t1,t2,t3,t7,t8⟩=>?_)
   ⟨_,x1,⟨[],.inl ⟨rfl,rfl⟩,rfl,fun i w x h=>by cases h⟩,R3,IN _,vi _,s1,s2,s3,s7,s8⟩
  have Ul:=U.vals.bl h';have W':=x'.wf;by_cases hlt:64*i<l.length
  ·left
   have c1:iLt ((64*i:Nat):Int) (l.length:Int)=true:=Es hlt;have mk:∀ (F:ADS) (e:Env),GJ 1 ty5.zero (kV (.int .i64 64)) (kV (.int .i64 64)) F e h'=.ok (.slice (some ⟨h'.next,0,none⟩) 64 64) (h'.ADR 0 (A5.map bv)):=fun F e=>LR (F:=F) (e:=e) W' (x:=kV (.int .i64 64)) (y:=kV (.int .i64 64)) (N:=64) rfl rfl (by omega)
   have y2:=(Hp.Ext.refl W').ADR 0 (A5.map bv);have Rz:=Hp.Row.new W' 0 (A5.map bv);have n2:(h'.ADR 0 (A5.map bv)).next=h'.next+1:=rfl;generalize h'.ADR 0 (A5.map bv)=h2 at mk y2 Rz n2;obtain⟨h3,al,st,y3,R9,n3,_⟩:=Ix y2.wf gX (v:=.slice (some ⟨h'.next,0,none⟩) 64 64) rfl rfl;have y23:=y2.trans y3;have Rz3:=Rz.ext y2.wf y3;have x3:=x'.trans y23;have R9m:h3.marked.Row h2.next 0 [.slice (some ⟨h'.next,0,none⟩) 64 64]:=R9.same rfl;have l9:ADW ⟨h2.next,0,none⟩ h3.marked=.ok (.slice (some ⟨h'.next,0,none⟩) 64 64) h3.marked:=R9m.ADW (off:=0) (by show 0<1;omega);obtain⟨w,ct,Vw⟩:=Pm (((U.ext W x3).same (h':=h3.marked) rfl)) (m:=64 * i) (by omega);have AFM:=W'.big;have cpy:∃ h4,(∀ (F:ADS) (e:Env),AB 18 e=.slice (some ⟨h'.next,0,none⟩) 64 64→AB 21 e=w→∃ vv,Al .free (JR 1 (AB 18) (AB 21)) F e h3.marked=.ok vv h4)∧h'.Ext h4∧h4.Row h'.next 0 ((Cm (l.drop (64 * i)) 0).map bv)∧h4.Row h2.next 0 [.slice (some ⟨h'.next,0,none⟩) 64 64]∧h3.next≤h4.next:=by
    have Rq:h3.marked.quiet.Row h'.next 0 (A5.map bv):=Rz3.same rfl;have hle:0+(((l.drop (64*i)).take 64).map bv).length≤(A5.map bv).length:=by
     rw[If,vp];show _≤64;omega
    have key:=fun (F:ADS) (e:Env) (a1:AB 18 e=.slice (some ⟨h'.next,0,none⟩) 64 64) (a2:AB 21 e=w)=>X0 (F:=F) (e:=e) (h:=h3.marked.quiet) y23.wf.marked.quiet AFM a1 a2 (Vw.same (h':=h3.marked.quiet) rfl) Rq
    have wr:=Rq.ADm y23.wf.marked.quiet hle;have wx:=Rq.AD5 (h0:=h') (y23.marked.quiet) (IN _) hle;have wo:=Rq.AEd y23.wf.marked.quiet hle (R9.same (h':=h3.marked.quiet) rfl) (by omega);have wn:=Rq.AD9 hle;have ho:over (A5.map bv) 0 (((l.drop (64*i)).take 64).map bv)=(Cm (l.drop (64*i)) 0).map bv:=by
     have hk:=X0 (F:=call AD m) (e:=Env.set 18 (.slice (some ⟨h'.next,0,none⟩) 64 64) (Env.set 21 w e0)) (h:=h3.marked.quiet) (x:=AB 18) (y:=AB 21) y23.wf.marked.quiet AFM (by simp[AF]) (by simp[AF]) (Vw.same (h':=h3.marked.quiet) rfl) Rq;obtain⟨_,_,h2⟩:=hk;exact h2
    rw[ho]at wr;generalize h3.marked.quiet.wr h'.next 0 (((l.drop (64 * i)).take 64).map bv)=g at key wr wx wo wn;refine⟨h3.marked.back g,fun F e a1 a2=>?_,Hp.Ext.AEc y23.marked wx,wr.same rfl,wo.same rfl,by show _≤g.next;rw[wn];exact IN _⟩;obtain⟨vv,k1,_⟩:=key F e a1 a2;exact⟨vv,BQ k1⟩
   obtain⟨h4,cp,y4,Rc,R94,n4⟩:=cpy;have x4:=x'.trans y4;have dv4:=qP (h:=h4) (i:=i) (by omega);have ad:=PP (h:=h4) (a:=sct) (b:=i) (by omega);obtain⟨h5,al5,st5,y5,R10,n5,_⟩:=Ix y4.wf bN (v:=.int .i64 ((sct+i:Nat):Int)) rfl rfl;have y45:=y4.trans y5;have x5:=x'.trans y45;have dv5:=(dv.ext W' y45);have hbk:∀ b,h'.next≤b→¬ ADv v b:=fun b hb hv=>by
    obtain⟨vs,o1,_⟩:=dv;rcases o1 with ⟨h1,_⟩|⟨b',h1,h2,_⟩
    ·rw[h1]at hv;exact F9 hv
    ·have:=h2.lt W'
     rw[h1]at hv;obtain⟨o,nn,c,hc⟩:=hv;injection hc with hc _ _
     injection hc with hc
     injection hc with hc _ _
     omega
   have hx1:=x1.next;have nDb:∀ b,h.next≤b→¬ A.D b:=fun b hb=>eA hD hb
   have hb3:¬ ADv v h.next:=fun hv=>by
    obtain⟨vs,o1,_⟩:=dv;rcases o1 with ⟨h1',_⟩|⟨b',h1',h2',h3',_⟩
    ·rw[h1']at hv;exact F9 hv
    ·rw[h1']at hv
     obtain⟨o,nn,c,hc⟩:=hv;injection hc with hc _ _
     injection hc with hc
     injection hc with hc _ _
     omega
   have R3':=R'.ext W' y45;have ds:IE h5 A (fun b=>¬ A.D b∧¬ ADv v b) (.func (.func 74) ⟨[]⟩ ⟨[pt h.next,pt h4.next,pt h2.next]⟩) (.w (sct+i) (Cm l i)):=by
    refine .inl ⟨h.next,h4.next,h2.next,.slice (some ⟨h'.next,0,none⟩) 64 64,rfl,R3',R10,R94.ext y4.wf y5,.inr ⟨h'.next,0,64,0,_,by rw[If,CO],by rw[If,CO];exact IN _,Rc.ext y4.wf y5,?_,?_,⟨nDb _ (by omega),hbk _ (IN _)⟩,.inl rfl⟩,⟨nDb _ (IN _),hb3⟩,⟨nDb _ (by omega),hbk _ (by omega)⟩,⟨nDb _ (by omega),hbk _ (by omega)⟩⟩
    ·rw[If,If,CO,CO];exact IN _
    ·have:Cm (l.drop (64*i)) 0=Cm l i:=by unfold Cm;rw[ABw,wM]
     rw[this,wM,wh]
   obtain⟨h6,v6,k6,x6,dv6,n6,kp6⟩:=dv5.snoc (f:=74) x5 (Nat.le_trans hx1 (IN _)) (by omega) rfl ds (by rw[If,AAL];omega);have er:(wI (i+1)).map (fun j=>AD6.w (sct+j) (Cm l j))=(wI i).map (fun j=>AD6.w (sct+j) (Cm l j))++[AD6.w (sct+i) (Cm l i)]:=by rw[xU,v8];rfl
   rw[← er]at dv6;have fs:=fun (F:ADS) (e:Env) (a:AB 28 e=.func (.func 74) ⟨[]⟩ ⟨[pt h.next,pt h4.next,pt h2.next]⟩)=>JF (F:=F) (e:=e) x5.wf a
   have a3:FH .i64 (.int .i64 ((64*i:Nat):Int)) (.int .i64 64) h6=.ok (.int .i64 ((64*(i+1):Nat):Int)) h6:=by
    have:=PP (h:=h6) (a:=64*i) (b:=64) (by omega);rw[show 64*i+64=64*(i+1)by omega]at this;exact this
   have hrun:∃ e2,wrB (call AD m) e' h'=.norm e2 h6∧AB 1 e2=.int .i64 (sct:Int)∧AB 2 e2=u∧AB 3 e2=pt h.next∧AB 7 e2=v6∧AB 8 e2=.int .i64 ((64*(i+1):Nat):Int):=by
    obtain⟨vv,cp⟩:=cp (call AD m) (Env.set 21 w (Env.set 18 (.slice (some ⟨h'.next,0,none⟩) 64 64) (Env.set 9 (pt h2.next) (Env.set 17 (.slice (some ⟨h'.next,0,none⟩) 64 64) (Env.set 14 (.bool true) (Env.set 13 (.int .i64 (l.length:Int)) e')))))) (by simp[AF]) (by simp[AF]);unfold wrB;simp only[sT,AT,AI,reduceIte,Af,t2,Ul,AM,AK,t8,c1,mk,al,Aa,st,A3,AN,AQ,l9];rw[ct _ _ _ _ (by simp[AF,t2]) (by simp[AF,t8])];simp only[sT,AT,AI,reduceIte,cp,H3,t8,dv4,BF,t1,ad,al5,Aa,st5,DY,AW,Az,t3,fs,BG,t7,k6,a3];exact⟨_,rfl,by simp[AF,t1,t2,t3]⟩
   obtain⟨e2,r1,r2,r3,r4,r5,r6⟩:=hrun;exact⟨by omega,e2,h6,r1,v6,x6,dv6,kp6 _ _ _ hb3 R3',by omega,by omega,r2,r3,r4,r5,r6⟩
  ·right
   have hie:i=(l.length+63)/64:=by omega
   have c1:iLt ((64*i:Nat):Int) (l.length:Int)=false:=DE (by omega);have hrun:∃ e2,wrB (call AD m) e' h'=.exit 0 e2 h'∧AB 3 e2=pt h.next∧AB 7 e2=v:=by
    unfold wrB;simp only[sT,AT,AI,reduceIte,Af,t2,Ul,AM,AK,t8,c1];exact⟨_,rfl,by simp[AF,t3,t7]⟩
   obtain⟨e2,r1,r2,r3⟩:=hrun;rw[r1];exact⟨rfl,e2,h',v,rfl,x',by rw[← hie];exact dv,R',hn',r2,r3⟩
 obtain⟨e2,h2,v2,r1,x2,dv2,R2,n2,t3,t7⟩:=run;have l3:ADW ⟨h.next,0,none⟩ h2=.ok (pt A.bs) h2:=R2.ADW (off:=0) (by show 0<1;omega);obtain⟨l0,_⟩:=A7 (R.ext W x2);obtain⟨h6,v6,k6,x6,dv6,n6,_⟩:=dv2.snoc (f:=76) (d:=.f) x2 x1.next n2 (w:=.func (.func 76) ⟨[pt A.bd]⟩ ⟨[]⟩) rfl rfl (by rw[If,AAL];omega);have fs:=fun (F:ADS) (e:Env) (a:AB 36 e=.func (.func 76) ⟨[pt A.bd]⟩ ⟨[]⟩)=>JF (F:=F) (e:=e) x2.wf a
 refine⟨h6,v6,?_,x6,?_⟩
 ·rw[kL rfl,ll,p1,ny]
  simp only[BE,Ax,r1,A2,BA];unfold wrE;simp only[sT,AT,AI,reduceIte,AN,AQ,t3,l3,Ao,Ae,AJ,AO,sh,l0,DY,AW,Az,fs,BG,t7,k6,lV0]
 ·obtain⟨vs,a,b,c⟩:=dv6
  exact⟨vs,a.le x1.next,b,c⟩
end
end
noncomputable section
open Go
set_option maxRecDepth 100000
section
variable {F:ADS}{e:Env}{h h':Hp}{A:At}{T M:List Nat}{c0 bad:Nat}{arm:Int}{ks:List Kt}{fr:List Nat}{lv fv:BY}{ov:Bool}
theorem cD{x y:O}{K:C}{v:BY}{b r:Nat}(hx:x e=v)(hv:v=.slice none 0 0∨∃ o n c,v=.slice (some ⟨b,o,none⟩) n c)(hy:y e=pt r)(hr:v=.slice none 0 0∨r≠b):C3 x [y] K F e h=K F e h:=by
 unfold C3;rw[hx];rcases hv with rfl|⟨o,n,c,rfl⟩
 ·rfl
 ·rcases hr with hr|hr
  ·cases hr
  ·show(bif DS b e [y]then K F e h else .no)=_
   have:DS b e [y]=true:=by
    unfold DS;rw[hy];show(bif vO r b then false else DS b e [])=true;have n1:vO r b=false:=by
     cases e:vO r b
     ·rfl
     ·exact absurd (Am.1 e) hr
    rw[n1];rfl
   rw[this];rfl
theorem CB.atB{h0:Hp}{k bw:Nat}{v w:BY}{ds:List AD6}{f:Nat}{a b:List BY}(x0:h0.Ext h)(hk:h0.next≤k)(hk2:k≤h.next)(o:CB h A k v ds)(hw:w=.func (.func f) ⟨a⟩ ⟨b⟩)(Rw:h.Row bw 0 [w]){d:AD6}(hd:IE h A (fun b=>¬ A.D b∧¬ ADv v b) w d)(hl:ds.length≤1000):
  ∃ h' v',(∀ (F:ADS) (e:Env) (x y:O),x e=v→y e=.slice (some ⟨bw,0,none⟩) 1 1→NA x (Bi 1 8 75 x y) F e h=.ok v' h')∧h0.Ext h'∧CB h' A k v' (ds++[d])∧h.next≤h'.next:=by
 obtain⟨vs,o1,o2,o3⟩:=o;have W:=x0.wf;have on:oneCell w=true:=by rw[hw];rfl
 have cl:h.quiet.Cl (ADv v) 75 v vs:=by
  rcases o1 with ⟨h1,h2⟩|⟨b,h1,h2,h3,h4⟩
  ·exact .inl ⟨h1,h2⟩
  ·exact .inr ⟨b,76,h1,h2.same rfl,.inl rfl,⟨0,_,_,h1⟩,h4⟩
 have kb:∀ b,ADv v b→h0.next≤b:=fun b hb=>by
  obtain⟨off,n,c,e1⟩:=hb;rcases o1 with ⟨h1,h2⟩|⟨b',h1,h2,h3,h4⟩
  ·rw[h1]at e1;cases e1
  ·rw[h1]at e1
   injection e1 with e1 _ _
   injection e1 with e1
   injection e1 with e1 _ _
   omega
 obtain⟨h5,b5,a1,a2,a3,a4,a5,a6,a7,a8,a9⟩:=Xv (eb:=8) (en:=75) x0.quiet cl kb (Rw.same (h':=h.quiet) rfl) on (by rw[o2];omega) (by omega);have hvb:¬ ADv (.slice (some ⟨b5,0,none⟩) (vs.length+1) (vs.length+1)) b5→False:=fun h=>h ⟨0,_,_,rfl⟩
 have a4:b5=h.next:=a4;have kp:∀ b el L,¬ A.D b∧¬ ADv v b→(el=0∨el=6)→h.Row b el L→(h.back h5).Row b el L∧(¬ A.D b∧¬ ADv (.slice (some ⟨b5,0,none⟩) (vs.length+1) (vs.length+1)) b):=fun b el L hb _ r=>⟨(a7 b el L hb.2 (r.same rfl)).same rfl,hb.1,LG (by have:=r.lt W;omega)⟩
 have a5:h5.next=h.next+1:=a5;have ADg:=W.big;refine⟨h.back h5,.slice (some ⟨b5,0,none⟩) (vs.length+1) (vs.length+1),fun F e x y hx hy=>Te hx hy a1 (a9 rfl rfl h rfl),x0.AEc a2,⟨vs++[w],.inr ⟨b5,by rw[IT];rfl,a3.same rfl,?_,by omega⟩,by rw[IT,IT,o2];rfl,fun i z y h1 h2=>?_⟩,by show h.next≤h5.next;omega⟩
 ·omega
 ·rcases vd i vs.length with hi|hi
  ·rw[vP hi]at h1
   rw[vP (by omega)]at h2;exact(o3 i z y h1 h2).AEW kp
  ·rw[ve hi]at h1
   rw[ve (by omega)]at h2;have e1:=vM.1 (vN h1);have e2:=vM.1 (vN h2);rw[e1,e2];exact hd.AEW kp
theorem nc:skS=BK (Ad 0 (Ay skB)) skE:=rfl
theorem YF:d53=YG:=rfl
def GO(M:List Nat)(ps:List Nat):List Nat:=Er M (ps.map fun p=>(p*3,A5))
theorem RP:∀ (ps:List Nat) (M:List Nat) (cs:List (Nat×List Nat)),BN M cs (ps.map (fun p=>AD6.w (p*3) A5)++[.f])=(Er M (cs++ps.map fun p=>(p*3,A5)),[])
 |[],M,cs=>by rw[ACY,ACY,vR];rfl
 |p::ps,M,cs=>by
  show BN M (cs++[(p*3,A5)]) (ps.map (fun p=>AD6.w (p*3) A5)++[.f])=_;rw[RP ps,List.append_assoc];rfl
theorem Zk{n:Nat}:∀ (ps:List Nat) (cs:List (Nat×List Nat)),(cs≠[]∨ps≠[])→cs.length+ps.length≤60→(∀ p∈ps,3*p+3≤n∧∀ x∈cs,x.1≠p*3)→ps.Nodup→DO n cs (ps.map (fun p=>AD6.w (p*3) A5)++[.f])
 |[],cs,h0,hl,_,_=>⟨h0.elim (fun h=>h) fun h=>absurd rfl h,by simpa using hl,trivial⟩
 |p::ps,cs,h0,hl,hp,hn=>by
  obtain⟨p1,p2⟩:=hp p vG;rw[vI]at hl;refine⟨p2,by omega,rfl,fun x hx=>by rw[yy hx];decide,Zk ps _ (.inl (by simp)) (by rw[IT];simp only[wU];omega) (fun q hq=>⟨(hp q (vH _ hq)).1,fun x hx=>?_⟩) (xn.1 hn).2⟩;rcases va.1 hx with hx|hx
  ·exact(hp q (vH _ hq)).2 x hx
  ·rw[vM.1 hx]
   show p*3≠q*3;intro he;have:p=q:=by omega
   exact(xn.1 hn).1 (this ▸ hq)
theorem Sl.AF5(s:Sl h A T M c0 arm ks fr lv fv bad ov)(W:h.Wf):∀ b,A.D b→b<h.next:=fun b hb=>by
 obtain⟨h1,h2,h3⟩:=s.dk.lt W;rcases hb with rfl|rfl|rfl|rfl
 ·exact s.row.lt W
 ·exact h1
 ·exact h2
 ·exact h3
theorem Sl.nK(s:Sl h A T M c0 arm ks fr lv fv bad ov):¬ A.K A.bs:=by
 obtain⟨h1,h2,h3,_⟩:=s.ne;rintro (h|h|h)<;>contradiction
end
end
noncomputable section
open Go
set_option maxRecDepth 100000
def F4(P:Kt→Bool):Nat→List Kt→Int
 |_,[]=> -1
 |i,k::l=>if P k=true then(i:Int)else F4 P (i+1) l
theorem Ob(P:Kt→Bool):∀ (l:List Kt) (i:Nat),(l.any P=false∧F4 P i l= -1)∨(l.any P=true∧∃ j k,l[j]? =some k∧P k=true∧F4 P i l=((i+j:Nat):Int))
 |[],i=>.inl ⟨rfl,rfl⟩
 |k::l,i=>by
  unfold F4;by_cases h:P k=true
  ·rw[if_pos h]
   exact .inr ⟨by rw[zf,h];rfl,0,k,rfl,h,rfl⟩
  ·rw[if_neg h]
   have hf:P k=false:=by simpa using h
   rcases Ob P l (i+1)with ⟨h1,h2⟩|⟨h1,j,k',h2,h3,h4⟩
   ·exact .inl ⟨by rw[zf,hf,h1];rfl,h2⟩
   ·exact .inr ⟨by rw[zf,h1,Bool.or_true],j+1,k',by rw[wE];exact h2,h3,by rw[h4];congr 1;omega⟩
section
variable {F:ADS}{e:Env}{h h':Hp}{S:Nat→Prop}{A:At}{bad m:Nat}{ks:List Kt}{v lv fv:BY}{ov:Bool}
theorem Y0:kiS=BK (Ad 0 (Ay kiB)) kiE:=rfl
theorem YH:d69=ch:=rfl
theorem On{g:Nat}{caps:List BY}{P:Kt→Bool}(W:h.Wf)(K:h.KS S v ks)(hl:ks.length≤100000)(hP:∀ h',h.Ext h'→∀ k∈ks,∃ h'',call AD m g (ktV k::caps) h'=.ok (.bool (P k)) h''∧h'.Ext h''):
  ∃ h',call AD (m+1) 69 [v,.func (.func g) ⟨[]⟩ ⟨caps⟩] h=.ok (.int .i64 (F4 P 0 ks)) h'∧h.Ext h':=by
 have ln:=K.len h;have pre:∃ e1,ch (call AD m) (AS e0 0 [v,.func (.func g) ⟨[]⟩ ⟨caps⟩]) h=kiS (call AD m) e1 h∧AB 0 e1=v∧AB 1 e1=.func (.func g) ⟨[]⟩ ⟨caps⟩∧AB 7 e1=.int .i64 (ks.length:Int)∧AB 8 e1=.int .i64 ((0:Nat):Int):=by
  unfold ch;simp only[iN,By,sT,AT,AI,reduceIte,Af,ln];exact⟨_,rfl,by simp[AF]⟩
 obtain⟨e1,p1,s0,s1,s7,s8⟩:=pre;have run:(∃ e' h',Ay kiB (call AD m) e1 h=.exit 0 e' h'∧h.Ext h'∧F4 P 0 ks= -1)∨(∃ e' h',Ay kiB (call AD m) e1 h=.ret e' h'∧h.Ext h'∧AB 4 e'=.int .i64 (F4 P 0 ks)):=by
  refine BU (I:=fun i e' h'=>h.Ext h'∧AB 0 e'=v∧AB 1 e'=.func (.func g) ⟨[]⟩ ⟨caps⟩∧AB 7 e'=.int .i64 (ks.length:Int)∧AB 8 e'=.int .i64 (i:Int)∧i≤ks.length∧F4 P 0 ks=F4 P i (ks.drop i))
   (Q:=fun x=>(∃ e' h',x=.exit 0 e' h'∧h.Ext h'∧F4 P 0 ks= -1)∨(∃ e' h',x=.ret e' h'∧h.Ext h'∧AB 4 e'=.int .i64 (F4 P 0 ks))) ks.length (by omega) (fun i e' h' ⟨x',t0,t1,t7,t8,hi,hr⟩=>?_) ⟨.refl W,s0,s1,s7,s8,vi _,by rw[wM]⟩
  by_cases hlt:i<ks.length
  ·obtain⟨k,hk⟩:∃ k,ks[i]? =some k:=⟨_,No hlt⟩
   have hd:ks.drop i=k::ks.drop (i+1):=by
    rw[wY hlt];rw[No hlt]at hk;rw[Option.some.inj hk]
   rw[hd]at hr;have hr:F4 P 0 ks=if P k=true then(i:Int)else F4 P (i+1) (ks.drop (i+1)):=hr
   have c1:=Es hlt;obtain⟨b,_,ix,ld,_⟩:=(K.ext W x').at hk;obtain⟨h2,k2,x2⟩:=hP h' x' k (vN hk);by_cases hp:P k=true
   ·right
    rw[hp]at k2;rw[if_pos hp]at hr;have hrun:∃ e2,kiB (call AD m) e' h'=.ret e2 h2∧AB 4 e2=.int .i64 (i:Int):=by
     unfold kiB;simp only[sT,AT,AI,reduceIte,AM,AK,t8,t7,c1,A1,t0,ix,Aw,Ar,ld,CR,t1,B9,AW,Az,wL,yI,k2];exact⟨_,rfl,by simp[AF]⟩
    obtain⟨e2,r1,r2⟩:=hrun;rw[r1];exact⟨rfl,.inr ⟨e2,h2,rfl,x'.trans x2,by rw[r2,hr]⟩⟩
   ·left
    have hf:P k=false:=by simpa using hp
    rw[hf]at k2;rw[if_neg hp]at hr;have a3:=CH (i:=i) (h:=h2) (by omega);have hrun:∃ e2,kiB (call AD m) e' h'=.norm e2 h2∧AB 0 e2=v∧AB 1 e2=.func (.func g) ⟨[]⟩ ⟨caps⟩∧AB 7 e2=.int .i64 (ks.length:Int)∧AB 8 e2=.int .i64 ((i+1:Nat):Int):=by
     unfold kiB;simp only[sT,AT,AI,reduceIte,AM,AK,t8,t7,c1,A1,t0,ix,Aw,Ar,ld,CR,t1,B9,AW,Az,wL,yI,k2,BF,a3];exact⟨_,rfl,by simp[AF,t0,t1,t7]⟩
    obtain⟨e2,r1,r2,r3,r4,r5⟩:=hrun;exact⟨hlt,e2,h2,r1,x'.trans x2,r2,r3,r4,r5,by omega,hr⟩
  ·right
   have c1:=DE (show ks.length≤i by omega);have hrun:∃ e2,kiB (call AD m) e' h'=.exit 0 e2 h':=by
    unfold kiB;simp only[sT,AT,AI,reduceIte,AM,AK,t8,t7,c1];exact⟨_,rfl⟩
   obtain⟨e2,r1⟩:=hrun;rw[r1];exact⟨rfl,.inl ⟨e2,h',rfl,x',by rw[hr,wR (by omega)];rfl⟩⟩
 rcases run with ⟨e2,h2,r1,x2,r2⟩|⟨e2,h2,r1,x2,r2⟩
 ·refine⟨h2,?_,x2⟩
  rw[Xi rfl,YH,p1,Y0,r2];simp only[BE,Ax,r1,A2,BA];unfold kiE;simp only[sT,AT,AI,reduceIte,lV0]
 ·refine⟨h2,?_,x2⟩
  rw[Xi rfl,YH,p1,Y0];simp only[BE,Ax,r1,B0,CY,lV0,r2]
theorem Ol{g:Nat}{caps:List BY}{P:Kt→Bool}(W:h.Wf)(K:h.KS S v ks)(hl:ks.length≤100000)(hP:∀ h',h.Ext h'→∀ k∈ks,∃ h'',call AD m g (ktV k::caps) h'=.ok (.bool (P k)) h''∧h'.Ext h''):
  ∃ h',call AD (m+2) 61 [v,.func (.func g) ⟨[]⟩ ⟨caps⟩] h=.ok (.bool (ks.any P)) h'∧h.Ext h':=by
 obtain⟨h2,k2,x2⟩:=On W K hl hP;have c1:iGe (F4 P 0 ks) 0=ks.any P:=by
  rcases Ob P ks 0 with ⟨h1,h2⟩|⟨h1,j,k,_,_,h2⟩
  ·rw[h1,h2];exact FL (by omega)
  ·rw[h1,h2];exact HG (by omega)
 refine⟨h2,?_,x2⟩;rw[kX rfl];unfold d61;simp only[iN,By,sT,AT,AI,reduceIte,cA0,k2,AM,AK,c1,lV0]
theorem HP(W:h.Wf){k:Kt}{g:O}(hg:g e=ktV k):C7 g F e h=.ok (pt h.next) (h.ADR 0 (AV k)):=by rw[E6,hg,E3 W];rfl
theorem Bq{r:Nat}{k:Kt}(R:h.Row r 0 (AV k)):ADW ⟨r,0,none⟩ h=.ok (.int .i64 k.a) h∧ADW ⟨r,1,none⟩ h=.ok (.int .i64 k.b) h∧ADW ⟨r,2,none⟩ h=.ok (.int .i64 k.c) h∧ADW ⟨r,3,none⟩ h=.ok (.int .u8 (k.s:Int)) h∧ADW ⟨r,4,none⟩ h=.ok k.u h∧ADW ⟨r,5,none⟩ h=.ok (.int .i64 (k.p:Int)) h∧loadN 6 ⟨r,0,none⟩ h=.ok (ktV k) h∧loadN 5 ⟨r,0,none⟩ h=.ok (Bz k.a k.b k.c k.s k.u) h:=
 ⟨R.ADW (off:=0) (by show 0<6;omega),R.ADW (off:=1) (by show 1<6;omega),R.ADW (off:=2) (by show 2<6;omega),R.ADW (off:=3) (by show 3<6;omega),R.ADW (off:=4) (by show 4<6;omega),R.ADW (off:=5) (by show 5<6;omega),R.loadN (off:=0) (n:=6) (by show 0+6≤6;omega),R.loadN (off:=0) (n:=5) (by show 0+5≤6;omega)⟩
def CN(a b c:Int)(k:Kt):Bool:=decide (k.a=a) && decide (k.b=b) && decide (k.c=c)
def KH(a b:Int)(k:Kt):Bool:=decide (k.a=a) && decide (k.b=b) && decide (k.s=2)
theorem Cw{r:Nat}{w:BY}(R:h.Row r 0 [w]):ADW ⟨r,0,none⟩ h=.ok w h:=R.ADW (off:=0) (by show 0<1;omega)
theorem mD(W:h.Wf){r1 r2 r3:Nat}{a b c:Int}(R1:h.Row r1 0 [.int .i64 a])(R2:h.Row r2 0 [.int .i64 b])(R3:h.Row r3 0 [.int .i64 c])(k:Kt):
  ∃ h',call AD (m+1) 70 [ktV k,pt r1,pt r2,pt r3] h=.ok (.bool (CN a b c k)) h'∧h.Ext h':=by
 have bx:=fun (F:ADS) (e:Env) (he:AB 0 e=ktV k)=>HP (F:=F) W he
 have x1:=(Hp.Ext.refl W).ADR 0 (AV k);have R:=Hp.Row.new W 0 (AV k);generalize h.ADR 0 (AV k)=h1 at bx x1 R;obtain⟨l0,l1,l2,l3,_,l5,_⟩:=Bq R;have m1:=Cw (R1.ext W x1);have m2:=Cw (R2.ext W x1);have m3:=Cw (R3.ext W x1);refine⟨h1,?_,x1⟩;unfold CN;rw[kr rfl];unfold d70;by_cases h1:k.a=a
 ·have c1:iEq k.a a=true:=DM h1
  by_cases h2:k.b=b
  ·have c2:iEq k.b b=true:=DM h2
   have c3:iEq k.c c=decide (k.c=c):=by rw[D9];by_cases h3:k.c=c<;>simp[h3]
   simp only[iN,By,sT,AT,AI,reduceIte,gD,bx,AJ,AO,sh,AN,AQ,l0,l1,l2,m1,m2,m3,AM,AK,c1,c2,c3,lV0];rw[decide_eq_true h1,decide_eq_true h2];rfl
  ·have c2:iEq k.b b=false:=DL h2
   simp only[iN,By,sT,AT,AI,reduceIte,gD,bx,AJ,AO,sh,AN,AQ,l0,l1,l2,m1,m2,m3,AM,AK,c1,c2,lV0];rw[decide_eq_true h1,decide_eq_false h2];rfl
 ·have c1:iEq k.a a=false:=DL h1
  simp only[iN,By,sT,AT,AI,reduceIte,gD,bx,AJ,AO,sh,AN,AQ,l0,l1,l2,m1,m2,m3,AM,AK,c1,lV0];rw[decide_eq_false h1];rfl
theorem mF(W:h.Wf){r1 r2:Nat}{a b:Int}(R1:h.Row r1 0 [.int .i64 a])(R2:h.Row r2 0 [.int .i64 b])(k:Kt):
  ∃ h',call AD (m+1) 92 [ktV k,pt r1,pt r2] h=.ok (.bool (KH a b k)) h'∧h.Ext h':=by
 have bx:=fun (F:ADS) (e:Env) (he:AB 0 e=ktV k)=>HP (F:=F) W he
 have x1:=(Hp.Ext.refl W).ADR 0 (AV k);have R:=Hp.Row.new W 0 (AV k);generalize h.ADR 0 (AV k)=h1 at bx x1 R;obtain⟨l0,l1,l2,l3,_,l5,_⟩:=Bq R;have m1:=Cw (R1.ext W x1);have m2:=Cw (R2.ext W x1);refine⟨h1,?_,x1⟩;unfold KH;rw[lN rfl];unfold d92;by_cases h1:k.a=a
 ·have c1:iEq k.a a=true:=DM h1
  by_cases h2:k.b=b
  ·have c2:iEq k.b b=true:=DM h2
   have c3:iEq (k.s:Int) 2=decide (k.s=2):=by
    by_cases h3:k.s=2
    ·rw[decide_eq_true h3];exact DM (by omega)
    ·rw[decide_eq_false h3];exact DL (by omega)
   simp only[iN,By,sT,AT,AI,reduceIte,gD,bx,AJ,AO,sh,AN,AQ,l0,l1,l3,m1,m2,AM,AK,c1,c2,c3,lV0];rw[decide_eq_true h1,decide_eq_true h2];rfl
  ·have c2:iEq k.b b=false:=DL h2
   simp only[iN,By,sT,AT,AI,reduceIte,gD,bx,AJ,AO,sh,AN,AQ,l0,l1,l3,m1,m2,AM,AK,c1,c2,lV0];rw[decide_eq_true h1,decide_eq_false h2];rfl
 ·have c1:iEq k.a a=false:=DL h1
  simp only[iN,By,sT,AT,AI,reduceIte,gD,bx,AJ,AO,sh,AN,AQ,l0,l1,l3,m1,m2,AM,AK,c1,lV0];rw[decide_eq_false h1];rfl
theorem Ht(W:h.Wf){z:Int}{g:O}(hg:g e=.int .i64 z):C7 g F e h=.ok (pt h.next) (h.ADR 0 [.int .i64 z]):=by rw[E6,hg,E3 W];rfl
theorem Hs(W:h.Wf)(R:h.Row A.bs 0 (slL A.bd A.tb lv fv bad ov))(K:h.KS S lv ks)(hl:ks.length≤100000)(a b c:Int):
  ∃ h',call AD (m+3) 41 [pt A.bs,.int .i64 a,.int .i64 b,.int .i64 c] h=.ok (.int .i64 (F4 (CN a b c) 0 ks)) h'∧h.Ext h':=by
 have b1:=fun (F:ADS) (e:Env) (he:AB 1 e=.int .i64 a)=>Ht (F:=F) W he
 have x1:=(Hp.Ext.refl W).ADR 0 [.int .i64 a];have R1:=Hp.Row.new W 0 [.int .i64 a];generalize h.ADR 0 [.int .i64 a]=h1 at b1 x1 R1;have b2:=fun (F:ADS) (e:Env) (he:AB 2 e=.int .i64 b)=>Ht (F:=F) x1.wf he
 have y2:=(Hp.Ext.refl x1.wf).ADR 0 [.int .i64 b];have R2:=Hp.Row.new x1.wf 0 [.int .i64 b];generalize h1.ADR 0 [.int .i64 b]=h2 at b2 y2 R2;have b3:=fun (F:ADS) (e:Env) (he:AB 3 e=.int .i64 c)=>Ht (F:=F) y2.wf he
 have y3:=(Hp.Ext.refl y2.wf).ADR 0 [.int .i64 c];have R3:=Hp.Row.new y2.wf 0 [.int .i64 c];generalize h2.ADR 0 [.int .i64 c]=h3 at b3 y3 R3;have x3:=(x1.trans y2).trans y3;obtain⟨_,_,_,l3,_⟩:=A7 (R.ext W x3);obtain⟨h4,k4,x4⟩:=On (m:=m+1) (g:=70) (caps:=[pt h.next,pt h1.next,pt h2.next]) (P:=CN a b c) x3.wf (K.ext W x3) hl fun h' x' k _=>mD x'.wf ((R1.ext x1.wf (y2.trans y3)).ext x3.wf x') ((R2.ext y2.wf y3).ext x3.wf x') (R3.ext x3.wf x') k
 refine⟨h4,?_,x3.trans x4⟩;rw[kJ rfl];unfold d41;simp only[iN,By,sT,AT,AI,reduceIte,b1,b2,b3,Ao,Ae,AJ,AO,sh,AN,AQ,l3,DY,AW,Az,BV,k4,lV0]
theorem mq(W:h.Wf)(R:h.Row A.bs 0 (slL A.bd A.tb lv fv bad ov))(K:h.KS S lv ks)(hl:ks.length≤100000)(a b:Int):
  ∃ h',call AD (m+3) 64 [pt A.bs,.int .i64 a,.int .i64 b] h=.ok (.int .i64 (F4 (KH a b) 0 ks)) h'∧h.Ext h':=by
 have b1:=fun (F:ADS) (e:Env) (he:AB 1 e=.int .i64 a)=>Ht (F:=F) W he
 have x1:=(Hp.Ext.refl W).ADR 0 [.int .i64 a];have R1:=Hp.Row.new W 0 [.int .i64 a];generalize h.ADR 0 [.int .i64 a]=h1 at b1 x1 R1;have b2:=fun (F:ADS) (e:Env) (he:AB 2 e=.int .i64 b)=>Ht (F:=F) x1.wf he
 have y2:=(Hp.Ext.refl x1.wf).ADR 0 [.int .i64 b];have R2:=Hp.Row.new x1.wf 0 [.int .i64 b];generalize h1.ADR 0 [.int .i64 b]=h2 at b2 y2 R2;have x2:=x1.trans y2;obtain⟨_,_,_,l3,_⟩:=A7 (R.ext W x2);obtain⟨h4,k4,x4⟩:=On (m:=m+1) (g:=92) (caps:=[pt h.next,pt h1.next]) (P:=KH a b) x2.wf (K.ext W x2) hl fun h' x' k _=>mF x'.wf ((R1.ext x1.wf y2).ext x2.wf x') (R2.ext x2.wf x') k
 refine⟨h4,?_,x2.trans x4⟩;rw[kh rfl];unfold d64;simp only[iN,By,sT,AT,AI,reduceIte,b1,b2,Ao,Ae,AJ,AO,sh,AN,AQ,l3,DY,AW,Az,BV,k4,lV0]
def Bp(a b c:Int)(ks:List Kt):Bool:=match ks.find? (KH a b)with
 |some k=>decide (c≤k.c)
 |none=>false
theorem EU(P:Kt→Bool):∀ (l:List Kt) (i:Nat),(l.find? P=none∧F4 P i l= -1)∨∃ j k,l.find? P=some k∧l[j]? =some k∧F4 P i l=((i+j:Nat):Int)
 |[],i=>.inl ⟨rfl,rfl⟩
 |k::l,i=>by
  unfold F4;by_cases h:P k=true
  ·rw[if_pos h]
   exact .inr ⟨0,k,by rw[List.find?_cons_of_pos h],rfl,rfl⟩
  ·rw[if_neg h]
   rcases EU P l (i+1)with ⟨h1,h2⟩|⟨j,k',h1,h2,h4⟩
   ·exact .inl ⟨by rw[AAw h];exact h1,h2⟩
   ·exact .inr ⟨j+1,k',by rw[AAw h];exact h1,by rw[wE];exact h2,by rw[h4];congr 1;omega⟩
theorem GN(W:h.Wf)(R:h.Row A.bs 0 (slL A.bd A.tb lv fv bad ov))(K:h.KS S lv ks)(hl:ks.length≤100000)(a b c:Int):
  ∃ h',call AD (m+4) 43 [pt A.bs,.int .i64 a,.int .i64 b,.int .i64 c] h=.ok (.bool (Bp a b c ks)) h'∧h.Ext h':=by
 obtain⟨h1,k1,x1⟩:=mq (m:=m) W R K hl a b;refine⟨h1,?_,x1⟩;unfold Bp;rw[kK rfl];unfold d43;rcases EU (KH a b) ks 0 with ⟨e1,e2⟩|⟨j,k,e1,e2,e3⟩
 ·rw[e2]at k1
  have c1:iGe (-1) 0=false:=FL (by omega);simp only[iN,By,sT,AT,AI,reduceIte,gD,cA0,k1,AM,AK,c1,lV0,e1]
 ·rw[e3,sh]at k1
  have c1:iGe (j:Int) 0=true:=HG (by omega);obtain⟨b',_,ix,_,ld⟩:=(K.ext W x1).at e2;have l2:=ld 2 (.int .i64 k.c) rfl;obtain⟨_,_,_,l3,_⟩:=A7 (R.ext W x1);have c2:iGe k.c c=decide (c≤k.c):=Oa _ _;simp only[iN,By,sT,AT,AI,reduceIte,gD,cA0,k1,AM,AK,c1,Ao,Ae,AJ,AO,sh,xM,AN,AQ,l3,A1,ix,l2,c2,lV0,e1]
end
end
noncomputable section
open Go
set_option maxRecDepth 100000
def C4(a b:Int):Int:=if a<b then -1 else if b<a then 1 else 0
def orZ:List Int→Int
 |[]=>0
 |z::l=>if z=0 then orZ l else z
def HX(x y:Kt):Int:=orZ [C4 x.a y.a,C4 x.b y.b,C4 x.c y.c,C4 x.p y.p]
theorem DV{e:Env}{h:Hp}:E0 [] e h=.ok ADV h:=rfl
section
variable {F:ADS}{e:Env}{h h':Hp}{S:Nat→Prop}{m:Nat}{ks:List Kt}{v:BY}
theorem lW{a b:Int}:call AD (m+2) 80 [.int .i64 a,.int .i64 b] h=.ok (.int .i64 (C4 a b)) h:=by
 have n1:∀ z:Int,call AD (m+1) 107 [.int .i64 z] h=.ok (.bool false) h:=fun z=>by
  have c1:iNe z z=false:=CV rfl;rw[Tm rfl];unfold X6;simp only[iN,By,sT,AT,AI,reduceIte,AM,AK,c1,lV0]
 unfold C4;rw[lE rfl];unfold d80;by_cases h1:a<b
 ·have c1:iLt a b=true:=MH h1
  rw[if_pos h1];simp only[iN,By,sT,AT,AI,reduceIte,cA0,n1,AM,AK,c1,lV0]
 ·have c1:iLt a b=false:=HI h1
  rw[if_neg h1];by_cases h2:b<a
  ·have c2:iGt a b=true:=FM h2
   rw[if_pos h2];simp only[iN,By,sT,AT,AI,reduceIte,cA0,n1,AM,AK,c1,c2,lV0]
  ·have c2:iGt a b=false:=Eq h2
   rw[if_neg h2];simp only[iN,By,sT,AT,AI,reduceIte,cA0,n1,AM,AK,c1,c2,lV0]
theorem Zp:orS=BK (Ad 0 (Ay orB)) orE:=rfl
theorem YM:d79=cq:=rfl
theorem ql{zs:List Int}(V:h.ADo v (ints .i64 zs))(hl:zs.length≤1000):call AD (m+1) 79 [v] h=.ok (.int .i64 (orZ zs)) h:=by
 have hil:(ints .i64 zs).length=zs.length:=If ..;have ln:=V.len;rw[hil]at ln;have pre:∃ e1,cq (call AD m) (AS e0 0 [v]) h=orS (call AD m) e1 h∧AB 3 e1=.int .i64 0∧AB 6 e1=v∧AB 7 e1=.int .i64 (zs.length:Int)∧AB 8 e1=.int .i64 ((0:Nat):Int):=by
  unfold cq;simp only[iN,By,sT,AT,AI,reduceIte,Af,ln];exact⟨_,rfl,by simp[AF]⟩
 obtain⟨e1,p1,s3,s6,s7,s8⟩:=pre;have run:(∃ e',Ay orB (call AD m) e1 h=.exit 0 e' h∧orZ zs=0∧AB 3 e'=.int .i64 0)∨(∃ e',Ay orB (call AD m) e1 h=.ret e' h∧AB 2 e'=.int .i64 (orZ zs)):=by
  refine BU (I:=fun i e' h'=>h'=h∧AB 3 e'=.int .i64 0∧AB 6 e'=v∧AB 7 e'=.int .i64 (zs.length:Int)∧AB 8 e'=.int .i64 (i:Int)∧i≤zs.length∧orZ zs=orZ (zs.drop i))
   (Q:=fun x=>(∃ e',x=.exit 0 e' h∧orZ zs=0∧AB 3 e'=.int .i64 0)∨(∃ e',x=.ret e' h∧AB 2 e'=.int .i64 (orZ zs))) zs.length (by omega) (fun i e' h' ⟨hh,t3,t6,t7,t8,hi,hr⟩=>?_) ⟨rfl,s3,s6,s7,s8,vi _,by rw[wM]⟩
  subst hh;by_cases hlt:i<zs.length
  ·obtain⟨a,g1,g2⟩:=V.at (i:=i) (by rw[hil];exact hlt)
   obtain⟨z,hz⟩:∃ z,zs[i]? =some z:=⟨_,No hlt⟩;have g2:Gy (.pointer (some a)) h'=.ok (.int .i64 z) h':=by
    rw[g2];have:(ints .i64 zs).getD i ADV=.int .i64 z:=by
     rw[OF];simp[ints,hz]
    rw[this]
   have hd:zs.drop i=z::zs.drop (i+1):=by
    rw[wY hlt];rw[No hlt]at hz;rw[Option.some.inj hz]
   rw[hd]at hr;have hr:orZ zs=if z=0 then orZ (zs.drop (i+1))else z:=hr
   have c1:=Es hlt;by_cases h0:z=0
   ·left
    rw[if_pos h0]at hr;have c2:iNe z 0=false:=CV h0;have a3:=CH (i:=i) (h:=h') (by omega);have hrun:∃ e2,orB (call AD m) e' h'=.norm e2 h'∧AB 3 e2=.int .i64 0∧AB 6 e2=v∧AB 7 e2=.int .i64 (zs.length:Int)∧AB 8 e2=.int .i64 ((i+1:Nat):Int):=by
     unfold orB;simp only[sT,AT,AI,reduceIte,AM,AK,t8,t7,c1,A1,t6,g1,AN,g2,t3,c2,BF,a3];exact⟨_,rfl,by simp[AF,t3,t6,t7]⟩
    obtain⟨e2,r1,r2,r3,r4,r5⟩:=hrun;exact⟨hlt,e2,h',r1,rfl,r2,r3,r4,r5,by omega,hr⟩
   ·right
    rw[if_neg h0]at hr;have c2:iNe z 0=true:=EL h0;have hrun:∃ e2,orB (call AD m) e' h'=.ret e2 h'∧AB 2 e2=.int .i64 z:=by
     unfold orB;simp only[sT,AT,AI,reduceIte,AM,AK,t8,t7,c1,A1,t6,g1,AN,g2,t3,c2];exact⟨_,rfl,by simp[AF]⟩
    obtain⟨e2,r1,r2⟩:=hrun;rw[r1];exact⟨rfl,.inr ⟨e2,rfl,by rw[r2,hr]⟩⟩
  ·right
   have c1:=DE (show zs.length≤i by omega);have hrun:∃ e2,orB (call AD m) e' h'=.exit 0 e2 h'∧AB 3 e2=.int .i64 0:=by
    unfold orB;simp only[sT,AT,AI,reduceIte,AM,AK,t8,t7,c1];exact⟨_,rfl,by simp[AF,t3]⟩
   obtain⟨e2,r1,r2⟩:=hrun;rw[r1];exact⟨rfl,.inl ⟨e2,rfl,by rw[hr,wR (by omega)];rfl,r2⟩⟩
 rcases run with ⟨e2,r1,r2,r3⟩|⟨e2,r1,r2⟩
 ·rw[Xn rfl,YM,p1,Zp,r2]
  simp only[BE,Ax,r1,A2,BA];unfold orE;simp only[sT,AT,AI,reduceIte,r3,lV0]
 ·rw[Xn rfl,YM,p1,Zp]
  simp only[BE,Ax,r1,B0,CY,lV0,r2]
theorem oC:BO ty3.zero 4=[.int .i64 0,.int .i64 0,.int .i64 0,.int .i64 0]:=by kernel_rfl
theorem V5(W:h.Wf){g1 g2 g3 g4:O}{a b c d:Int}(h1:g1 e=.int .i64 a)(h2:g2 e=.int .i64 b)(h3:g3 e=.int .i64 c)(h4:g4 e=.int .i64 d):
  Ak 4 (BO ty3.zero 4) [(0,1,g1),(1,1,g2),(2,1,g3),(3,1,g4)] F e h=.ok (.slice (some ⟨h.next,0,none⟩) 4 4) (h.ADR 0 (ints .i64 [a,b,c,d])):=by
 rw[Ce,oC,BD (hk:=by rw[h1];rfl),h1,BD (hk:=by rw[h2];rfl),h2,BD (hk:=by rw[h3];rfl),h3,BD (hk:=by rw[h4];rfl),h4];simp only[Dc,wU,vI,wB,over,List.take,ACP,List.append_eq,wL,List.cons_append,By,Nat.reduceLeDiff,if_true,CP,reduceIte];rw[Cv W];rfl
theorem Zq(W:h.Wf)(x y:Kt):∃ h',call AD (m+3) 51 [ktV x,ktV y] h=.ok (.int .i64 (HX x y)) h'∧h.Ext h':=by
 have b1:=fun (F:ADS) (e:Env) (he:AB 0 e=ktV x)=>HP (F:=F) W he
 have x1:=(Hp.Ext.refl W).ADR 0 (AV x);have R1:=Hp.Row.new W 0 (AV x);have n1:(h.ADR 0 (AV x)).next=h.next+1:=rfl;generalize h.ADR 0 (AV x)=h1 at b1 x1 R1 n1;have b2:=fun (F:ADS) (e:Env) (he:AB 1 e=ktV y)=>HP (F:=F) x1.wf he
 have y2:=(Hp.Ext.refl x1.wf).ADR 0 (AV y);have R2:=Hp.Row.new x1.wf 0 (AV y);have n2:(h1.ADR 0 (AV y)).next=h1.next+1:=rfl;generalize h1.ADR 0 (AV y)=h2 at b2 y2 R2 n2;have x2:=(x1.trans y2).marked;have R1m:h2.marked.Row h.next 0 (AV x):=(R1.ext x1.wf y2).same rfl;have R2m:h2.marked.Row h1.next 0 (AV y):=R2.same rfl;have mk:h2.marked.mark=h2.next:=rfl;have nx:h2.marked.next=h2.next:=rfl;generalize hg0:h2.marked=g0 at x2 R1m R2m mk nx;have wk:∀ (g:Hp) (W:g.Wf) (hm:g.mark≤g.next) (mm:Qm) (i j:Nat) (a b:Int) (e:Env),AB i e=.int .i64 a→AB j e=.int .i64 b→Al mm (AU 80 [AB i,AB j]) (call AD (m+2)) e g=.ok (.int .i64 (C4 a b)) (g.back g.quiet):=fun g W hm mm i j a b e e1 e2=>by
  refine GL W ?_ hm;rw[BV,AW,AW,Az,e1,e2];exact lW
 have bk:∀ g:Hp,g.Wf→g.Ext (g.back g.quiet)∧(g.back g.quiet).next=g.next∧(g.back g.quiet).mark=g.mark:=fun g W=>⟨Hp.Ext.AEc (.refl W) (Hp.Ext.refl W).quiet,rfl,rfl⟩
 have ol:∀ (g:Hp) (hm:g.mark=h2.next) (r off:Nat) (kk:C) (F:ADS) (e:Env),r<h2.next→Ih (.pointer (some ⟨r,off,none⟩)) kk F e g=kk F e g:=fun g hm r off kk F e hr=>DZ (by rw[hm];exact hr)
 obtain⟨l0,_⟩:=Bq R1m;obtain⟨k0,_⟩:=Bq R2m;have w1:=wk g0 x2.wf (by omega) .weak 7 10 x.a y.a;obtain⟨z1,v1,u1⟩:=bk g0 x2.wf;generalize g0.back g0.quiet=g1 at w1 z1 v1 u1;have o1:=ol g1 (u1.trans mk);obtain⟨_,l1,_⟩:=Bq (R1m.ext x2.wf z1);obtain⟨_,k1,_⟩:=Bq (R2m.ext x2.wf z1);have w2:=wk g1 z1.wf (by omega) .weak 14 17 x.b y.b;obtain⟨z2',v2,u2⟩:=bk g1 z1.wf;generalize g1.back g1.quiet=g2 at w2 z2' v2 u2;have z2:=z1.trans z2';have o2:=ol g2 (by omega);obtain⟨_,_,l2,_⟩:=Bq (R1m.ext x2.wf z2);obtain⟨_,_,k2,_⟩:=Bq (R2m.ext x2.wf z2);have w3:=wk g2 z2.wf (by omega) .weak 21 24 x.c y.c;obtain⟨z3',v3,u3⟩:=bk g2 z2.wf;generalize g2.back g2.quiet=g3 at w3 z3' v3 u3;have z3:=z2.trans z3';have o3:=ol g3 (by omega);obtain⟨_,_,_,_,_,l5,_⟩:=Bq (R1m.ext x2.wf z3);obtain⟨_,_,_,_,_,k5,_⟩:=Bq (R2m.ext x2.wf z3);have w4:=wk g3 z3.wf (by omega) .free 27 29 x.p y.p;obtain⟨z4',v4,u4⟩:=bk g3 z3.wf;generalize g3.back g3.quiet=g4 at w4 z4' v4 u4;have z4:=z3.trans z4';have q5:∀ (F:ADS) (e:Env),AB 11 e=.int .i64 (C4 x.a y.a)→AB 18 e=.int .i64 (C4 x.b y.b)→AB 25 e=.int .i64 (C4 x.c y.c)→AB 30 e=.int .i64 (C4 x.p y.p)→Al .ADk (Ak 4 (BO ty3.zero 4) [(0,1,AB 11),(1,1,AB 18),(2,1,AB 25),(3,1,AB 30)]) F e g4=.ok (.slice (some ⟨g4.next,0,none⟩) 4 4) (g4.back (g4.quiet.ADR 0 (ints .i64 [C4 x.a y.a,C4 x.b y.b,C4 x.c y.c,C4 x.p y.p]))):=fun F e e1 e2 e3 e4=>DF (V5 z4.wf.quiet e1 e2 e3 e4) ((Hp.Ext.refl z4.wf.quiet).ADR _ _) (by omega)
 have y5:g4.Ext (g4.back (g4.quiet.ADR 0 (ints .i64 [C4 x.a y.a,C4 x.b y.b,C4 x.c y.c,C4 x.p y.p]))):=.back ((Hp.Ext.refl z4.wf.quiet).ADR _ _);have R5:(g4.back (g4.quiet.ADR 0 (ints .i64 [C4 x.a y.a,C4 x.b y.b,C4 x.c y.c,C4 x.p y.p]))).Row g4.next 0 (ints .i64 [C4 x.a y.a,C4 x.b y.b,C4 x.c y.c,C4 x.p y.p]):=(Hp.Row.new z4.wf.quiet 0 (ints .i64 [C4 x.a y.a,C4 x.b y.b,C4 x.c y.c,C4 x.p y.p])).same rfl;generalize g4.back (g4.quiet.ADR 0 (ints .i64 [C4 x.a y.a,C4 x.b y.b,C4 x.c y.c,C4 x.p y.p]))=g5 at q5 y5 R5;have z5:=z4.trans y5;have k6:=ql (m:=m+1) (h:=g5.quiet) (v:=.slice (some ⟨g4.next,0,none⟩) 4 4) (zs:=[C4 x.a y.a,C4 x.b y.b,C4 x.c y.c,C4 x.p y.p]) (.inr ⟨g4.next,0,4,0,_,rfl,R5.same rfl,IN _,rfl⟩) (by show 4≤1000;omega);have q6:∀ e:Env,AB 31 e=.slice (some ⟨g4.next,0,none⟩) 4 4→Al .free (AU 79 [AB 31]) (call AD (m+2)) e g5=.ok (.int .i64 (HX x y)) (g5.back g5.quiet):=fun e e1=>by
  refine BQ ?_;rw[BV,AW,Az,e1];exact k6
 refine⟨g5.back g5.quiet,?_,(x2.trans z5).trans (bk g5 z5.wf).1⟩;rw[kN rfl];unfold d51;have hx1:h.next<h2.next:=by omega
 have hx2:h1.next<h2.next:=by omega
 have o11:=fun off kk F e=>o1 h.next off kk F e hx1
 have o12:=fun off kk F e=>o1 h1.next off kk F e hx2
 have o21:=fun off kk F e=>o2 h.next off kk F e hx1
 have o22:=fun off kk F e=>o2 h1.next off kk F e hx2
 have o31:=fun off kk F e=>o3 h.next off kk F e hx1
 have o32:=fun off kk F e=>o3 h1.next off kk F e hx2
 simp only[iN,By,sT,AT,AI,reduceIte,b1,b2,A3,hg0,AJ,AO,sh,xM,AN,AQ,l0,k0,w1,D0,o11,o12,DT,l1,k1,w2,o21,o22,l2,k2,w3,o31,o32,l5,k5,w4,q5,q6,lV0]
theorem WL{body:C}{i:Nat}{e':Env}(hb:body F e h=.exit i e' h'):Ay body F e h=.exit i e' h':=by
 show iter body (8796093022207+1) F e h=_;unfold iter;rw[hb]
theorem Ok:jsB=WD:=rfl
theorem YO:d97=cx:=rfl
theorem qT(W:h.Wf)(K:h.KS S v ks)(hl:ks.length≤1000)(hs:∀ (i:Nat) (x y:Kt),ks[i]? =some x→ks[i+1]? =some y→0≤HX y x):
  ∃ h',call AD (m+4) 97 [v,.int .i64 0,.int .i64 (ks.length:Int),.func (.func 51) ⟨[]⟩ ⟨[]⟩] h=.ok ADV h'∧h.Ext h':=by
 have run:∀ e1:Env,AB 0 e1=v→AB 1 e1=.int .i64 0→AB 2 e1=.int .i64 (ks.length:Int)→AB 3 e1=.func (.func 51) ⟨[]⟩ ⟨[]⟩→AB 8 e1=.int .i64 ((1:Nat):Int)→∃ e' h',Ay jsB (call AD (m+3)) e1 h=.exit 0 e' h'∧h.Ext h':=fun e1 s0 s1 s2 s3 s8=>by
  refine BU (I:=fun i e' h'=>h.Ext h'∧AB 0 e'=v∧AB 1 e'=.int .i64 0∧AB 2 e'=.int .i64 (ks.length:Int)∧AB 3 e'=.func (.func 51) ⟨[]⟩ ⟨[]⟩∧AB 8 e'=.int .i64 ((i+1:Nat):Int)) (Q:=fun x=>∃ e' h',x=.exit 0 e' h'∧h.Ext h') ks.length (by omega) (fun i e' h' ⟨x',t0,t1,t2,t3,t8⟩=>?_) ⟨.refl W,s0,s1,s2,s3,s8⟩;by_cases hlt:i+1<ks.length
  ·left
   have c1:iLt ((i+1:Nat):Int) (ks.length:Int)=true:=Es hlt;have c2:iGt ((i+1:Nat):Int) 0=true:=FM (by omega);obtain⟨y,hy⟩:∃ y,ks[i+1]? =some y:=⟨_,No hlt⟩;obtain⟨x,hx⟩:∃ x,ks[i]? =some x:=⟨_,No (by omega)⟩;have x1:=x'.marked;have K1:=K.ext W x1;obtain⟨b,_,ix,ld,_⟩:=K1.at hy;obtain⟨b',_,ix',ld',_⟩:=K1.at hx;have a1:Fc wA .i64 (.int .i64 ((i+1:Nat):Int)) (.int .i64 1) h'.marked=.ok (.int .i64 (i:Int)) h'.marked:=by
    have:wA ((i+1:Nat):Int) 1=(i:Int):=by
     show((i+1:Nat):Int) - 1=_;omega
    rw[CZ,this,BW (by omega)]
   obtain⟨h2,k2,x2⟩:=Zq (m:=m) x1.quiet.wf y x;have q2:∀ e:Env,AB 22 e=.func (.func 51) ⟨[]⟩ ⟨[]⟩→AB 26 e=ktV y→AB 31 e=ktV x→Al .free (EY (AB 22) [AB 26,AB 31]) (call AD (m+3)) e h'.marked=.ok (.int .i64 (HX y x)) (h'.marked.back h2):=fun e e1 e2 e3=>by
    refine BQ ?_;rw[CR,AW,AW,Az,e1,e2,e3];exact k2
   have y2:h'.marked.Ext (h'.marked.back h2):=.back x2;generalize h'.marked.back h2=h3 at q2 y2;have x3:=x1.trans y2;have c3:iLt (HX y x) 0=false:=HI (by have:=hs i x y hx hy;omega);have a3:FH .i64 (.int .i64 ((i+1:Nat):Int)) (.int .i64 1) h3=.ok (.int .i64 ((i+1+1:Nat):Int)) h3:=CH (by omega);have inn:∀ e:Env,AB 0 e=v→AB 1 e=.int .i64 0→AB 3 e=.func (.func 51) ⟨[]⟩ ⟨[]⟩→AB 9 e=.int .i64 ((i+1:Nat):Int)→∃ e2,jnB (call AD (m+3)) e h'=.exit 2 e2 h3∧∀ j,j=0∨j=1∨j=2∨j=3∨j=8→AB j e2=AB j e:=fun e t0 t1 t3 t9=>by
    unfold jnB WC swB Av;simp only[sT,AT,AI,reduceIte,gD,A3,AM,AK,t9,t1,c2,t3,t0,A1,ix,ix',Aw,Ar,ld,ld',Br,a1,q2,c3];refine⟨_,rfl,fun j hj=>?_⟩;rcases hj with rfl|rfl|rfl|rfl|rfl<;>simp only[AF,AT,AI,reduceIte]
   obtain⟨e2,i1,i2⟩:=inn (Env.set 9 (.int .i64 ((i+1:Nat):Int)) (Env.set 14 (.bool true) e')) (by simp[AF,t0]) (by simp[AF,t1]) (by simp[AF,t3]) (by simp[AF]);have i1:=WL i1;have g0:=i2 0 (by omega);have g1:=i2 1 (by omega);have g2:=i2 2 (by omega);have g3:=i2 3 (by omega);have g8:=i2 8 (by omega);simp only[AF,AT,AI,reduceIte,t0]at g0;simp only[AF,AT,AI,reduceIte,t1]at g1;simp only[AF,AT,AI,reduceIte,t2]at g2;simp only[AF,AT,AI,reduceIte,t3]at g3;simp only[AF,AT,AI,reduceIte,t8]at g8;have hrun:∃ e3,jsB (call AD (m+3)) e' h'=.norm e3 h3∧AB 0 e3=v∧AB 1 e3=.int .i64 0∧AB 2 e3=.int .i64 (ks.length:Int)∧AB 3 e3=.func (.func 51) ⟨[]⟩ ⟨[]⟩∧AB 8 e3=.int .i64 ((i+1+1:Nat):Int):=by
    rw[Ok];unfold WD;simp only[sT,AT,AI,reduceIte,AM,AK,t8,t2,c1,i1,g8,BF,a3];exact⟨_,rfl,by simp[AF,g0,g1,g2,g3]⟩
   obtain⟨e3,r1,r2,r3,r4,r5,r6⟩:=hrun;exact⟨by omega,e3,h3,r1,x3,r2,r3,r4,r5,r6⟩
  ·right
   have c1:iLt ((i+1:Nat):Int) (ks.length:Int)=false:=DE (by omega);have hrun:∃ e3,jsB (call AD (m+3)) e' h'=.exit 0 e3 h':=by
    rw[Ok];unfold WD;simp only[sT,AT,AI,reduceIte,AM,AK,t8,t2,c1];exact⟨_,rfl⟩
   obtain⟨e3,r1⟩:=hrun;rw[r1];exact⟨rfl,e3,h',rfl,x'⟩
 have a1:FH .i64 (.int .i64 0) (.int .i64 1) h=.ok (.int .i64 ((1:Nat):Int)) h:=CH (i:=0) (by omega);obtain⟨e2,h2,r1,x2⟩:=run (Env.set 8 (.int .i64 ((1:Nat):Int)) (Env.set 11 (.int .i64 ((1:Nat):Int)) (AS e0 0 [v,.int .i64 0,.int .i64 (ks.length:Int),.func (.func 51) ⟨[]⟩ ⟨[]⟩]))) (by simp only[iN,By,AF,AT,AI,reduceIte]) (by simp only[iN,By,AF,AT,AI,reduceIte]) (by simp only[iN,By,AF,AT,AI,reduceIte]) (by simp only[iN,By,AF,AT,AI,reduceIte]) (by simp[AF]);simp only[iN,By]at r1;refine⟨h2,?_,x2⟩;rw[Xr rfl,YO];unfold cx;simp only[iN,By,sT,AT,AI,reduceIte,BF,a1,r1,DX,DV]
theorem YL:d77=co:=rfl
theorem Zw:pdB=fb:=rfl
theorem MS{body:C}{e':Env}(hb:body F e h=.ret e' h'):Ay body F e h=.ret e' h':=by
 show iter body (8796093022207+1) F e h=_;unfold iter;rw[hb]
theorem XL{x y:O}{n:Nat}{s:ByteArray}(hx:x e=.string s)(hy:y e=.int .u8 (n:Int))(hn:n<s.data.toList.length):∃ b:Nat,Id x y F e h=.ok (.int .u8 (b:Int)) h∧b<256:=by
 have e1:Id x y F e h=Jp (x e) (Cz (y e)) h:=rfl;have e2:nth s.data.toList n=some (s.data.toList[n]'hn):=by rw[FP,No hn]
 refine⟨(s.data.toList[n]'hn).toNat,?_,UInt8.toNat_lt _⟩;rw[e1,hx,hy,Cu];unfold Jp;simp only[e2];exact Ea ..
theorem OL{n:Nat}(hn:n<256):∃ k:Nat,call AD (m+2) 78 [.int .u64 (n:Int)] h=.ok (.int .i64 (k:Int)) h:=by
 have c1:iGe (n:Int) 4294967296=false:=FL (by omega);have c2:iGe (n:Int) 65536=false:=FL (by omega);have c3:iGe (n:Int) 256=false:=FL (by omega);have v1:DH .u8 (.int .u64 (n:Int)) h=.ok (.int .u8 (n:Int)) h:=by rw[CU,Gp,Nat.mod_eq_of_lt hn]
 have key:∃ k:Nat,call AD (m+1) 106 [.int .u64 (n:Int)] h=.ok (.int .i64 (k:Int)) h:=by
  rw[bt rfl];unfold cP;simp only[iN,By,sT,AT,AI,reduceIte,AM,AK,c1,c2,c3,B8,v1];obtain⟨b,hb,hlt⟩:=XL (F:=call AD m) (h:=h) (e:=Env.set 21 (.int .u8 (n:Int)) (Env.set 14 (.bool false) (Env.set 8 (.bool false) (Env.set 4 (.bool false) (Env.set 2 (.int .i64 0) (Env.set 0 (.int .u64 (n:Int)) e0)))))) (x:=(kV (.string ⟨#[0,1,2,2,3,3,3,3,4,4,4,4,4,4,4,4,5,5,5,5,5,5,5,5,5,5,5,5,5,5,5,5,6,6,6,6,6,6,6,6,6,6,6,6,6,6,6,6,6,6,6,6,6,6,6,6,6,6,6,6,6,6,6,6,7,7,7,7,7,7,7,7,7,7,7,7,7,7,7,7,7,7,7,7,7,7,7,7,7,7,7,7,7,7,7,7,7,7,7,7,7,7,7,7,7,7,7,7,7,7,7,7,7,7,7,7,7,7,7,7,7,7,7,7,7,7,7,7,8,8,8,8,8,8,8,8,8,8,8,8,8,8,8,8,8,8,8,8,8,8,8,8,8,8,8,8,8,8,8,8,8,8,8,8,8,8,8,8,8,8,8,8,8,8,8,8,8,8,8,8,8,8,8,8,8,8,8,8,8,8,8,8,8,8,8,8,8,8,8,8,8,8,8,8,8,8,8,8,8,8,8,8,8,8,8,8,8,8,8,8,8,8,8,8,8,8,8,8,8,8,8,8,8,8,8,8,8,8,8,8,8,8,8,8,8,8,8,8,8,8,8,8,8,8,8,8]⟩))) (y:=AB 21) (n:=n) rfl (by simp[AF]) (by
   refine Nat.lt_of_lt_of_eq hn ?_
   kernel_rfl)
  rw[hb];have v2:DH .i64 (.int .u8 (b:Int)) h=.ok (.int .i64 (b:Int)) h:=by rw[CU,BW (by omega)]
  have a2:FH .i64 (.int .i64 0) (.int .i64 (b:Int)) h=.ok (.int .i64 (b:Int)) h:=by
   have:=PP (h:=h) (a:=0) (b:=b) (by omega);rw[sh]at this;exact this
  simp only[sT,AT,AI,reduceIte,B8,v2,BF,a2,lV0];exact⟨b,rfl⟩
 obtain⟨k,hk⟩:=key;refine⟨k,?_⟩;rw[lD rfl];unfold d78;simp only[iN,By,sT,AT,AI,reduceIte,cA0,hk,lV0]
theorem gG(W:h.Wf)(K:h.KS S v ks)(hl:ks.length≤12)(hs:∀ (i:Nat) (x y:Kt),ks[i]? =some x→ks[i+1]? =some y→0≤HX y x):
  ∃ h',call AD (m+6) 50 [v,.func (.func 51) ⟨[]⟩ ⟨[]⟩] h=.ok ADV h'∧h.Ext h':=by
 have ln:=K.len h;obtain⟨h2,k2,x2⟩:=qT (m:=m) W K (by omega) hs;obtain⟨k,kb⟩:=OL (m:=m+3) (h:=h) (n:=ks.length) (by omega);have cv:DH .u64 (.int .i64 (ks.length:Int)) h=.ok (.int .u64 (ks.length:Int)) h:=by rw[CU,EI (by omega)]
 have a1:Fc wA .i64 (.int .i64 (ks.length:Int)) (.int .i64 0) h=.ok (.int .i64 (ks.length:Int)) h:=by
  have:wA (ks.length:Int) 0=(ks.length:Int):=Int.sub_zero _;rw[CZ,this,BW (by omega)]
 have c1:iLe (ks.length:Int) 12=true:=Kk (by omega);have pd:call AD (m+5) 77 [v,.int .i64 0,.int .i64 (ks.length:Int),.int .i64 (k:Int),.func (.func 51) ⟨[]⟩ ⟨[]⟩] h=.ok ADV h2:=by
  have hb:∃ e2,pdB (call AD (m+4)) (Env.set 11 (.bool true) (Env.set 10 (.bool true) (AS e0 0 [v,.int .i64 0,.int .i64 (ks.length:Int),.int .i64 (k:Int),.func (.func 51) ⟨[]⟩ ⟨[]⟩]))) h=.ret e2 h2:=by
   rw[Zw];unfold fb;simp only[iN,By,sT,AT,AI,reduceIte,Br,a1,AM,AK,c1,cA0,k2];exact⟨_,rfl⟩
  obtain⟨e2,r1⟩:=hb;have r1:=MS r1;simp only[iN,By]at r1;rw[Xm rfl,YL];unfold co;simp only[iN,By,sT,AT,AI,reduceIte,r1,Be,DV]
 refine⟨h2,?_,x2⟩;rw[Xe rfl];unfold d50;simp only[iN,By,sT,AT,AI,reduceIte,Af,ln,B8,cv,cA0,kb,pd,DX,DV]
end
end
noncomputable section
open Go
set_option maxRecDepth 100000
theorem QO{k:vQ}{Z:List Int}:(ints k Z).length=Z.length:=If ..
theorem dX{k:vQ}{Z:List Int}{i:Nat}(hi:i<Z.length):(ints k Z).getD i ADV=.int k (Z.getD i 0):=by
 unfold ints;rw[OF,List.getElem?_map,OF,No hi];rfl
theorem Hp.ADo.int{h:Hp}{k:vQ}{u:BY}{Z:List Int}(V:h.ADo u (ints k Z)){i:Nat}(hi:i<Z.length):∃ a,AEP 1 u (.int .i64 (i:Int)) h=.ok (.pointer (some a)) h∧Gy (.pointer (some a)) h=.ok (.int k (Z.getD i 0)) h:=by
 obtain⟨a,g1,g2⟩:=V.at (i:=i) (by rw[QO];exact hi);rw[dX hi]at g2;exact⟨a,g1,g2⟩
theorem Hp.ADo.AJA{h:Hp}{k:vQ}{u:BY}{Z:List Int}(V:h.ADo u (ints k Z)):AEL u h=.ok (.int .i64 (Z.length:Int)) h:=by
 have:=V.len;rwa [QO]at this
def IZ(x:Int):Nat→List Int→Int
 |_,[]=> -1
 |i,z::l=>if x=z then(i:Int)else IZ x (i+1) l
theorem UV(x:Int):∀ (zs:List Int) (i:Nat),(x∉zs∧IZ x i zs= -1)∨(x∈zs∧∃ k,k<zs.length∧IZ x i zs=((i+k:Nat):Int)∧zs.getD k 0=x)
 |[],i=>.inl ⟨fun h=>(by cases h),rfl⟩
 |z::l,i=>by
  unfold IZ;by_cases h:x=z
  ·rw[if_pos h]
   exact .inr ⟨by rw[h];exact vG,0,Nat.succ_pos _,rfl,h.symm⟩
  ·rw[if_neg h]
   rcases UV x l (i+1)with ⟨h1,h2⟩|⟨h1,k,h2,h3,h4⟩
   ·refine .inl ⟨fun hx=>?_,h2⟩
    rcases List.mem_cons.1 hx with hx|hx
    ·exact h hx
    ·exact h1 hx
   ·exact .inr ⟨vH _ h1,k+1,Nat.succ_lt_succ h2,by rw[h3];congr 1;omega,h4⟩
theorem dV(x:Int)(zs:List Int):(0≤IZ x 0 zs)↔x∈zs:=by
 rcases UV x zs 0 with ⟨h1,h2⟩|⟨h1,k,_,h3,_⟩
 ·rw[h2];exact⟨fun h=>by omega,fun h=>absurd h h1⟩
 ·rw[h3];exact⟨fun _=>h1,fun _=>by omega⟩
theorem dU(x:Int)(zs:List Int):iGe (IZ x 0 zs) 0=decide (x∈zs):=by
 rw[Oa,decide_eq_decide];exact dV x zs
theorem me:ixS=BK (Ad 0 (Ay ixB)) ixE:=rfl
theorem lz:d91=cw:=rfl
theorem dZ{F:ADS}{h:Hp}{u:BY}{zs:List Int}{x:Int}(V:h.ADo u (ints .i64 zs))(hl:zs.length<900000){e:Env}(s0:AB 0 e=u)(s1:AB 1 e=.int .i64 x)(s7:AB 7 e=.int .i64 (zs.length:Int))(s8:AB 8 e=.int .i64 0):
  (∃ e',Ay ixB F e h=.exit 0 e' h∧IZ x 0 zs= -1)∨(∃ e',Ay ixB F e h=.ret e' h∧AB 4 e'=.int .i64 (IZ x 0 zs)):=by
 refine BU (I:=fun i e' h'=>h'=h∧AB 0 e'=u∧AB 1 e'=.int .i64 x∧AB 7 e'=.int .i64 (zs.length:Int)∧AB 8 e'=.int .i64 (i:Int)∧i≤zs.length∧IZ x 0 zs=IZ x i (zs.drop i))
  (Q:=fun y=>(∃ e',y=.exit 0 e' h∧IZ x 0 zs= -1)∨(∃ e',y=.ret e' h∧AB 4 e'=.int .i64 (IZ x 0 zs))) zs.length (by omega) (fun i e' h' ⟨hh,t0,t1,t7,t8,hi,hr⟩=>?_)
  ⟨rfl,s0,s1,s7,s8,vi _,rfl⟩
 subst hh;by_cases hlt:i<zs.length
 ·obtain⟨a,g1,g2⟩:=V.int hlt
  have hd:zs.drop i=zs.getD i 0::zs.drop (i+1):=by
   rw[wY hlt,OF,No hlt];rfl
  rw[hd]at hr;generalize zs.getD i 0=z at g2 hr;have hr:IZ x 0 zs=if x=z then(i:Int)else IZ x (i+1) (zs.drop (i+1)):=hr
  have c1:iLt (i:Int) (zs.length:Int)=true:=by rw[Cs];simp;omega
  by_cases hx:x=z
  ·right
   have c2:iEq x z=true:=by rw[D9];simpa using hx
   have hrun:∃ e2,ixB F e' h'=.ret e2 h'∧AB 4 e2=.int .i64 (i:Int):=by
    unfold ixB;simp only[sT,AT,AI,reduceIte,AM,AK,t8,t7,c1,A1,t0,g1,AN,g2,t1,c2];exact⟨_,rfl,by simp[AF]⟩
   obtain⟨e2,r1,r2⟩:=hrun;rw[r1];refine⟨rfl,.inr ⟨e2,rfl,?_⟩⟩;rw[r2,hr,if_pos hx]
  ·left
   have c2:iEq x z=false:=by rw[D9];simpa using hx
   have a3:FH .i64 (.int .i64 (i:Int)) (.int .i64 1) h'=.ok (.int .i64 ((i+1:Nat):Int)) h':=by
    have:(i:Int)+1=((i+1:Nat):Int):=by omega
    rw[Ee,this,BW (by omega)]
   have hrun:∃ e2,ixB F e' h'=.norm e2 h'∧AB 0 e2=u∧AB 1 e2=.int .i64 x∧AB 7 e2=.int .i64 (zs.length:Int)∧AB 8 e2=.int .i64 ((i+1:Nat):Int):=by
    unfold ixB;simp only[sT,AT,AI,reduceIte,AM,AK,t8,t7,c1,A1,t0,g1,AN,g2,t1,c2,BF,a3];exact⟨_,rfl,by simp[AF,t0,t1,t7]⟩
   obtain⟨e2,r1,r2,r3,r4,r5⟩:=hrun;rw[if_neg hx]at hr;exact⟨hlt,e2,h',r1,rfl,r2,r3,r4,r5,hlt,hr⟩
 ·right
  have c1:iLt (i:Int) (zs.length:Int)=false:=by rw[Cs];simp;omega
  have hrun:∃ e2,ixB F e' h'=.exit 0 e2 h':=by
   unfold ixB;simp only[sT,AT,AI,reduceIte,AM,AK,t8,t7,c1];exact⟨_,rfl⟩
  obtain⟨e2,r1⟩:=hrun;rw[r1];refine⟨rfl,.inl ⟨e2,rfl,?_⟩⟩;rw[hr,wR (by omega)];rfl
theorem Yr{n:Nat}{h:Hp}{u:BY}{zs:List Int}{x:Int}(V:h.ADo u (ints .i64 zs))(hl:zs.length<900000):call AD (n+1) 91 [u,.int .i64 x] h=.ok (.int .i64 (IZ x 0 zs)) h:=by
 have pre:∃ e1,cw (call AD n) (AS e0 0 [u,.int .i64 x]) h=ixS (call AD n) e1 h∧AB 0 e1=u∧AB 1 e1=.int .i64 x∧AB 7 e1=.int .i64 (zs.length:Int)∧AB 8 e1=.int .i64 0:=by
  unfold cw;simp only[iN,By,F3,Gc,ED,HN,AF,AT,AI,reduceIte,Af,V.AJA];exact⟨_,rfl,by simp[AF]⟩
 obtain⟨e1,p1,p0,pp1,p7,p8⟩:=pre;rw[lM rfl,lz,p1,me];rcases dZ (F:=call AD n) V hl p0 pp1 p7 p8 with ⟨e2,q1,q2⟩|⟨e2,q1,q2⟩
 ·simp only[BE,Ax,q1,A2,BA]
  unfold ixE;simp only[sT,AT,AI,reduceIte,lV0,q2]
 ·simp only[BE,Ax,q1,B0,CY,lV0,q2]
theorem Pi{n:Nat}{h:Hp}{u:BY}{zs:List Int}{x:Int}(V:h.ADo u (ints .i64 zs))(hl:zs.length<900000):call AD (n+2) 63 [u,.int .i64 x] h=.ok (.bool (decide (x∈zs))) h:=by
 have k1:=Yr (n:=n) (x:=x) V hl;rw[kZ rfl];unfold d63;simp only[iN,By,sT,AT,AI,reduceIte,cA0,k1,AM,AK,dU,lV0]
section
variable {F:ADS}{e:Env}{h h' h0:Hp}{S:Nat→Prop}{m k:Nat}{ks:List Kt}{v:BY}
def Hp.KO(h:Hp)(k:Nat)(v:BY)(ks:List Kt):Prop:=(v=.slice none 0 0∧ks=[])∨∃ b,v=.slice (some ⟨b,0,none⟩) ks.length ks.length∧h.Row b 84 (flK ks)∧k≤b∧256≤b
theorem Hp.KO.lst(o:h.KO k v ks):h.KS (fun b=>k≤b) v ks:=by
 rcases o with h1|⟨b,h1,h2,h3,h4⟩
 ·exact .inl h1
 ·exact .inr ⟨b,_,84,_,h1,IN _,h2,by rw[CI];omega,by rw[← CI,wh],.inl rfl,h3⟩
theorem Hp.KO.keep(o:h.KO k v ks)(hk:∀ b el L,ADv v b→h.Row b el L→h'.Row b el L):h'.KO k v ks:=by
 rcases o with h1|⟨b,h1,h2,h3,h4⟩
 ·exact .inl h1
 ·exact .inr ⟨b,h1,hk b _ _ ⟨0,_,_,h1⟩ h2,h3,h4⟩
theorem Hp.KO.ext(o:h.KO k v ks)(W:h.Wf)(x:h.Ext h'):h'.KO k v ks:=o.keep fun _ _ _ _ r=>r.ext W x
theorem Hp.KO.same(o:h.KO k v ks)(hb:h'.bl=h.bl):h'.KO k v ks:=o.keep fun _ _ _ _ r=>r.same hb
theorem Hp.KO.blk(o:h.KO k v ks)(W:h.Wf){b:Nat}(hb:ADv v b):k≤b∧b<h.next:=by
 obtain⟨off,n,c,e1⟩:=hb;rcases o with ⟨h1,h2⟩|⟨b',h1,h2,h3,h4⟩
 ·rw[h1]at e1;cases e1
 ·have:=h2.lt W
  rw[h1]at e1;injection e1 with e1 _ _
  injection e1 with e1
  injection e1 with e1 _ _
  omega
theorem VN:BO FZ.zero 1=AV K0:=by kernel_rfl
theorem MP(W:h.Wf){g:O}{x:Kt}(hg:g e=ktV x):Ak 1 (BO FZ.zero 1) [(0,6,g)] F e h=.ok (.slice (some ⟨h.next,0,none⟩) 1 1) (h.ADR 0 (AV x)):=by
 rw[VN,Ce,BD (hk:=by rw[hg];rfl),hg,show cellsOf (ktV x)=AV x from rfl,if_pos (show(AV x).length=6 from rfl),if_pos (show 0+6≤(AV K0).length from IN _),CP,Cv W];rfl
theorem GW{x:Kt}(hu:oneCell x.u=true):Bd (AV x)=true:=by
 show(bif oneCell x.u then true else false)=true;rw[hu];rfl
theorem Sr(x0:h0.Ext h)(hk:h0.next≤k)(hk2:k≤h.next)(o:h.KO k v ks){x:Kt}(hu:oneCell x.u=true)(hl:ks.length≤100000):
  ∃ h' v',DQ 6 64 83 v (.slice (some ⟨h.next,0,none⟩) 1 1) (h.ADR 0 (AV x))=.ok v' h'∧h0.Ext h'∧h'.KO k v' (ks++[x])∧h.next≤h'.next∧∀ b el L,¬ ADv v b→h.Row b el L→h'.Row b el L:=by
 have W:=x0.wf;have x1:=x0.ADR 0 (AV x);have y1:=(Hp.Ext.refl W).ADR 0 (AV x);have Rw:=Hp.Row.new W 0 (AV x);have n1:(h.ADR 0 (AV x)).next=h.next+1:=rfl;have o1:=o.ext W y1;generalize h.ADR 0 (AV x)=h1 at x1 y1 Rw n1 o1;have hs:∀ K:List BY→R,BH h1 6 (.slice (some ⟨h.next,0,none⟩) 1 1) 1 K=K (AV x):=fun K=>Rw.AFi (es:=6) (off:=0) (n:=1) (by show 0+1 * 6≤6;omega)
 have ha:=GW hu;rcases o1 with ⟨rfl,rfl⟩|⟨b,rfl,r,hb,ADg⟩
 ·obtain⟨h5,a1,a2,a3,a4,_,a6⟩:=Ou (eb:=64) (en:=83) x1 hs rfl rfl ha (by omega)
  refine⟨h5,_,a1,a2,.inr ⟨h1.next,rfl,?_,by omega,by have:=W.big;omega⟩,by omega,fun b el L _ r=>(r.ext W y1).ext x1.wf a6⟩;show h5.Row h1.next 84 (AV x++[]);rw[vR];exact a3
 ·obtain⟨h5,a1,a2,a3,a4,_,a6⟩:=MD (eb:=64) (en:=83) (n:=ks.length) x1 hs rfl rfl (by omega) ha r (by rw[CI];omega) (by omega) ADg (by omega)
  refine⟨h5,_,a1,a2,.inr ⟨h1.next,by rw[IT];rfl,?_,by omega,by have:=W.big;omega⟩,by omega,fun b' el L hne r'=>a6 b' el L (fun e=>hne ⟨0,ks.length,ks.length,by rw[e]⟩) (r'.ext W y1)⟩;rw[JE,show flK [x]=AV x from vR _];exact a3
def dT(x y:Kt):Prop:=y.a=x.a∧y.b=x.b∧y.p≠x.p∧y.s=2∧(x.c<y.c∨y.c=x.c∧x.s=1)
def qy(x y:Kt):Prop:=y.a=x.a∧y.b=x.b∧y.c=x.c∧y.s=x.s
theorem GF(a b:Int):(iEq a b=true∧a=b)∨(iEq a b=false∧a≠b):=by
 by_cases h:a=b
 ·exact .inl ⟨DM h,h⟩
 ·exact .inr ⟨DL h,h⟩
theorem mN:hiB=mO:=rfl
theorem ly:d89=cu:=rfl
theorem mE(W:h.Wf){r5:Nat}{x y:Kt}(R5:h.Row r5 0 (AV x))(hn:¬ qy x y):∃ h',call AD (m+1) 90 [ktV y,pt r5] h=.ok (.bool false) h'∧h.Ext h':=by
 have bx:=fun (F:ADS) (e:Env) (he:AB 0 e=ktV y)=>HP (F:=F) W he
 have x1:=(Hp.Ext.refl W).ADR 0 (AV y);have R:=Hp.Row.new W 0 (AV y);generalize h.ADR 0 (AV y)=h1 at bx x1 R;obtain⟨l0,l1,l2,l3,_,l5,_⟩:=Bq R;obtain⟨k0,k1,k2,k3,_,k5,_⟩:=Bq (R5.ext W x1);refine⟨h1,?_,x1⟩;rw[lK rfl];unfold d90;rcases GF y.a x.a with ⟨c1,e1⟩|⟨c1,e1⟩
 ·rcases GF y.b x.b with ⟨c2,e2⟩|⟨c2,e2⟩
  ·rcases GF y.c x.c with ⟨c3,e3⟩|⟨c3,e3⟩
   ·rcases GF (y.s:Int) (x.s:Int)with ⟨c4,e4⟩|⟨c4,e4⟩
    ·exact absurd ⟨e1,e2,e3,by omega⟩ hn
    ·simp only[iN,By,sT,AT,AI,reduceIte,gD,bx,AJ,AO,sh,AN,AQ,l0,l1,l2,l3,l5,k0,k1,k2,k3,k5,AM,AK,c1,c2,c3,c4,lV0]
   ·simp only[iN,By,sT,AT,AI,reduceIte,gD,bx,AJ,AO,sh,AN,AQ,l0,l1,l2,l3,l5,k0,k1,k2,k3,k5,AM,AK,c1,c2,c3,lV0]
  ·simp only[iN,By,sT,AT,AI,reduceIte,gD,bx,AJ,AO,sh,AN,AQ,l0,l1,l2,l3,l5,k0,k1,k2,k3,k5,AM,AK,c1,c2,lV0]
 ·simp only[iN,By,sT,AT,AI,reduceIte,gD,bx,AJ,AO,sh,AN,AQ,l0,l1,l2,l3,l5,k0,k1,k2,k3,k5,AM,AK,c1,lV0]
theorem iO{P:Kt→Bool}(h:∀ k∈ks,P k=false):ks.any P=false:=by
 induction ks with
 |nil=>rfl
 |cons k l ih=>rw[zf,h k vG,ih fun x hx=>h x (vH _ hx)];rfl
theorem mh(K:h.KS S v ks){i:Nat}(hi:i<ks.length):∃ w,h.KS S w (ks.take i)∧∀ (F:ADS) (e:Env) (x y:O),x e=v→y e=.int .i64 (i:Int)→Dp 83 6 x none (some y) none F e h=.ok w h:=by
 rcases K with ⟨rfl,rfl⟩|⟨b,c,el,L,rfl,h2,h3,h4,h5,h6,h7⟩
 ·cases hi
 ·have ht:(ks.take i).length=i:=by rw[vp];omega
  refine⟨.slice (some ⟨b,0,none⟩) i c,.inr ⟨b,c,el,L,by rw[ht],by rw[ht];omega,h3,by rw[ht];omega,?_,h6,h7⟩,fun F e x y hx hy=>?_⟩
  ·have e1:flK (ks.take i)=(flK ks).take (6*i):=by
    conv=>rhs;rw[← List.take_append_drop i ks,JE]
    rw[List.take_left' (by rw[CI,ht])]
   rw[ht,e1,← h5,AA8,yz (by omega)]
  ·show(match x e with|.slice a n c=>DG e n c none (some y) none (fun l hh m=>D7 83 6 a false l hh m h)|_=>.no)=_
   rw[hx];show(match Cz (y e)with|.ok n=>(bif vJ n c then D7 83 6 (some ⟨b,0,none⟩) false 0 n c h else .no)|.no=>.no)=_;rw[hy,Cu];simp only;rw[Ab.2 (show i≤c by omega)];show Bg (some ⟨b,0,none⟩) 6 0 i c h=_;unfold Bg;simp only[AZ];cases c with
   |zero=>rfl
   |succ c=>rfl
theorem lY:coS=BK (Ad 0 (Ay coB)) coE:=rfl
theorem lq:d59=cg:=rfl
end
end
end Go.Proofs.YtedbmmfebjfibaaGreat

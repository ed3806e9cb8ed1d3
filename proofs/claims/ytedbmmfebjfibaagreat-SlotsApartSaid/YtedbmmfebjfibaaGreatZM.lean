/-
  Part ZM of what Lawap stands on: printed by program, names and spaces cut.
-/
import Derived.Test.YtedbmmfebjfibaaGreatZL
set_option linter.unusedVariables false
set_option linter.unusedSimpArgs false
namespace Go.Proofs.YtedbmmfebjfibaaGreat
noncomputable section
open Go
set_option maxRecDepth 100000
theorem Ds{h:Hp}{b b' el el':Nat}{L L':List Value}(r:h.Row b el L)(r':h.Row b' el' L')(he:el≠el'):b≠b':=fun hb=>by
 subst hb
 obtain⟨_,e1,_⟩:=r
 obtain⟨_,e2,_⟩:=r'
 rw[e1]at e2
 injection e2 with _ _ e3
 exact he e3
def Hp.Cl(h:Hp)(S:Nat→Prop)(en:Nat)(v:Value)(xs:List Value):Prop:=(v=nilS∧xs=[])∨∃ b el,v=.slice (some ⟨b,0,none⟩) xs.length xs.length∧h.Row b el xs∧(el=en+1∨el=0∧xs=[])∧S b∧256≤b
section
variable {F:CallF}{e:Env}{h h0 h':Hp}{S:Nat→Prop}{en:Nat}{v u:Value}{xs:List Value}
theorem Hp.Cl.vs(o:h.Cl S en v xs):h.VS S v xs:=by
 rcases o with h1|⟨b,el,h1,h2,h3,h4,h5⟩
 ·exact .inl h1
 ·exact .inr ⟨b,0,_,el,xs,h1,Nat.le_refl _,h2,by omega,by rw[List.drop_zero,List.take_length],h4⟩
theorem EI{es eb b n:Nat}{cs:List Value}(x0:h0.Ext h)(r:h.Row b 0 [])(hs:∀ k:List Value→R,BF h es u n k=k cs)(hlv:lenV u=.ok n)(hlen:cs.length=n * es)(hn:0<n)(ha:BO cs=true)(hm:(n+1) * (eb+1)≤1099511627776):
  ∃ h',DM es eb en (.slice (some ⟨b,0,none⟩) 0 0) u h=.ok (.slice (some ⟨h.next,0,none⟩) n n) h'∧h0.Ext h'∧h'.Row h.next (en+1) cs∧h'.next=h.next+1∧h.Ext h'∧h'.mark=h.mark∧h'.low=h.low∧h'.high=h.high:=by
 have W:=x0.wf
 obtain⟨cc,hcc,hl⟩:=r.rowOf
 obtain⟨t,h2,h3⟩:=Dh cs cc [] 0 hl (.inr rfl)
 have h3:t.Is cs:=by simpa using h3
 refine⟨h.push (.cells t cs.length (en+1)),?_,x0.push _,⟨t,by rw[W.push_get,if_pos rfl],h3⟩,rfl,(Hp.Ext.refl W).push _,rfl,rfl,rfl⟩
 unfold DM DN
 simp only[hlv,hs,Aa,Nat.add_eq,Nat.zero_add]
 have e1:Nat.ble n 0=false:=by
  cases e:Nat.ble n 0
  ·rfl
  ·have:=Af.1 e;omega
 have e2:Nat.ble (Nat.mul (Nat.succ n) (Nat.succ eb)) Ix=true:=Af.2 (Hb hm)
 rw[e1]
 simp only[e2,cond_true,ha]
 unfold Gh
 have hcc:rowOf h b=.ok cc 0 0:=hcc
 have e3:Nat.beq 0 (Nat.mul 0 es)=true:=Al.2 (Nat.zero_mul es).symm
 simp only[hcc,e3,h2]
 unfold Ed
 simp only[hcc,BN,Nat.add_eq,Nat.zero_add]
 unfold CG
 rw[Aa,Ci W];rfl
theorem HB{es eb b:Nat}(W:h.Wf)(h256:256≤b)(r:h.Row b 0 [])(hs:∀ k:List Value→R,BF h es u 0 k=k [])(hlv:lenV u=.ok 0):
  DM es eb en (.slice (some ⟨b,0,none⟩) 0 0) u h=.ok (.slice (some ⟨b,0,none⟩) 0 0) (h.wr b 0 []):=by
 unfold DM DN
 simp only[hlv,hs,Aa,Nat.add_eq]
 have e1:Nat.ble 0 0=true:=rfl
 have e0:0+0=0:=rfl
 simp only[e0,e1]
 have e2:Ej ⟨b,0,none⟩ (Nat.mul 0 es)=⟨b,0,none⟩:=by
  rw[show Nat.mul 0 es=0 from Nat.zero_mul es];rfl
 rw[e2,r.store W h256 (by simp) rfl]
theorem Hp.Row.srcE{es b el off n c sl:Nat}{l:List Value}(r:h.Row b el l)(ho:off+n * es≤l.length){k:List Value→R}:BF h es (.slice (some ⟨b,off,none⟩) sl c) n k=k ((l.drop off).take (n * es)):=by
 obtain⟨cc,hc,hl⟩:=r.rowOf
 unfold BF
 simp only[hc]
 have e:Nat.mul n es=n * es:=rfl
 rw[e]
 simp only[Nat.add_eq]
 rw[Af.2 ho]
 simp only[cond_true,FZ,List.append_nil,Is.rowL hl off _ ho]
theorem Iy{t el:Nat}{k:TK}{g:O}{a:Addr}{n c:Nat}(hk:k=.slice el)(hg:g e=.slice (some a) n c):oEq k false g (kV (.slice none 0 0)) F e h=.ok (.bool false) h:=by
 subst hk
 show(match eqV (.slice el) (g e) (.slice none 0 0)with|some r=>okB (false != r) h|none=>.no)=_
 rw[hg]
 exact Fp
theorem Iz{t el:Nat}{k:TK}{g:O}(hk:k=.slice el)(hg:g e=.slice none 0 0):oEq k false g (kV (.slice none 0 0)) F e h=.ok (.bool true) h:=by
 subst hk
 show(match eqV (.slice el) (g e) (.slice none 0 0)with|some r=>okB (false != r) h|none=>.no)=_
 rw[hg]
 exact Fp
theorem Jg{t:List Value}(W:h.Wf):Ah 0 (BJ t 0) [] F e h=.ok (.slice (some ⟨h.next,0,none⟩) 0 0) (h.pushRow 0 []):=by
 have:BJ t 0=[]:=rfl
 rw[this,Ca,CL,DA W];rfl
end
section
variable {h0 h:Hp}{u:Value}{es eb en:Nat}{cs vs:List Value}
theorem Ti(x0:h0.Ext h)(hs:∀ k:List Value→R,BF h es u 1 k=k vs)(hlv:lenV u=.ok 1)(hv:vs.length=es)(ha:BO vs=true)(hm:2 * (eb+1)≤70368744177664):
  ∃ h',DM es eb en nilS u h=.ok (.slice (some ⟨h.next,0,none⟩) 1 1) h'∧h0.Ext h'∧h'.Row h.next (en+1) vs∧h'.next=h.next+1∧(h'.mark=h.mark∧h'.low=h.low∧h'.high=h.high)∧h.Ext h':=by
 have W:=x0.wf
 obtain⟨t1,t2⟩:=HC vs
 refine⟨h.push (.cells (ofL vs) vs.length (en+1)),?_,x0.push _,⟨ofL vs,by rw[W.push_get,if_pos rfl],t2⟩,rfl,⟨rfl,rfl,rfl⟩,(Hp.Ext.refl W).push _⟩
 unfold DM DN
 simp only[hlv,hs,Aa,Nat.add_eq,Nat.zero_add]
 have e1:Nat.ble 1 0=false:=rfl
 have e2:Nat.ble (Nat.mul (Nat.succ 1) (Nat.succ eb)) Ix=true:=Af.2 hm
 simp only[e1,e2,cond_true,ha]
 unfold Gh BF Iu
 simp only[List.nil_append,t1]
 unfold Ed
 simp only[BN]
 unfold CG
 rw[Aa,Ci W];rfl
theorem Pc{n b:Nat}(x0:h0.Ext h)(hs:∀ k:List Value→R,BF h es u 1 k=k vs)(hlv:lenV u=.ok 1)(hv:vs.length=es)(hes:0<es)(ha:BO vs=true)(r:h.Row b (en+1) cs)(hlen:cs.length=n * es)(hb:h0.next≤b)(hb2:256≤b)(hm:(n+2) * (eb+1)≤70368744177664):
  ∃ h',DM es eb en (.slice (some ⟨b,0,none⟩) n n) u h=.ok (.slice (some ⟨h.next,0,none⟩) (n+1) (n+1)) h'∧h0.Ext h'∧h'.Row h.next (en+1) (cs++vs)∧h'.next=h.next+1∧(h'.mark=h.mark∧h'.low=B0 h.low b∧h'.high=Cf h.high b)∧∀ b' el L,b'≠b→h.Row b' el L→h'.Row b' el L:=by
 have W:=x0.wf
 obtain⟨cc,hcc,hl⟩:=r.rowOf
 obtain⟨t,h2,h3⟩:=Dh vs cc cs cs.length hl (.inr rfl)
 have h3:t.Is (cs++vs):=by
  have e:cs.drop (cs.length+vs.length)=[]:=List.drop_of_length_le (by omega)
  rw[e]at h3
  simpa using h3
 have hlen2:(cs++vs).length=cs.length+vs.length:=List.length_append
 have hlt:=r.lt W
 have W1:(h.put b .dead).Wf:=W.put hlt _
 have x2:h0.Ext (h.put b .dead):=x0.put hb hlt _
 refine⟨(h.put b .dead).push (.cells t (cs.length+vs.length) (en+1)),?_,x2.push _,⟨t,by
  have:=W1.push_get (.cells t (cs.length+vs.length) (en+1)) h.next
  rw[this,if_pos (show h.next=(h.put b .dead).next from rfl),hlen2],h3⟩,rfl,⟨rfl,rfl,rfl⟩,fun b' el' L' hne r'=>?_⟩
 ·unfold DM DN
  simp only[hlv,hs,Aa,Nat.add_eq]
  have e1:Nat.ble (n+1) n=false:=by
   cases e:Nat.ble (n+1) n
   ·rfl
   ·have:=Af.1 e;omega
  have e2:Nat.ble (Nat.mul (Nat.succ (n+1)) (Nat.succ eb)) Ix=true:=Af.2 hm
  rw[e1]
  simp only[e2,cond_true,ha]
  unfold Gh
  have e3:Nat.beq cs.length (Nat.mul n es)=true:=Al.2 hlen
  simp only[hcc,e3,h2]
  unfold Ed
  have e4:KA 0 n es cs.length=true:=by
   unfold KA
   cases n with
   |zero=>rfl
   |succ m=>exact Al.2 (by show 0+(m+1) * es=cs.length;omega)
  simp only[hcc,BN,Nat.add_eq,Nat.beq_refl,cond_true,e4]
  rw[Df W hb2 hlt]
  unfold CG
  rw[Aa,Ci W1];rfl
 ·have hb':b'<h.next:=r'.lt W
  obtain⟨c',hc',hl'⟩:=r'
  refine⟨c',?_,hl'⟩
  rw[W1.push_get,if_neg (by show b'≠h.next;omega),W.put_get hlt,if_neg hne,hc']
end
theorem Oy{g:Hp}{a lo hi:Nat}(h1:a≤lo)(h2:hi≤a):KX (.ok a) g lo hi=true:=by
 show(bif Nat.ble a lo then Nat.ble hi a else false)=true
 rw[Af.2 h1,Af.2 h2];rfl
theorem Wo{h0 h:Hp}{S:Nat→Prop}{eb en:Nat}{v w:Value}{xs:List Value}{bw:Nat}(x0:h0.Ext h)(o:h.Cl S en v xs)(hS:∀ b,S b→h0.next≤b)(rw_:h.Row bw 0 [w])(hw:oneCell w=true)(hl:xs.length≤1000000)(he:eb≤1000):
  ∃ h' b',DM 1 eb en v (.slice (some ⟨bw,0,none⟩) 1 1) h=.ok (.slice (some ⟨b',0,none⟩) (xs.length+1) (xs.length+1)) h'∧h0.Ext h'∧h'.Row b' (en+1) (xs++[w])∧b'=h.next∧h'.next=h.next+1∧h'.mark=h.mark∧(∀ b el L,¬ S b→h.Row b el L→h'.Row b el L)∧(∀ b el L,el≠en+1→h.Row b el L→h'.Row b el L)∧
   (h.low=h.next→h.high=0→∀ g:Hp,g.next=h.next→KX (blkOf v) g h'.low h'.high=true):=by
 have hs:∀ k,BF h 1 (.slice (some ⟨bw,0,none⟩) 1 1) 1 k=k [w]:=fun k=>rw_.srcE (es:=1) (off:=0) (n:=1) (by show 0+1 * 1≤1;omega)
 have ha:BO [w]=true:=by
  show(bif oneCell w then true else false)=true
  rw[hw];rfl
 have hm:(xs.length+2) * (eb+1)≤70368744177664:=by
  have:(xs.length+2) * (eb+1)≤1000002 * 1001:=Nat.mul_le_mul (by omega) (by omega)
  omega
 rcases o with ⟨rfl,rfl⟩|⟨b,el,rfl,r,hel,hb,h256⟩
 ·obtain⟨h5,a1,a2,a3,a4,⟨a5,a7,a8⟩,a6⟩:=Ti (eb:=eb) (en:=en) x0 hs rfl rfl ha (by have:=hm;simp only[List.length_nil]at this;omega)
  exact⟨h5,h.next,a1,a2,a3,rfl,a4,a5,fun b el L _ r=>r.ext x0.wf a6,fun b el L _ r=>r.ext x0.wf a6,fun hlo hhi g hg=>by
   show Nat.ble g.next h5.low=true
   rw[a7,hlo,hg];exact Af.2 (Nat.le_refl _)⟩
 ·have hlt:=r.lt x0.wf
  rcases hel with rfl|⟨rfl,rfl⟩
  ·obtain⟨h5,a1,a2,a3,a4,⟨a5,a7,a8⟩,a6⟩:=Pc (eb:=eb) (en:=en) (n:=xs.length) x0 hs rfl rfl (by omega) ha r (Nat.mul_one _).symm (hS b hb) h256 hm
   refine⟨h5,h.next,a1,a2,a3,rfl,a4,a5,fun b' el L hne r'=>a6 _ _ _ (fun e=>hne (e ▸ hb)) r',fun b' el L h2 r'=>a6 _ _ _ (Ds r' r h2) r',fun hlo hhi g hg=>?_⟩
   have e1:h5.low=b:=by rw[a7,hlo,BC];omega
   have e2:h5.high=b:=by rw[a8,hhi,Bw];omega
   rw[e1,e2]
   exact Oy (Nat.le_refl _) (Nat.le_refl _)
  ·obtain⟨h5,a1,a2,a3,a4,a6,a5,a7,a8⟩:=EI (eb:=eb) (en:=en) (n:=1) x0 r hs rfl rfl (by omega) ha (by have:=hm;simp only[List.length_nil]at this;omega)
   refine⟨h5,h.next,a1,a2,a3,rfl,a4,a5,fun b' el L _ r'=>r'.ext x0.wf a6,fun b' el L _ r'=>r'.ext x0.wf a6,fun hlo hhi g hg=>?_⟩
   rw[a7,a8,hlo,hhi]
   show KX (.ok b) g h.next 0=true
   exact Oy (by omega) (Nat.zero_le _)
theorem Sn{h h':Hp}{F:CallF}{e:Env}{x y:O}{eb en:Nat}{v u w:Value}(hx:x e=v)(hy:y e=u)(ha:DM 1 eb en v u h.quiet=.ok w h')(hk:KX (blkOf v) h h'.low h'.high=true):Mj x (Be 1 eb en x y) F e h=.ok w (h.back h'):=by
 show(match Be 1 eb en x y F e h.quiet with|.ok v h'=>bif KX (blkOf (x e)) h h'.low h'.high then Dj h v h' else .no|.no=>.no)=_
 rw[BE,hx,hy,ha]
 show(bif KX (blkOf v) h h'.low h'.high then Dj h w h' else .no)=_
 rw[hk]
 show Dj h w h'=_
 unfold Dj
 simp only[Aa];rfl
inductive Deed where
 |w (i:Nat) (l:List Nat)
 |f
def BP:List Nat:=List.replicate 64 0
def Hr(h:Hp)(A:At)(S:Nat→Prop)(v:Value):Deed→Prop
 |.w i l=>(∃ r3 r10 r9 u,v=.func (.func 74) ⟨[]⟩ ⟨[pt r3,pt r10,pt r9]⟩∧h.Row r3 0 [pt A.bs]∧h.Row r10 0 [.int .i64 (i:Int)]∧h.Row r9 0 [u]∧h.BS S u (l.map bv)∧S r3∧S r10∧S r9)∨
  (∃ r2 r7 p,v=.func (.func 83) ⟨[]⟩ ⟨[pt r2,pt r7]⟩∧h.Row r2 0 [pt A.bs]∧h.Row r7 0 [.int .i64 ((p:Nat):Int)]∧i=p * 3∧p≤65536∧l=BP∧S r2∧S r7)
 |.f=>v=.func (.func 76) ⟨[pt A.bd]⟩ ⟨[]⟩
theorem Hp.BS.keep2{h h':Hp}{S S':Nat→Prop}{v:Value}{xs:List Value}(o:h.BS S v xs)(hk:∀ b el L,S b→(el=0∨el=6)→h.Row b el L→h'.Row b el L∧S' b):h'.BS S' v xs:=by
 rcases o with h1|⟨b,off,c,el,L,h1,h2,h3,h4,h5,h6,h7⟩
 ·exact .inl h1
 ·exact .inr ⟨b,off,c,el,L,h1,h2,(hk _ _ _ h6 h7 h3).1,h4,h5,(hk _ _ _ h6 h7 h3).2,h7⟩
theorem Hr.keep2{h h':Hp}{A:At}{S S':Nat→Prop}{v:Value}{d:Deed}(o:Hr h A S v d)(hr:∀ b el L,S b→(el=0∨el=6)→h.Row b el L→h'.Row b el L∧S' b):Hr h' A S' v d:=by
 cases d with
 |f=>exact o
 |w i l=>
  have hr0:=fun b L hs r=>hr b 0 L hs (.inl rfl) r
  rcases o with ⟨r3,r10,r9,u,h1,h2,h3,h4,h5,h6,h7,h8⟩|⟨r2,r7,p,h1,h2,h3,h4,h5,h6,h7,h8⟩
  ·exact .inl ⟨r3,r10,r9,u,h1,(hr0 _ _ h6 h2).1,(hr0 _ _ h7 h3).1,(hr0 _ _ h8 h4).1,h5.keep2 hr,(hr0 _ _ h6 h2).2,(hr0 _ _ h7 h3).2,(hr0 _ _ h8 h4).2⟩
  ·exact .inr ⟨r2,r7,p,h1,(hr0 _ _ h7 h2).1,(hr0 _ _ h8 h3).1,h4,h5,h6,(hr0 _ _ h7 h2).2,(hr0 _ _ h8 h3).2⟩
theorem XM{h:Hp}{A:At}{S:Nat→Prop}{v:Value}{d:Deed}(o:Hr h A S v d):oneCell v=true:=by
 cases d with
 |f=>have o:v=_:=o;rw[o];rfl
 |w i l=>rcases o with ⟨r3,r10,r9,u,h1,_⟩|⟨r2,r7,p,h1,_⟩<;>rw[h1]<;>rfl
abbrev JR(h:Hp)(A:At)(v:Value)(d:Deed):Prop:=Hr h A (fun b=>¬ A.D b) v d
def Eq(n:Nat):List (Nat×List Nat)→List Deed→Prop
 |_,[]=>True
 |cs,.w i l::ds=>(∀ x∈cs,x.1≠i)∧i<n∧l.length=64∧(∀ x∈l,x<256)∧Eq n (cs++[(i,l)]) ds
 |cs,.f::ds=>cs≠[]∧cs.length≤60∧Eq n [] ds
def F9:List Nat→List (Nat×List Nat)→List Deed→List Nat×List (Nat×List Nat)
 |M,cs,[]=>(M,cs)
 |M,cs,.w i l::ds=>F9 M (cs++[(i,l)]) ds
 |M,cs,.f::ds=>F9 (Fb M cs) [] ds
structure Sc (h:Hp)(A:At)(T:List Nat)(ks:List Kt)(fr:List Nat)(lv fv:Value)(bad:Nat)(ov:Bool):Prop where
 row:h.Row A.bs 0 (slL A.bd A.tb lv fv bad ov)
 tab:h.Row A.tb 0 (T.map wv)
 tok:TblOk T
 ls:h.KS (fun b=>¬ A.D b) lv ks
 ko:∀ k∈ks,KtOk h (fun b=>¬ A.D b) k
 fs:h.WI (fun b=>¬ A.D b) fv (ints .i64 (fr.map Int.ofNat))
 ne:A.bs≠A.bd∧A.bs≠A.bm∧A.bs≠A.bc∧¬ A.D A.tb∧256≤A.bs
 le:ks.length≤1000∧fr.length≤1000∧bad≤1000∧∀ p∈fr,3 * p+3≤A.n
section
variable {F:CallF}{e:Env}{h h':Hp}{A:At}{T M:List Nat}{c0 bad m:Nat}{arm:Int}{ks:List Kt}{fr:List Nat}{lv fv:Value}{ov:Bool}
theorem Sl.sc(s:Sl h A T M c0 arm ks fr lv fv bad ov):Sc h A T ks fr lv fv bad ov:=⟨s.row,s.tab,s.tok,s.ls,s.ko,s.fs,s.ne,s.le⟩
theorem Sc.sl(s:Sc h A T ks fr lv fv bad ov)(d:Dk h A.bd A.bm A.bc A.n M c0 [] arm false):Sl h A T M c0 arm ks fr lv fv bad ov:=⟨s.row,d,s.tab,s.tok,s.ls,s.ko,s.fs,s.ne,s.le⟩
theorem Sc.keep(s:Sc h A T ks fr lv fv bad ov)(hr:∀ b el L,b≠A.bd→b≠A.bm→b≠A.bc→h.Row b el L→h'.Row b el L):Sc h' A T ks fr lv fv bad ov:=by
 have nd:∀ b,¬ A.D b→b≠A.bd∧b≠A.bm∧b≠A.bc:=fun b hb=>⟨fun e=>hb (.inr (.inl e)),fun e=>hb (.inr (.inr (.inl e))),fun e=>hb (.inr (.inr (.inr e)))⟩
 have ht:=nd _ s.ne.2.2.2.1
 exact⟨hr _ _ _ s.ne.1 s.ne.2.1 s.ne.2.2.1 s.row,hr _ _ _ ht.1 ht.2.1 ht.2.2 s.tab,s.tok,s.ls.keep fun b _ _ hb r=>hr _ _ _ (nd b hb).1 (nd b hb).2.1 (nd b hb).2.2 r,fun k hk=>⟨(s.ko k hk).1.keep fun b _ _ hb _ r=>hr _ _ _ (nd b hb).1 (nd b hb).2.1 (nd b hb).2.2 r,(s.ko k hk).2⟩,s.fs.keep fun b _ _ hb r=>hr _ _ _ (nd b hb).1 (nd b hb).2.1 (nd b hb).2.2 r,s.ne,s.le⟩
abbrev At.K(A:At):Nat→Prop:=fun b=>b=A.bd∨b=A.bm∨b=A.bc
theorem Sc.fx(s:Sc h A T ks fr lv fv bad ov)(W:h.Wf)(x:Fx A.K h h'):Sc h' A T ks fr lv fv bad ov:=s.keep fun b el L h1 h2 h3 r=>x.row W r (by rintro (h|h|h)<;>contradiction)
theorem JR.keep{v:Value}{d:Deed}(o:JR h A v d)(hbs:True)(hr:∀ b el L,¬ A.D b→h.Row b el L→h'.Row b el L):JR h' A v d:=o.keep2 fun b el L hb _ r=>⟨hr b el L hb r,hb⟩
theorem Xw{b:Nat}(h:¬ A.D b):¬ A.K b:=fun h1=>h (.inr h1)
theorem ac(W:h.Wf)(R:h.Row A.bs 0 (slL A.bd A.tb lv fv bad ov))(hne:¬ A.K A.bs){cs:List (Nat×List Nat)}(d:Dk h A.bd A.bm A.bc A.n M c0 cs arm false){k:Nat}(ha:Bk arm (k+1)){v:Value}{i:Nat}{l:List Nat}(o:JR h A v (.w i l))(hi:i<A.n)(hc:∀ x∈cs,x.1≠i∧x.1<A.n)(hl:l.length=64):
  ∃ h',LF (call AD (m+4)) v [] h=.ok (.int .i64 0) h'∧Fx A.K h h'∧Dk h' A.bd A.bm A.bc A.n M c0 (cs++[(i,l)]) (Fm arm) false:=by
 rcases o with ⟨r3,r10,r9,u,rfl,h2,h3,h4,h5,h6,h7,h8⟩|⟨r2,r7,p,rfl,h2,h3,rfl,h5,rfl,h7,h8⟩
 ·obtain⟨l0,_⟩:=A5 (R.same (h':=h.marked) rfl)
  have m3:load1 ⟨r3,0,none⟩ h.marked=.ok (pt A.bs) h.marked:=(h2.same (h':=h.marked) rfl).load1 (off:=0) (by show 0<1;omega)
  have m10:load1 ⟨r10,0,none⟩ h.marked=.ok (.int .i64 (i:Int)) h.marked:=(h3.same (h':=h.marked) rfl).load1 (off:=0) (by show 0<1;omega)
  have m9:load1 ⟨r9,0,none⟩ h.marked=.ok u h.marked:=(h4.same (h':=h.marked) rfl).load1 (off:=0) (by show 0<1;omega)
  obtain⟨h1,k1,f1,d1⟩:=RE (m:=m) W.marked.quiet (d.same (h':=h.marked.quiet) rfl) ha hi hc ((h5.vs.same (h':=h.marked.quiet) rfl).mono fun b hb e=>hb (.inr (.inl e))) hl
  have q1:∀ e:Env,AB 7 e=pt A.bd→AB 8 e=.int .i64 (i:Int)→AB 9 e=u→Am .free (AS 75 [AB 7,AB 8,AB 9]) (call AD (m+3)) e h.marked=.ok (.int .i64 0) (h.marked.back h1):=fun e e1 e2 e3=>by
   refine BQ ?_
   rw[Bb,AY,AY,AY,A3,e1,e2,e3];exact k1
  refine⟨h.marked.back h1,?_,((f1.mono (T:=A.K) fun b hb=>hb.elim .inl fun h=>.inr (.inr h)).from (h:=h.marked) rfl rfl).same (h2:=h.marked.back h1) rfl rfl |>.from (h:=h) rfl rfl,d1.same rfl⟩
  rw[Ch]
  show call AD (m+3+1) 74 [pt r3,pt r10,pt r9] h=_
  rw[iq rfl]
  unfold d74
  simp only[iN,Nat.reduceAdd,sT,Nat.reduceLT,Nat.reduceEqDiff,reduceIte,Ay,AM,AP,m3,Au,Aj,AJ,AN,Nat.zero_add,l0,m10,m9,q1,lV0]
 ·have m2:load1 ⟨r2,0,none⟩ h.marked=.ok (pt A.bs) h.marked:=(h2.same (h':=h.marked) rfl).load1 (off:=0) (by show 0<1;omega)
  have m7:load1 ⟨r7,0,none⟩ h.marked=.ok (.int .i64 (p:Int)) h.marked:=(h3.same (h':=h.marked) rfl).load1 (off:=0) (by show 0<1;omega)
  obtain⟨l0,_⟩:=A5 (R.same (h':=h.marked) rfl)
  have o1:∀ (off:Nat) (kk:C) (F:CallF) (e:Env),J1 (.pointer (some ⟨r2,off,none⟩)) kk F e h.marked=kk F e h.marked:=fun off kk F e=>Dy (h2.lt W)
  have o2:∀ (off:Nat) (kk:C) (F:CallF) (e:Env),J1 (.pointer (some ⟨A.bs,off,none⟩)) kk F e h.marked=kk F e h.marked:=fun off kk F e=>Dy (R.lt W)
  have k1:=Mu (m:=m+1) (R.same (h':=h.marked.quiet) rfl) (p:=p) h5
  have q1:∀ e:Env,AB 7 e=pt A.bs→AB 8 e=.int .i64 (p:Int)→Am .weak (AS 46 [AB 7,AB 8]) (call AD (m+3)) e h.marked=.ok (.int .i64 ((p * 3:Nat):Int)) (h.marked.back h.marked.quiet):=fun e e1 e2=>by
   refine HG W.marked ?_ (Nat.le_refl _)
   rw[Bb,AY,AY,A3,e1,e2];exact k1
  have y2:h.Ext (h.marked.back h.marked.quiet):=Hp.Ext.back2 (Hp.Ext.refl W).marked (Hp.Ext.refl W).marked.quiet
  have n2:(h.marked.back h.marked.quiet).next=h.next:=rfl
  have b2:(h.marked.back h.marked.quiet).bl=h.bl:=rfl
  have mk2:(h.marked.back h.marked.quiet).mark=h.next:=rfl
  generalize h.marked.back h.marked.quiet=h2' at q1 y2 n2 b2 mk2
  have qm:∀ (F:CallF) (e:Env),Am .strong (Gi 1 ty5.zero (kV (.int .i64 64)) (kV (.int .i64 64))) F e h2'=.ok (.slice (some ⟨h2'.next,0,none⟩) 64 64) (h2'.back (h2'.quiet.pushRow 0 (BP.map bv))):=fun F e=>by
   have:=OV (F:=F) (e:=e) y2.quiet.wf (x:=kV (.int .i64 64)) (y:=kV (.int .i64 64)) (N:=64) rfl rfl (by omega)
   have hz:List.replicate 64 0=BP:=rfl
   exact DJ this ((Hp.Ext.refl y2.quiet.wf).pushRow _ _) (by omega)
  have y3:h2'.Ext (h2'.back (h2'.quiet.pushRow 0 (BP.map bv))):=.back ((Hp.Ext.refl y2.wf.quiet).pushRow _ _)
  have R3:(h2'.back (h2'.quiet.pushRow 0 (BP.map bv))).Row h2'.next 0 (BP.map bv):=(Hp.Row.new y2.wf.quiet 0 (BP.map bv)).same rfl
  have n3:(h2'.back (h2'.quiet.pushRow 0 (BP.map bv))).next=h2'.next+1:=rfl
  generalize h2'.back (h2'.quiet.pushRow 0 (BP.map bv))=h3' at qm y3 R3 n3
  have x3:=y2.trans y3
  have hbd:=(d.lt W).1
  have hz64:BP.length=64:=rfl
  obtain⟨h4,k4,f4,d4⟩:=RE (m:=m) x3.wf.quiet ((d.ext W x3).same (h':=h3'.quiet) rfl) ha hi hc (u:=.slice (some ⟨h2'.next,0,none⟩) 64 64) (l:=BP) (.inr ⟨h2'.next,0,64,0,_,rfl,Nat.le_refl _,R3.same rfl,Nat.le_refl _,rfl,by omega⟩) rfl
  have q4:∀ e:Env,AB 6 e=pt A.bd→AB 9 e=.int .i64 ((p * 3:Nat):Int)→AB 10 e=.slice (some ⟨h2'.next,0,none⟩) 64 64→Am .free (AS 75 [AB 6,AB 9,AB 10]) (call AD (m+3)) e h3'=.ok (.int .i64 0) (h3'.back h4):=fun e e1 e2 e3=>by
   refine BQ ?_
   rw[Bb,AY,AY,AY,A3,e1,e2,e3];exact k4
  refine⟨h3'.back h4,?_,(Fx.of (S:=A.K) x3).trans (((f4.mono (T:=A.K) fun b hb=>hb.elim .inl fun h=>.inr (.inr h)).from (h:=h3') rfl rfl).same (h2:=h3'.back h4) rfl rfl),d4.same rfl⟩
  rw[Ch]
  show call AD (m+3+1) 83 [pt r2,pt r7] h=_
  rw[i9 rfl]
  unfold d83
  simp only[iN,Nat.reduceAdd,sT,Nat.reduceLT,Nat.reduceEqDiff,reduceIte,Ay,EU,o1,o2,DW,AM,AP,m2,Au,Aj,AJ,AN,Nat.zero_add,l0,m7,q1,qm,q4,lV0]
theorem ez:alS=BG (Ac 0 (Ax alB)) alE:=rfl
theorem jX:d47=aP:=rfl
theorem RI(W:h.Wf)(R:h.Row A.bs 0 (slL A.bd A.tb lv fv bad ov))(hne:¬ A.K A.bs)(d:Dk h A.bd A.bm A.bc A.n M c0 [] arm false){ds:List Deed}{vs:List Value}{dv:Value}(V:h.VS (fun b=>¬ A.D b) dv vs)(hlen:vs.length=ds.length)(hd:∀ (i:Nat) (v:Value) (x:Deed),vs[i]? =some v→ds[i]? =some x→JR h A v x)(hok:Eq A.n [] ds)(ha:Bk arm ds.length)(h100:ds.length≤100):
  ∃ h' c1 arm',call AD (m+5) 47 [pt A.bs,dv] h=.ok (.int .i64 0) h'∧Fx A.K h h'∧Dk h' A.bd A.bm A.bc A.n (F9 M [] ds).1 c1 (F9 M [] ds).2 arm' false∧arm'=(List.range ds.length).foldl (fun a _=>Fm a) arm:=by
 have Vl:=V.vals.len
 have pre:∃ e1,aP (call AD (m+4)) (AQ e0 0 [pt A.bs,dv]) h=alS (call AD (m+4)) e1 h∧AB 0 e1=pt A.bs∧AB 8 e1=dv∧AB 9 e1=.int .i64 (vs.length:Int)∧AB 10 e1=.int .i64 ((0:Nat):Int):=by
  unfold aP
  simp only[iN,Nat.reduceAdd,sT,Nat.reduceLT,Nat.reduceEqDiff,reduceIte,Ae,Vl]
  exact⟨_,rfl,by simp[AG]⟩
 obtain⟨e1,p1,s0,s8,s9,s10⟩:=pre
 have run:∃ e' h' c1 arm',Ax alB (call AD (m+4)) e1 h=.exit 0 e' h'∧Fx A.K h h'∧Dk h' A.bd A.bm A.bc A.n (F9 M [] ds).1 c1 (F9 M [] ds).2 arm' false∧arm'=(List.range ds.length).foldl (fun a _=>Fm a) arm:=by
  refine BZ (I:=fun i e' h'=>∃ (M':List Nat) (cs':List (Nat×List Nat)) (c1:Nat) (arm':Int),Fx A.K h h'∧Dk h' A.bd A.bm A.bc A.n M' c1 cs' arm' false∧arm'=(List.range i).foldl (fun a _=>Fm a) arm∧Bk arm' (ds.length - i)∧Eq A.n cs' (ds.drop i)∧F9 M [] ds=F9 M' cs' (ds.drop i)∧KeyU cs'∧SecOk A.n cs'∧i≤ds.length∧AB 0 e'=pt A.bs∧AB 8 e'=dv∧AB 9 e'=.int .i64 (vs.length:Int)∧AB 10 e'=.int .i64 (i:Int))
   (Q:=fun x=>∃ e' h' c1 arm',x=.exit 0 e' h'∧Fx A.K h h'∧Dk h' A.bd A.bm A.bc A.n (F9 M [] ds).1 c1 (F9 M [] ds).2 arm' false∧arm'=(List.range ds.length).foldl (fun a _=>Fm a) arm) ds.length (by omega) (fun i e' h' ⟨M',cs',c1,arm',x',d',ea,ha',ok',er,hK,hS,hi,t0,t8,t9,t10⟩=>?_)
   ⟨M,[],c0,arm,.refl W,d,rfl,by rw[Nat.sub_zero];exact ha,by rw[List.drop_zero];exact hok,by rw[List.drop_zero],fun i j y z h=>(by cases h),fun y hy=>(by cases hy),Nat.zero_le _,s0,s8,s9,s10⟩
  by_cases hlt:i<ds.length
  ·left
   have hiv:i<vs.length:=by omega
   have c1':iLt (i:Int) (vs.length:Int)=true:=E8 hiv
   have V':=V.fx W x' fun b hb=>Xw hb
   obtain⟨a,g1,g2⟩:=V'.vals.at hiv
   have hv:vs[i]? =some (vs.getD i noRes):=by rw[List.getD_eq_getElem?_getD,List.getElem?_eq_getElem hiv];rfl
   have hx:ds[i]? =some (ds[i]'hlt):=List.getElem?_eq_getElem hlt
   have dI:=(hd i _ _ hv hx).keep (h':=h') trivial fun b el L hb r=>x'.row W r (Xw hb)
   generalize vs.getD i noRes=v at g2 dI
   have hdrop:ds.drop i=ds[i]'hlt::ds.drop (i+1):=List.drop_eq_getElem_cons hlt
   rw[hdrop]at ok' er
   generalize ds[i]'hlt=x at dI ok' er
   have hk:ds.length - i=(ds.length - (i+1))+1:=by omega
   rw[hk]at ha'
   have R':=x'.row W R hne
   have step:∃ h2 M2 cs2 c2,LF (call AD (m+4)) v [] h'=.ok (.int .i64 0) h2∧Fx A.K h' h2∧Dk h2 A.bd A.bm A.bc A.n M2 c2 cs2 (Fm arm') false∧Eq A.n cs2 (ds.drop (i+1))∧F9 M [] ds=F9 M2 cs2 (ds.drop (i+1))∧KeyU cs2∧SecOk A.n cs2:=by
    cases x with
    |w j l=>
     obtain⟨o1,o2,o3,o4,o5⟩:=ok'
     obtain⟨h2,k2,f2,d2⟩:=ac (m:=m) x'.wf R' hne d' ha' dI o2 (fun y hy=>⟨o1 y hy,(hS y hy).1⟩) o3
     refine⟨h2,M',cs'++[(j,l)],c1,k2,f2,d2,o5,er,fun p q y z hp hq he=>?_,fun y hy=>?_⟩
     ·rcases Nat.lt_or_ge p cs'.length with hp1|hp1<;>rcases Nat.lt_or_ge q cs'.length with hq1|hq1
      ·rw[List.getElem?_append_left hp1]at hp
       rw[List.getElem?_append_left hq1]at hq
       exact hK p q y z hp hq he
      ·rw[List.getElem?_append_left hp1]at hp
       have hzm:=List.mem_of_getElem? hq
       rw[List.getElem?_append_right hq1]at hq
       have hz:=List.mem_of_getElem? hq
       rw[List.mem_singleton.1 hz]at he
       exact absurd he (o1 y (List.mem_of_getElem? hp))
      ·rw[List.getElem?_append_left hq1]at hq
       rw[List.getElem?_append_right hp1]at hp
       have hz:=List.mem_of_getElem? hp
       rw[List.mem_singleton.1 hz]at he
       exact absurd he.symm (o1 z (List.mem_of_getElem? hq))
      ·have h1:=(List.getElem?_eq_some_iff.1 hp).1
       have h2:=(List.getElem?_eq_some_iff.1 hq).1
       rw[List.length_append,List.length_singleton]at h1 h2
       omega
     ·rcases List.mem_append.1 hy with hy|hy
      ·exact hS y hy
      ·rw[List.mem_singleton.1 hy];exact⟨o2,o3,o4⟩
    |f=>
     obtain⟨o1,o2,o3⟩:=ok'
     obtain⟨h2,k2,f2,d2⟩:=XZ (m:=m+1) x'.wf d' ha' hK hS o1 o2
     have dI:v=.func (.func 76) ⟨[pt A.bd]⟩ ⟨[]⟩:=dI
     exact⟨h2,Fb M' cs',[],_,by rw[dI,Ch];exact k2,f2,d2,o3,er,fun i j y z h=>(by cases h),fun y hy=>by cases hy⟩
   obtain⟨h2,M2,cs2,c2,k2,f2,d2,ok2,er2,hK2,hS2⟩:=step
   have c0':iNe 0 0=false:=Cm rfl
   have a3:=CQ (i:=i) (h:=h2) (by omega)
   have hrun:∃ e2,alB (call AD (m+4)) e' h'=.norm e2 h2∧AB 0 e2=pt A.bs∧AB 8 e2=dv∧AB 9 e2=.int .i64 (vs.length:Int)∧AB 10 e2=.int .i64 ((i+1:Nat):Int):=by
    unfold alB
    simp only[sT,Nat.reduceLT,Nat.reduceEqDiff,reduceIte,AL,AK,t10,t9,c1',Az,t8,g1,AM,g2,Cj,A3,k2,c0',BK,a3]
    exact⟨_,rfl,by simp[AG,t0,t8,t9]⟩
   obtain⟨e2,r1,r2,r3,r4,r5⟩:=hrun
   exact⟨hlt,e2,h2,r1,M2,cs2,c2,Fm arm',x'.trans f2,d2,by rw[List.range_succ,List.foldl_append,← ea];rfl,ha'.one.1,ok2,er2,hK2,hS2,by omega,r2,r3,r4,r5⟩
  ·right
   have hie:i=ds.length:=by omega
   have c1':iLt (i:Int) (vs.length:Int)=false:=DI (by omega)
   have hrun:∃ e2,alB (call AD (m+4)) e' h'=.exit 0 e2 h':=by
    unfold alB
    simp only[sT,Nat.reduceLT,Nat.reduceEqDiff,reduceIte,AL,AK,t10,t9,c1']
    exact⟨_,rfl⟩
   obtain⟨e2,r1⟩:=hrun
   rw[r1]
   rw[hie,List.drop_length]at er
   have er:F9 M [] ds=(M',cs'):=er
   rw[er]
   exact⟨rfl,e2,h',c1,arm',rfl,x',d',by rw[ea,hie]⟩
 obtain⟨e2,h2,c1,arm',r1,r2,r3,r4⟩:=run
 refine⟨h2,c1,arm',?_,r2,r3,r4⟩
 rw[iR rfl,jX,p1,ez]
 simp only[BH,Aw,r1,A1,BB]
 unfold alE
 simp only[sT,Nat.reduceLT,Nat.reduceEqDiff,reduceIte,lV0]
end
end
noncomputable section
open Go
set_option maxRecDepth 100000
def Cd(l:List Nat)(j:Nat):List Nat:=(l.drop (64 * j)).take 64++List.replicate (64 - ((l.drop (64 * j)).take 64).length) 0
theorem CW(l:List Nat)(j:Nat):(Cd l j).length=64:=by
 unfold Cd
 rw[List.length_append,List.length_replicate,List.length_take];omega
theorem LW{l:List Nat}(h:∀ x∈l,x<256)(j:Nat):∀ x∈Cd l j,x<256:=fun x hx=>by
 rcases List.mem_append.1 hx with hx|hx
 ·exact h x (List.mem_of_mem_drop (List.mem_of_mem_take hx))
 ·rw[List.eq_of_mem_replicate hx];decide
section
variable {F:CallF}{e:Env}{h h':Hp}{A:At}{bad m:Nat}{lv fv:Value}{ov:Bool}
theorem Hp.Vals.srcN{v:Value}{l:List Value}(b:h.Vals v l){n:Nat}(hn:n≤l.length)(k:List Value→R):BF h 1 v n k=k (l.take n):=by
 rcases b with ⟨h1,h2⟩|⟨b,off,c,el,L,h1,h2,h3,h4⟩
 ·subst h1;subst h2
  obtain rfl:n=0:=by simpa using hn
  rfl
 ·rw[h1,h2.src (by omega),← h4,List.take_take,Nat.min_eq_left hn]
theorem Wt(W:h.Wf){x y:O}{r:Nat}{w:Value}{l:List Nat}(h256:256≤r)(hx:x e=.slice (some ⟨r,0,none⟩) 64 64)(hy:y e=w)(V:h.Vals w (l.map bv))(R:h.Row r 0 (BP.map bv)):
  ∃ v',I4 1 x y F e h=.ok v' (h.wr r 0 ((l.take 64).map bv))∧over (BP.map bv) 0 ((l.take 64).map bv)=(Cd l 0).map bv:=by
 have hz:(BP.map bv).length=64:=rfl
 have hn:B0 l.length 64≤(l.map bv).length:=by rw[List.length_map,BC];omega
 have ht:(l.map bv).take (B0 l.length 64)=(l.take 64).map bv:=by
  rw[← List.map_take,BC]
  congr 1
  rcases Nat.le_total l.length 64 with h1|h1
  ·rw[Nat.min_eq_left h1,List.take_length,List.take_of_length_le h1]
  ·rw[Nat.min_eq_right h1]
 refine⟨.int .i64 (B0 l.length 64:Nat),?_,?_⟩
 ·show PD 1 (x e) (y e) h=_
  rw[hx,hy]
  unfold PD
  have lv:=V.lenV
  rw[List.length_map]at lv
  simp only[lv,Aa,V.srcN hn,ht]
  rw[R.store W h256 (by rw[hz,List.length_map,List.length_take];omega) (C7 _)];rfl
 ·unfold over Cd
  rw[List.take_zero,List.nil_append,Nat.zero_add,List.map_append,Nat.mul_zero,List.drop_zero,List.length_map,← List.map_drop]
  congr 2
  show List.drop _ (List.replicate 64 0)=_
  rw[List.drop_replicate]
theorem dz:Bv .mt 0 [.slice none 0 0]=some qf:=by kernel_rfl
theorem ZX:Bv .mt 0 [.int .i64 0]=some zt3:=by kernel_rfl
theorem Ic(W:h.Wf){t:VT}{z v:Value}(ht:Bv .mt 0 [z]=some t)(h1:cellsOf v=[v])(ho:oneCell v=true):
  ∃ h',(∀ (F:CallF) (e:Env),Bo 1 t F e h=.ok (pt h.next) (h.push (.cells t 1 0)))∧storeR 1 (pt h.next) v (h.push (.cells t 1 0))=.ok noRes h'∧h.Ext h'∧h'.Row h.next 0 [v]∧h'.next=h.next+1∧h'.mark=h.mark:=by
 have R:=Hp.Row.alloc W ht (show [z].length=1 from rfl)
 have x:h.Ext (h.push (.cells t 1 0)):=(Hp.Ext.refl W).push _
 have hoo:0+(cellsOf v).length≤[z].length:=by rw[h1];exact Nat.le_refl _
 have st:=R.storeR (n:=1) (off:=0) x.wf W.big (v:=v) (by rw[h1];rfl) hoo (by
  rw[h1]
  show(bif oneCell v then true else false)=true
  rw[ho];rfl)
 have wr:=R.wr_self x.wf hoo
 rw[HE (by rw[h1];rfl),h1]at wr
 rw[h1]at st
 have hoo':0+[v].length≤[z].length:=Nat.le_refl _
 obtain⟨_,_,ew,_⟩:=R.wr_is hoo'
 exact⟨_,fun F e=>Bd W,st,R.wr_ext x (Nat.le_refl _) hoo',wr,R.wr_next hoo',by rw[ew];rfl⟩
theorem li:BJ Q9.zero 1=[.nilFunc]:=by kernel_rfl
theorem Ir(W:h.Wf){g:O}{f:Nat}{a b:List Value}(hg:g e=.func (.func f) ⟨a⟩ ⟨b⟩):Ah 1 (BJ Q9.zero 1) [(0,1,g)] F e h=.ok (.slice (some ⟨h.next,0,none⟩) 1 1) (h.pushRow 0 [.func (.func f) ⟨a⟩ ⟨b⟩]):=by
 rw[li];exact Hh W hg rfl rfl
theorem nr{i:Nat}(hi:i≤1000000):Re .i64 (.int .i64 ((64 * i:Nat):Int)) (.int .i64 64) h=.ok (.int .i64 (i:Int)) h:=by
 have:((64 * i:Nat):Int).tdiv 64=(i:Int):=by
  show Int.ofNat ((64 * i) / 64)=_
  rw[Nat.mul_div_cancel_left _ (by decide)];rfl
 rw[Kn (by omega),this,Ba (by omega)]
theorem lY:wrS=BG (Ac 0 (Ax wrB)) wrE:=rfl
theorem jW:d45=aO:=rfl
def CB(h:Hp)(A:At)(k:Nat)(v:Value)(ds:List Deed):Prop:=∃ vs,h.Own k 75 v vs∧vs.length=ds.length∧∀ (i:Nat) (w:Value) (x:Deed),vs[i]? =some w→ds[i]? =some x→Hr h A (fun b=>¬ A.D b∧¬ blkV v b) w x
theorem bi{b k:Nat}(hD:∀ b,A.D b→b<k)(hb:k≤b):¬ A.D b:=fun h=>by have:=hD b h;omega
theorem CB.ext{k:Nat}{v:Value}{ds:List Deed}(o:CB h A k v ds)(W:h.Wf)(x:h.Ext h'):CB h' A k v ds:=by
 obtain⟨vs,a,b,c⟩:=o
 exact⟨vs,a.ext W x,b,fun i w y h1 h2=>(c i w y h1 h2).keep2 fun b el L hb _ r=>⟨r.ext W x,hb⟩⟩
theorem CB.same{k:Nat}{v:Value}{ds:List Deed}(o:CB h A k v ds)(hb:h'.bl=h.bl):CB h' A k v ds:=by
 obtain⟨vs,a,b,c⟩:=o
 exact⟨vs,a.same hb,b,fun i w y h1 h2=>(c i w y h1 h2).keep2 fun b el L hb' _ r=>⟨r.same hb,hb'⟩⟩
theorem CB.snoc{h0:Hp}{k:Nat}{v w:Value}{ds:List Deed}{f:Nat}{a b:List Value}(x0:h0.Ext h)(hk:h0.next≤k)(hk2:k≤h.next)(o:CB h A k v ds)(hw:w=.func (.func f) ⟨a⟩ ⟨b⟩){d:Deed}(hd:Hr h A (fun b=>¬ A.D b∧¬ blkV v b) w d)(hl:ds.length≤1000):
  ∃ h' v',DM 1 8 75 v (.slice (some ⟨h.next,0,none⟩) 1 1) (h.pushRow 0 [w])=.ok v' h'∧h0.Ext h'∧CB h' A k v' (ds++[d])∧h.next≤h'.next∧(∀ b el L,¬ blkV v b→h.Row b el L→h'.Row b el L):=by
 obtain⟨vs,o1,o2,o3⟩:=o
 have W:=x0.wf
 have x1:=x0.pushRow 0 [w]
 have y1:=(Hp.Ext.refl W).pushRow 0 [w]
 have on:oneCell w=true:=by rw[hw];rfl
 obtain⟨h',v',a1,a2,a3,a4,a5⟩:=EQ (eb:=8) (en:=75) (k:=k) (u:=.slice (some ⟨h.next,0,none⟩) 1 1) (ys:=[w]) x1 hk (Nat.le_succ_of_le hk2) (o1.ext W y1) (QT W) (by simp) (by
  show(bif oneCell w then true else false)=true
  rw[on];rfl) (by simp only[List.length_singleton];omega)
 have kp:∀ b el L,¬ A.D b∧¬ blkV v b→(el=0∨el=6)→h.Row b el L→h'.Row b el L∧(¬ A.D b∧¬ blkV v' b):=fun b el L hb _ r=>by
  have:=a5 b el L hb.2 (r.ext W y1)
  exact⟨this.1,hb.1,this.2⟩
 refine⟨h',v',a1,a2,⟨vs++[w],a3,by rw[List.length_append,List.length_append,o2];rfl,fun i z y h1 h2=>?_⟩,by have:h'.next=h.next+1+1:=a4;omega,fun b el L hb r=>(a5 b el L hb (r.ext W y1)).1⟩
 rcases Nat.lt_or_ge i vs.length with hi|hi
 ·rw[List.getElem?_append_left hi]at h1
  rw[List.getElem?_append_left (by omega)]at h2
  exact(o3 i z y h1 h2).keep2 kp
 ·rw[List.getElem?_append_right hi]at h1
  rw[List.getElem?_append_right (by omega)]at h2
  have e1:=List.mem_singleton.1 (List.mem_of_getElem? h1)
  have e2:=List.mem_singleton.1 (List.mem_of_getElem? h2)
  rw[e1,e2]
  exact hd.keep2 kp
theorem CB.app{h0:Hp}{k k2:Nat}{v v2:Value}{ds ds2:List Deed}(x0:h0.Ext h)(hk:h0.next≤k)(hk2:k≤h.next)(o:CB h A k v ds)(o2:CB h A k2 v2 ds2)(hne:0<ds2.length)(hl:ds.length+ds2.length≤1000):
  ∃ h' v',DM 1 8 75 v v2 h=.ok v' h'∧h0.Ext h'∧CB h' A k v' (ds++ds2)∧h.next≤h'.next∧(∀ b el L,(el=0∨el=6)→h.Row b el L→h'.Row b el L):=by
 obtain⟨vs,o1,o2',o3⟩:=o
 obtain⟨ws,p1,p2,p3⟩:=o2
 have W:=x0.wf
 have on:∀ w∈ws,oneCell w=true:=fun w hw=>by
  obtain⟨i,hi⟩:=List.mem_iff_getElem?.1 hw
  have hil:=(List.getElem?_eq_some_iff.1 hi).1
  exact XM (p3 i w _ hi (List.getElem?_eq_getElem (by omega)))
 obtain⟨h',v',a1,a2,a3,a4,a5⟩:=EQ (eb:=8) (en:=75) (k:=k) (u:=v2) (ys:=ws) x0 hk hk2 o1 p1.vals (by omega) (Oa on) (by omega)
 have nbv:∀ b el L,(el=0∨el=6)→h.Row b el L→¬ blkV v b:=fun b el L he r ⟨off,nn,c,e1⟩=>by
  rcases o1 with ⟨h1,h2⟩|⟨b',h1,h2,h3,h4⟩
  ·rw[h1]at e1;cases e1
  ·rw[h1]at e1
   injection e1 with e1 _ _
   injection e1 with e1
   injection e1 with e1 _ _
   rw[e1]at h2
   exact Ds r h2 (by omega) rfl
 have kp:∀ b el L,¬ A.D b→(el=0∨el=6)→h.Row b el L→h'.Row b el L∧(¬ A.D b∧¬ blkV v' b):=fun b el L hb he r=>by
  have:=a5 b el L (nbv b el L he r) r
  exact⟨this.1,hb,this.2⟩
 refine⟨h',v',a1,a2,⟨vs++ws,a3,by rw[List.length_append,List.length_append,o2',p2],fun i z y h1 h2=>?_⟩,by omega,fun b el L he r=>(a5 b el L (nbv b el L he r) r).1⟩
 rcases Nat.lt_or_ge i vs.length with hi|hi
 ·rw[List.getElem?_append_left hi]at h1
  rw[List.getElem?_append_left (by omega)]at h2
  exact(o3 i z y h1 h2).keep2 fun b el L hb he r=>kp b el L hb.1 he r
 ·rw[List.getElem?_append_right hi]at h1
  rw[List.getElem?_append_right (by omega),← o2']at h2
  exact(p3 _ z y h1 h2).keep2 fun b el L hb he r=>kp b el L hb.1 he r
theorem CB.ends{k:Nat}{v:Value}{ds:List Deed}(o:CB h A k v ds)(hD:∀ b,A.D b→b<k):∃ vs,h.VS (fun b=>¬ A.D b) v vs∧vs.length=ds.length∧∀ (i:Nat) (w:Value) (x:Deed),vs[i]? =some w→ds[i]? =some x→JR h A w x:=by
 obtain⟨vs,o1,o2,o3⟩:=o
 refine⟨vs,?_,o2,fun i w x h1 h2=>(o3 i w x h1 h2).keep2 fun b el L hb _ r=>⟨r,hb.1⟩⟩
 rcases o1 with ⟨h1,h2⟩|⟨b,h1,h2,h3,h4⟩
 ·exact .inl ⟨h1,h2⟩
 ·exact .inr ⟨b,0,_,_,vs,h1,Nat.le_refl _,h2,by omega,by rw[List.drop_zero,List.take_length],bi hD h3⟩
theorem J7(W:h.Wf)(R:h.Row A.bs 0 (slL A.bd A.tb lv fv bad ov))(hD:∀ b,A.D b→b<h.next){sct:Nat}(hs:sct≤100000){u:Value}{l:List Nat}{ku:Nat}(U:Mk h ku u l)(hl:l.length≤6400):
  ∃ h' v,call AD (m+1) 45 [pt A.bs,.int .i64 (sct:Int),u] h=.ok v h'∧h.Ext h'∧CB h' A h.next v ((List.range ((l.length+63) / 64)).map (fun j=>Deed.w (sct+j) (Cd l j))++[.f]):=by
 have bx:=fun (F:CallF) (e:Env) (he:AB 0 e=pt A.bs)=>(show DD (AB 0) F e h=.ok (pt h.next) (h.pushRow 0 [pt A.bs])by rw[Fe,he,FR W];rfl)
 have x1:=(Hp.Ext.refl W).pushRow 0 [pt A.bs]
 have R3:=Hp.Row.new W 0 [pt A.bs]
 have n1:(h.pushRow 0 [pt A.bs]).next=h.next+1:=rfl
 generalize h.pushRow 0 [pt A.bs]=h1 at bx x1 R3 n1
 have nD3:¬ A.D h.next:=bi hD (Nat.le_refl _)
 have pre:∃ e1,aO (call AD m) (AQ e0 0 [pt A.bs,.int .i64 (sct:Int),u]) h=wrS (call AD m) e1 h1∧AB 1 e1=.int .i64 (sct:Int)∧AB 2 e1=u∧AB 3 e1=pt h.next∧AB 7 e1=.slice none 0 0∧AB 8 e1=.int .i64 ((64 * 0:Nat):Int):=by
  unfold aO
  simp only[iN,Nat.reduceAdd,sT,Nat.reduceLT,Nat.reduceEqDiff,reduceIte,bx]
  exact⟨_,rfl,by simp[AG]⟩
 obtain⟨e1,p1,s1,s2,s3,s7,s8⟩:=pre
 have run:∃ e' h' v,Ax wrB (call AD m) e1 h1=.exit 0 e' h'∧h.Ext h'∧CB h' A h1.next v ((List.range ((l.length+63) / 64)).map fun j=>Deed.w (sct+j) (Cd l j))∧h'.Row h.next 0 [pt A.bs]∧h1.next≤h'.next∧AB 3 e'=pt h.next∧AB 7 e'=v:=by
  refine BZ (I:=fun i e' h'=>∃ v,h.Ext h'∧CB h' A h1.next v ((List.range i).map fun j=>Deed.w (sct+j) (Cd l j))∧h'.Row h.next 0 [pt A.bs]∧h1.next≤h'.next∧i≤(l.length+63) / 64∧AB 1 e'=.int .i64 (sct:Int)∧AB 2 e'=u∧AB 3 e'=pt h.next∧AB 7 e'=v∧AB 8 e'=.int .i64 ((64 * i:Nat):Int))
   (Q:=fun x=>∃ e' h' v,x=.exit 0 e' h'∧h.Ext h'∧CB h' A h1.next v ((List.range ((l.length+63) / 64)).map fun j=>Deed.w (sct+j) (Cd l j))∧h'.Row h.next 0 [pt A.bs]∧h1.next≤h'.next∧AB 3 e'=pt h.next∧AB 7 e'=v) ((l.length+63) / 64) (by omega) (fun i e' h' ⟨v,x',dv,R',hn',hi,t1,t2,t3,t7,t8⟩=>?_)
   ⟨_,x1,⟨[],.inl ⟨rfl,rfl⟩,rfl,fun i w x h=>by cases h⟩,R3,Nat.le_refl _,Nat.zero_le _,s1,s2,s3,s7,s8⟩
  have Ul:=U.vals.bl h'
  have W':=x'.wf
  by_cases hlt:64 * i<l.length
  ·left
   have c1:iLt ((64 * i:Nat):Int) (l.length:Int)=true:=E8 hlt
   have mk:∀ (F:CallF) (e:Env),Gi 1 ty5.zero (kV (.int .i64 64)) (kV (.int .i64 64)) F e h'=.ok (.slice (some ⟨h'.next,0,none⟩) 64 64) (h'.pushRow 0 (BP.map bv)):=fun F e=>OV (F:=F) (e:=e) W' (x:=kV (.int .i64 64)) (y:=kV (.int .i64 64)) (N:=64) rfl rfl (by omega)
   have y2:=(Hp.Ext.refl W').pushRow 0 (BP.map bv)
   have Rz:=Hp.Row.new W' 0 (BP.map bv)
   have n2:(h'.pushRow 0 (BP.map bv)).next=h'.next+1:=rfl
   generalize h'.pushRow 0 (BP.map bv)=h2 at mk y2 Rz n2
   obtain⟨h3,al,st,y3,R9,n3,_⟩:=Ic y2.wf dz (v:=.slice (some ⟨h'.next,0,none⟩) 64 64) rfl rfl
   have y23:=y2.trans y3
   have Rz3:=Rz.ext y2.wf y3
   have x3:=x'.trans y23
   have R9m:h3.marked.Row h2.next 0 [.slice (some ⟨h'.next,0,none⟩) 64 64]:=R9.same rfl
   have l9:load1 ⟨h2.next,0,none⟩ h3.marked=.ok (.slice (some ⟨h'.next,0,none⟩) 64 64) h3.marked:=R9m.load1 (off:=0) (by show 0<1;omega)
   obtain⟨w,ct,Vw⟩:=PF (((U.ext W x3).same (h':=h3.marked) rfl)) (m:=64 * i) (by omega)
   have hb256:=W'.big
   have cpy:∃ h4,(∀ (F:CallF) (e:Env),AB 18 e=.slice (some ⟨h'.next,0,none⟩) 64 64→AB 21 e=w→∃ vv,Am .free (I4 1 (AB 18) (AB 21)) F e h3.marked=.ok vv h4)∧h'.Ext h4∧h4.Row h'.next 0 ((Cd (l.drop (64 * i)) 0).map bv)∧h4.Row h2.next 0 [.slice (some ⟨h'.next,0,none⟩) 64 64]∧h3.next≤h4.next:=by
    have Rq:h3.marked.quiet.Row h'.next 0 (BP.map bv):=Rz3.same rfl
    have hle:0+(((l.drop (64 * i)).take 64).map bv).length≤(BP.map bv).length:=by
     rw[List.length_map,List.length_take]
     show _≤64
     omega
    have key:=fun (F:CallF) (e:Env) (a1:AB 18 e=.slice (some ⟨h'.next,0,none⟩) 64 64) (a2:AB 21 e=w)=>Wt (F:=F) (e:=e) (h:=h3.marked.quiet) y23.wf.marked.quiet hb256 a1 a2 (Vw.same (h':=h3.marked.quiet) rfl) Rq
    have wr:=Rq.wr_self y23.wf.marked.quiet hle
    have wx:=Rq.wr_ext (h0:=h') (y23.marked.quiet) (Nat.le_refl _) hle
    have wo:=Rq.wr_other y23.wf.marked.quiet hle (R9.same (h':=h3.marked.quiet) rfl) (by omega)
    have wn:=Rq.wr_next hle
    have ho:over (BP.map bv) 0 (((l.drop (64 * i)).take 64).map bv)=(Cd (l.drop (64 * i)) 0).map bv:=by
     have hk:=Wt (F:=call AD m) (e:=Env.set 18 (.slice (some ⟨h'.next,0,none⟩) 64 64) (Env.set 21 w e0)) (h:=h3.marked.quiet) (x:=AB 18) (y:=AB 21) y23.wf.marked.quiet hb256 (by simp[AG]) (by simp[AG]) (Vw.same (h':=h3.marked.quiet) rfl) Rq
     obtain⟨_,_,h2⟩:=hk
     exact h2
    rw[ho]at wr
    generalize h3.marked.quiet.wr h'.next 0 (((l.drop (64 * i)).take 64).map bv)=g at key wr wx wo wn
    refine⟨h3.marked.back g,fun F e a1 a2=>?_,Hp.Ext.back2 y23.marked wx,wr.same rfl,wo.same rfl,by show _≤g.next;rw[wn];exact Nat.le_refl _⟩
    obtain⟨vv,k1,_⟩:=key F e a1 a2
    exact⟨vv,BQ k1⟩
   obtain⟨h4,cp,y4,Rc,R94,n4⟩:=cpy
   have x4:=x'.trans y4
   have dv4:=nr (h:=h4) (i:=i) (by omega)
   have ad:=Sm (h:=h4) (a:=sct) (b:=i) (by omega)
   obtain⟨h5,al5,st5,y5,R10,n5,_⟩:=Ic y4.wf ZX (v:=.int .i64 ((sct+i:Nat):Int)) rfl rfl
   have y45:=y4.trans y5
   have x5:=x'.trans y45
   have dv5:=(dv.ext W' y45)
   have hbk:∀ b,h'.next≤b→¬ blkV v b:=fun b hb hv=>by
    obtain⟨vs,o1,_⟩:=dv
    rcases o1 with ⟨h1,_⟩|⟨b',h1,h2,_⟩
    ·rw[h1]at hv;exact Ft hv
    ·have:=h2.lt W'
     rw[h1]at hv
     obtain⟨o,nn,c,hc⟩:=hv
     injection hc with hc _ _
     injection hc with hc
     injection hc with hc _ _
     omega
   have hx1:=x1.next
   have nDb:∀ b,h.next≤b→¬ A.D b:=fun b hb=>bi hD hb
   have hb3:¬ blkV v h.next:=fun hv=>by
    obtain⟨vs,o1,_⟩:=dv
    rcases o1 with ⟨h1',_⟩|⟨b',h1',h2',h3',_⟩
    ·rw[h1']at hv;exact Ft hv
    ·rw[h1']at hv
     obtain⟨o,nn,c,hc⟩:=hv
     injection hc with hc _ _
     injection hc with hc
     injection hc with hc _ _
     omega
   have R3':=R'.ext W' y45
   have ds:Hr h5 A (fun b=>¬ A.D b∧¬ blkV v b) (.func (.func 74) ⟨[]⟩ ⟨[pt h.next,pt h4.next,pt h2.next]⟩) (.w (sct+i) (Cd l i)):=by
    refine .inl ⟨h.next,h4.next,h2.next,.slice (some ⟨h'.next,0,none⟩) 64 64,rfl,R3',R10,R94.ext y4.wf y5,.inr ⟨h'.next,0,64,0,_,by rw[List.length_map,CW],by rw[List.length_map,CW];exact Nat.le_refl _,Rc.ext y4.wf y5,?_,?_,⟨nDb _ (by omega),hbk _ (Nat.le_refl _)⟩,.inl rfl⟩,⟨nDb _ (Nat.le_refl _),hb3⟩,⟨nDb _ (by omega),hbk _ (by omega)⟩,⟨nDb _ (by omega),hbk _ (by omega)⟩⟩
    ·rw[List.length_map,List.length_map,CW,CW];exact Nat.le_refl _
    ·have:Cd (l.drop (64 * i)) 0=Cd l i:=by unfold Cd;rw[Nat.mul_zero,List.drop_zero]
     rw[this,List.drop_zero,List.take_length]
   obtain⟨h6,v6,k6,x6,dv6,n6,kp6⟩:=dv5.snoc (f:=74) x5 (Nat.le_trans hx1 (Nat.le_refl _)) (by omega) rfl ds (by rw[List.length_map,List.length_range];omega)
   have er:(List.range (i+1)).map (fun j=>Deed.w (sct+j) (Cd l j))=(List.range i).map (fun j=>Deed.w (sct+j) (Cd l j))++[Deed.w (sct+i) (Cd l i)]:=by rw[List.range_succ,List.map_append];rfl
   rw[← er]at dv6
   have fs:=fun (F:CallF) (e:Env) (a:AB 28 e=.func (.func 74) ⟨[]⟩ ⟨[pt h.next,pt h4.next,pt h2.next]⟩)=>Ir (F:=F) (e:=e) x5.wf a
   have a3:FK .i64 (.int .i64 ((64 * i:Nat):Int)) (.int .i64 64) h6=.ok (.int .i64 ((64 * (i+1):Nat):Int)) h6:=by
    have:=Sm (h:=h6) (a:=64 * i) (b:=64) (by omega)
    rw[show 64 * i+64=64 * (i+1)by omega]at this
    exact this
   have hrun:∃ e2,wrB (call AD m) e' h'=.norm e2 h6∧AB 1 e2=.int .i64 (sct:Int)∧AB 2 e2=u∧AB 3 e2=pt h.next∧AB 7 e2=v6∧AB 8 e2=.int .i64 ((64 * (i+1):Nat):Int):=by
    obtain⟨vv,cp⟩:=cp (call AD m) (Env.set 21 w (Env.set 18 (.slice (some ⟨h'.next,0,none⟩) 64 64) (Env.set 9 (pt h2.next) (Env.set 17 (.slice (some ⟨h'.next,0,none⟩) 64 64) (Env.set 14 (.bool true) (Env.set 13 (.int .i64 (l.length:Int)) e')))))) (by simp[AG]) (by simp[AG])
    unfold wrB
    simp only[sT,Nat.reduceLT,Nat.reduceEqDiff,reduceIte,Ae,t2,Ul,AL,AK,t8,c1,mk,al,AX,st,Ay,AM,AP,l9]
    rw[ct _ _ _ _ (by simp[AG,t2]) (by simp[AG,t8])]
    simp only[sT,Nat.reduceLT,Nat.reduceEqDiff,reduceIte,cp,I5,t8,dv4,BK,t1,ad,al5,AX,st5,Dw,AY,A3,t3,fs,BE,t7,k6,a3]
    exact⟨_,rfl,by simp[AG,t1,t2,t3]⟩
   obtain⟨e2,r1,r2,r3,r4,r5,r6⟩:=hrun
   exact⟨by omega,e2,h6,r1,v6,x6,dv6,kp6 _ _ _ hb3 R3',by omega,by omega,r2,r3,r4,r5,r6⟩
  ·right
   have hie:i=(l.length+63) / 64:=by omega
   have c1:iLt ((64 * i:Nat):Int) (l.length:Int)=false:=DI (by omega)
   have hrun:∃ e2,wrB (call AD m) e' h'=.exit 0 e2 h'∧AB 3 e2=pt h.next∧AB 7 e2=v:=by
    unfold wrB
    simp only[sT,Nat.reduceLT,Nat.reduceEqDiff,reduceIte,Ae,t2,Ul,AL,AK,t8,c1]
    exact⟨_,rfl,by simp[AG,t3,t7]⟩
   obtain⟨e2,r1,r2,r3⟩:=hrun
   rw[r1]
   exact⟨rfl,e2,h',v,rfl,x',by rw[← hie];exact dv,R',hn',r2,r3⟩
 obtain⟨e2,h2,v2,r1,x2,dv2,R2,n2,t3,t7⟩:=run
 have l3:load1 ⟨h.next,0,none⟩ h2=.ok (pt A.bs) h2:=R2.load1 (off:=0) (by show 0<1;omega)
 obtain⟨l0,_⟩:=A5 (R.ext W x2)
 obtain⟨h6,v6,k6,x6,dv6,n6,_⟩:=dv2.snoc (f:=76) (d:=.f) x2 x1.next n2 (w:=.func (.func 76) ⟨[pt A.bd]⟩ ⟨[]⟩) rfl rfl (by rw[List.length_map,List.length_range];omega)
 have fs:=fun (F:CallF) (e:Env) (a:AB 36 e=.func (.func 76) ⟨[pt A.bd]⟩ ⟨[]⟩)=>Ir (F:=F) (e:=e) x2.wf a
 refine⟨h6,v6,?_,x6,?_⟩
 ·rw[iP rfl,jW,p1,lY]
  simp only[BH,Aw,r1,A1,BB]
  unfold wrE
  simp only[sT,Nat.reduceLT,Nat.reduceEqDiff,reduceIte,AM,AP,t3,l3,Au,Aj,AJ,AN,Nat.zero_add,l0,Dw,AY,A3,fs,BE,t7,k6,lV0]
 ·obtain⟨vs,a,b,c⟩:=dv6
  exact⟨vs,a.le x1.next,b,c⟩
end
end
noncomputable section
open Go
set_option maxRecDepth 100000
section
variable {F:CallF}{e:Env}{h h':Hp}{A:At}{T M:List Nat}{c0 bad m:Nat}{arm:Int}{ks:List Kt}{fr:List Nat}{lv fv:Value}{ov:Bool}
theorem Gu:∀ (n k:Nat) (a:Int),Bk a (n+k)→Bk ((List.range n).foldl (fun a _=>Fm a) a) k
 |0,k,a,h=>by rw[Nat.zero_add]at h;exact h
 |n+1,k,a,h=>by
  rw[List.range_succ,List.foldl_append]
  have h1:=Gu n (k+1) a (by rw[show n+(k+1)=n+1+k by omega];exact h)
  exact h1.one.1
theorem Z5{x y:O}{K:C}{v:Value}{b r:Nat}(hx:x e=v)(hv:v=.slice none 0 0∨∃ o n c,v=.slice (some ⟨b,o,none⟩) n c)(hy:y e=pt r)(hr:v=.slice none 0 0∨r≠b):Cx x [y] K F e h=K F e h:=by
 unfold Cx
 rw[hx]
 rcases hv with rfl|⟨o,n,c,rfl⟩
 ·rfl
 ·rcases hr with hr|hr
  ·cases hr
  ·show(bif DF b e [y]then K F e h else .no)=_
   have:DF b e [y]=true:=by
    unfold DF
    rw[hy]
    show(bif Nat.beq r b then false else DF b e [])=true
    have n1:Nat.beq r b=false:=by
     cases e:Nat.beq r b
     ·rfl
     ·exact absurd (Al.1 e) hr
    rw[n1];rfl
   rw[this];rfl
theorem CB.atB{h0:Hp}{k bw:Nat}{v w:Value}{ds:List Deed}{f:Nat}{a b:List Value}(x0:h0.Ext h)(hk:h0.next≤k)(hk2:k≤h.next)(o:CB h A k v ds)(hw:w=.func (.func f) ⟨a⟩ ⟨b⟩)(Rw:h.Row bw 0 [w]){d:Deed}(hd:Hr h A (fun b=>¬ A.D b∧¬ blkV v b) w d)(hl:ds.length≤1000):
  ∃ h' v',(∀ (F:CallF) (e:Env) (x y:O),x e=v→y e=.slice (some ⟨bw,0,none⟩) 1 1→Mj x (Be 1 8 75 x y) F e h=.ok v' h')∧h0.Ext h'∧CB h' A k v' (ds++[d])∧h.next≤h'.next:=by
 obtain⟨vs,o1,o2,o3⟩:=o
 have W:=x0.wf
 have on:oneCell w=true:=by rw[hw];rfl
 have cl:h.quiet.Cl (blkV v) 75 v vs:=by
  rcases o1 with ⟨h1,h2⟩|⟨b,h1,h2,h3,h4⟩
  ·exact .inl ⟨h1,h2⟩
  ·exact .inr ⟨b,76,h1,h2.same rfl,.inl rfl,⟨0,_,_,h1⟩,h4⟩
 have kb:∀ b,blkV v b→h0.next≤b:=fun b hb=>by
  obtain⟨off,n,c,e1⟩:=hb
  rcases o1 with ⟨h1,h2⟩|⟨b',h1,h2,h3,h4⟩
  ·rw[h1]at e1;cases e1
  ·rw[h1]at e1
   injection e1 with e1 _ _
   injection e1 with e1
   injection e1 with e1 _ _
   omega
 obtain⟨h5,b5,a1,a2,a3,a4,a5,a6,a7,a8,a9⟩:=Wo (eb:=8) (en:=75) x0.quiet cl kb (Rw.same (h':=h.quiet) rfl) on (by rw[o2];omega) (by omega)
 have hvb:¬ blkV (.slice (some ⟨b5,0,none⟩) (vs.length+1) (vs.length+1)) b5→False:=fun h=>h ⟨0,_,_,rfl⟩
 have a4:b5=h.next:=a4
 have kp:∀ b el L,¬ A.D b∧¬ blkV v b→(el=0∨el=6)→h.Row b el L→(h.back h5).Row b el L∧(¬ A.D b∧¬ blkV (.slice (some ⟨b5,0,none⟩) (vs.length+1) (vs.length+1)) b):=fun b el L hb _ r=>⟨(a7 b el L hb.2 (r.same rfl)).same rfl,hb.1,Kk (by have:=r.lt W;omega)⟩
 have a5:h5.next=h.next+1:=a5
 have h256:=W.big
 refine⟨h.back h5,.slice (some ⟨b5,0,none⟩) (vs.length+1) (vs.length+1),fun F e x y hx hy=>Sn hx hy a1 (a9 rfl rfl h rfl),x0.back2 a2,⟨vs++[w],.inr ⟨b5,by rw[List.length_append];rfl,a3.same rfl,?_,by omega⟩,by rw[List.length_append,List.length_append,o2];rfl,fun i z y h1 h2=>?_⟩,by show h.next≤h5.next;omega⟩
 ·omega
 ·rcases Nat.lt_or_ge i vs.length with hi|hi
  ·rw[List.getElem?_append_left hi]at h1
   rw[List.getElem?_append_left (by omega)]at h2
   exact(o3 i z y h1 h2).keep2 kp
  ·rw[List.getElem?_append_right hi]at h1
   rw[List.getElem?_append_right (by omega)]at h2
   have e1:=List.mem_singleton.1 (List.mem_of_getElem? h1)
   have e2:=List.mem_singleton.1 (List.mem_of_getElem? h2)
   rw[e1,e2]
   exact hd.keep2 kp
theorem lM:skS=BG (Ac 0 (Ax skB)) skE:=rfl
theorem XB:d53=XC:=rfl
def GC(M:List Nat)(ps:List Nat):List Nat:=Fb M (ps.map fun p=>(p * 3,BP))
theorem Qs:∀ (ps:List Nat) (M:List Nat) (cs:List (Nat×List Nat)),F9 M cs (ps.map (fun p=>Deed.w (p * 3) BP)++[.f])=(Fb M (cs++ps.map fun p=>(p * 3,BP)),[])
 |[],M,cs=>by rw[List.map_nil,List.map_nil,List.append_nil];rfl
 |p::ps,M,cs=>by
  show F9 M (cs++[(p * 3,BP)]) (ps.map (fun p=>Deed.w (p * 3) BP)++[.f])=_
  rw[Qs ps,List.append_assoc];rfl
theorem YV{n:Nat}:∀ (ps:List Nat) (cs:List (Nat×List Nat)),(cs≠[]∨ps≠[])→cs.length+ps.length≤60→(∀ p∈ps,3 * p+3≤n∧∀ x∈cs,x.1≠p * 3)→ps.Nodup→Eq n cs (ps.map (fun p=>Deed.w (p * 3) BP)++[.f])
 |[],cs,h0,hl,_,_=>⟨h0.elim (fun h=>h) fun h=>absurd rfl h,by simpa using hl,trivial⟩
 |p::ps,cs,h0,hl,hp,hn=>by
  obtain⟨p1,p2⟩:=hp p List.mem_cons_self
  rw[List.length_cons]at hl
  refine⟨p2,by omega,rfl,fun x hx=>by rw[List.eq_of_mem_replicate hx];decide,YV ps _ (.inl (by simp)) (by rw[List.length_append];simp only[List.length_singleton];omega) (fun q hq=>⟨(hp q (List.mem_cons_of_mem _ hq)).1,fun x hx=>?_⟩) (List.nodup_cons.1 hn).2⟩
  rcases List.mem_append.1 hx with hx|hx
  ·exact(hp q (List.mem_cons_of_mem _ hq)).2 x hx
  ·rw[List.mem_singleton.1 hx]
   show p * 3≠q * 3
   intro he
   have:p=q:=by omega
   exact(List.nodup_cons.1 hn).1 (this ▸ hq)
theorem Sl.D_lt(s:Sl h A T M c0 arm ks fr lv fv bad ov)(W:h.Wf):∀ b,A.D b→b<h.next:=fun b hb=>by
 obtain⟨h1,h2,h3⟩:=s.dk.lt W
 rcases hb with rfl|rfl|rfl|rfl
 ·exact s.row.lt W
 ·exact h1
 ·exact h2
 ·exact h3
theorem Sl.nK(s:Sl h A T M c0 arm ks fr lv fv bad ov):¬ A.K A.bs:=by
 obtain⟨h1,h2,h3,_⟩:=s.ne
 rintro (h|h|h)<;>contradiction
theorem J5(W:h.Wf)(s:Sl h A T M c0 arm ks fr lv fv bad ov){ps:List Nat}{pv:Value}(V:h.Vals pv (ints .i64 (ps.map Int.ofNat)))(hp:∀ p∈ps,3 * p+3≤A.n)(hnd:ps.Nodup)(hl:ps.length≤50){k:Nat}(ha:Bk arm (ps.length+1+k)):
  ∃ h' c1 arm',call AD (m+6) 53 [pt A.bs,pv] h=.ok (.int .i64 0) h'∧Fx A.K h h'∧Sl h' A T (GC M ps) c1 arm' ks fr lv fv bad ov∧Bk arm' k:=by
 have ln:∀ g:Hp,lenSR pv g=.ok (.int .i64 (ps.length:Int)) g:=fun g=>by
  have:=V.shape
  obtain⟨a,c,rfl⟩:=this
  rw[show(ints .i64 (ps.map Int.ofNat)).length=ps.length by simp[ints]];rfl
 have bx:=fun (F:CallF) (e:Env) (he:AB 0 e=pt A.bs)=>(show DD (AB 0) F e h=.ok (pt h.next) (h.pushRow 0 [pt A.bs])by rw[Fe,he,FR W];rfl)
 have x1:=(Hp.Ext.refl W).pushRow 0 [pt A.bs]
 have R2:=Hp.Row.new W 0 [pt A.bs]
 have n1:(h.pushRow 0 [pt A.bs]).next=h.next+1:=rfl
 generalize h.pushRow 0 [pt A.bs]=h1 at bx x1 R2 n1
 have hD:=s.D_lt W
 have hDn:A.n≤65536:=s.dk.n1.2
 by_cases h0:ps=[]
 ·subst h0
  have c1:iEq ((([]:List Nat).length:Nat):Int) 0=true:=CN rfl
  refine⟨h1,c0,arm,?_,.of x1,s.ext W x1,ha.le (by omega)⟩
  rw[Wb rfl,XB]
  unfold XC
  simp only[iN,Nat.reduceAdd,sT,Nat.reduceLT,Nat.reduceEqDiff,reduceIte,bx,Ae,ln,AL,AK,c1,lV0]
 have hpos:0<ps.length:=by
  cases ps with
  |nil=>exact absurd rfl h0
  |cons _ _=>exact Nat.succ_pos _
 have c1:iEq (ps.length:Int) 0=false:=BW (by omega)
 have pre:∃ e1,XC (call AD (m+5)) (AQ e0 0 [pt A.bs,pv]) h=skS (call AD (m+5)) e1 h1∧AB 2 e1=pt h.next∧AB 5 e1=.slice none 0 0∧AB 11 e1=pv∧AB 12 e1=.int .i64 (ps.length:Int)∧AB 13 e1=.int .i64 ((0:Nat):Int):=by
  unfold XC
  simp only[iN,Nat.reduceAdd,sT,Nat.reduceLT,Nat.reduceEqDiff,reduceIte,bx,Ae,ln,AL,AK,c1]
  exact⟨_,rfl,by simp[AG]⟩
 obtain⟨e1,p1,s2,s5,s11,s12,s13⟩:=pre
 have run:∃ e' h' v,Ax skB (call AD (m+5)) e1 h1=.exit 0 e' h'∧h.Ext h'∧CB h' A h1.next v (ps.map fun p=>Deed.w (p * 3) BP)∧h'.Row h.next 0 [pt A.bs]∧h1.next≤h'.next∧AB 2 e'=pt h.next∧AB 5 e'=v:=by
  refine BZ (I:=fun i e' h'=>∃ v,h.Ext h'∧CB h' A h1.next v ((ps.take i).map fun p=>Deed.w (p * 3) BP)∧h'.Row h.next 0 [pt A.bs]∧h1.next≤h'.next∧i≤ps.length∧AB 2 e'=pt h.next∧AB 5 e'=v∧AB 11 e'=pv∧AB 12 e'=.int .i64 (ps.length:Int)∧AB 13 e'=.int .i64 (i:Int))
   (Q:=fun x=>∃ e' h' v,x=.exit 0 e' h'∧h.Ext h'∧CB h' A h1.next v (ps.map fun p=>Deed.w (p * 3) BP)∧h'.Row h.next 0 [pt A.bs]∧h1.next≤h'.next∧AB 2 e'=pt h.next∧AB 5 e'=v) ps.length (by omega) (fun i e' h' ⟨v,x',dv,R',hn',hi,t2,t5,t11,t12,t13⟩=>?_)
   ⟨_,x1,⟨[],.inl ⟨rfl,rfl⟩,rfl,fun i w x h=>by cases h⟩,R2,Nat.le_refl _,Nat.zero_le _,s2,s5,s11,s12,s13⟩
  have W':=x'.wf
  by_cases hlt:i<ps.length
  ·left
   have c1:=E8 hlt
   obtain⟨p,hpi⟩:∃ p,ps[i]? =some p:=⟨_,List.getElem?_eq_getElem hlt⟩
   have hpm:=List.mem_of_getElem? hpi
   obtain⟨a,g1,g2⟩:=(V.ext W x').at (i:=i) (by simp[ints];exact hlt)
   have g2:G7 (.pointer (some a)) h'=.ok (.int .i64 (p:Int)) h':=by
    rw[g2]
    have:(ints .i64 (ps.map Int.ofNat)).getD i noRes=.int .i64 (p:Int):=by
     rw[List.getD_eq_getElem?_getD]
     simp[ints,hpi]
    rw[this]
   obtain⟨h2,al,st,y2,R7,n2,_⟩:=Ic W' ZX (v:=.int .i64 (p:Int)) rfl rfl
   have x2:=x'.trans y2
   have nDb:∀ b,h.next≤b→¬ A.D b:=fun b hb=>bi hD hb
   have hvb:∀ b,blkV v b→h1.next≤b∧b<h'.next:=fun b hb=>by
    obtain⟨vs,o1,_⟩:=dv
    obtain⟨o,nn,c,hc⟩:=hb
    rcases o1 with ⟨h1',_⟩|⟨b',h1',h2',h3',_⟩
    ·rw[h1']at hc;cases hc
    ·rw[h1']at hc
     have:=h2'.lt W'
     injection hc with hc _ _
     injection hc with hc
     injection hc with hc _ _
     omega
   have ds:Hr h2 A (fun b=>¬ A.D b∧¬ blkV v b) (.func (.func 83) ⟨[]⟩ ⟨[pt h.next,pt h'.next]⟩) (.w (p * 3) BP):=.inr ⟨h.next,h'.next,p,rfl,R'.ext W' y2,R7,rfl,by have:=hp p hpm;omega,rfl,⟨nDb _ (Nat.le_refl _),fun hb=>by have:=hvb _ hb;omega⟩,⟨nDb _ (by have:=x'.next;omega),fun hb=>by have:=hvb _ hb;omega⟩⟩
   obtain⟨h3,v3,k3,x3,dv3,n3,kp3⟩:=(dv.ext W' y2).snoc (f:=83) x2 x1.next (by omega) rfl ds (by rw[List.length_map,List.length_take];omega)
   have er:(ps.take (i+1)).map (fun p=>Deed.w (p * 3) BP)=(ps.take i).map (fun p=>Deed.w (p * 3) BP)++[Deed.w (p * 3) BP]:=by
    rw[List.take_add_one,hpi,List.map_append];rfl
   rw[← er]at dv3
   have fs:=fun (F:CallF) (e:Env) (a:AB 18 e=.func (.func 83) ⟨[]⟩ ⟨[pt h.next,pt h'.next]⟩)=>Ir (F:=F) (e:=e) x2.wf a
   have a3:=CQ (i:=i) (h:=h3) (by omega)
   have hrun:∃ e2,skB (call AD (m+5)) e' h'=.norm e2 h3∧AB 2 e2=pt h.next∧AB 5 e2=v3∧AB 11 e2=pv∧AB 12 e2=.int .i64 (ps.length:Int)∧AB 13 e2=.int .i64 ((i+1:Nat):Int):=by
    unfold skB
    simp only[sT,Nat.reduceLT,Nat.reduceEqDiff,reduceIte,AL,AK,t13,t12,c1,Az,t11,g1,AM,g2,al,AX,st,Dw,AY,A3,t2,fs,BE,t5,k3,BK,a3]
    exact⟨_,rfl,by simp[AG,t2,t11,t12]⟩
   obtain⟨e2,r1,r2,r3,r4,r5,r6⟩:=hrun
   exact⟨hlt,e2,h3,r1,v3,x3,dv3,kp3 _ _ _ (fun hb=>by have:=hvb _ hb;omega) (R'.ext W' y2),by omega,by omega,r2,r3,r4,r5,r6⟩
  ·right
   have c1:=DI (show ps.length≤i by omega)
   have hrun:∃ e2,skB (call AD (m+5)) e' h'=.exit 0 e2 h'∧AB 2 e2=pt h.next∧AB 5 e2=v:=by
    unfold skB
    simp only[sT,Nat.reduceLT,Nat.reduceEqDiff,reduceIte,AL,AK,t13,t12,c1]
    exact⟨_,rfl,by simp[AG,t2,t5]⟩
   obtain⟨e2,r1,r2,r3⟩:=hrun
   rw[r1]
   rw[List.take_of_length_le (by omega)]at dv
   exact⟨rfl,e2,h',v,rfl,x',dv,R',hn',r2,r3⟩
 obtain⟨e2,h2,v2,r1,x2,dv2,R2',n2,t2,t5⟩:=run
 have x2m:=x2.marked
 have R2m:h2.marked.Row h.next 0 [pt A.bs]:=R2'.same rfl
 have l2:load1 ⟨h.next,0,none⟩ h2.marked=.ok (pt A.bs) h2.marked:=R2m.load1 (off:=0) (by show 0<1;omega)
 obtain⟨l0,_⟩:=A5 (s.row.ext W x2m)
 have qs:∀ (F:CallF) (e:Env),AB 28 e=.func (.func 76) ⟨[pt A.bd]⟩ ⟨[]⟩→Am .strong (Ah 1 (BJ Q9.zero 1) [(0,1,AB 28)]) F e h2.marked=.ok (.slice (some ⟨h2.next,0,none⟩) 1 1) (h2.marked.back (h2.marked.quiet.pushRow 0 [.func (.func 76) ⟨[pt A.bd]⟩ ⟨[]⟩])):=fun F e he=>DJ (Ir x2m.wf.quiet he) ((Hp.Ext.refl x2m.wf.quiet).pushRow _ _) (Nat.le_refl _)
 have y3:h2.Ext (h2.marked.back (h2.marked.quiet.pushRow 0 [.func (.func 76) ⟨[pt A.bd]⟩ ⟨[]⟩])):=Hp.Ext.back2 (Hp.Ext.refl x2.wf).marked ((Hp.Ext.refl x2.wf).marked.quiet.pushRow _ _)
 have Rw:(h2.marked.back (h2.marked.quiet.pushRow 0 [.func (.func 76) ⟨[pt A.bd]⟩ ⟨[]⟩])).Row h2.next 0 [.func (.func 76) ⟨[pt A.bd]⟩ ⟨[]⟩]:=(Hp.Row.new x2m.wf.quiet 0 [.func (.func 76) ⟨[pt A.bd]⟩ ⟨[]⟩]).same rfl
 generalize h2.marked.back (h2.marked.quiet.pushRow 0 [.func (.func 76) ⟨[pt A.bd]⟩ ⟨[]⟩])=h3 at qs y3 Rw
 have x3:=x2.trans y3
 obtain⟨h4,v4,k4,x4,dv4,n4⟩:=(dv2.ext x2.wf y3).atB (f:=76) (d:=.f) x3 x1.next (Nat.le_trans n2 y3.next) rfl Rw rfl (by rw[List.length_map];omega)
 have ck:∀ (K:C) (F:CallF) (e:Env),AB 5 e=v2→AB 2 e=pt h.next→Cx (AB 5) [AB 2] K F e h3=K F e h3:=fun K F e a1 a2=>by
  obtain⟨vs,o1,_⟩:=dv2
  rcases o1 with ⟨h1',_⟩|⟨b',h1',h2',h3',_⟩
  ·exact Z5 (b:=0) a1 (.inl h1') a2 (.inl h1')
  ·exact Z5 (b:=b') a1 (.inr ⟨_,_,_,h1'⟩) a2 (.inr (by omega))
 have s4:=s.ext W x4
 obtain⟨vs,w1,w2,w3⟩:=dv4.ends fun b hb=>by have:=hD b hb;have:=x1.next;omega
 obtain⟨h5,c5,arm5,k5,f5,d5,ea⟩:=RI (m:=m) x4.wf.quiet (s4.row.same (h':=h4.quiet) rfl) s.nK (s4.dk.same (h':=h4.quiet) rfl) (w1.same (h':=h4.quiet) rfl) w2 (fun i v x a b=>(w3 i v x a b).keep2 fun b el L hb _ r=>⟨r.same rfl,hb⟩) (YV ps [] (.inr h0) (by simp only[List.length_nil];omega) (fun p hq=>⟨hp p hq,fun x hx=>by cases hx⟩) hnd)
  (by rw[List.length_append,List.length_map];exact ha.le (by show ps.length+1≤_;omega)) (by rw[List.length_append,List.length_map];show ps.length+1≤_;omega)
 rw[Qs]at d5
 have q5:∀ e:Env,AB 22 e=pt A.bs→AB 30 e=v4→Am .free (AS 47 [AB 22,AB 30]) (call AD (m+5)) e h4=.ok (.int .i64 0) (h4.back h5):=fun e a1 a2=>by
  refine BQ ?_
  rw[Bb,AY,AY,A3,a1,a2];exact k5
 have f5':Fx A.K h4 (h4.back h5):=(f5.from (h:=h4) rfl rfl).same rfl rfl
 refine⟨h4.back h5,c5,arm5,?_,(Fx.of x4).trans f5',((s4.sc.fx x4.wf f5').sl (d5.same rfl)),?_⟩
 ·rw[Wb rfl,XB,p1,lM]
  simp only[BH,Aw,r1,A1,BB]
  unfold skE
  simp only[sT,Nat.reduceLT,Nat.reduceEqDiff,reduceIte,Ay,AM,AP,t2,l2,Au,Aj,AJ,AN,Nat.zero_add,l0,Dw,AY,A3,qs]
  rw[ck _ _ _ (by simp[AG,t5]) (by simp[AG,t2])]
  simp only[sT,Nat.reduceLT,Nat.reduceEqDiff,reduceIte]
  rw[k4 _ _ _ _ (by simp[AG,t5]) (by simp[AG])]
  simp only[sT,Nat.reduceLT,Nat.reduceEqDiff,reduceIte,q5,lV0]
 ·rw[ea,List.length_append,List.length_map]
  exact Gu _ k arm ha
end
end
noncomputable section
open Go
set_option maxRecDepth 100000
def E6(P:Kt→Bool):Nat→List Kt→Int
 |_,[]=> -1
 |i,k::l=>if P k=true then(i:Int)else E6 P (i+1) l
theorem OA(P:Kt→Bool):∀ (l:List Kt) (i:Nat),(l.any P=false∧E6 P i l= -1)∨(l.any P=true∧∃ j k,l[j]? =some k∧P k=true∧E6 P i l=((i+j:Nat):Int))
 |[],i=>.inl ⟨rfl,rfl⟩
 |k::l,i=>by
  unfold E6
  by_cases h:P k=true
  ·rw[if_pos h]
   exact .inr ⟨by rw[List.any_cons,h];rfl,0,k,rfl,h,rfl⟩
  ·rw[if_neg h]
   have hf:P k=false:=by simpa using h
   rcases OA P l (i+1)with ⟨h1,h2⟩|⟨h1,j,k',h2,h3,h4⟩
   ·exact .inl ⟨by rw[List.any_cons,hf,h1];rfl,h2⟩
   ·exact .inr ⟨by rw[List.any_cons,h1,Bool.or_true],j+1,k',by rw[List.getElem?_cons_succ];exact h2,h3,by rw[h4];congr 1;omega⟩
section
variable {F:CallF}{e:Env}{h h':Hp}{S:Nat→Prop}{A:At}{bad m:Nat}{ks:List Kt}{v lv fv:Value}{ov:Bool}
theorem Xo:kiS=BG (Ac 0 (Ax kiB)) kiE:=rfl
theorem XD:d69=aR:=rfl
theorem OM{g:Nat}{caps:List Value}{P:Kt→Bool}(W:h.Wf)(K:h.KS S v ks)(hl:ks.length≤100000)(hP:∀ h',h.Ext h'→∀ k∈ks,∃ h'',call AD m g (ktV k::caps) h'=.ok (.bool (P k)) h''∧h'.Ext h''):
  ∃ h',call AD (m+1) 69 [v,.func (.func g) ⟨[]⟩ ⟨caps⟩] h=.ok (.int .i64 (E6 P 0 ks)) h'∧h.Ext h':=by
 have ln:=K.len h
 have pre:∃ e1,aR (call AD m) (AQ e0 0 [v,.func (.func g) ⟨[]⟩ ⟨caps⟩]) h=kiS (call AD m) e1 h∧AB 0 e1=v∧AB 1 e1=.func (.func g) ⟨[]⟩ ⟨caps⟩∧AB 7 e1=.int .i64 (ks.length:Int)∧AB 8 e1=.int .i64 ((0:Nat):Int):=by
  unfold aR
  simp only[iN,Nat.reduceAdd,sT,Nat.reduceLT,Nat.reduceEqDiff,reduceIte,Ae,ln]
  exact⟨_,rfl,by simp[AG]⟩
 obtain⟨e1,p1,s0,s1,s7,s8⟩:=pre
 have run:(∃ e' h',Ax kiB (call AD m) e1 h=.exit 0 e' h'∧h.Ext h'∧E6 P 0 ks= -1)∨(∃ e' h',Ax kiB (call AD m) e1 h=.ret e' h'∧h.Ext h'∧AB 4 e'=.int .i64 (E6 P 0 ks)):=by
  refine BZ (I:=fun i e' h'=>h.Ext h'∧AB 0 e'=v∧AB 1 e'=.func (.func g) ⟨[]⟩ ⟨caps⟩∧AB 7 e'=.int .i64 (ks.length:Int)∧AB 8 e'=.int .i64 (i:Int)∧i≤ks.length∧E6 P 0 ks=E6 P i (ks.drop i))
   (Q:=fun x=>(∃ e' h',x=.exit 0 e' h'∧h.Ext h'∧E6 P 0 ks= -1)∨(∃ e' h',x=.ret e' h'∧h.Ext h'∧AB 4 e'=.int .i64 (E6 P 0 ks))) ks.length (by omega) (fun i e' h' ⟨x',t0,t1,t7,t8,hi,hr⟩=>?_) ⟨.refl W,s0,s1,s7,s8,Nat.zero_le _,by rw[List.drop_zero]⟩
  by_cases hlt:i<ks.length
  ·obtain⟨k,hk⟩:∃ k,ks[i]? =some k:=⟨_,List.getElem?_eq_getElem hlt⟩
   have hd:ks.drop i=k::ks.drop (i+1):=by
    rw[List.drop_eq_getElem_cons hlt]
    rw[List.getElem?_eq_getElem hlt]at hk
    rw[Option.some.inj hk]
   rw[hd]at hr
   have hr:E6 P 0 ks=if P k=true then(i:Int)else E6 P (i+1) (ks.drop (i+1)):=hr
   have c1:=E8 hlt
   obtain⟨b,_,ix,ld,_⟩:=(K.ext W x').at hk
   obtain⟨h2,k2,x2⟩:=hP h' x' k (List.mem_of_getElem? hk)
   by_cases hp:P k=true
   ·right
    rw[hp]at k2
    rw[if_pos hp]at hr
    have hrun:∃ e2,kiB (call AD m) e' h'=.ret e2 h2∧AB 4 e2=.int .i64 (i:Int):=by
     unfold kiB
     simp only[sT,Nat.reduceLT,Nat.reduceEqDiff,reduceIte,AL,AK,t8,t7,c1,Az,t0,ix,Aq,Ao,ld,Cj,t1,Ch,AY,A3,List.nil_append,List.singleton_append,k2]
     exact⟨_,rfl,by simp[AG]⟩
    obtain⟨e2,r1,r2⟩:=hrun
    rw[r1]
    exact⟨rfl,.inr ⟨e2,h2,rfl,x'.trans x2,by rw[r2,hr]⟩⟩
   ·left
    have hf:P k=false:=by simpa using hp
    rw[hf]at k2
    rw[if_neg hp]at hr
    have a3:=CQ (i:=i) (h:=h2) (by omega)
    have hrun:∃ e2,kiB (call AD m) e' h'=.norm e2 h2∧AB 0 e2=v∧AB 1 e2=.func (.func g) ⟨[]⟩ ⟨caps⟩∧AB 7 e2=.int .i64 (ks.length:Int)∧AB 8 e2=.int .i64 ((i+1:Nat):Int):=by
     unfold kiB
     simp only[sT,Nat.reduceLT,Nat.reduceEqDiff,reduceIte,AL,AK,t8,t7,c1,Az,t0,ix,Aq,Ao,ld,Cj,t1,Ch,AY,A3,List.nil_append,List.singleton_append,k2,BK,a3]
     exact⟨_,rfl,by simp[AG,t0,t1,t7]⟩
    obtain⟨e2,r1,r2,r3,r4,r5⟩:=hrun
    exact⟨hlt,e2,h2,r1,x'.trans x2,r2,r3,r4,r5,by omega,hr⟩
  ·right
   have c1:=DI (show ks.length≤i by omega)
   have hrun:∃ e2,kiB (call AD m) e' h'=.exit 0 e2 h':=by
    unfold kiB
    simp only[sT,Nat.reduceLT,Nat.reduceEqDiff,reduceIte,AL,AK,t8,t7,c1]
    exact⟨_,rfl⟩
   obtain⟨e2,r1⟩:=hrun
   rw[r1]
   exact⟨rfl,.inl ⟨e2,h',rfl,x',by rw[hr,List.drop_of_length_le (by omega)];rfl⟩⟩
 rcases run with ⟨e2,h2,r1,x2,r2⟩|⟨e2,h2,r1,x2,r2⟩
 ·refine⟨h2,?_,x2⟩
  rw[Wc rfl,XD,p1,Xo,r2]
  simp only[BH,Aw,r1,A1,BB]
  unfold kiE
  simp only[sT,Nat.reduceLT,Nat.reduceEqDiff,reduceIte,lV0]
 ·refine⟨h2,?_,x2⟩
  rw[Wc rfl,XD,p1,Xo]
  simp only[BH,Aw,r1,B8,Co,lV0,r2]
theorem OL{g:Nat}{caps:List Value}{P:Kt→Bool}(W:h.Wf)(K:h.KS S v ks)(hl:ks.length≤100000)(hP:∀ h',h.Ext h'→∀ k∈ks,∃ h'',call AD m g (ktV k::caps) h'=.ok (.bool (P k)) h''∧h'.Ext h''):
  ∃ h',call AD (m+2) 61 [v,.func (.func g) ⟨[]⟩ ⟨caps⟩] h=.ok (.bool (ks.any P)) h'∧h.Ext h':=by
 obtain⟨h2,k2,x2⟩:=OM W K hl hP
 have c1:iGe (E6 P 0 ks) 0=ks.any P:=by
  rcases OA P ks 0 with ⟨h1,h2⟩|⟨h1,j,k,_,_,h2⟩
  ·rw[h1,h2];exact E3 (by omega)
  ·rw[h1,h2];exact Gw (by omega)
 refine⟨h2,?_,x2⟩
 rw[ib rfl]
 unfold d61
 simp only[iN,Nat.reduceAdd,sT,Nat.reduceLT,Nat.reduceEqDiff,reduceIte,cA0,k2,AL,AK,c1,lV0]
theorem G5(W:h.Wf){k:Kt}{g:O}(hg:g e=ktV k):DD g F e h=.ok (pt h.next) (h.pushRow 0 (AU k)):=by rw[Fe,hg,FR W];rfl
theorem Bn{r:Nat}{k:Kt}(R:h.Row r 0 (AU k)):load1 ⟨r,0,none⟩ h=.ok (.int .i64 k.a) h∧load1 ⟨r,1,none⟩ h=.ok (.int .i64 k.b) h∧load1 ⟨r,2,none⟩ h=.ok (.int .i64 k.c) h∧load1 ⟨r,3,none⟩ h=.ok (.int .u8 (k.s:Int)) h∧load1 ⟨r,4,none⟩ h=.ok k.u h∧load1 ⟨r,5,none⟩ h=.ok (.int .i64 (k.p:Int)) h∧loadN 6 ⟨r,0,none⟩ h=.ok (ktV k) h∧loadN 5 ⟨r,0,none⟩ h=.ok (B7 k.a k.b k.c k.s k.u) h:=
 ⟨R.load1 (off:=0) (by show 0<6;omega),R.load1 (off:=1) (by show 1<6;omega),R.load1 (off:=2) (by show 2<6;omega),R.load1 (off:=3) (by show 3<6;omega),R.load1 (off:=4) (by show 4<6;omega),R.load1 (off:=5) (by show 5<6;omega),R.loadN (off:=0) (n:=6) (by show 0+6≤6;omega),R.loadN (off:=0) (n:=5) (by show 0+5≤6;omega)⟩
def Bg(a b c:Int)(k:Kt):Bool:=decide (k.a=a) && decide (k.b=b) && decide (k.c=c)
def FO(a b:Int)(k:Kt):Bool:=decide (k.a=a) && decide (k.b=b) && decide (k.s=2)
theorem Ct{r:Nat}{w:Value}(R:h.Row r 0 [w]):load1 ⟨r,0,none⟩ h=.ok w h:=R.load1 (off:=0) (by show 0<1;omega)
theorem jn(W:h.Wf){r1 r2 r3:Nat}{a b c:Int}(R1:h.Row r1 0 [.int .i64 a])(R2:h.Row r2 0 [.int .i64 b])(R3:h.Row r3 0 [.int .i64 c])(k:Kt):
  ∃ h',call AD (m+1) 70 [ktV k,pt r1,pt r2,pt r3] h=.ok (.bool (Bg a b c k)) h'∧h.Ext h':=by
 have bx:=fun (F:CallF) (e:Env) (he:AB 0 e=ktV k)=>G5 (F:=F) W he
 have x1:=(Hp.Ext.refl W).pushRow 0 (AU k)
 have R:=Hp.Row.new W 0 (AU k)
 generalize h.pushRow 0 (AU k)=h1 at bx x1 R
 obtain⟨l0,l1,l2,l3,_,l5,_⟩:=Bn R
 have m1:=Ct (R1.ext W x1)
 have m2:=Ct (R2.ext W x1)
 have m3:=Ct (R3.ext W x1)
 refine⟨h1,?_,x1⟩
 unfold Bg
 rw[ik rfl]
 unfold d70
 by_cases h1:k.a=a
 ·have c1:iEq k.a a=true:=CN h1
  by_cases h2:k.b=b
  ·have c2:iEq k.b b=true:=CN h2
   have c3:iEq k.c c=decide (k.c=c):=by rw[Dp];by_cases h3:k.c=c<;>simp[h3]
   simp only[iN,Nat.reduceAdd,sT,Nat.reduceLT,Nat.reduceEqDiff,reduceIte,gD,bx,AJ,AN,Nat.zero_add,AM,AP,l0,l1,l2,m1,m2,m3,AL,AK,c1,c2,c3,lV0]
   rw[decide_eq_true h1,decide_eq_true h2];rfl
  ·have c2:iEq k.b b=false:=BW h2
   simp only[iN,Nat.reduceAdd,sT,Nat.reduceLT,Nat.reduceEqDiff,reduceIte,gD,bx,AJ,AN,Nat.zero_add,AM,AP,l0,l1,l2,m1,m2,m3,AL,AK,c1,c2,lV0]
   rw[decide_eq_true h1,decide_eq_false h2];rfl
 ·have c1:iEq k.a a=false:=BW h1
  simp only[iN,Nat.reduceAdd,sT,Nat.reduceLT,Nat.reduceEqDiff,reduceIte,gD,bx,AJ,AN,Nat.zero_add,AM,AP,l0,l1,l2,m1,m2,m3,AL,AK,c1,lV0]
  rw[decide_eq_false h1];rfl
theorem jq(W:h.Wf){r1 r2:Nat}{a b:Int}(R1:h.Row r1 0 [.int .i64 a])(R2:h.Row r2 0 [.int .i64 b])(k:Kt):
  ∃ h',call AD (m+1) 92 [ktV k,pt r1,pt r2] h=.ok (.bool (FO a b k)) h'∧h.Ext h':=by
 have bx:=fun (F:CallF) (e:Env) (he:AB 0 e=ktV k)=>G5 (F:=F) W he
 have x1:=(Hp.Ext.refl W).pushRow 0 (AU k)
 have R:=Hp.Row.new W 0 (AU k)
 generalize h.pushRow 0 (AU k)=h1 at bx x1 R
 obtain⟨l0,l1,l2,l3,_,l5,_⟩:=Bn R
 have m1:=Ct (R1.ext W x1)
 have m2:=Ct (R2.ext W x1)
 refine⟨h1,?_,x1⟩
 unfold FO
 rw[jF rfl]
 unfold d92
 by_cases h1:k.a=a
 ·have c1:iEq k.a a=true:=CN h1
  by_cases h2:k.b=b
  ·have c2:iEq k.b b=true:=CN h2
   have c3:iEq (k.s:Int) 2=decide (k.s=2):=by
    by_cases h3:k.s=2
    ·rw[decide_eq_true h3];exact CN (by omega)
    ·rw[decide_eq_false h3];exact BW (by omega)
   simp only[iN,Nat.reduceAdd,sT,Nat.reduceLT,Nat.reduceEqDiff,reduceIte,gD,bx,AJ,AN,Nat.zero_add,AM,AP,l0,l1,l3,m1,m2,AL,AK,c1,c2,c3,lV0]
   rw[decide_eq_true h1,decide_eq_true h2];rfl
  ·have c2:iEq k.b b=false:=BW h2
   simp only[iN,Nat.reduceAdd,sT,Nat.reduceLT,Nat.reduceEqDiff,reduceIte,gD,bx,AJ,AN,Nat.zero_add,AM,AP,l0,l1,l3,m1,m2,AL,AK,c1,c2,lV0]
   rw[decide_eq_true h1,decide_eq_false h2];rfl
 ·have c1:iEq k.a a=false:=BW h1
  simp only[iN,Nat.reduceAdd,sT,Nat.reduceLT,Nat.reduceEqDiff,reduceIte,gD,bx,AJ,AN,Nat.zero_add,AM,AP,l0,l1,l3,m1,m2,AL,AK,c1,lV0]
  rw[decide_eq_false h1];rfl
theorem HY(W:h.Wf){z:Int}{g:O}(hg:g e=.int .i64 z):DD g F e h=.ok (pt h.next) (h.pushRow 0 [.int .i64 z]):=by rw[Fe,hg,FR W];rfl
theorem FY(W:h.Wf)(R:h.Row A.bs 0 (slL A.bd A.tb lv fv bad ov))(K:h.KS S lv ks)(hl:ks.length≤100000)(a b c:Int):
  ∃ h',call AD (m+3) 41 [pt A.bs,.int .i64 a,.int .i64 b,.int .i64 c] h=.ok (.int .i64 (E6 (Bg a b c) 0 ks)) h'∧h.Ext h':=by
 have b1:=fun (F:CallF) (e:Env) (he:AB 1 e=.int .i64 a)=>HY (F:=F) W he
 have x1:=(Hp.Ext.refl W).pushRow 0 [.int .i64 a]
 have R1:=Hp.Row.new W 0 [.int .i64 a]
 generalize h.pushRow 0 [.int .i64 a]=h1 at b1 x1 R1
 have b2:=fun (F:CallF) (e:Env) (he:AB 2 e=.int .i64 b)=>HY (F:=F) x1.wf he
 have y2:=(Hp.Ext.refl x1.wf).pushRow 0 [.int .i64 b]
 have R2:=Hp.Row.new x1.wf 0 [.int .i64 b]
 generalize h1.pushRow 0 [.int .i64 b]=h2 at b2 y2 R2
 have b3:=fun (F:CallF) (e:Env) (he:AB 3 e=.int .i64 c)=>HY (F:=F) y2.wf he
 have y3:=(Hp.Ext.refl y2.wf).pushRow 0 [.int .i64 c]
 have R3:=Hp.Row.new y2.wf 0 [.int .i64 c]
 generalize h2.pushRow 0 [.int .i64 c]=h3 at b3 y3 R3
 have x3:=(x1.trans y2).trans y3
 obtain⟨_,_,_,l3,_⟩:=A5 (R.ext W x3)
 obtain⟨h4,k4,x4⟩:=OM (m:=m+1) (g:=70) (caps:=[pt h.next,pt h1.next,pt h2.next]) (P:=Bg a b c) x3.wf (K.ext W x3) hl fun h' x' k _=>jn x'.wf ((R1.ext x1.wf (y2.trans y3)).ext x3.wf x') ((R2.ext y2.wf y3).ext x3.wf x') (R3.ext x3.wf x') k
 refine⟨h4,?_,x3.trans x4⟩
 rw[iM rfl]
 unfold d41
 simp only[iN,Nat.reduceAdd,sT,Nat.reduceLT,Nat.reduceEqDiff,reduceIte,b1,b2,b3,Au,Aj,AJ,AN,Nat.zero_add,AM,AP,l3,Dw,AY,A3,Bb,k4,lV0]
theorem X2(W:h.Wf)(R:h.Row A.bs 0 (slL A.bd A.tb lv fv bad ov))(K:h.KS S lv ks)(hl:ks.length≤100000)(a b:Int):
  ∃ h',call AD (m+3) 64 [pt A.bs,.int .i64 a,.int .i64 b] h=.ok (.int .i64 (E6 (FO a b) 0 ks)) h'∧h.Ext h':=by
 have b1:=fun (F:CallF) (e:Env) (he:AB 1 e=.int .i64 a)=>HY (F:=F) W he
 have x1:=(Hp.Ext.refl W).pushRow 0 [.int .i64 a]
 have R1:=Hp.Row.new W 0 [.int .i64 a]
 generalize h.pushRow 0 [.int .i64 a]=h1 at b1 x1 R1
 have b2:=fun (F:CallF) (e:Env) (he:AB 2 e=.int .i64 b)=>HY (F:=F) x1.wf he
 have y2:=(Hp.Ext.refl x1.wf).pushRow 0 [.int .i64 b]
 have R2:=Hp.Row.new x1.wf 0 [.int .i64 b]
 generalize h1.pushRow 0 [.int .i64 b]=h2 at b2 y2 R2
 have x2:=x1.trans y2
 obtain⟨_,_,_,l3,_⟩:=A5 (R.ext W x2)
 obtain⟨h4,k4,x4⟩:=OM (m:=m+1) (g:=92) (caps:=[pt h.next,pt h1.next]) (P:=FO a b) x2.wf (K.ext W x2) hl fun h' x' k _=>jq x'.wf ((R1.ext x1.wf y2).ext x2.wf x') (R2.ext x2.wf x') k
 refine⟨h4,?_,x2.trans x4⟩
 rw[ig rfl]
 unfold d64
 simp only[iN,Nat.reduceAdd,sT,Nat.reduceLT,Nat.reduceEqDiff,reduceIte,b1,b2,Au,Aj,AJ,AN,Nat.zero_add,AM,AP,l3,Dw,AY,A3,Bb,k4,lV0]
def Bx(a b c:Int)(ks:List Kt):Bool:=match ks.find? (FO a b)with
 |some k=>decide (c≤k.c)
 |none=>false
theorem C9(P:Kt→Bool):∀ (l:List Kt) (i:Nat),(l.find? P=none∧E6 P i l= -1)∨∃ j k,l.find? P=some k∧l[j]? =some k∧E6 P i l=((i+j:Nat):Int)
 |[],i=>.inl ⟨rfl,rfl⟩
 |k::l,i=>by
  unfold E6
  by_cases h:P k=true
  ·rw[if_pos h]
   exact .inr ⟨0,k,by rw[List.find?_cons_of_pos h],rfl,rfl⟩
  ·rw[if_neg h]
   rcases C9 P l (i+1)with ⟨h1,h2⟩|⟨j,k',h1,h2,h4⟩
   ·exact .inl ⟨by rw[List.find?_cons_of_neg h];exact h1,h2⟩
   ·exact .inr ⟨j+1,k',by rw[List.find?_cons_of_neg h];exact h1,by rw[List.getElem?_cons_succ];exact h2,by rw[h4];congr 1;omega⟩
theorem GB(W:h.Wf)(R:h.Row A.bs 0 (slL A.bd A.tb lv fv bad ov))(K:h.KS S lv ks)(hl:ks.length≤100000)(a b c:Int):
  ∃ h',call AD (m+4) 43 [pt A.bs,.int .i64 a,.int .i64 b,.int .i64 c] h=.ok (.bool (Bx a b c ks)) h'∧h.Ext h':=by
 obtain⟨h1,k1,x1⟩:=X2 (m:=m) W R K hl a b
 refine⟨h1,?_,x1⟩
 unfold Bx
 rw[iO rfl]
 unfold d43
 rcases C9 (FO a b) ks 0 with ⟨e1,e2⟩|⟨j,k,e1,e2,e3⟩
 ·rw[e2]at k1
  have c1:iGe (-1) 0=false:=E3 (by omega)
  simp only[iN,Nat.reduceAdd,sT,Nat.reduceLT,Nat.reduceEqDiff,reduceIte,gD,cA0,k1,AL,AK,c1,lV0,e1]
 ·rw[e3,Nat.zero_add]at k1
  have c1:iGe (j:Int) 0=true:=Gw (by omega)
  obtain⟨b',_,ix,_,ld⟩:=(K.ext W x1).at e2
  have l2:=ld 2 (.int .i64 k.c) rfl
  obtain⟨_,_,_,l3,_⟩:=A5 (R.ext W x1)
  have c2:iGe k.c c=decide (c≤k.c):=N9 _ _
  simp only[iN,Nat.reduceAdd,sT,Nat.reduceLT,Nat.reduceEqDiff,reduceIte,gD,cA0,k1,AL,AK,c1,Au,Aj,AJ,AN,Nat.zero_add,Nat.add_zero,AM,AP,l3,Az,ix,l2,c2,lV0,e1]
end
end
noncomputable section
open Go
set_option maxRecDepth 100000
def Cy(a b:Int):Int:=if a<b then -1 else if b<a then 1 else 0
def orZ:List Int→Int
 |[]=>0
 |z::l=>if z=0 then orZ l else z
def HD(x y:Kt):Int:=orZ [Cy x.a y.a,Cy x.b y.b,Cy x.c y.c,Cy x.p y.p]
theorem Do{e:Env}{h:Hp}:EG [] e h=.ok noRes h:=rfl
section
variable {F:CallF}{e:Env}{h h':Hp}{S:Nat→Prop}{m:Nat}{ks:List Kt}{v:Value}
theorem jQ{a b:Int}:call AD (m+2) 80 [.int .i64 a,.int .i64 b] h=.ok (.int .i64 (Cy a b)) h:=by
 have n1:∀ z:Int,call AD (m+1) 107 [.int .i64 z] h=.ok (.bool false) h:=fun z=>by
  have c1:iNe z z=false:=Cm rfl
  rw[St rfl]
  unfold Ww
  simp only[iN,Nat.reduceAdd,sT,Nat.reduceLT,Nat.reduceEqDiff,reduceIte,AL,AK,c1,lV0]
 unfold Cy
 rw[iz rfl]
 unfold d80
 by_cases h1:a<b
 ·have c1:iLt a b=true:=Hw h1
  rw[if_pos h1]
  simp only[iN,Nat.reduceAdd,sT,Nat.reduceLT,Nat.reduceEqDiff,reduceIte,cA0,n1,AL,AK,c1,lV0]
 ·have c1:iLt a b=false:=E5 h1
  rw[if_neg h1]
  by_cases h2:b<a
  ·have c2:iGt a b=true:=E4 h2
   rw[if_pos h2]
   simp only[iN,Nat.reduceAdd,sT,Nat.reduceLT,Nat.reduceEqDiff,reduceIte,cA0,n1,AL,AK,c1,c2,lV0]
  ·have c2:iGt a b=false:=Ee h2
   rw[if_neg h2]
   simp only[iN,Nat.reduceAdd,sT,Nat.reduceLT,Nat.reduceEqDiff,reduceIte,cA0,n1,AL,AK,c1,c2,lV0]
theorem Yc:orS=BG (Ac 0 (Ax orB)) orE:=rfl
theorem XF:d79=aW:=rfl
theorem oQ{zs:List Int}(V:h.Vals v (ints .i64 zs))(hl:zs.length≤1000):call AD (m+1) 79 [v] h=.ok (.int .i64 (orZ zs)) h:=by
 have hil:(ints .i64 zs).length=zs.length:=List.length_map ..
 have ln:=V.len
 rw[hil]at ln
 have pre:∃ e1,aW (call AD m) (AQ e0 0 [v]) h=orS (call AD m) e1 h∧AB 3 e1=.int .i64 0∧AB 6 e1=v∧AB 7 e1=.int .i64 (zs.length:Int)∧AB 8 e1=.int .i64 ((0:Nat):Int):=by
  unfold aW
  simp only[iN,Nat.reduceAdd,sT,Nat.reduceLT,Nat.reduceEqDiff,reduceIte,Ae,ln]
  exact⟨_,rfl,by simp[AG]⟩
 obtain⟨e1,p1,s3,s6,s7,s8⟩:=pre
 have run:(∃ e',Ax orB (call AD m) e1 h=.exit 0 e' h∧orZ zs=0∧AB 3 e'=.int .i64 0)∨(∃ e',Ax orB (call AD m) e1 h=.ret e' h∧AB 2 e'=.int .i64 (orZ zs)):=by
  refine BZ (I:=fun i e' h'=>h'=h∧AB 3 e'=.int .i64 0∧AB 6 e'=v∧AB 7 e'=.int .i64 (zs.length:Int)∧AB 8 e'=.int .i64 (i:Int)∧i≤zs.length∧orZ zs=orZ (zs.drop i))
   (Q:=fun x=>(∃ e',x=.exit 0 e' h∧orZ zs=0∧AB 3 e'=.int .i64 0)∨(∃ e',x=.ret e' h∧AB 2 e'=.int .i64 (orZ zs))) zs.length (by omega) (fun i e' h' ⟨hh,t3,t6,t7,t8,hi,hr⟩=>?_) ⟨rfl,s3,s6,s7,s8,Nat.zero_le _,by rw[List.drop_zero]⟩
  subst hh
  by_cases hlt:i<zs.length
  ·obtain⟨a,g1,g2⟩:=V.at (i:=i) (by rw[hil];exact hlt)
   obtain⟨z,hz⟩:∃ z,zs[i]? =some z:=⟨_,List.getElem?_eq_getElem hlt⟩
   have g2:G7 (.pointer (some a)) h'=.ok (.int .i64 z) h':=by
    rw[g2]
    have:(ints .i64 zs).getD i noRes=.int .i64 z:=by
     rw[List.getD_eq_getElem?_getD]
     simp[ints,hz]
    rw[this]
   have hd:zs.drop i=z::zs.drop (i+1):=by
    rw[List.drop_eq_getElem_cons hlt]
    rw[List.getElem?_eq_getElem hlt]at hz
    rw[Option.some.inj hz]
   rw[hd]at hr
   have hr:orZ zs=if z=0 then orZ (zs.drop (i+1))else z:=hr
   have c1:=E8 hlt
   by_cases h0:z=0
   ·left
    rw[if_pos h0]at hr
    have c2:iNe z 0=false:=Cm h0
    have a3:=CQ (i:=i) (h:=h') (by omega)
    have hrun:∃ e2,orB (call AD m) e' h'=.norm e2 h'∧AB 3 e2=.int .i64 0∧AB 6 e2=v∧AB 7 e2=.int .i64 (zs.length:Int)∧AB 8 e2=.int .i64 ((i+1:Nat):Int):=by
     unfold orB
     simp only[sT,Nat.reduceLT,Nat.reduceEqDiff,reduceIte,AL,AK,t8,t7,c1,Az,t6,g1,AM,g2,t3,c2,BK,a3]
     exact⟨_,rfl,by simp[AG,t3,t6,t7]⟩
    obtain⟨e2,r1,r2,r3,r4,r5⟩:=hrun
    exact⟨hlt,e2,h',r1,rfl,r2,r3,r4,r5,by omega,hr⟩
   ·right
    rw[if_neg h0]at hr
    have c2:iNe z 0=true:=NK h0
    have hrun:∃ e2,orB (call AD m) e' h'=.ret e2 h'∧AB 2 e2=.int .i64 z:=by
     unfold orB
     simp only[sT,Nat.reduceLT,Nat.reduceEqDiff,reduceIte,AL,AK,t8,t7,c1,Az,t6,g1,AM,g2,t3,c2]
     exact⟨_,rfl,by simp[AG]⟩
    obtain⟨e2,r1,r2⟩:=hrun
    rw[r1]
    exact⟨rfl,.inr ⟨e2,rfl,by rw[r2,hr]⟩⟩
  ·right
   have c1:=DI (show zs.length≤i by omega)
   have hrun:∃ e2,orB (call AD m) e' h'=.exit 0 e2 h'∧AB 3 e2=.int .i64 0:=by
    unfold orB
    simp only[sT,Nat.reduceLT,Nat.reduceEqDiff,reduceIte,AL,AK,t8,t7,c1]
    exact⟨_,rfl,by simp[AG,t3]⟩
   obtain⟨e2,r1,r2⟩:=hrun
   rw[r1]
   exact⟨rfl,.inl ⟨e2,rfl,by rw[hr,List.drop_of_length_le (by omega)];rfl,r2⟩⟩
 rcases run with ⟨e2,r1,r2,r3⟩|⟨e2,r1,r2⟩
 ·rw[We rfl,XF,p1,Yc,r2]
  simp only[BH,Aw,r1,A1,BB]
  unfold orE
  simp only[sT,Nat.reduceLT,Nat.reduceEqDiff,reduceIte,r3,lV0]
 ·rw[We rfl,XF,p1,Yc]
  simp only[BH,Aw,r1,B8,Co,lV0,r2]
theorem lg:BJ ty3.zero 4=[.int .i64 0,.int .i64 0,.int .i64 0,.int .i64 0]:=by kernel_rfl
theorem Uw(W:h.Wf){g1 g2 g3 g4:O}{a b c d:Int}(h1:g1 e=.int .i64 a)(h2:g2 e=.int .i64 b)(h3:g3 e=.int .i64 c)(h4:g4 e=.int .i64 d):
  Ah 4 (BJ ty3.zero 4) [(0,1,g1),(1,1,g2),(2,1,g3),(3,1,g4)] F e h=.ok (.slice (some ⟨h.next,0,none⟩) 4 4) (h.pushRow 0 (ints .i64 [a,b,c,d])):=by
 rw[Ca,lg,A6 (hk:=by rw[h1];rfl),h1,A6 (hk:=by rw[h2];rfl),h2,A6 (hk:=by rw[h3];rfl),h3,A6 (hk:=by rw[h4];rfl),h4]
 simp only[DO,List.length_singleton,List.length_cons,List.length_nil,over,List.take,List.drop,List.append_eq,List.nil_append,List.cons_append,Nat.reduceAdd,Nat.reduceLeDiff,if_true,CL,reduceIte]
 rw[DA W];rfl
theorem Yd(W:h.Wf)(x y:Kt):∃ h',call AD (m+3) 51 [ktV x,ktV y] h=.ok (.int .i64 (HD x y)) h'∧h.Ext h':=by
 have b1:=fun (F:CallF) (e:Env) (he:AB 0 e=ktV x)=>G5 (F:=F) W he
 have x1:=(Hp.Ext.refl W).pushRow 0 (AU x)
 have R1:=Hp.Row.new W 0 (AU x)
 have n1:(h.pushRow 0 (AU x)).next=h.next+1:=rfl
 generalize h.pushRow 0 (AU x)=h1 at b1 x1 R1 n1
 have b2:=fun (F:CallF) (e:Env) (he:AB 1 e=ktV y)=>G5 (F:=F) x1.wf he
 have y2:=(Hp.Ext.refl x1.wf).pushRow 0 (AU y)
 have R2:=Hp.Row.new x1.wf 0 (AU y)
 have n2:(h1.pushRow 0 (AU y)).next=h1.next+1:=rfl
 generalize h1.pushRow 0 (AU y)=h2 at b2 y2 R2 n2
 have x2:=(x1.trans y2).marked
 have R1m:h2.marked.Row h.next 0 (AU x):=(R1.ext x1.wf y2).same rfl
 have R2m:h2.marked.Row h1.next 0 (AU y):=R2.same rfl
 have mk:h2.marked.mark=h2.next:=rfl
 have nx:h2.marked.next=h2.next:=rfl
 generalize hg0:h2.marked=g0 at x2 R1m R2m mk nx
 have wk:∀ (g:Hp) (W:g.Wf) (hm:g.mark≤g.next) (mm:Qm) (i j:Nat) (a b:Int) (e:Env),AB i e=.int .i64 a→AB j e=.int .i64 b→Am mm (AS 80 [AB i,AB j]) (call AD (m+2)) e g=.ok (.int .i64 (Cy a b)) (g.back g.quiet):=fun g W hm mm i j a b e e1 e2=>by
  refine HG W ?_ hm
  rw[Bb,AY,AY,A3,e1,e2];exact jQ
 have bk:∀ g:Hp,g.Wf→g.Ext (g.back g.quiet)∧(g.back g.quiet).next=g.next∧(g.back g.quiet).mark=g.mark:=fun g W=>⟨Hp.Ext.back2 (.refl W) (Hp.Ext.refl W).quiet,rfl,rfl⟩
 have ol:∀ (g:Hp) (hm:g.mark=h2.next) (r off:Nat) (kk:C) (F:CallF) (e:Env),r<h2.next→J1 (.pointer (some ⟨r,off,none⟩)) kk F e g=kk F e g:=fun g hm r off kk F e hr=>Dy (by rw[hm];exact hr)
 obtain⟨l0,_⟩:=Bn R1m
 obtain⟨k0,_⟩:=Bn R2m
 have w1:=wk g0 x2.wf (by omega) .weak 7 10 x.a y.a
 obtain⟨z1,v1,u1⟩:=bk g0 x2.wf
 generalize g0.back g0.quiet=g1 at w1 z1 v1 u1
 have o1:=ol g1 (u1.trans mk)
 obtain⟨_,l1,_⟩:=Bn (R1m.ext x2.wf z1)
 obtain⟨_,k1,_⟩:=Bn (R2m.ext x2.wf z1)
 have w2:=wk g1 z1.wf (by omega) .weak 14 17 x.b y.b
 obtain⟨z2',v2,u2⟩:=bk g1 z1.wf
 generalize g1.back g1.quiet=g2 at w2 z2' v2 u2
 have z2:=z1.trans z2'
 have o2:=ol g2 (by omega)
 obtain⟨_,_,l2,_⟩:=Bn (R1m.ext x2.wf z2)
 obtain⟨_,_,k2,_⟩:=Bn (R2m.ext x2.wf z2)
 have w3:=wk g2 z2.wf (by omega) .weak 21 24 x.c y.c
 obtain⟨z3',v3,u3⟩:=bk g2 z2.wf
 generalize g2.back g2.quiet=g3 at w3 z3' v3 u3
 have z3:=z2.trans z3'
 have o3:=ol g3 (by omega)
 obtain⟨_,_,_,_,_,l5,_⟩:=Bn (R1m.ext x2.wf z3)
 obtain⟨_,_,_,_,_,k5,_⟩:=Bn (R2m.ext x2.wf z3)
 have w4:=wk g3 z3.wf (by omega) .free 27 29 x.p y.p
 obtain⟨z4',v4,u4⟩:=bk g3 z3.wf
 generalize g3.back g3.quiet=g4 at w4 z4' v4 u4
 have z4:=z3.trans z4'
 have q5:∀ (F:CallF) (e:Env),AB 11 e=.int .i64 (Cy x.a y.a)→AB 18 e=.int .i64 (Cy x.b y.b)→AB 25 e=.int .i64 (Cy x.c y.c)→AB 30 e=.int .i64 (Cy x.p y.p)→Am .strong (Ah 4 (BJ ty3.zero 4) [(0,1,AB 11),(1,1,AB 18),(2,1,AB 25),(3,1,AB 30)]) F e g4=.ok (.slice (some ⟨g4.next,0,none⟩) 4 4) (g4.back (g4.quiet.pushRow 0 (ints .i64 [Cy x.a y.a,Cy x.b y.b,Cy x.c y.c,Cy x.p y.p]))):=fun F e e1 e2 e3 e4=>DJ (Uw z4.wf.quiet e1 e2 e3 e4) ((Hp.Ext.refl z4.wf.quiet).pushRow _ _) (by omega)
 have y5:g4.Ext (g4.back (g4.quiet.pushRow 0 (ints .i64 [Cy x.a y.a,Cy x.b y.b,Cy x.c y.c,Cy x.p y.p]))):=.back ((Hp.Ext.refl z4.wf.quiet).pushRow _ _)
 have R5:(g4.back (g4.quiet.pushRow 0 (ints .i64 [Cy x.a y.a,Cy x.b y.b,Cy x.c y.c,Cy x.p y.p]))).Row g4.next 0 (ints .i64 [Cy x.a y.a,Cy x.b y.b,Cy x.c y.c,Cy x.p y.p]):=(Hp.Row.new z4.wf.quiet 0 (ints .i64 [Cy x.a y.a,Cy x.b y.b,Cy x.c y.c,Cy x.p y.p])).same rfl
 generalize g4.back (g4.quiet.pushRow 0 (ints .i64 [Cy x.a y.a,Cy x.b y.b,Cy x.c y.c,Cy x.p y.p]))=g5 at q5 y5 R5
 have z5:=z4.trans y5
 have k6:=oQ (m:=m+1) (h:=g5.quiet) (v:=.slice (some ⟨g4.next,0,none⟩) 4 4) (zs:=[Cy x.a y.a,Cy x.b y.b,Cy x.c y.c,Cy x.p y.p]) (.inr ⟨g4.next,0,4,0,_,rfl,R5.same rfl,Nat.le_refl _,rfl⟩) (by show 4≤1000;omega)
 have q6:∀ e:Env,AB 31 e=.slice (some ⟨g4.next,0,none⟩) 4 4→Am .free (AS 79 [AB 31]) (call AD (m+2)) e g5=.ok (.int .i64 (HD x y)) (g5.back g5.quiet):=fun e e1=>by
  refine BQ ?_
  rw[Bb,AY,A3,e1];exact k6
 refine⟨g5.back g5.quiet,?_,(x2.trans z5).trans (bk g5 z5.wf).1⟩
 rw[iS rfl]
 unfold d51
 have hx1:h.next<h2.next:=by omega
 have hx2:h1.next<h2.next:=by omega
 have o11:=fun off kk F e=>o1 h.next off kk F e hx1
 have o12:=fun off kk F e=>o1 h1.next off kk F e hx2
 have o21:=fun off kk F e=>o2 h.next off kk F e hx1
 have o22:=fun off kk F e=>o2 h1.next off kk F e hx2
 have o31:=fun off kk F e=>o3 h.next off kk F e hx1
 have o32:=fun off kk F e=>o3 h1.next off kk F e hx2
 simp only[iN,Nat.reduceAdd,sT,Nat.reduceLT,Nat.reduceEqDiff,reduceIte,b1,b2,Ay,hg0,AJ,AN,Nat.zero_add,Nat.add_zero,AM,AP,l0,k0,w1,EU,o11,o12,DW,l1,k1,w2,o21,o22,l2,k2,w3,o31,o32,l5,k5,w4,q5,q6,lV0]
theorem U9{body:C}{i:Nat}{e':Env}(hb:body F e h=.exit i e' h'):Ax body F e h=.exit i e' h':=by
 show iter body (8796093022207+1) F e h=_
 unfold iter
 rw[hb]
theorem OK:jsB=U4:=rfl
theorem XH:d97=aa:=rfl
theorem nz(W:h.Wf)(K:h.KS S v ks)(hl:ks.length≤1000)(hs:∀ (i:Nat) (x y:Kt),ks[i]? =some x→ks[i+1]? =some y→0≤HD y x):
  ∃ h',call AD (m+4) 97 [v,.int .i64 0,.int .i64 (ks.length:Int),.func (.func 51) ⟨[]⟩ ⟨[]⟩] h=.ok noRes h'∧h.Ext h':=by
 have run:∀ e1:Env,AB 0 e1=v→AB 1 e1=.int .i64 0→AB 2 e1=.int .i64 (ks.length:Int)→AB 3 e1=.func (.func 51) ⟨[]⟩ ⟨[]⟩→AB 8 e1=.int .i64 ((1:Nat):Int)→∃ e' h',Ax jsB (call AD (m+3)) e1 h=.exit 0 e' h'∧h.Ext h':=fun e1 s0 s1 s2 s3 s8=>by
  refine BZ (I:=fun i e' h'=>h.Ext h'∧AB 0 e'=v∧AB 1 e'=.int .i64 0∧AB 2 e'=.int .i64 (ks.length:Int)∧AB 3 e'=.func (.func 51) ⟨[]⟩ ⟨[]⟩∧AB 8 e'=.int .i64 ((i+1:Nat):Int)) (Q:=fun x=>∃ e' h',x=.exit 0 e' h'∧h.Ext h') ks.length (by omega) (fun i e' h' ⟨x',t0,t1,t2,t3,t8⟩=>?_) ⟨.refl W,s0,s1,s2,s3,s8⟩
  by_cases hlt:i+1<ks.length
  ·left
   have c1:iLt ((i+1:Nat):Int) (ks.length:Int)=true:=E8 hlt
   have c2:iGt ((i+1:Nat):Int) 0=true:=E4 (by omega)
   obtain⟨y,hy⟩:∃ y,ks[i+1]? =some y:=⟨_,List.getElem?_eq_getElem hlt⟩
   obtain⟨x,hx⟩:∃ x,ks[i]? =some x:=⟨_,List.getElem?_eq_getElem (by omega)⟩
   have x1:=x'.marked
   have K1:=K.ext W x1
   obtain⟨b,_,ix,ld,_⟩:=K1.at hy
   obtain⟨b',_,ix',ld',_⟩:=K1.at hx
   have a1:Fl Int.sub .i64 (.int .i64 ((i+1:Nat):Int)) (.int .i64 1) h'.marked=.ok (.int .i64 (i:Int)) h'.marked:=by
    have:Int.sub ((i+1:Nat):Int) 1=(i:Int):=by
     show((i+1:Nat):Int) - 1=_
     omega
    rw[CT,this,Ba (by omega)]
   obtain⟨h2,k2,x2⟩:=Yd (m:=m) x1.quiet.wf y x
   have q2:∀ e:Env,AB 22 e=.func (.func 51) ⟨[]⟩ ⟨[]⟩→AB 26 e=ktV y→AB 31 e=ktV x→Am .free (EM (AB 22) [AB 26,AB 31]) (call AD (m+3)) e h'.marked=.ok (.int .i64 (HD y x)) (h'.marked.back h2):=fun e e1 e2 e3=>by
    refine BQ ?_
    rw[Cj,AY,AY,A3,e1,e2,e3];exact k2
   have y2:h'.marked.Ext (h'.marked.back h2):=.back x2
   generalize h'.marked.back h2=h3 at q2 y2
   have x3:=x1.trans y2
   have c3:iLt (HD y x) 0=false:=E5 (by have:=hs i x y hx hy;omega)
   have a3:FK .i64 (.int .i64 ((i+1:Nat):Int)) (.int .i64 1) h3=.ok (.int .i64 ((i+1+1:Nat):Int)) h3:=CQ (by omega)
   have inn:∀ e:Env,AB 0 e=v→AB 1 e=.int .i64 0→AB 3 e=.func (.func 51) ⟨[]⟩ ⟨[]⟩→AB 9 e=.int .i64 ((i+1:Nat):Int)→∃ e2,jnB (call AD (m+3)) e h'=.exit 2 e2 h3∧∀ j,j=0∨j=1∨j=2∨j=3∨j=8→AB j e2=AB j e:=fun e t0 t1 t3 t9=>by
    unfold jnB U3 swB Ar
    simp only[sT,Nat.reduceLT,Nat.reduceEqDiff,reduceIte,gD,Ay,AL,AK,t9,t1,c2,t3,t0,Az,ix,ix',Aq,Ao,ld,ld',Bs,a1,q2,c3]
    refine⟨_,rfl,fun j hj=>?_⟩
    rcases hj with rfl|rfl|rfl|rfl|rfl<;>simp only[AG,Nat.reduceLT,Nat.reduceEqDiff,reduceIte]
   obtain⟨e2,i1,i2⟩:=inn (Env.set 9 (.int .i64 ((i+1:Nat):Int)) (Env.set 14 (.bool true) e')) (by simp[AG,t0]) (by simp[AG,t1]) (by simp[AG,t3]) (by simp[AG])
   have i1:=U9 i1
   have g0:=i2 0 (by omega)
   have g1:=i2 1 (by omega)
   have g2:=i2 2 (by omega)
   have g3:=i2 3 (by omega)
   have g8:=i2 8 (by omega)
   simp only[AG,Nat.reduceLT,Nat.reduceEqDiff,reduceIte,t0]at g0
   simp only[AG,Nat.reduceLT,Nat.reduceEqDiff,reduceIte,t1]at g1
   simp only[AG,Nat.reduceLT,Nat.reduceEqDiff,reduceIte,t2]at g2
   simp only[AG,Nat.reduceLT,Nat.reduceEqDiff,reduceIte,t3]at g3
   simp only[AG,Nat.reduceLT,Nat.reduceEqDiff,reduceIte,t8]at g8
   have hrun:∃ e3,jsB (call AD (m+3)) e' h'=.norm e3 h3∧AB 0 e3=v∧AB 1 e3=.int .i64 0∧AB 2 e3=.int .i64 (ks.length:Int)∧AB 3 e3=.func (.func 51) ⟨[]⟩ ⟨[]⟩∧AB 8 e3=.int .i64 ((i+1+1:Nat):Int):=by
    rw[OK]
    unfold U4
    simp only[sT,Nat.reduceLT,Nat.reduceEqDiff,reduceIte,AL,AK,t8,t2,c1,i1,g8,BK,a3]
    exact⟨_,rfl,by simp[AG,g0,g1,g2,g3]⟩
   obtain⟨e3,r1,r2,r3,r4,r5,r6⟩:=hrun
   exact⟨by omega,e3,h3,r1,x3,r2,r3,r4,r5,r6⟩
  ·right
   have c1:iLt ((i+1:Nat):Int) (ks.length:Int)=false:=DI (by omega)
   have hrun:∃ e3,jsB (call AD (m+3)) e' h'=.exit 0 e3 h':=by
    rw[OK]
    unfold U4
    simp only[sT,Nat.reduceLT,Nat.reduceEqDiff,reduceIte,AL,AK,t8,t2,c1]
    exact⟨_,rfl⟩
   obtain⟨e3,r1⟩:=hrun
   rw[r1]
   exact⟨rfl,e3,h',rfl,x'⟩
 have a1:FK .i64 (.int .i64 0) (.int .i64 1) h=.ok (.int .i64 ((1:Nat):Int)) h:=CQ (i:=0) (by omega)
 obtain⟨e2,h2,r1,x2⟩:=run (Env.set 8 (.int .i64 ((1:Nat):Int)) (Env.set 11 (.int .i64 ((1:Nat):Int)) (AQ e0 0 [v,.int .i64 0,.int .i64 (ks.length:Int),.func (.func 51) ⟨[]⟩ ⟨[]⟩]))) (by simp only[iN,Nat.reduceAdd,AG,Nat.reduceLT,Nat.reduceEqDiff,reduceIte]) (by simp only[iN,Nat.reduceAdd,AG,Nat.reduceLT,Nat.reduceEqDiff,reduceIte]) (by simp only[iN,Nat.reduceAdd,AG,Nat.reduceLT,Nat.reduceEqDiff,reduceIte]) (by simp only[iN,Nat.reduceAdd,AG,Nat.reduceLT,Nat.reduceEqDiff,reduceIte]) (by simp[AG])
 simp only[iN,Nat.reduceAdd]at r1
 refine⟨h2,?_,x2⟩
 rw[Wj rfl,XH]
 unfold aa
 simp only[iN,Nat.reduceAdd,sT,Nat.reduceLT,Nat.reduceEqDiff,reduceIte,BK,a1,r1,EK,Do]
theorem XE:d77=aV:=rfl
theorem Yj:pdB=dG:=rfl
theorem L2{body:C}{e':Env}(hb:body F e h=.ret e' h'):Ax body F e h=.ret e' h':=by
 show iter body (8796093022207+1) F e h=_
 unfold iter
 rw[hb]
theorem WG{x y:O}{n:Nat}{s:ByteArray}(hx:x e=.string s)(hy:y e=.int .u8 (n:Int))(hn:n<s.data.toList.length):∃ b:Nat,II x y F e h=.ok (.int .u8 (b:Int)) h∧b<256:=by
 have e1:II x y F e h=JT (x e) (Cu (y e)) h:=rfl
 have e2:nth s.data.toList n=some (s.data.toList[n]'hn):=by rw[E9,List.getElem?_eq_getElem hn]
 refine⟨(s.data.toList[n]'hn).toNat,?_,UInt8.toNat_lt _⟩
 rw[e1,hx,hy,Cs]
 unfold JT
 simp only[e2]
 exact EO ..
theorem Nw{n:Nat}(hn:n<256):∃ k:Nat,call AD (m+2) 78 [.int .u64 (n:Int)] h=.ok (.int .i64 (k:Int)) h:=by
 have c1:iGe (n:Int) 4294967296=false:=E3 (by omega)
 have c2:iGe (n:Int) 65536=false:=E3 (by omega)
 have c3:iGe (n:Int) 256=false:=E3 (by omega)
 have v1:DR .u8 (.int .u64 (n:Int)) h=.ok (.int .u8 (n:Int)) h:=by rw[Ck,Hn,Nat.mod_eq_of_lt hn]
 have key:∃ k:Nat,call AD (m+1) 106 [.int .u64 (n:Int)] h=.ok (.int .i64 (k:Int)) h:=by
  rw[Zw rfl]
  unfold aD
  simp only[iN,Nat.reduceAdd,sT,Nat.reduceLT,Nat.reduceEqDiff,reduceIte,AL,AK,c1,c2,c3,CJ,v1]
  obtain⟨b,hb,hlt⟩:=WG (F:=call AD m) (h:=h) (e:=Env.set 21 (.int .u8 (n:Int)) (Env.set 14 (.bool false) (Env.set 8 (.bool false) (Env.set 4 (.bool false) (Env.set 2 (.int .i64 0) (Env.set 0 (.int .u64 (n:Int)) e0)))))) (x:=(kV (.string ⟨#[0,1,2,2,3,3,3,3,4,4,4,4,4,4,4,4,5,5,5,5,5,5,5,5,5,5,5,5,5,5,5,5,6,6,6,6,6,6,6,6,6,6,6,6,6,6,6,6,6,6,6,6,6,6,6,6,6,6,6,6,6,6,6,6,7,7,7,7,7,7,7,7,7,7,7,7,7,7,7,7,7,7,7,7,7,7,7,7,7,7,7,7,7,7,7,7,7,7,7,7,7,7,7,7,7,7,7,7,7,7,7,7,7,7,7,7,7,7,7,7,7,7,7,7,7,7,7,7,8,8,8,8,8,8,8,8,8,8,8,8,8,8,8,8,8,8,8,8,8,8,8,8,8,8,8,8,8,8,8,8,8,8,8,8,8,8,8,8,8,8,8,8,8,8,8,8,8,8,8,8,8,8,8,8,8,8,8,8,8,8,8,8,8,8,8,8,8,8,8,8,8,8,8,8,8,8,8,8,8,8,8,8,8,8,8,8,8,8,8,8,8,8,8,8,8,8,8,8,8,8,8,8,8,8,8,8,8,8,8,8,8,8,8,8,8,8,8,8,8,8,8,8,8,8,8,8]⟩))) (y:=AB 21) (n:=n) rfl (by simp[AG]) (by
   refine Nat.lt_of_lt_of_eq hn ?_
   kernel_rfl)
  rw[hb]
  have v2:DR .i64 (.int .u8 (b:Int)) h=.ok (.int .i64 (b:Int)) h:=by rw[Ck,Ba (by omega)]
  have a2:FK .i64 (.int .i64 0) (.int .i64 (b:Int)) h=.ok (.int .i64 (b:Int)) h:=by
   have:=Sm (h:=h) (a:=0) (b:=b) (by omega)
   rw[Nat.zero_add]at this;exact this
  simp only[sT,Nat.reduceLT,Nat.reduceEqDiff,reduceIte,CJ,v2,BK,a2,lV0]
  exact⟨b,rfl⟩
 obtain⟨k,hk⟩:=key
 refine⟨k,?_⟩
 rw[iw rfl]
 unfold d78
 simp only[iN,Nat.reduceAdd,sT,Nat.reduceLT,Nat.reduceEqDiff,reduceIte,cA0,hk,lV0]
theorem dW(W:h.Wf)(K:h.KS S v ks)(hl:ks.length≤12)(hs:∀ (i:Nat) (x y:Kt),ks[i]? =some x→ks[i+1]? =some y→0≤HD y x):
  ∃ h',call AD (m+6) 50 [v,.func (.func 51) ⟨[]⟩ ⟨[]⟩] h=.ok noRes h'∧h.Ext h':=by
 have ln:=K.len h
 obtain⟨h2,k2,x2⟩:=nz (m:=m) W K (by omega) hs
 obtain⟨k,kb⟩:=Nw (m:=m+3) (h:=h) (n:=ks.length) (by omega)
 have cv:DR .u64 (.int .i64 (ks.length:Int)) h=.ok (.int .u64 (ks.length:Int)) h:=by rw[Ck,D7 (by omega)]
 have a1:Fl Int.sub .i64 (.int .i64 (ks.length:Int)) (.int .i64 0) h=.ok (.int .i64 (ks.length:Int)) h:=by
  have:Int.sub (ks.length:Int) 0=(ks.length:Int):=Int.sub_zero _
  rw[CT,this,Ba (by omega)]
 have c1:iLe (ks.length:Int) 12=true:=KF (by omega)
 have pd:call AD (m+5) 77 [v,.int .i64 0,.int .i64 (ks.length:Int),.int .i64 (k:Int),.func (.func 51) ⟨[]⟩ ⟨[]⟩] h=.ok noRes h2:=by
  have hb:∃ e2,pdB (call AD (m+4)) (Env.set 11 (.bool true) (Env.set 10 (.bool true) (AQ e0 0 [v,.int .i64 0,.int .i64 (ks.length:Int),.int .i64 (k:Int),.func (.func 51) ⟨[]⟩ ⟨[]⟩]))) h=.ret e2 h2:=by
   rw[Yj]
   unfold dG
   simp only[iN,Nat.reduceAdd,sT,Nat.reduceLT,Nat.reduceEqDiff,reduceIte,Bs,a1,AL,AK,c1,cA0,k2]
   exact⟨_,rfl⟩
  obtain⟨e2,r1⟩:=hb
  have r1:=L2 r1
  simp only[iN,Nat.reduceAdd]at r1
  rw[Wd rfl,XE]
  unfold aV
  simp only[iN,Nat.reduceAdd,sT,Nat.reduceLT,Nat.reduceEqDiff,reduceIte,r1,BX,Do]
 refine⟨h2,?_,x2⟩
 rw[Wa rfl]
 unfold d50
 simp only[iN,Nat.reduceAdd,sT,Nat.reduceLT,Nat.reduceEqDiff,reduceIte,Ae,ln,CJ,cv,cA0,kb,pd,EK,Do]
end
end
end Go.Proofs.YtedbmmfebjfibaaGreat

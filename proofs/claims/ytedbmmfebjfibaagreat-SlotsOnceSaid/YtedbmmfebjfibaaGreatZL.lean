/-
  Part ZL of what Lawsn stands on: printed by program, names and spaces cut.
-/
import Derived.Test.YtedbmmfebjfibaaGreatZK
set_option linter.unusedVariables false
set_option linter.unusedSimpArgs false
namespace Go.Proofs.YtedbmmfebjfibaaGreat
noncomputable section
open Go
set_option maxRecDepth 100000
structure Fx (S:Nat→Prop)(h h':Hp):Prop where
 next:h.next≤h'.next
 get:∀ i,i<h.next→¬ S i→h'.bl.get i=h.bl.get i
 wf:h'.Wf
 low:∀ L,L≤h.low→L≤h.next→(∀ b,S b→L≤b)→L≤h'.low
theorem WK{h g:Hp}:(h.back g).low=min h.low g.low:=BO _ _
section
variable {S T:Nat→Prop}{h h' h1 h2:Hp}
theorem Fx.refl(W:h.Wf):Fx S h h:=⟨Nat.le_refl _,fun _ _ _=>rfl,W,fun _ h1 _ _=>h1⟩
theorem Fx.of(x:h.Ext h'):Fx S h h':=⟨x.next,fun i hi _=>x.get i hi,x.wf,fun L h1 h2 _=>by have:=x.low;omega⟩
theorem Fx.trans(a:Fx S h h1)(b:Fx S h1 h2):Fx S h h2:=⟨Nat.le_trans a.next b.next,fun i hi hs=>by rw[b.get i (Nat.lt_of_lt_of_le hi a.next) hs,a.get i hi hs],b.wf,fun L h1 h2 h3=>b.low L (a.low L h1 h2 h3) (Nat.le_trans h2 a.next) h3⟩
theorem Fx.mono(a:Fx S h h')(hs:∀ i,S i→T i):Fx T h h':=⟨a.next,fun i hi ht=>a.get i hi fun s=>ht (hs i s),a.wf,fun L h1 h2 h3=>a.low L h1 h2 fun b hb=>h3 b (hs b hb)⟩
theorem dq(W:h.Wf)(hb:h'.bl=h.bl)(hn:h'.next=h.next):h'.Wf:=⟨by rw[hn];exact W.big,by rw[hn,hb];exact W.has,by rw[hn,hb];exact W.fresh⟩
theorem Fx.same(a:Fx S h h1)(hb:h2.bl=h1.bl)(hn:h2.next=h1.next)(hl:min h.low h1.low≤h2.low:=by first|exact Nat.le_of_eq WK.symm|exact Nat.min_le_right _ _):Fx S h h2:=⟨by rw[hn];exact a.next,fun i hi hs=>by rw[hb];exact a.get i hi hs,dq a.wf hb hn,fun L q1 q2 q3=>by have:=a.low L q1 q2 q3;omega⟩
theorem Fx.from(a:Fx S h1 h')(hb:h1.bl=h.bl)(hn:h1.next=h.next)(hl:min h.low h.next≤h1.low:=by first|exact Nat.min_le_left _ _|exact Nat.min_le_right _ _):Fx S h h':=⟨by rw[← hn];exact a.next,fun i hi hs=>by rw[← hb];exact a.get i (by rw[hn];exact hi) hs,a.wf,fun L q1 q2 q3=>a.low L (by omega) (by omega) q3⟩
theorem Fx.row(x:Fx S h h')(W:h.Wf){b el:Nat}{l:List Value}(r:h.Row b el l)(hb:¬ S b):h'.Row b el l:=by
 have:=r.lt W
 obtain⟨c,hc,hl⟩:=r
 exact⟨c,(x.get b this hb).trans hc,hl⟩
theorem Fx.put(W:h.Wf){b:Nat}(hb:b<h.next)(hs:S b)(o:Blk):Fx S h (h.put b o):=⟨Nat.le_refl _,fun i hi hn=>by
 rw[W.put_get hb]
 exact if_neg fun e=>hn (by rw[e];exact hs),W.put hb o,fun L h1 _ h3=>by
 have:=h3 b hs
 have e:(h.put b o).low=min h.low b:=BO _ _
 omega⟩
theorem Fx.wr(W:h.Wf){b el off:Nat}{l vs:List Value}(r:h.Row b el l)(ho:off+vs.length≤l.length)(hs:S b):Fx S h (h.wr b off vs):=by
 obtain⟨c,_,e,_⟩:=r.wr_is ho
 rw[e];exact Fx.put W (r.lt W) hs _
theorem lO{b el off bc:Nat}{l vs:List Value}{es:List Ent}{k:Nat}(W:h.Wf)(r:h.Row b el l)(ho:off+vs.length≤l.length)(m:h.bl.get bc=.map es k):(h.wr b off vs).bl.get bc=.map es k:=by
 obtain⟨c,_,e,_⟩:=r.wr_is ho
 rw[e,W.put_get (r.lt W),if_neg]
 ·exact m
 ·rintro rfl
  obtain⟨c,hc,_⟩:=r
  rw[m]at hc;cases hc
end
def Hp.VS(h:Hp)(S:Nat→Prop)(v:Value)(xs:List Value):Prop:=(v=nilS∧xs=[])∨∃ b off c el L,v=.slice (some ⟨b,off,none⟩) xs.length c∧xs.length≤c∧h.Row b el L∧off+xs.length≤L.length∧(L.drop off).take xs.length=xs∧S b
section
variable {h h':Hp}{S S':Nat→Prop}{v:Value}{xs:List Value}
theorem Hp.VS.vals(o:h.VS S v xs):h.Vals v xs:=by
 rcases o with h1|⟨b,off,c,el,L,h1,h2,h3,h4,h5,_⟩
 ·exact .inl h1
 ·exact .inr ⟨b,off,c,el,L,h1,h3,h4,h5⟩
theorem Hp.VS.keep(o:h.VS S v xs)(hk:∀ b el L,S b→h.Row b el L→h'.Row b el L):h'.VS S v xs:=by
 rcases o with h1|⟨b,off,c,el,L,h1,h2,h3,h4,h5,h6⟩
 ·exact .inl h1
 ·exact .inr ⟨b,off,c,el,L,h1,h2,hk _ _ _ h6 h3,h4,h5,h6⟩
theorem Hp.VS.same(o:h.VS S v xs)(hb:h'.bl=h.bl):h'.VS S v xs:=o.keep fun _ _ _ _ r=>r.same hb
theorem Hp.VS.mono(o:h.VS S v xs)(hs:∀ b,S b→S' b):h.VS S' v xs:=by
 rcases o with h1|⟨b,off,c,el,L,h1,h2,h3,h4,h5,h6⟩
 ·exact .inl h1
 ·exact .inr ⟨b,off,c,el,L,h1,h2,h3,h4,h5,hs _ h6⟩
theorem Hp.VS.one(o:h.VS S v xs):cellsOf v=[v]∧A0 v=true∧known v=true:=by
 rcases o with ⟨rfl,_⟩|⟨b,off,c,el,L,rfl,_⟩<;>exact⟨rfl,rfl,rfl⟩
theorem Hp.VS.fx(o:h.VS S v xs)(W:h.Wf){T:Nat→Prop}(x:Fx T h h')(hs:∀ b,S b→¬ T b):h'.VS S v xs:=o.keep fun b _ _ hb r=>x.row W r (hs b hb)
theorem OJ{l:List Value}(h:∀ x∈l,A0 x=true):Bh l=true:=by
 induction l with
 |nil=>rfl
 |cons a l ih=>
  show(bif A0 a then Bh l else false)=true
  rw[h a List.mem_cons_self,ih fun x hx=>h x (List.mem_cons_of_mem _ hx)];rfl
end
def Hp.BS(h:Hp)(S:Nat→Prop)(v:Value)(xs:List Value):Prop:=(v=nilS∧xs=[])∨∃ b off c el L,v=.slice (some ⟨b,off,none⟩) xs.length c∧xs.length≤c∧h.Row b el L∧off+xs.length≤L.length∧(L.drop off).take xs.length=xs∧S b∧(el=0∨el=6)
section
variable {h h':Hp}{S S':Nat→Prop}{v:Value}{xs:List Value}
theorem Hp.BS.vs(o:h.BS S v xs):h.VS S v xs:=by
 rcases o with h1|⟨b,off,c,el,L,h1,h2,h3,h4,h5,h6,_⟩
 ·exact .inl h1
 ·exact .inr ⟨b,off,c,el,L,h1,h2,h3,h4,h5,h6⟩
theorem Hp.BS.keep(o:h.BS S v xs)(hk:∀ b el L,S b→(el=0∨el=6)→h.Row b el L→h'.Row b el L):h'.BS S v xs:=by
 rcases o with h1|⟨b,off,c,el,L,h1,h2,h3,h4,h5,h6,h7⟩
 ·exact .inl h1
 ·exact .inr ⟨b,off,c,el,L,h1,h2,hk _ _ _ h6 h7 h3,h4,h5,h6,h7⟩
theorem Hp.BS.ext(o:h.BS S v xs)(W:h.Wf)(x:h.Ext h'):h'.BS S v xs:=o.keep fun _ _ _ _ _ r=>r.ext W x
theorem Hp.BS.same(o:h.BS S v xs)(hb:h'.bl=h.bl):h'.BS S v xs:=o.keep fun _ _ _ _ _ r=>r.same hb
theorem Hp.BS.mono(o:h.BS S v xs)(hs:∀ b,S b→S' b):h.BS S' v xs:=by
 rcases o with h1|⟨b,off,c,el,L,h1,h2,h3,h4,h5,h6,h7⟩
 ·exact .inl h1
 ·exact .inr ⟨b,off,c,el,L,h1,h2,h3,h4,h5,hs _ h6,h7⟩
end
def DL(l:List Nat):Value:=.agg ⟨l.map bv⟩
def entsS:Nat→List (Nat×List Nat)→List Ent
 |_,[]=>[]
 |i,x::r=>⟨.int .i64 (x.1:Int),DL x.2,i⟩::entsS (i+1) r
def sec(M:List Nat)(i:Nat):List Nat:=(M.drop (64 * i)).take 64
theorem Ka{M:List Nat}{n i:Nat}(hM:M.length=64 * n)(hi:i<n):(sec M i).length=64:=by
 unfold sec;rw[List.length_take,List.length_drop];omega
theorem km{M:List Nat}(hb:∀ x∈M,x<256)(i:Nat):∀ x∈sec M i,x<256:=fun x hx=>hb x (List.mem_of_mem_drop (List.mem_of_mem_take hx))
def dkL(bm bc n:Nat)(arm:Int)(dn:Bool):List Value:=[.slice (some ⟨bm,0,none⟩) n n,.map (some bc),.int .i64 arm,.bool dn]
structure Dk (h:Hp)(bd bm bc n:Nat)(M:List Nat)(c0:Nat)(cs:List (Nat×List Nat))(arm:Int)(dn:Bool):Prop where
 disk:h.Row bd 0 (dkL bm bc n arm dn)
 med:h.Row bm 0 (M.map bv)
 len:M.length=64 * n
 byt:∀ x∈M,x<256
 map:h.bl.get bc=.map (entsS c0 cs) (c0+cs.length)
 big:256≤bd∧256≤bm∧256≤bc
 n1:1≤n∧n≤65536
section
variable {F:CallF}{e:Env}{h h':Hp}{S:Nat→Prop}{bd bm bc n c0:Nat}{M:List Nat}{cs:List (Nat×List Nat)}{arm:Int}{dn:Bool}
theorem bO{h:Hp}{b b' el el':Nat}{L L':List Value}(r:h.Row b el L)(r':h.Row b' el' L')(he:L.length≠L'.length):b≠b':=fun hb=>by
 subst hb
 obtain⟨_,e1,_⟩:=r
 obtain⟨_,e2,_⟩:=r'
 rw[e1]at e2
 injection e2 with _ e3 _
 exact he e3
theorem Dk.bdm(d:Dk h bd bm bc n M c0 cs arm dn):bd≠bm:=bO d.disk d.med (by
 rw[List.length_map,d.len]
 show 4≠_
 have:=d.n1;omega)
theorem It{h:Hp}{b bc el k:Nat}{L:List Value}{es:List Ent}(r:h.Row b el L)(m:h.bl.get bc=.map es k):b≠bc:=fun hb=>by
 subst hb
 obtain⟨_,e1,_⟩:=r
 rw[e1]at m;cases m
theorem Dk.bdc(d:Dk h bd bm bc n M c0 cs arm dn):bd≠bc:=It d.disk d.map
theorem Dk.bmc(d:Dk h bd bm bc n M c0 cs arm dn):bm≠bc:=It d.med d.map
theorem Dk.lt(d:Dk h bd bm bc n M c0 cs arm dn)(W:h.Wf):bd<h.next∧bm<h.next∧bc<h.next:=⟨d.disk.lt W,d.med.lt W,by
 rcases Nat.lt_or_ge bc h.next with h1|h1
 ·exact h1
 ·have:=W.fresh bc h1
  rw[d.map]at this;cases this⟩
theorem Dk.same(d:Dk h bd bm bc n M c0 cs arm dn)(hb:h'.bl=h.bl):Dk h' bd bm bc n M c0 cs arm dn:=⟨d.disk.same hb,d.med.same hb,d.len,d.byt,by rw[hb];exact d.map,d.big,d.n1⟩
theorem Dk.fr(d:Dk h bd bm bc n M c0 cs arm dn)(W:h.Wf)(x:Fx S h h')(h1:¬ S bd)(h2:¬ S bm)(h3:¬ S bc):Dk h' bd bm bc n M c0 cs arm dn:=⟨x.row W d.disk h1,x.row W d.med h2,d.len,d.byt,by rw[x.get bc (d.lt W).2.2 h3];exact d.map,d.big,d.n1⟩
theorem Dk.ext(d:Dk h bd bm bc n M c0 cs arm dn)(W:h.Wf)(x:h.Ext h'):Dk h' bd bm bc n M c0 cs arm dn:=d.fr (S:=fun _=>False) W (.of x) (fun h=>h) (fun h=>h) (fun h=>h)
theorem Cm(R:h.Row bd 0 (dkL bm bc n arm dn)):load1 ⟨bd,0,none⟩ h=.ok (.slice (some ⟨bm,0,none⟩) n n) h∧load1 ⟨bd,1,none⟩ h=.ok (.map (some bc)) h∧load1 ⟨bd,2,none⟩ h=.ok (.int .i64 arm) h∧load1 ⟨bd,3,none⟩ h=.ok (.bool dn) h:=
 ⟨R.load1 (off:=0) (by show 0<4;omega),R.load1 (off:=1) (by show 1<4;omega),R.load1 (off:=2) (by show 2<4;omega),R.load1 (off:=3) (by show 3<4;omega)⟩
theorem Io{k:TK}{t:Nat}{a:Addr}{g:O}(hk:k=.ptr t)(hg:g e=.pointer (some a)):oEq k false g (kV (.pointer none)) F e h=.ok (.bool false) h:=by
 subst hk
 show(match eqV (.ptr t) (g e) (.pointer none)with|some r=>okB (false != r) h|none=>.no)=_
 rw[hg]
 exact E5
theorem bR{k:TK}{a b r:Nat}{g:O}(hk:k=.map a b)(hg:g e=.map (some r)):oEq k false g (kV (.map none)) F e h=.ok (.bool false) h:=by
 subst hk
 show(match eqV (.map a b) (g e) (.map none)with|some r=>okB (false != r) h|none=>.no)=_
 rw[hg]
 exact E5
theorem eQ:Vs.k=.ptr 98:=by kernel_rfl
theorem qd:dj.k=.map 3 100:=by kernel_rfl
theorem Ig{m:Nat}(d:Dk h bd bm bc n M c0 cs arm dn):call AF (m+1) 54 [pt bd] h=.ok (.bool false) h:=by
 obtain⟨_,l1,_,_⟩:=Cm d.disk
 have e1:∀ e:Env,AB 0 e=pt bd→oEq Vs.k false (AB 0) (kV (.pointer none)) (call AF m) e h=.ok (.bool false) h:=fun e he=>Io eQ he
 have e2:∀ e:Env,AB 9 e=.map (some bc)→oEq dj.k false (AB 9) (kV (.map none)) (call AF m) e h=.ok (.bool false) h:=fun e he=>bR qd he
 rw[iM rfl]
 unfold d54
 simp only[iN,Nat.reduceAdd,sT,Nat.reduceLT,Nat.reduceEqDiff,reduceIte,gD,e1,Ay,Aq,AJ,AQ,AP,AU,l1,e2,lV0]
theorem MH{m:Nat}(d:Dk h bd bm bc n M c0 cs arm false){i:Nat}(hi:i<n):call AF (m+2) 95 [pt bd,.int .i64 (i:Int)] h=.ok (.int .i64 0) h:=by
 obtain⟨l0,_,_,l3⟩:=Cm d.disk
 have k1:=Ig (m:=m) d
 have c1:iLt (i:Int) 0=false:=GT (by omega)
 have c2:iGe (i:Int) (n:Int)=false:=Ez (by omega)
 rw[jA rfl]
 unfold d95
 simp only[iN,Nat.reduceAdd,sT,Nat.reduceLT,Nat.reduceEqDiff,reduceIte,gD,cA0,k1,Ay,Aq,AJ,AQ,AP,AU,l0,l3,Am,Ea,AO,AN,c1,c2,lV0]
theorem dU{m:Nat}(d:Dk h bd bm bc n M c0 cs arm dn):call AF (m+2) 56 [pt bd] h=.ok (.int .i64 (n:Int)) h:=by
 obtain⟨l0,_,_,l3⟩:=Cm d.disk
 have k1:=Ig (m:=m) d
 rw[iP rfl]
 unfold d56
 simp only[iN,Nat.reduceAdd,sT,Nat.reduceLT,Nat.reduceEqDiff,reduceIte,gD,cA0,k1,Ay,Aq,AJ,AQ,AP,AU,l0,l3,Am,Ea,lV0]
theorem aW{m:Nat}(d:Dk h bd bm bc n M c0 cs arm dn):call AF (m+2) 58 [pt bd] h=.ok (.bool dn) h:=by
 obtain⟨l0,_,_,l3⟩:=Cm d.disk
 have k1:=Ig (m:=m) d
 rw[iR rfl]
 unfold d58
 simp only[iN,Nat.reduceAdd,sT,Nat.reduceLT,Nat.reduceEqDiff,reduceIte,gD,cA0,k1,Bt,Br,Bool.not_false,Ay,Aq,AJ,AQ,AP,AU,l0,l3,lV0]
theorem Xm{x y:O}{k j:IntKind}{a b:Int}(hx:x e=.int k a)(hy:y e=.int j b):SE x y F e h=.ok (.int k (max a b)) h:=by
 show Gr false (x e) (y e) h=_
 rw[hx,hy]
 show(bif iLt a b then R.ok (.int k b) h else .ok (.int k a) h)=_
 rw[Cs]
 by_cases hab:a<b
 ·rw[decide_eq_true hab,Int.max_eq_right (by omega)];rfl
 ·rw[decide_eq_false hab,Int.max_eq_left (by omega)];rfl
def FZ(a:Int):Int:=max (a - 1) (-1)
def Bu(a:Int)(k:Nat):Prop:=a≤1099511627776∧-1≤a∧(a<0∨(k:Int)≤a)
theorem Bu.one{a:Int}{k:Nat}(h:Bu a (k+1)):Bu (FZ a) k∧a≠0:=by
 unfold Bu FZ at *
 omega
theorem Bu.le{a:Int}{k j:Nat}(h:Bu a k)(hj:j≤k):Bu a j:=by
 unfold Bu at *
 omega
theorem Tm{m:Nat}(W:h.Wf)(d:Dk h bd bm bc n M c0 cs arm false){k:Nat}(ha:Bu arm (k+1)):
  ∃ h',call AF (m+1) 96 [pt bd] h=.ok (.int .i64 0) h'∧Fx (fun i=>i=bd) h h'∧Dk h' bd bm bc n M c0 cs (FZ arm) false:=by
 obtain⟨_,_,l2,_⟩:=Cm d.disk
 obtain⟨_,hne⟩:=ha.one
 have c1:iEq arm 0=false:=Bd hne
 have hs:=d.disk.storeR (n:=1) (off:=2) W d.big.1 (v:=.int .i64 (FZ arm)) rfl (by show 2+1≤4;omega) rfl
 have fr:=Fx.wr (S:=fun i=>i=bd) W d.disk (off:=2) (vs:=[.int .i64 (FZ arm)]) (by show 2+1≤4;omega) rfl
 have r1:=d.disk.wr_self W (off:=2) (vs:=[.int .i64 (FZ arm)]) (by show 2+1≤4;omega)
 have hw:IntKind.i64.wrap (Int.sub arm 1)=arm - 1:=by
  obtain⟨h1,h2,h3⟩:=ha
  show IntKind.i64.wrap (arm - 1)=_
  rcases Int.lt_or_le arm 1 with hlt|hge
  ·have:arm= -1∨arm=0:=by omega
   rcases this with rfl|rfl<;>rfl
  ·exact ZN (by omega) (by omega)
 have mx:∀ e:Env,AB 19 e=.int .i64 (arm - 1)→SE (AB 19) (kV (.int .i64 (-1))) (call AF m) e h=.ok (.int .i64 (FZ arm)) h:=fun e he=>Xm he rfl
 have hs:storeR 1 (.pointer (some ⟨bd,2,none⟩)) (.int .i64 (FZ arm)) h=.ok noRes (h.wr bd 2 [.int .i64 (FZ arm)]):=hs
 refine⟨_,?_,fr,⟨r1,fr.row W d.med (fun h=>d.bdm h.symm),d.len,d.byt,lO W d.disk (by show 2+1≤4;omega) d.map,d.big,d.n1⟩⟩
 rw[jB rfl]
 unfold d96
 simp only[iN,Nat.reduceAdd,sT,Nat.reduceLT,Nat.reduceEqDiff,reduceIte,Ay,Aq,AJ,AQ,AP,AU,Nat.zero_add,l2,AO,AN,c1,Bz,CO,hw,mx,Ao,hs,lV0]
end
end
noncomputable section
open Go
set_option maxRecDepth 100000
section
variable {F:CallF}{e:Env}{h h':Hp}{S:Nat→Prop}{bd bm bc n c0:Nat}{M:List Nat}{cs:List (Nat×List Nat)}{arm:Int}{dn:Bool}
theorem jk{n:Nat}(hn:n≤9223372036854775807):FF ⟨false,[.i .i64]⟩ (.int .i64 (n:Int))=true:=by
 show(match (match E8 .i64 .i64 with|true=>Nat.ble n (Ar .i64)|false=>false)with|true=>true|false=>false)=true
 have h1:E8 .i64 .i64=true:=rfl
 have h2:Nat.ble n (Ar .i64)=true:=Al.2 hn
 simp only[h1,h2]
theorem qr{n m:Nat}(hm:m≤9223372036854775807):Gn ⟨false,[.i .i64]⟩ (.int .i64 (n:Int)) (.int .i64 (m:Int))=some (decide (n=m)):=by
 unfold Gn
 rw[jk hm]
 show(match (match E8 .i64 .i64 with|true=>some (iEq (n:Int) (m:Int))|false=>none)with|some true=>some true|some false=>some false|none=>none)=_
 have h1:E8 .i64 .i64=true:=rfl
 simp only[h1,Dr]
 by_cases h:n=m
 ·subst h;simp
 ·have:((n:Int) == (m:Int))=false:=by rw[beq_eq_false_iff_ne];omega
  rw[this,decide_eq_false h]
theorem Qe{k:Nat}{v:Value}:∀ (cs:List (Nat×List Nat)) (i:Nat),(∀ x∈cs,x.1≠k∧x.1≤65536)→MU ⟨false,[.i .i64]⟩ (.int .i64 (k:Int)) v (entsS i cs)=some none
 |[],_,_=>rfl
 |x::l,i,hx=>by
  obtain⟨h1,h2⟩:=hx x List.mem_cons_self
  show(match Gn ⟨false,[.i .i64]⟩ (.int .i64 (k:Int)) (.int .i64 (x.1:Int))with|some true=>some (some ((⟨.int .i64 (k:Int),v,i⟩:Ent)::entsS (i+1) l))|some false=>(match MU ⟨false,[.i .i64]⟩ (.int .i64 (k:Int)) v (entsS (i+1) l)with|some (some l')=>some (some ((⟨.int .i64 (x.1:Int),DL x.2,i⟩:Ent)::l'))|some none=>some none|none=>none)|none=>none)=some none
  rw[qr (by omega),decide_eq_false (fun h=>h1 h.symm)]
  simp only
  rw[Qe l (i+1) fun y hy=>hx y (List.mem_cons_of_mem _ hy)]
theorem Sf{k:Nat}{l:List Nat}:∀ (cs:List (Nat×List Nat)) (i:Nat),UP ⟨.int .i64 (k:Int),DL l,i+cs.length⟩ (entsS i cs)=entsS i (cs++[(k,l)])
 |[],i=>rfl
 |x::cs,i=>by
  show(⟨.int .i64 (x.1:Int),DL x.2,i⟩:Ent)::UP ⟨.int .i64 (k:Int),DL l,i+(cs.length+1)⟩ (entsS (i+1) cs)=_::entsS (i+1) (cs++[(k,l)])
  rw[← Sf cs (i+1),Nat.add_assoc,Nat.add_comm 1]
theorem UM:Fz.zero=(List.replicate 64 0).map bv:=by
 have:Fz.zero=BI ty5.zero 64:=by kernel_rfl
 rw[this,KZ]
theorem Qz:B3 .mt 0 ((List.replicate 64 0).map bv)=some El:=by kernel_rfl
theorem bT(R:h.Row bm 0 (M.map bv))(hM:M.length=64 * n){i:Nat}(hi:i<n):loadN 64 ⟨bm,0+i * 64,none⟩ h=.ok (DL (sec M i)) h:=by
 rw[R.loadN (by rw[List.length_map];omega),← List.map_drop,← List.map_take,Nat.zero_add,Nat.mul_comm i 64];rfl
theorem Xk(d:Dk h bd bm bc n M c0 [] arm dn){z:Value}{x y:O}{i:Nat}(hx:x e=.map (some bc))(hy:y e=.int .i64 (i:Int))(hi:i<n):GC ⟨false,[.i .i64]⟩ z true x y F e h=.ok (.tuple ⟨[z,.bool false]⟩) h:=by
 have:=d.n1
 show HM ⟨false,[.i .i64]⟩ z (x e) (y e) true h=_
 rw[hx,hy]
 have he:Ba h bc=.ok [] (c0+0):=by unfold Ba;rw[d.map];rfl
 unfold HM
 rw[jk (by omega)]
 simp only[he,LM]
 unfold DO
 simp only[BG]
theorem Ui{g:O}{r:Nat}(hg:g e=pt r):FU 64 1 g none none none F e h=.ok (.slice (some ⟨r,0,none⟩) 64 64) h:=by
 show(match DR (g e)with|.ok a=>DB e 64 64 none none none fun l hh m=>Bn (some a) 1 l hh m h|.no=>.no)=_
 rw[hg];rfl
theorem Ts{m:Nat}(W:h.Wf)(d:Dk h bd bm bc n M c0 [] arm false){i:Nat}(hi:i<n):
  ∃ h' v,call AF (m+3) 84 [pt bd,.int .i64 (i:Int)] h=.ok (.tuple ⟨[v,.int .i64 0]⟩) h'∧h.Ext h'∧Mk h' h.next v (sec M i)∧h'.next=h.next+1∧h'.mark=h.mark∧h.low=h.low:=by
 have k1:=MH (m:=m) d hi
 obtain⟨l0,l1,_,_⟩:=Cm d.disk
 have c0':iNe 0 0=false:=CT rfl
 have lk:∀ e:Env,AB 19 e=.map (some bc)→AB 1 e=.int .i64 (i:Int)→GC ⟨false,[.i .i64]⟩ (.agg ⟨Fz.zero⟩) true (AB 19) (AB 1) (call AF (m+2)) e h=.ok (.tuple ⟨[.agg ⟨Fz.zero⟩,.bool false]⟩) h:=fun e h1 h2=>Xk d h1 h2 hi
 have al:=fun (F:CallF) (e:Env)=>B7 (F:=F) (e:=e) W (n:=64) (t:=El)
 have R1:=Hp.Row.alloc W Qz (by rw[List.length_map,List.length_replicate])
 have x1:h.Ext (h.push (.cells El 64 0)):=(Hp.Ext.refl W).push _
 have n1:(h.push (.cells El 64 0)).next=h.next+1:=rfl
 have m1:(h.push (.cells El 64 0)).mark=h.mark:=rfl
 generalize h.push (.cells El 64 0)=h1 at al R1 x1 n1 m1
 have hz:((List.replicate 64 0).map bv).length=64:=by rw[List.length_map,List.length_replicate]
 have big:=W.big
 have st:storeR 64 (pt h.next) (.agg ⟨Fz.zero⟩) h1=.ok noRes (h1.wr h.next 0 ((List.replicate 64 0).map bv)):=by
  rw[UM]
  exact R1.storeR (n:=64) (off:=0) x1.wf big (v:=.agg ⟨(List.replicate 64 0).map bv⟩) hz (by show 0+((List.replicate 64 0).map bv).length≤_;omega) (C9 _)
 have x2:=R1.wr_ext x1 (Nat.le_refl _) (off:=0) (vs:=(List.replicate 64 0).map bv) (by omega)
 have R2:=R1.wr_self x1.wf (off:=0) (vs:=(List.replicate 64 0).map bv) (by omega)
 rw[H5 rfl]at R2
 have n2:(h1.wr h.next 0 ((List.replicate 64 0).map bv)).next=h.next+1:=(R1.wr_next (by omega)).trans n1
 have m2:(h1.wr h.next 0 ((List.replicate 64 0).map bv)).mark=h.mark:=by
  obtain⟨_,_,e,_⟩:=R1.wr_is (off:=0) (vs:=(List.replicate 64 0).map bv) (by omega)
  rw[e];exact m1
 generalize h1.wr h.next 0 ((List.replicate 64 0).map bv)=h2 at st x2 R2 n2 m2
 have d2:=d.ext W x2
 obtain⟨l0,_,_,_⟩:=Cm d2.disk
 have ix:idxSR 64 (.slice (some ⟨bm,0,none⟩) n n) (.int .i64 (i:Int)) h2=.ok (.pointer (some ⟨bm,0+i * 64,none⟩)) h2:=DJ hi
 have ld:=bT d2.med d2.len hi
 have hsl:=Ka d2.len hi
 have hsm:((sec M i).map bv).length=64:=by rw[List.length_map,hsl]
 have st2:storeR 64 (pt h.next) (DL (sec M i)) h2=.ok noRes (h2.wr h.next 0 ((sec M i).map bv)):=R2.storeR (n:=64) (off:=0) x2.wf big (v:=DL (sec M i)) hsm (by show 0+((sec M i).map bv).length≤_;omega) (C9 _)
 have x3:=R2.wr_ext x2 (Nat.le_refl _) (off:=0) (vs:=(sec M i).map bv) (by omega)
 have R3:=R2.wr_self x2.wf (off:=0) (vs:=(sec M i).map bv) (by omega)
 rw[H5 (by omega)]at R3
 have n3:(h2.wr h.next 0 ((sec M i).map bv)).next=h.next+1:=(R2.wr_next (by omega)).trans n2
 have m3:(h2.wr h.next 0 ((sec M i).map bv)).mark=h.mark:=by
  obtain⟨_,_,e,_⟩:=R2.wr_is (off:=0) (vs:=(sec M i).map bv) (by omega)
  rw[e];exact m2
 generalize h2.wr h.next 0 ((sec M i).map bv)=h3 at st2 x3 R3 n3 m3
 have ct:∀ e:Env,AB 7 e=pt h.next→FU 64 1 (AB 7) none none none (call AF (m+2)) e h3=.ok (.slice (some ⟨h.next,0,none⟩) 64 64) h3:=fun e he=>Ui he
 refine⟨h3,.slice (some ⟨h.next,0,none⟩) 64 64,?_,x3,⟨h.next,0,by rw[hsl],.inl rfl,R3,Nat.le_refl _⟩,n3,m3,rfl⟩
 obtain⟨_,l1,_,_⟩:=Cm d.disk
 rw[iu rfl]
 unfold d84
 simp only[iN,Nat.reduceAdd,sT,Nat.reduceLT,Nat.reduceEqDiff,reduceIte,cA0,k1,AO,AN,c0',Ay,Aq,AJ,AQ,AP,AU,Nat.zero_add,l1,lk,BV,Bj,Bo,al,Ao,st,Bt,Br,Bool.not_false,l0,A8,ix,Aw,Av,ld,st2,ct,Bp,DI]
 simp only[Nat.zero_add]at ld
 simp only[ld,sT,Nat.reduceLT,Nat.reduceEqDiff,reduceIte,Ao,st2,ct,Bp,DI]
theorem lK(W:h.Wf)(d:Dk h bd bm bc n M c0 cs arm dn){i:Nat}(hi:i<n)(hc:∀ x∈cs,x.1≠i∧x.1<n){l:List Nat}{g1 g2 g3:O}(h1:g1 e=.map (some bc))(h2:g2 e=.int .i64 (i:Int))(h3:g3 e=DL l):
  Ep ⟨false,[.i .i64]⟩ g1 g2 g3 F e h=.ok noRes (h.put bc (.map (entsS c0 (cs++[(i,l)])) (Nat.succ (c0+cs.length))))∧Fx (fun b=>b=bc) h (h.put bc (.map (entsS c0 (cs++[(i,l)])) (Nat.succ (c0+cs.length))))∧Dk (h.put bc (.map (entsS c0 (cs++[(i,l)])) (Nat.succ (c0+cs.length)))) bd bm bc n M c0 (cs++[(i,l)]) arm dn:=by
 have hn:=d.n1
 have hlt:=(d.lt W).2.2
 have he:Ba h bc=.ok (entsS c0 cs) (c0+cs.length):=by unfold Ba;rw[d.map];rfl
 have fx:Fx (fun b=>b=bc) h (h.put bc (.map (entsS c0 (cs++[(i,l)])) (Nat.succ (c0+cs.length)))):=Fx.put (S:=fun b=>b=bc) W hlt rfl _
 refine⟨?_,fx,⟨fx.row W d.disk d.bdc,fx.row W d.med d.bmc,d.len,d.byt,?_,d.big,d.n1⟩⟩
 ·show forceV (g2 e) (fun key=>forceV (g3 e) fun v=>Kh ⟨false,[.i .i64]⟩ (g1 e) key v h)=_
  rw[BG,BG,h1,h2,h3]
  unfold Kh
  rw[jk (by omega)]
  simp only[he,Qe cs c0 fun x hx=>⟨(hc x hx).1,by have:=(hc x hx).2;omega⟩,Sf]
  rw[Di W d.big.2.2 hlt];rfl
 ·rw[W.put_get hlt,if_pos rfl,List.length_append];rfl
theorem eh{g:O}{a:Addr}{c:Nat}(hg:g e=.slice (some a) 64 c):Pv 64 g F e h=.ok (.pointer (some a)) h:=by
 show(match g e with|.slice (some a) l _=>bif Nat.ble 64 l then R.ok (.pointer (some a)) h else .no|_=>.no)=_
 rw[hg];rfl
theorem Qy{m:Nat}(W:h.Wf)(d:Dk h bd bm bc n M c0 cs arm false){k:Nat}(ha:Bu arm (k+1)){i:Nat}(hi:i<n)(hc:∀ x∈cs,x.1≠i∧x.1<n){u:Value}{l:List Nat}(U:h.VS (fun b=>b≠bd) u (l.map bv))(hl:l.length=64):
  ∃ h',call AF (m+3) 75 [pt bd,.int .i64 (i:Int),u] h=.ok (.int .i64 0) h'∧Fx (fun b=>b=bd∨b=bc) h h'∧Dk h' bd bm bc n M c0 (cs++[(i,l)]) (FZ arm) false:=by
 have k1:=MH (m:=m) d hi
 have Ul:=U.vals.bl h
 rw[hl]at Ul
 obtain⟨h1,k2,f1,d1⟩:=Tm (m:=m+1) W d ha
 have U1:=U.fx W f1 (fun b h1 h2=>h1 h2)
 have c1:iNe 0 0=false:=CT rfl
 have c2:iNe ((64:Nat):Int) 64=false:=CT rfl
 rcases U1 with ⟨_,hx⟩|⟨b,off,c,el,L,hu,_,R1,ho,hL,_⟩
 ·have:=congrArg List.length hx
  rw[List.length_map,hl]at this;cases this
 rw[List.length_map,hl]at hu ho hL
 have d1m:=d1.same (h':=h1.marked) rfl
 obtain⟨_,l1,_,_⟩:=Cm d1m.disk
 have Rm:h1.marked.Row b el L:=R1.same rfl
 have ld:loadN 64 ⟨b,off,none⟩ h1.marked=.ok (DL l) h1.marked:=by rw[Rm.loadN ho,hL];rfl
 have ar:∀ (F:CallF) (e:Env),AB 2 e=u→Pv 64 (AB 2) F e h1.marked=.ok (.pointer (some ⟨b,off,none⟩)) h1.marked:=fun F e he=>eh (he.trans hu)
 have up:=fun (F:CallF) (e:Env) (g1 g2 g3:O) (e1:g1 e=.map (some bc)) (e2:g2 e=.int .i64 (i:Int)) (e3:g3 e=DL l)=>lK (F:=F) f1.wf.marked.quiet (d1m.same (h':=h1.marked.quiet) rfl) hi hc e1 e2 e3
 obtain⟨_,f2,d2⟩:=up (call AF m) e0 (kV (.map (some bc))) (kV (.int .i64 (i:Int))) (kV (DL l)) rfl rfl rfl
 have up:=fun F e g1 g2 g3 e1 e2 e3=>(up F e g1 g2 g3 e1 e2 e3).1
 generalize h1.marked.quiet.put bc (.map (entsS c0 (cs++[(i,l)])) (Nat.succ (c0+cs.length)))=h2 at up f2 d2
 have u2:∀ (F:CallF) (e:Env),AB 26 e=.map (some bc)→AB 1 e=.int .i64 (i:Int)→AB 30 e=DL l→Ac .free (Ep ⟨false,[.i .i64]⟩ (AB 26) (AB 1) (AB 30)) F e h1.marked=.ok noRes (h1.marked.back h2):=fun F e e1 e2 e3=>Bb (up F e _ _ _ e1 e2 e3)
 refine⟨h1.marked.back h2,?_,?_,d2.same rfl⟩
 ·rw[ij rfl]
  unfold d75
  simp only[iN,Nat.reduceAdd,sT,Nat.reduceLT,Nat.reduceEqDiff,reduceIte,cA0,k1,AO,AN,c1,Am,Ul,c2,k2,BA,Ay,Aq,AJ,AQ,AP,AU,Nat.zero_add,l1,ar,Aw,Av,ld,u2,lV0]
 ·exact(f1.mono fun i h=>.inl h).trans (((f2.mono fun i h=>.inr h).from (h:=h1.marked) rfl rfl).same (h2:=h1.marked.back h2) rfl rfl |>.from (h:=h1) rfl rfl)
theorem Yl:∀ n:Nat,BI Fz.zero n=(List.replicate (64 * n) 0).map bv
 |0=>rfl
 |n+1=>by
  show Fz.zero++BI Fz.zero n=_
  rw[Yl n,UM,← List.map_append,List.replicate_append_replicate]
  congr 2;omega
theorem lV:dm.zero=[.slice none 0 0,.map none,.int .i64 0,.bool false]:=by kernel_rfl
theorem aU{m:Nat}(W:h.Wf)(hn:1≤n∧n≤65536):
  ∃ h' bd bm bc,call AF (m+1) 35 [.int .i64 (n:Int)] h=.ok (.tuple ⟨[pt bd,.int .i64 0]⟩) h'∧h.Ext h'∧Dk h' bd bm bc n (List.replicate (64 * n) 0) 0 [] (-1) false∧h.next≤bd∧h.next≤bm∧h.next≤bc:=by
 have big:=W.big
 have c1:iLt (n:Int) 1=false:=GT (by omega)
 have c2:iGt (n:Int) 65536=false:=Ei (by omega)
 have mk:∀ (F:CallF) (e:Env),AB 0 e=.int .i64 (n:Int)→Fs 64 Fz.zero (AB 0) (AB 0) F e h=.ok (.slice (some ⟨h.next,0,none⟩) n n) (h.pushRow 0 ((List.replicate (64 * n) 0).map bv)):=fun F e he=>by
  show Pm 64 Fz.zero (Cy (AB 0 e)) (Cy (AB 0 e)) h=_
  rw[he,Cu]
  unfold Pm
  simp only
  have e1:Nat.ble n n=true:=Al.2 (Nat.le_refl _)
  have e2:Nat.ble (Nat.mul (Nat.succ n) (Nat.succ 64)) most=true:=Al.2 (by show(n+1) * 65≤1099511627776;omega)
  rw[e1,e2,Yl]
  simp only[cond_true]
  rw[DA W];rfl
 have x1:=(Hp.Ext.refl W).pushRow 0 ((List.replicate (64 * n) 0).map bv)
 have R1:=Hp.Row.new W 0 ((List.replicate (64 * n) 0).map bv)
 have n1:(h.pushRow 0 ((List.replicate (64 * n) 0).map bv)).next=h.next+1:=rfl
 generalize h.pushRow 0 ((List.replicate (64 * n) 0).map bv)=h1 at mk x1 R1 n1
 have mp:∀ (F:CallF) (e:Env),VP F e h1=.ok (.map (some h1.next)) (h1.push (.map [] 0)):=fun F e=>by
  unfold VP
  rw[Ci x1.wf]
 have y2:h1.Ext (h1.push (.map [] 0)):=(Hp.Ext.refl x1.wf).push _
 have M2:(h1.push (.map [] 0)).bl.get h1.next=.map [] 0:=by rw[x1.wf.push_get,if_pos rfl]
 have n2:(h1.push (.map [] 0)).next=h1.next+1:=rfl
 generalize h1.push (.map [] 0)=h2 at mp y2 M2 n2
 have x2:=x1.trans y2
 have bl:∀ (F:CallF) (e:Env),AB 11 e=.slice (some ⟨h.next,0,none⟩) n n→AB 12 e=.map (some h1.next)→Bm dm.zero [(0,1,AB 11),(1,1,AB 12),(2,1,kV (.int .i64 (-1)))] F e h2=.ok (.agg ⟨dkL h.next h1.next n (-1) false⟩) h2:=fun F e e1 e2=>by
  rw[EH,lV,BE (hk:=by rw[e1];rfl),e1,BE (hk:=by rw[e2];rfl),e2,BE]
  simp only[show cellsOf (.slice (some ⟨h.next,0,none⟩) n n)=[.slice (some ⟨h.next,0,none⟩) n n]from rfl,show cellsOf (.map (some h1.next))=[.map (some h1.next)]from rfl,Gl,DN,List.length_singleton,List.length_cons,List.length_nil,over,List.take,List.drop,List.append_eq,List.nil_append,List.cons_append,Nat.reduceAdd,Nat.reduceLeDiff,if_true,CP,reduceIte]
  rfl
 have bx:∀ (F:CallF) (e:Env),AB 13 e=.agg ⟨dkL h.next h1.next n (-1) false⟩→Cv (AB 13) F e h2=.ok (pt h2.next) (h2.pushRow 0 (dkL h.next h1.next n (-1) false)):=fun F e he=>by
  rw[ET,he,EN x2.wf];rfl
 have y3:=(Hp.Ext.refl x2.wf).pushRow 0 (dkL h.next h1.next n (-1) false)
 have R3:=Hp.Row.new x2.wf 0 (dkL h.next h1.next n (-1) false)
 generalize h2.pushRow 0 (dkL h.next h1.next n (-1) false)=h3 at bx y3 R3
 refine⟨h3,h2.next,h.next,h1.next,?_,x2.trans y3,⟨R3,(R1.ext x1.wf y2).ext x2.wf y3,List.length_replicate,fun x hx=>by rw[List.eq_of_mem_replicate hx];decide,?_,⟨by omega,by omega,by omega⟩,hn⟩,by omega,Nat.le_refl _,by omega⟩
 ·rw[iC rfl]
  unfold d35
  simp only[iN,Nat.reduceAdd,sT,Nat.reduceLT,Nat.reduceEqDiff,reduceIte,gD,AO,AN,c1,c2,mk,mp,bl,bx,Bp,DI]
 ·rw[y3.get _ (by omega),M2];rfl
end
end
noncomputable section
open Go
set_option maxRecDepth 100000
theorem VT.ext:∀ (a b:VT),(∀ j,a.has j↔b.has j)→(∀ j,a.get j=b.get j)→a=b
 |.mt,.mt,_,_=>rfl
 |.mt,.nd v l r,h,_=>by
  have:=(h 0).2 (by unfold VT.has;trivial)
  unfold VT.has at this;exact this.elim
 |.nd v l r,.mt,h,_=>by
  have:=(h 0).1 (by unfold VT.has;trivial)
  unfold VT.has at this;exact this.elim
 |.nd v l r,.nd v' l' r',h,g=>by
  have e1:v=v':=g 0
  have lo:∀ j,(2 * j) % 2=0∧2 * j / 2=j:=fun j=>by omega
  have hi:∀ j,¬ (2 * j+1) % 2=0∧(2 * j+1) / 2=j:=fun j=>by omega
  have e2:l=l':=VT.ext l l' (fun j=>by
   have:=h (2 * j+1)
   rw[VT.has_succ,VT.has_succ,if_pos (lo j).1,if_pos (lo j).1,(lo j).2]at this;exact this) (fun j=>by
   have:=g (2 * j+1)
   rw[VT.get_nd_succ,VT.get_nd_succ,if_pos (lo j).1,if_pos (lo j).1,(lo j).2]at this;exact this)
  have e3:r=r':=VT.ext r r' (fun j=>by
   have:=h (2 * j+1+1)
   rw[VT.has_succ,VT.has_succ,if_neg (hi j).1,if_neg (hi j).1,(hi j).2]at this;exact this) (fun j=>by
   have:=g (2 * j+1+1)
   rw[VT.get_nd_succ,VT.get_nd_succ,if_neg (hi j).1,if_neg (hi j).1,(hi j).2]at this;exact this)
  rw[e1,e2,e3]
theorem VT.set_same:∀ (t:VT) (i:Nat) (x:Value) (t':VT),t.set i x=some t'→t.has i→∀ j,t'.has j→t.has j
 |.mt,i,x,t',_,h,_,_=>by unfold VT.has at h;exact h.elim
 |.nd v l r,0,x,t',hs,_,j,hj=>by
  have hs:some (VT.nd x l r)=some t':=hs
  cases hs
  cases j with
  |zero=>unfold VT.has;trivial
  |succ k=>rw[VT.has_succ]at hj ⊢;exact hj
 |.nd v l r,k+1,x,t',hs,h,j,hj=>by
  rw[VT.set_nd_succ]at hs
  rw[VT.has_succ]at h
  by_cases hk:k % 2=0
  ·rw[if_pos hk]at hs h
   cases hl:l.set (k / 2) x with
   |none=>rw[hl]at hs;cases hs
   |some l'=>
    rw[hl]at hs;cases hs
    cases j with
    |zero=>unfold VT.has;trivial
    |succ m=>
     rw[VT.has_succ]at hj ⊢
     by_cases hm:m % 2=0
     ·rw[if_pos hm]at hj ⊢;exact VT.set_same l _ x l' hl h _ hj
     ·rw[if_neg hm]at hj ⊢;exact hj
  ·rw[if_neg hk]at hs h
   cases hl:r.set (k / 2) x with
   |none=>rw[hl]at hs;cases hs
   |some l'=>
    rw[hl]at hs;cases hs
    cases j with
    |zero=>unfold VT.has;trivial
    |succ m=>
     rw[VT.has_succ]at hj ⊢
     by_cases hm:m % 2=0
     ·rw[if_pos hm]at hj ⊢;exact hj
     ·rw[if_neg hm]at hj ⊢;exact VT.set_same r _ x l' hl h _ hj
theorem J5:∀ (vs:List Value) (t:VT) (i:Nat),(∀ j,j<i+vs.length→t.has j)→∃ t',B3 t i vs=some t'∧(∀ j,t'.has j↔t.has j)∧∀ j,t'.get j=if i≤j∧j<i+vs.length then vs.getD (j - i) noRes else t.get j
 |[],t,i,h=>⟨t,rfl,fun _=>Iff.rfl,fun j=>by rw[if_neg (by simp only[List.length_nil];omega)]⟩
 |v::vs,t,i,h=>by
  simp only[List.length_cons]at h
  have hh:∀ j,j<i→t.has j:=fun j hj=>h j (by omega)
  have hs:=VT.lay_is (x:=v) hh
  have h1:∀ j,(t.lay i v).has j↔t.has j:=fun j=>⟨VT.set_same t i v _ hs (h i (by omega)) j,fun hj=>VT.lay_has hh j (.inr hj)⟩
  obtain⟨t',a1,a2,a3⟩:=J5 vs (t.lay i v) (i+1) fun j hj=>(h1 j).2 (h j (by omega))
  refine⟨t',?_,fun j=>(a2 j).trans (h1 j),fun j=>?_⟩
  ·show(match t.set i v with|some t'=>B3 t' (Nat.succ i) vs|none=>none)=_
   rw[hs];exact a1
  ·rw[a3 j,VT.lay_get hh]
   simp only[List.length_cons]
   by_cases c1:i+1≤j∧j<i+1+vs.length
   ·rw[if_pos c1,if_pos (by omega),show j - i=(j - (i+1))+1 by omega];rfl
   ·rw[if_neg c1]
    by_cases c2:j=i
    ·rw[if_pos c2,if_pos (by omega),c2,Nat.sub_self];rfl
    ·rw[if_neg c2,if_neg (by omega)]
section
variable {F:CallF}{e:Env}{h r:Hp}{k:Walk}{body:C}{b:Nat}
theorem Ng{b n0:Nat}{r h1:Hp}{tr:Rds}:Uo b n0 r h1 tr=true↔XI b n0 r h1:=by
 unfold Uo
 split
 ·rename_i h _;exact⟨fun _=>h,fun _=>rfl⟩
 ·rename_i h _;exact⟨fun e=>(by cases e),fun e=>absurd e h⟩
theorem Of{f:Ent→Bool}:∀ {l:List Ent},(∀ x∈l,f x=true)→Oe f l=true
 |[],_=>rfl
 |x::l,h=>by
  show(bif f x then Oe f l else false)=true
  rw[h x List.mem_cons_self,Of fun y hy=>h y (List.mem_cons_of_mem _ hy)];rfl
theorem Hr{fin:Hp→Rds→Bool}:∀ (n:Nat) (h:Hp) (tr:Rds),Ju k body F e b fin n h tr=true→∃ p,RL k body F e b n h tr=some p∧fin p.1 p.2=true
 |0,h,tr,hx=>by cases hx
 |n+1,h,tr,hx=>by
  unfold Ju Ms at hx
  unfold RL Ms
  cases hi:Ds (h.bl.get b)with
  |no=>rw[hi]at hx;cases hx
  |cur _ _ _=>rw[hi]at hx;cases hx
  |pick _ _ _ _=>rw[hi]at hx;cases hx
  |ok m since seen last=>
   rw[hi]at hx
   cases m with
   |none=>cases hx
   |some m=>
    simp only at hx ⊢
    cases he:Ba h m with
    |no=>rw[he]at hx;cases hx
    |ok es c=>
     rw[he]at hx
     simp only at hx ⊢
     cases q1:Nat.beq c since with
     |false=>rw[q1]at hx;cases hx
     |true=>
      cases q2:Nat.beq c last with
      |false=>rw[q1,q2]at hx;cases hx
      |true=>
       cases q3:Er c 0 es with
       |false=>rw[q1,q2,q3]at hx;cases hx
       |true=>
        rw[q1,q2,q3]at hx
        simp only[cond_true]at hx ⊢
        cases hr:restE seen es with
        |nil=>rw[hr]at hx;exact⟨_,rfl,hx⟩
        |cons y l=>
         rw[hr]at hx
         have hy:=Km hx y List.mem_cons_self
         simp only
         cases hst:NR k body F e b m c seen h y with
         |none=>rw[hst]at hy;cases hy
         |some h1=>
          rw[hst]at hy
          exact Hr n h1 _ hy
theorem RE(W:h.Wf)(S:NW k body F e h b r)(hn:h.next≤r.next):
  ∃ h',FM k body F e h b=.exit k.out (Env.set k.more (.bool false) (Cd e k.ws)) h'∧h'.Wf∧h'.next=r.next∧(∀ i,i<h.next→i≠b→h'.bl.get i=r.bl.get i)∧h'.mark=h.mark∧h'.low=min h.low r.low:=by
 obtain⟨p,hp,hend⟩:=Hr _ _ _ S.2
 obtain⟨q1,q2,q3,q4⟩:=Ng.1 hend
 have hbig:=W.big
 unfold FM
 split
 case h_2=>rename_i hx _;exact absurd ⟨r,S⟩ hx
 rename_i hx _
 have S':=Classical.choose_spec hx
 generalize Classical.choose hx=r' at S'
 obtain⟨p',hp',hend'⟩:=Hr _ _ _ S'.2
 obtain rfl:p'=p:=by rw[hp]at hp';exact(Option.some.inj hp').symm
 obtain⟨t1,t2,t3,t4⟩:=Ng.1 hend'
 refine⟨_,rfl,⟨?_,S'.1,fun i hi=>?_⟩,t1.symm.trans q1,fun i hi hib=>?_,rfl,(BO _ _).trans (by rw[t2,← q2])⟩
 ·show 256≤r'.next;omega
 ·have hi:r'.next≤i:=hi
  show r'.bl.get i=_
  rw[t4,if_pos (by omega)]
 ·show r'.bl.get i=_
  rw[t4,q4]
end
end
noncomputable section
open Go
set_option maxRecDepth 100000
def QT(M:List Nat)(k:Nat)(l:List Nat):List Nat:=M.take (64 * k)++l++M.drop (64 * k+64)
def FQ:List Nat→List (Nat×List Nat)→List Nat
 |M,[]=>M
 |M,y::cs=>FQ (QT M y.1 y.2) cs
def KeyU(cs:List (Nat×List Nat)):Prop:=∀ (i j:Nat) (y z:Nat×List Nat),cs[i]? =some y→cs[j]? =some z→y.1=z.1→i=j
def SecOk(n:Nat)(cs:List (Nat×List Nat)):Prop:=∀ y∈cs,y.1<n∧y.2.length=64∧∀ x∈y.2,x<256
theorem Iq{M l:List Nat}{n k:Nat}(hM:M.length=64 * n)(hk:k<n)(hl:l.length=64):(QT M k l).length=64 * n:=by
 unfold QT
 rw[List.length_append,List.length_append,List.length_take,List.length_drop];omega
theorem dN{M l:List Nat}{k:Nat}(hM:∀ x∈M,x<256)(hl:∀ x∈l,x<256):∀ x∈QT M k l,x<256:=fun x hx=>by
 rcases List.mem_append.1 hx with hx|hx
 ·rcases List.mem_append.1 hx with hx|hx
  ·exact hM x (List.mem_of_mem_take hx)
  ·exact hl x hx
 ·exact hM x (List.mem_of_mem_drop hx)
theorem Tp{M l:List Nat}{n k p:Nat}(hM:M.length=64 * n)(hk:k<n)(hl:l.length=64):(QT M k l).getD p 0=if p / 64=k then l.getD (p % 64) 0 else M.getD p 0:=by
 unfold QT
 have e1:(M.take (64 * k)).length=64 * k:=by rw[List.length_take];omega
 simp only[List.getD_eq_getElem?_getD]
 by_cases h:p / 64=k
 ·rw[if_pos h,List.append_assoc,List.getElem?_append_right (by omega),List.getElem?_append_left (by omega),e1,show p - 64 * k=p % 64 by omega]
 ·rw[if_neg h]
  rcases Nat.lt_or_ge p (64 * k)with hp|hp
  ·rw[List.append_assoc,List.getElem?_append_left (by omega),List.getElem?_take,if_pos hp]
  ·rw[List.getElem?_append_right (by rw[List.length_append];omega),List.getElem?_drop,List.length_append,e1,hl]
   congr 2;omega
theorem Fm:∀ {cs:List (Nat×List Nat)} {M:List Nat} {n:Nat},M.length=64 * n→SecOk n cs→(FQ M cs).length=64 * n
 |[],_,_,h,_=>h
 |y::cs,M,n,h,hc=>Fm (cs:=cs) (Iq h (hc y List.mem_cons_self).1 (hc y List.mem_cons_self).2.1) fun z hz=>hc z (List.mem_cons_of_mem _ hz)
theorem Pb:∀ {cs:List (Nat×List Nat)} {M:List Nat} {n:Nat},(∀ x∈M,x<256)→SecOk n cs→∀ x∈FQ M cs,x<256
 |[],_,_,h,_=>h
 |y::cs,M,n,h,hc=>Pb (cs:=cs) (n:=n) (dN h (hc y List.mem_cons_self).2.2) fun z hz=>hc z (List.mem_cons_of_mem _ hz)
theorem KeyU.tail{y:Nat×List Nat}{cs:List (Nat×List Nat)}(h:KeyU (y::cs)):KeyU cs∧∀ z∈cs,z.1≠y.1:=⟨fun i j a b h1 h2 h3=>by
 have:=h (i+1) (j+1) a b (by rw[List.getElem?_cons_succ];exact h1) (by rw[List.getElem?_cons_succ];exact h2) h3
 omega,fun z hz e=>by
 obtain⟨i,hi⟩:=List.mem_iff_getElem?.1 hz
 have:=h (i+1) 0 z y (by rw[List.getElem?_cons_succ];exact hi) rfl e
 omega⟩
theorem JZ:∀ {cs:List (Nat×List Nat)} {M:List Nat} {n p:Nat},M.length=64 * n→SecOk n cs→(∀ y∈cs,p / 64≠y.1)→(FQ M cs).getD p 0=M.getD p 0
 |[],_,_,_,_,_,_=>rfl
 |y::cs,M,n,p,h,hc,hp=>by
  obtain⟨c1,c2,c3⟩:=hc y List.mem_cons_self
  show(FQ (QT M y.1 y.2) cs).getD p 0=_
  rw[JZ (cs:=cs) (Iq h c1 c2) (fun z hz=>hc z (List.mem_cons_of_mem _ hz)) fun z hz=>hp z (List.mem_cons_of_mem _ hz),Tp h c1 c2,if_neg (hp y List.mem_cons_self)]
theorem Pa:∀ {cs:List (Nat×List Nat)} {M:List Nat} {n:Nat},M.length=64 * n→SecOk n cs→KeyU cs→∀ y∈cs,∀ q,q<64→(FQ M cs).getD (64 * y.1+q) 0=y.2.getD q 0
 |[],_,_,_,_,_,_,hy,_,_=>by cases hy
 |z::cs,M,n,h,hc,hK,y,hy,q,hq=>by
  obtain⟨c1,c2,c3⟩:=hc z List.mem_cons_self
  obtain⟨k1,k2⟩:=hK.tail
  show(FQ (QT M z.1 z.2) cs).getD _ 0=_
  rcases List.mem_cons.1 hy with rfl|hy
  ·rw[JZ (cs:=cs) (Iq h c1 c2) (fun z hz=>hc z (List.mem_cons_of_mem _ hz)) (fun z hz=>by have:=k2 z hz;omega),Tp h c1 c2,if_pos (by omega),show(64 * y.1+q) % 64=q by omega]
  ·exact Pa (Iq h c1 c2) (fun z hz=>hc z (List.mem_cons_of_mem _ hz)) k1 y hy q hq
def LaidT(T0:VT)(done:List (Nat×List Nat))(T:VT):Prop:=(∀ j,T.has j↔T0.has j)∧(∀ y∈done,∀ q,q<64→T.get (64 * y.1+q)=bv (y.2.getD q 0))∧∀ p,(∀ y∈done,p / 64≠y.1)→T.get p=T0.get p
theorem LaidT.nil(T:VT):LaidT T [] T:=⟨fun _=>Iff.rfl,fun y hy=>(by cases hy),fun _ _=>rfl⟩
theorem LaidT.step{T0 T:VT}{done:List (Nat×List Nat)}{k s:Nat}{l:List Nat}(h:LaidT T0 done T)(hh:∀ j,j<s→T0.has j)(hk:64 * k+64≤s)(hl:l.length=64)(hd:∀ y∈done,y.1≠k):∃ T',B3 T (64 * k) (l.map bv)=some T'∧LaidT T0 (done++[(k,l)]) T':=by
 have hll:(l.map bv).length=64:=by rw[List.length_map,hl]
 obtain⟨T',a1,a2,a3⟩:=J5 (l.map bv) T (64 * k) fun j hj=>(h.1 j).2 (hh j (by omega))
 refine⟨T',a1,fun j=>(a2 j).trans (h.1 j),fun y hy q hq=>?_,fun p hp=>?_⟩
 ·rw[a3,hll]
  rcases List.mem_append.1 hy with hy|hy
  ·rw[if_neg (by have:=hd y hy;omega)]
   exact h.2.1 y hy q hq
  ·obtain rfl:=List.mem_singleton.1 hy
   have hq':64 * k+q - 64 * k=q:=by omega
   rw[if_pos ⟨Nat.le_add_right _ _,by show 64 * k+q<_;omega⟩]
   show(l.map bv).getD (64 * k+q - 64 * k) noRes=bv (l.getD q 0)
   rw[hq',List.getD_eq_getElem?_getD,List.getElem?_map,List.getD_eq_getElem?_getD,List.getElem?_eq_getElem (by omega)];rfl
 ·have:=hp (k,l) (List.mem_append_right _ (List.mem_singleton.2 rfl))
  rw[a3,hll,if_neg (by show ¬ _;have:p / 64≠k:=this;omega)]
  exact h.2.2 p fun y hy=>hp y (List.mem_append_left _ hy)
theorem LaidT.uniq{T0 T T':VT}{a b:List (Nat×List Nat)}(h:LaidT T0 a T)(h':LaidT T0 b T')(hm:∀ y,y∈a↔y∈b):T=T':=by
 refine VT.ext _ _ (fun j=>(h.1 j).trans (h'.1 j).symm) fun p=>?_
 by_cases hp:∃ y∈a,p / 64=y.1
 ·obtain⟨y,hy,he⟩:=hp
  have h1:=h.2.1 y hy (p % 64) (by omega)
  have h2:=h'.2.1 y ((hm y).1 hy) (p % 64) (by omega)
  rw[show 64 * y.1+p % 64=p by omega]at h1 h2
  rw[h1,h2]
 ·rw[h.2.2 p fun y hy he=>hp ⟨y,hy,he⟩,h'.2.2 p fun y hy he=>hp ⟨y,(hm y).2 hy,he⟩]
theorem LaidT.all{T0:VT}{n:Nat}(hh:∀ j,j<64 * n→T0.has j):∀ (cs done:List (Nat×List Nat)) (T:VT),LaidT T0 done T→SecOk n cs→KeyU cs→(∀ y∈cs,∀ z∈done,z.1≠y.1)→∃ T',LaidT T0 (done++cs) T'
 |[],done,T,h,_,_,_=>⟨T,by rw[List.append_nil];exact h⟩
 |y::cs,done,T,h,hc,hK,hd=>by
  obtain⟨c1,c2,c3⟩:=hc y List.mem_cons_self
  obtain⟨k1,k2⟩:=hK.tail
  obtain⟨T1,_,h1⟩:=h.step hh (k:=y.1) (l:=y.2) (by omega) c2 (hd y List.mem_cons_self)
  obtain⟨T2,h2⟩:=LaidT.all hh cs (done++[(y.1,y.2)]) T1 h1 (fun z hz=>hc z (List.mem_cons_of_mem _ hz)) k1 fun z hz w hw=>by
   rcases List.mem_append.1 hw with hw|hw
   ·exact hd z (List.mem_cons_of_mem _ hz) w hw
   ·obtain rfl:=List.mem_singleton.1 hw
    exact fun e=>k2 z hz e.symm
  exact⟨T2,by rw[List.append_assoc]at h2;exact h2⟩
theorem LaidT.is{T0 T:VT}{M:List Nat}{n:Nat}{cs:List (Nat×List Nat)}(h:LaidT T0 cs T)(hT:T0.Is (M.map bv))(hM:M.length=64 * n)(hc:SecOk n cs)(hK:KeyU cs):T.Is ((FQ M cs).map bv):=fun p hp=>by
 rw[List.length_map,Fm hM hc]at hp
 have hp0:=hT p (by rw[List.length_map];omega)
 refine⟨(h.1 p).2 hp0.1,?_⟩
 have e1:∀ L:List Nat,p<L.length→(L.map bv).getD p noRes=bv (L.getD p 0):=fun L hL=>by
  rw[List.getD_eq_getElem?_getD,List.getElem?_map,List.getD_eq_getElem?_getD,List.getElem?_eq_getElem hL];rfl
 rw[e1 _ (by rw[Fm hM hc];exact hp)]
 by_cases hq:∃ y∈cs,p / 64=y.1
 ·obtain⟨y,hy,he⟩:=hq
  have h1:=h.2.1 y hy (p % 64) (by omega)
  have h2:=Pa hM hc hK y hy (p % 64) (by omega)
  rw[show 64 * y.1+p % 64=p by omega]at h1 h2
  rw[h1,h2]
 ·rw[h.2.2 p fun y hy he=>hq ⟨y,hy,he⟩,JZ hM hc fun y hy he=>hq ⟨y,hy,he⟩,hp0.2,e1 _ (by omega)]
theorem LH:∀ (cs:List (Nat×List Nat)) (c:Nat),(entsS c cs).length=cs.length
 |[],_=>rfl
 |x::cs,c=>by show(entsS (c+1) cs).length+1=_;rw[LH cs];rfl
theorem O6:∀ {cs:List (Nat×List Nat)} {c:Nat} {x:Ent},x∈entsS c cs→∃ (i:Nat) (y:Nat×List Nat),cs[i]? =some y∧x=⟨.int .i64 (y.1:Int),DL y.2,c+i⟩
 |[],_,_,h=>by cases h
 |y::cs,c,x,h=>by
  rcases List.mem_cons.1 h with h|h
  ·exact⟨0,y,rfl,h⟩
  ·obtain⟨i,z,h1,h2⟩:=O6 h
   exact⟨i+1,z,by rw[List.getElem?_cons_succ];exact h1,by rw[h2,Nat.add_assoc,Nat.add_comm 1]⟩
theorem HH:∀ {cs:List (Nat×List Nat)} {c i:Nat} {y:Nat×List Nat},cs[i]? =some y→Fi (c+i) (entsS c cs)=some ⟨.int .i64 (y.1:Int),DL y.2,c+i⟩
 |[],_,_,_,h=>by cases h
 |z::cs,c,0,y,h=>by
  have h:some z=some y:=h
  cases h
  show(bif Nat.beq c (c+0)then some (⟨.int .i64 (z.1:Int),DL z.2,c⟩:Ent)else Fi (c+0) (entsS (c+1) cs))=_
  rw[Nat.add_zero,Nat.beq_refl];rfl
 |z::cs,c,i+1,y,h=>by
  rw[List.getElem?_cons_succ]at h
  show(bif Nat.beq c (c+(i+1))then some (⟨.int .i64 (z.1:Int),DL z.2,c⟩:Ent)else Fi (c+(i+1)) (entsS (c+1) cs))=_
  have:Nat.beq c (c+(i+1))=false:=by
   cases e:Nat.beq c (c+(i+1))
   ·rfl
   ·have:=Ap.1 e;omega
  rw[this,show c+(i+1)=c+1+i by omega]
  exact HH h
theorem J4:∀ {cs:List (Nat×List Nat)} {c lo clk:Nat},lo≤c→c+cs.length≤clk→Er clk lo (entsS c cs)=true
 |[],_,_,_,_,_=>rfl
 |x::cs,c,lo,clk,h1,h2=>by
  rw[List.length_cons]at h2
  show(bif Nat.ble lo c then(bif Nat.blt c clk then Er clk (Nat.succ c) (entsS (c+1) cs)else false)else false)=true
  rw[Al.2 h1,BH.2 (by omega)]
  exact J4 (Nat.le_refl _) (by omega)
theorem FR{n:Nat}:∀ {l:List Nat},FG n l=true↔n∈l
 |[]=>⟨fun h=>(by cases h),fun h=>(by cases h)⟩
 |x::l=>by
  show(bif Nat.beq x n then true else FG n l)=true↔_
  cases h:Nat.beq x n with
  |true=>exact⟨fun _=>by rw[Ap.1 h];exact List.mem_cons_self,fun _=>rfl⟩
  |false=>
   refine Iff.trans (FR (l:=l)) ⟨fun h1=>List.mem_cons_of_mem _ h1,fun h1=>?_⟩
   rcases List.mem_cons.1 h1 with h1|h1
   ·rw[h1,Nat.beq_refl]at h;cases h
   ·exact h1
theorem MA{seen:List Nat}:∀ {es:List Ent} {x:Ent},x∈restE seen es→x∈es∧x.born∉seen
 |[],_,h=>by cases h
 |y::es,x,h=>by
  have h:x∈(bif FG y.born seen then restE seen es else y::restE seen es):=h
  cases hm:FG y.born seen with
  |true=>
   rw[hm]at h
   obtain⟨h1,h2⟩:=MA (es:=es) h
   exact⟨List.mem_cons_of_mem _ h1,h2⟩
  |false=>
   rw[hm]at h
   rcases List.mem_cons.1 h with h|h
   ·subst h
    exact⟨List.mem_cons_self,fun h1=>by rw[FR.2 h1]at hm;cases hm⟩
   ·obtain⟨h1,h2⟩:=MA (es:=es) h
    exact⟨List.mem_cons_of_mem _ h1,h2⟩
theorem NJ{seen:List Nat}{s:Nat}:∀ {cs:List (Nat×List Nat)} {c:Nat},s<c→restE (seen++[s]) (entsS c cs)=restE seen (entsS c cs)
 |[],_,_=>rfl
 |x::cs,c,h=>by
  show(bif FG c (seen++[s])then restE (seen++[s]) (entsS (c+1) cs)else _::restE (seen++[s]) (entsS (c+1) cs))=(bif FG c seen then restE seen (entsS (c+1) cs)else _::restE seen (entsS (c+1) cs))
  rw[NJ (cs:=cs) (by omega)]
  have:FG c (seen++[s])=FG c seen:=by
   rw[Bool.eq_iff_iff,FR,FR,List.mem_append,List.mem_singleton]
   exact⟨fun h1=>h1.elim (fun h=>h) fun h1=>by omega,.inl⟩
  rw[this]
theorem QZ{seen:List Nat}{i:Nat}:∀ {cs:List (Nat×List Nat)} {c:Nat},i<cs.length→c+i∉seen→(restE (seen++[c+i]) (entsS c cs)).length+1=(restE seen (entsS c cs)).length
 |[],_,h,_=>by cases h
 |x::cs,c,h,hs=>by
  show(bif FG c (seen++[c+i])then restE (seen++[c+i]) (entsS (c+1) cs)else _::restE (seen++[c+i]) (entsS (c+1) cs)).length+1=(bif FG c seen then restE seen (entsS (c+1) cs)else _::restE seen (entsS (c+1) cs)).length
  cases i with
  |zero=>
   simp only[Nat.add_zero]at hs ⊢
   have h1:FG c seen=false:=by
    cases e:FG c seen
    ·rfl
    ·exact absurd (FR.1 e) hs
   have h2:FG c (seen++[c])=true:=FR.2 (List.mem_append_right _ (List.mem_singleton.2 rfl))
   rw[h1,h2,NJ (cs:=cs) (Nat.lt_succ_self c)];rfl
  |succ i=>
   have h1:FG c (seen++[c+(i+1)])=FG c seen:=by
    rw[Bool.eq_iff_iff,FR,FR,List.mem_append,List.mem_singleton]
    exact⟨fun h1=>h1.elim (fun h=>h) fun h1=>by omega,.inl⟩
   have e:c+(i+1)=c+1+i:=by omega
   rw[e]at hs h1 ⊢
   have ih:=QZ (seen:=seen) (i:=i) (cs:=cs) (c:=c+1) (by simp only[List.length_cons]at h;omega) hs
   rw[h1]
   cases FG c seen with
   |true=>exact ih
   |false=>exact congrArg (· +1) ih
theorem Jh:∀ (es:List Ent),restE [] es=es
 |[]=>rfl
 |x::es=>by
  show x::restE [] es=_
  rw[Jh es]
end
noncomputable section
open Go
set_option maxRecDepth 100000
def fB:C:=(AE (AC 22) (Ft (AB 21))
(AE (AC 23) (Aa 0 (AB 22))
(AS (AB 23)
(AY 1 (AE (AC 24) (Gw (AB 21))
(AE (AC 25) (Aa 0 (AB 24))
(AE (AC 26) (Aa 1 (AB 24))
(AE (AC 6) (Bl 64 El)
(AE (AC 5) (AD (AB 25))
(cDo (Af 64 (AB 6) (AB 26))
(BW (AE (AC 28) (BM (AB 0))
(AE (AC 29) (AG 0 (AB 28))
(AE (AC 30) (AK (AB 29))
(AE (AC 32) (Ax 64 (AB 6))
(AE (AC 33) (BF 64 (AB 30) (AB 5))
(cDo (Ac .free (Af 64 (AB 33) (AB 32)))
AX))))))))))))))
(BK 0))))
def fW:C:=(Hc ⟨21,22,23,0,[22,23,24,25,26,6,5,27,28,29,30,31,32,33],[]⟩ (AE (AC 22) (Ft (AB 21))
(AE (AC 23) (Aa 0 (AB 22))
(AS (AB 23)
(AY 1 (AE (AC 24) (Gw (AB 21))
(AE (AC 25) (Aa 0 (AB 24))
(AE (AC 26) (Aa 1 (AB 24))
(AE (AC 6) (Bl 64 El)
(AE (AC 5) (AD (AB 25))
(cDo (Af 64 (AB 6) (AB 26))
(BW (AE (AC 28) (BM (AB 0))
(AE (AC 29) (AG 0 (AB 28))
(AE (AC 30) (AK (AB 29))
(AE (AC 32) (Ax 64 (AB 6))
(AE (AC 33) (BF 64 (AB 30) (AB 5))
(cDo (Ac .free (Af 64 (AB 33) (AB 32)))
AX))))))))))))))
(BK 0)))))
def fK:Walk:=⟨21,22,23,0,[22,23,24,25,26,6,5,27,28,29,30,31,32,33],[]⟩
theorem eM:fW=Hc fK fB:=rfl
def fE:C:=(AE (AC 35) (BM (AB 0))
(AE (AC 36) (AG 1 (AB 35))
(AE (AC 37) (AK (AB 36))
(cDo (EI (AB 37))
(AE (AC 2) (AD (kV (.int .i64 0)))
Ad)))))
theorem nk:fS=A2 (AY 0 fW) fE:=rfl
theorem jZ:d76=aM:=rfl
section
variable {F:CallF}{e:Env}{g g1:Hp}{it bd bm bc n k:Nat}{l:List Nat}{T:VT}{arm:Int}{dn:Bool}
theorem ST{q:Hp}{s el off:Nat}{vs:List Value}{T':VT}(W:q.Wf)(hT:q.bl.get bm=.cells T s el)(hset:B3 T off vs=some T')(ho:off+vs.length≤s)(h1:Bh vs=true)(h256:256≤bm)(hb:bm<q.next){K:Hp→R}:Cb ⟨bm,off,none⟩ vs q K=K (q.put bm (.cells T' s el)):=by
 have hr:rowOf q bm=.ok T s el:=by unfold rowOf;rw[hT];rfl
 unfold Cb
 simp only[hr,Nat.add_eq]
 rw[BQ,Al.2 ho,h1]
 simp only[cond_true,hset]
 rw[Di W h256 hb]
theorem PH(W1:g1.Wf)(s0:AB 0 e=pt bd)(s21:AB 21 e=pt it)
  (nx:∀ e,AB 21 e=pt it→Ft (AB 21) F e g=.ok (.tuple ⟨[.bool true,.int .i64 (k:Int),DL l]⟩) g1)
  (en:∀ e,AB 21 e=pt it→Gw (AB 21) F e g1=.ok (.tuple ⟨[.int .i64 (k:Int),DL l]⟩) g1)
  (D:g1.Row bd 0 (dkL bm bc n arm dn))(hT:g1.bl.get bm=.cells T (64 * n) 0){T':VT}(hs:B3 T (64 * k) (l.map bv)=some T')(hk:k<n)(hl:l.length=64)(h256:256≤bm)(hbm:bm<g1.next):
  ∃ e' g',fB F e g=.norm e' g'∧AB 0 e'=pt bd∧AB 21 e'=pt it∧g'.Wf∧g'.next=g1.next+1∧g'.bl.get bm=.cells T' (64 * n) 0∧(∀ i,i<g1.next→i≠bm→g'.bl.get i=g1.bl.get i)∧g'.low=min (min g1.low g1.next) bm∧g'.high=max (max g1.high g1.next) bm:=by
 have big:=W1.big
 have hll:(l.map bv).length=64:=by rw[List.length_map,hl]
 have al:=fun (F:CallF) (e:Env)=>B7 (F:=F) (e:=e) W1 (n:=64) (t:=El)
 have R1:=Hp.Row.alloc W1 Qz (by rw[List.length_map,List.length_replicate])
 have x1:g1.Ext (g1.push (.cells El 64 0)):=(Hp.Ext.refl W1).push _
 have n1:(g1.push (.cells El 64 0)).next=g1.next+1:=rfl
 have lo1:(g1.push (.cells El 64 0)).low=g1.low:=rfl
 have hi1:(g1.push (.cells El 64 0)).high=g1.high:=rfl
 generalize g1.push (.cells El 64 0)=g2 at al R1 x1 n1 lo1 hi1
 have hz:((List.replicate 64 0).map bv).length=64:=by rw[List.length_map,List.length_replicate]
 have st:storeR 64 (pt g1.next) (DL l) g2=.ok noRes (g2.wr g1.next 0 (l.map bv)):=R1.storeR (n:=64) (off:=0) x1.wf big (v:=DL l) hll (by show 0+(l.map bv).length≤_;omega) (C9 _)
 have x2:=R1.wr_ext x1 (Nat.le_refl _) (off:=0) (vs:=l.map bv) (by omega)
 have R2:=R1.wr_self x1.wf (off:=0) (vs:=l.map bv) (by omega)
 rw[H5 (by omega)]at R2
 have n2:(g2.wr g1.next 0 (l.map bv)).next=g1.next+1:=(R1.wr_next (by omega)).trans n1
 obtain⟨_,_,ew,_⟩:=R1.wr_is (off:=0) (vs:=l.map bv) (by omega)
 have lo2:(g2.wr g1.next 0 (l.map bv)).low=min g1.low g1.next:=by
  rw[ew]
  show B6 g2.low g1.next=_
  rw[BO,lo1]
 have hi2:(g2.wr g1.next 0 (l.map bv)).high=max g1.high g1.next:=by
  rw[ew]
  show Ce g2.high g1.next=_
  rw[B2,hi1]
 generalize g2.wr g1.next 0 (l.map bv)=g3 at st x2 R2 n2 lo2 hi2
 have D3:g3.marked.Row bd 0 (dkL bm bc n arm dn):=(D.ext W1 x2).same rfl
 obtain⟨l0,_,_,_⟩:=Cm D3
 have R3:g3.marked.Row g1.next 0 (l.map bv):=R2.same rfl
 have ld:loadN 64 ⟨g1.next,0,none⟩ g3.marked=.ok (DL l) g3.marked:=by
  rw[R3.loadN (by omega),List.drop_zero,List.take_of_length_le (by omega)];rfl
 have ix:idxSR 64 (.slice (some ⟨bm,0,none⟩) n n) (.int .i64 (k:Int)) g3.marked=.ok (.pointer (some ⟨bm,0+k * 64,none⟩)) g3.marked:=DJ hk
 rw[Nat.zero_add,Nat.mul_comm]at ix
 have hTq:g3.marked.quiet.bl.get bm=.cells T (64 * n) 0:=by
  show g3.bl.get bm=_
  rw[x2.get bm hbm];exact hT
 have sq:storeR 64 (.pointer (some ⟨bm,64 * k,none⟩)) (DL l) g3.marked.quiet=.ok noRes (g3.marked.quiet.put bm (.cells T' (64 * n) 0)):=by
  show(bif Nat.beq (BB (l.map bv)) 64 then Cb ⟨bm,64 * k,none⟩ (l.map bv) g3.marked.quiet DT else .no)=_
  rw[BQ,Ap.2 hll,cond_true,ST x2.wf.marked.quiet hTq hs (by omega) (C9 _) h256 (by show bm<g3.next;omega)];rfl
 have q1:∀ (F:CallF) (e:Env),AB 33 e=.pointer (some ⟨bm,64 * k,none⟩)→AB 32 e=DL l→Ac .free (Af 64 (AB 33) (AB 32)) F e g3.marked=.ok noRes (g3.marked.back (g3.marked.quiet.put bm (.cells T' (64 * n) 0))):=fun F e e1 e2=>by
  refine Bb ?_
  rw[Ao,e1,e2];exact sq
 have pg:=x2.wf.marked.quiet.put_get (b:=bm) (show bm<g3.next by omega) (.cells T' (64 * n) 0)
 have pw:=x2.wf.marked.quiet.put (b:=bm) (show bm<g3.next by omega) (.cells T' (64 * n) 0)
 have hlow:(g3.marked.back (g3.marked.quiet.put bm (.cells T' (64 * n) 0))).low=min (min g1.low g1.next) bm:=by
  show B6 g3.low (B6 g3.next bm)=_
  rw[BO,BO,lo2,n2];omega
 have hhigh:(g3.marked.back (g3.marked.quiet.put bm (.cells T' (64 * n) 0))).high=max (max g1.high g1.next) bm:=by
  show Ce g3.high (Ce 0 bm)=_
  rw[B2,B2,hi2];omega
 have hrun:∃ e',fB F e g=.norm e' (g3.marked.back (g3.marked.quiet.put bm (.cells T' (64 * n) 0)))∧AB 0 e'=pt bd∧AB 21 e'=pt it:=by
  unfold fB
  have nx':=fun e he=>nx e he
  simp only[sT,Nat.reduceLT,Nat.reduceEqDiff,reduceIte,nx e s21,BV,Bj,Bo,C1,en,s21,al,Ao,st,BA,Ay,s0,Aq,AJ,AQ,AP,AU,l0,Aw,Av,ld,A8,ix,q1]
  exact⟨_,rfl,by simp[AH,s0,s21]⟩
 obtain⟨e',r1,r2,r3⟩:=hrun
 refine⟨e',_,r1,r2,r3,⟨pw.big,pw.has,pw.fresh⟩,by show g3.next=_;exact n2,?_,fun i hi hib=>?_,hlow,hhigh⟩
 ·show(g3.marked.quiet.put bm _).bl.get bm=_
  rw[pg,if_pos rfl]
 ·show(g3.marked.quiet.put bm _).bl.get i=_
  rw[pg,if_neg hib]
  exact x2.get i hi
end
end
noncomputable section
open Go
set_option maxRecDepth 100000
section
variable {F:CallF}{e:Env}{h g g1:Hp}{it bd bm bc n k c0:Nat}{l seen:List Nat}{T T0:VT}{cs:List (Nat×List Nat)}{arm:Int}{dn:Bool}
structure FlB (h:Hp)(it bd bm bc n c0:Nat)(cs:List (Nat×List Nat))(arm:Int)(dn:Bool)(T0:VT):Prop where
 wf:h.Wf
 nx:h.next=it+1
 itr:h.bl.get it=.iter (some bc) (c0+cs.length) [] (c0+cs.length)
 disk:h.Row bd 0 (dkL bm bc n arm dn)
 med:h.bl.get bm=.cells T0 (64 * n) 0
 has:∀ j,j<64 * n→T0.has j
 map:h.bl.get bc=.map (entsS c0 cs) (c0+cs.length)
 lt:bd<it∧bm<it∧bc<it
 ne:bd≠bm∧bc≠bm
 big:256≤bm∧256≤it
 sec:SecOk n cs
 key:KeyU cs
structure FlI (h:Hp)(it bm bc n c0:Nat)(cs:List (Nat×List Nat))(T0:VT)(seen:List Nat)(g:Hp):Prop where
 wf:g.Wf
 nx:g.next=h.next+seen.length
 lh:(seen=[]∧g.low=h.next∧g.high=0)∨(seen≠[]∧g.low=bm∧g.high+1=h.next+seen.length)
 itr:g.bl.get it=.iter (some bc) (c0+cs.length) seen (c0+cs.length)
 old:∀ i,i<h.next→i≠it→i≠bm→g.bl.get i=h.bl.get i
 med:∃ (T:VT) (done:List (Nat×List Nat)),g.bl.get bm=.cells T (64 * n) 0∧LaidT T0 done T∧∀ y,y∈done↔∃ i:Nat,cs[i]? =some y∧c0+i∈seen
 cnt:seen.length+(restE seen (entsS c0 cs)).length=cs.length
theorem Lb{s:Nat}:∀ l:List Nat,Pc (l++[s])=some s
 |[]=>rfl
 |[x]=>rfl
 |x::y::l=>Lb (y::l)
theorem QS(s:Nat):∀ l:List Nat,Ip s l=l++[s]
 |[]=>rfl
 |x::l=>congrArg (x:: ·) (QS s l)
theorem MB{h g:Hp}{b el:Nat}{L:List Value}(r:h.Row b el L)(hb:g.bl.get b=h.bl.get b):g.Row b el L:=by
 obtain⟨c,hc,hl⟩:=r
 exact⟨c,hb.trans hc,hl⟩
theorem Xu{g:Hp}{it:Nat}{v:R}(hv:Fq ⟨it,0,none⟩ g=v){e:Env}(he:AB 21 e=pt it):Ft (AB 21) F e g=v:=by
 show(match DR (AB 21 e)with|.ok a=>bif Nat.beq a.off 0 then Fq a g else .no|.no=>.no)=_
 rw[he];exact hv
theorem eK{g:Hp}{it:Nat}{v:R}(hv:JP ⟨it,0,none⟩ g=v){e:Env}(he:AB 21 e=pt it):Gw (AB 21) F e g=v:=by
 show(match DR (AB 21 e)with|.ok a=>bif Nat.beq a.off 0 then JP a g else .no|.no=>.no)=_
 rw[he];exact hv
theorem O5{g:Hp}{it i:Nat}{y:Nat×List Nat}(hi:cs[i]? =some y){s0:Nat}(hit:g.bl.get it=.iter (some bc) s0 (seen++[c0+i]) (c0+cs.length))(hm:g.bl.get bc=.map (entsS c0 cs) (c0+cs.length)):JP ⟨it,0,none⟩ g=.ok (.tuple ⟨[.int .i64 (y.1:Int),DL y.2]⟩) g:=by
 have hib:Ds (g.bl.get it)=.ok (some bc) s0 (seen++[c0+i]) (c0+cs.length):=by rw[hit];rfl
 have he:Ba g bc=.ok (entsS c0 cs) (c0+cs.length):=by unfold Ba;rw[hm];rfl
 unfold JP
 simp only[hib,Lb]
 unfold HG
 simp only[he,Nat.beq_refl,cond_true,HH hi]
theorem St:AB 0 (Cd e fK.ws)=AB 0 e∧AB 21 (Cd e fK.ws)=AB 21 e:=by
 constructor
 ·simp[fK,Cd,AH]
 ·simp[fK,Cd,AH]
theorem aq(B:FlB h it bd bm bc n c0 cs arm dn T0)(I:FlI h it bm bc n c0 cs T0 seen g)(s0:AB 0 e=pt bd)(s21:AB 21 e=pt it){x:Ent}(hx:x∈restE seen (entsS c0 cs)):
  ∃ h1,NR fK fB F e it bc (c0+cs.length) seen g x=some h1∧FlI h it bm bc n c0 cs T0 (seen++[x.born]) h1:=by
 obtain⟨hx1,hns⟩:=MA hx
 obtain⟨i,y,hi,rfl⟩:=O6 hx1
 have hns:c0+i∉seen:=hns
 obtain⟨y1,y2,y3⟩:=B.sec y (List.mem_of_getElem? hi)
 have hil:i<cs.length:=(List.getElem?_eq_some_iff.1 hi).1
 obtain⟨T,done,t1,t2,t3⟩:=I.med
 have hnd:∀ z∈done,z.1≠y.1:=fun z hz he=>by
  obtain⟨j,j1,j2⟩:=(t3 z).1 hz
  have:=B.key j i z y j1 hi he
  rw[this]at j2;exact hns j2
 obtain⟨T',hs,ht'⟩:=t2.step B.has (k:=y.1) (l:=y.2) (by omega) y2 hnd
 have hnx:=I.nx
 have hbn:=B.nx
 have hlt:=B.lt
 have hne:=B.ne
 have hbig:=B.big
 have hitn:it<g.next:=by omega
 have W0:=I.wf.put hitn (.pick bc (c0+i) (c0+cs.length) (some seen))
 have P0:=I.wf.put_get hitn (.pick bc (c0+i) (c0+cs.length) (some seen))
 have e1:g.bl.set it (.pick bc (c0+i) (c0+cs.length) (some seen))=some (g.bl.lay it (.pick bc (c0+i) (c0+cs.length) (some seen))):=BT.lay_is fun j hj=>I.wf.has j (by omega)
 have lo0:(g.put it (.pick bc (c0+i) (c0+cs.length) (some seen))).low=min g.low it:=BO _ _
 have hi0:(g.put it (.pick bc (c0+i) (c0+cs.length) (some seen))).high=max g.high it:=B2 _ _
 have n0:(g.put it (.pick bc (c0+i) (c0+cs.length) (some seen))).next=g.next:=rfl
 have eg:(⟨g.next,B6 g.low it,Ce g.high it,g.mark,g.bl.lay it (.pick bc (c0+i) (c0+cs.length) (some seen))⟩:Hp)=g.put it (.pick bc (c0+i) (c0+cs.length) (some seen)):=rfl
 generalize g.put it (.pick bc (c0+i) (c0+cs.length) (some seen))=g0 at W0 P0 lo0 hi0 n0 eg
 have e2:g0.bl.set it (.iter (some bc) (c0+cs.length) (seen++[c0+i]) (c0+cs.length))=some (g0.bl.lay it (.iter (some bc) (c0+cs.length) (seen++[c0+i]) (c0+cs.length))):=BT.lay_is fun j hj=>W0.has j (by omega)
 have G2:∀ j,(g0.bl.lay it (.iter (some bc) (c0+cs.length) (seen++[c0+i]) (c0+cs.length))).get j=if j=it then .iter (some bc) (c0+cs.length) (seen++[c0+i]) (c0+cs.length)else g0.bl.get j:=BT.lay_get fun j hj=>W0.has j (by omega)
 have W2:(⟨g0.next,g0.low,g0.high,g0.mark,g0.bl.lay it (.iter (some bc) (c0+cs.length) (seen++[c0+i]) (c0+cs.length))⟩:Hp).Wf:=⟨W0.big,fun j hj=>BT.lay_has (fun j hj=>W0.has j (by omega)) j (.inr (W0.has j hj)),fun j hj=>by
  have hj:g0.next≤j:=hj
  show(g0.bl.lay _ _).get j=_
  rw[G2,if_neg (by omega)];exact W0.fresh j hj⟩
 have hmap0:g0.bl.get bc=.map (entsS c0 cs) (c0+cs.length):=by rw[P0,if_neg (by omega),I.old bc (by omega) (by omega) hne.2];exact B.map
 have nxv:Fq ⟨it,0,none⟩ g0=.ok (.tuple ⟨[.bool true,.int .i64 (y.1:Int),DL y.2]⟩) ⟨g0.next,g0.low,g0.high,g0.mark,g0.bl.lay it (.iter (some bc) (c0+cs.length) (seen++[c0+i]) (c0+cs.length))⟩:=by
  have hib:Ds (g0.bl.get it)=.pick bc (c0+i) (c0+cs.length) (some seen):=by rw[P0,if_pos rfl];rfl
  have he:Ba g0 bc=.ok (entsS c0 cs) (c0+cs.length):=by unfold Ba;rw[hmap0];rfl
  have hp:Lz bc (c0+i) (c0+cs.length) (some seen)=.iter (some bc) (c0+cs.length) (seen++[c0+i]) (c0+cs.length):=by unfold Lz;simp only[QS]
  unfold Fq
  simp only[hib,he,HH hi,hp,e2]
 have lo2:(⟨g0.next,g0.low,g0.high,g0.mark,g0.bl.lay it (.iter (some bc) (c0+cs.length) (seen++[c0+i]) (c0+cs.length))⟩:Hp).low=min g.low it:=lo0
 have hi2:(⟨g0.next,g0.low,g0.high,g0.mark,g0.bl.lay it (.iter (some bc) (c0+cs.length) (seen++[c0+i]) (c0+cs.length))⟩:Hp).high=max g.high it:=hi0
 have n2:(⟨g0.next,g0.low,g0.high,g0.mark,g0.bl.lay it (.iter (some bc) (c0+cs.length) (seen++[c0+i]) (c0+cs.length))⟩:Hp).next=g.next:=n0
 have G2:∀ j,(⟨g0.next,g0.low,g0.high,g0.mark,g0.bl.lay it (.iter (some bc) (c0+cs.length) (seen++[c0+i]) (c0+cs.length))⟩:Hp).bl.get j=if j=it then .iter (some bc) (c0+cs.length) (seen++[c0+i]) (c0+cs.length)else g0.bl.get j:=G2
 generalize (⟨g0.next,g0.low,g0.high,g0.mark,g0.bl.lay it (.iter (some bc) (c0+cs.length) (seen++[c0+i]) (c0+cs.length))⟩:Hp)=g2 at W2 nxv lo2 hi2 n2 G2
 have old2:∀ j,j≠it→g2.bl.get j=g.bl.get j:=fun j hj=>by rw[G2,if_neg hj,P0,if_neg hj]
 have env:=O5 (g:=g2) hi (G2 it |>.trans (if_pos rfl)) (by rw[G2,if_neg (by omega)];exact hmap0)
 obtain⟨c1,c2⟩:=St (e:=e)
 obtain⟨e',g',r1,r2,r3,r4,r5,r6,r7,r8,r9⟩:=PH (F:=F) (e:=Cd e fK.ws) (g:=g0) (g1:=g2) (it:=it) (bd:=bd) (bm:=bm) (bc:=bc) (n:=n) (k:=y.1) (l:=y.2) (T:=T) (arm:=arm) (dn:=dn) W2 (c1.trans s0) (c2.trans s21)
  (fun e he=>Xu nxv he) (fun e he=>eK env he) (MB B.disk (by rw[old2 bd (by omega),I.old bd (by omega) (by omega) hne.1])) (by rw[old2 bm (by omega)];exact t1) hs y1 y2 hbig.1 (by omega)
 refine⟨g',?_,⟨r4,?_,.inr ⟨by simp,?_,?_⟩,?_,fun j h1 h2 h3=>?_,⟨T',done++[(y.1,y.2)],r6,ht',fun z=>?_⟩,?_⟩⟩
 ·unfold NR
  show(match g.bl.set it (.pick bc (c0+i) (c0+cs.length) (some seen))with|some bl=>(match fB F (Cd e fK.ws) {next:=g.next,low:=B6 g.low it,high:=Ce g.high it,mark:=g.mark,bl:=bl}with|.norm _ h1=>some h1|_=>none)|none=>none)=_
  rw[e1]
  simp only[eg,r1]
 ·rw[r5,n2,hnx,List.length_append];rfl
 ·rw[r8,lo2,n2]
  rcases I.lh with ⟨_,h2,_⟩|⟨_,h2,_⟩<;>omega
 ·rw[r9,hi2,n2,List.length_append]
  show _=h.next+(seen.length+1)
  rcases I.lh with ⟨_,_,h3⟩|⟨_,_,h3⟩<;>omega
 ·rw[r7 it (by omega) (by omega),G2,if_pos rfl]
 ·rw[r7 j (by omega) h3,old2 j h2];exact I.old j h1 h2 h3
 ·constructor
  ·intro hz
   rcases List.mem_append.1 hz with hz|hz
   ·obtain⟨j,j1,j2⟩:=(t3 z).1 hz
    exact⟨j,j1,List.mem_append_left _ j2⟩
   ·obtain rfl:=List.mem_singleton.1 hz
    exact⟨i,hi,List.mem_append_right _ (List.mem_singleton.2 rfl)⟩
  ·rintro⟨j,j1,j2⟩
   rcases List.mem_append.1 j2 with j2|j2
   ·exact List.mem_append_left _ ((t3 z).2 ⟨j,j1,j2⟩)
   ·have:c0+j=c0+i:=List.mem_singleton.1 j2
    have:j=i:=by omega
    rw[this,hi]at j1
    cases j1
    exact List.mem_append_right _ (List.mem_singleton.2 rfl)
 ·have:=QZ (seen:=seen) (cs:=cs) (c:=c0) hil hns
  have h2:=I.cnt
  show(seen++[c0+i]).length+(restE (seen++[c0+i]) (entsS c0 cs)).length=_
  rw[List.length_append,List.length_singleton]
  omega
def FlR(h:Hp)(it bm n:Nat)(cs:List (Nat×List Nat))(Tz:VT)(r:Hp):Prop:=r.next=h.next+cs.length∧r.low=bm∧r.high+1=h.next+cs.length∧∀ i,r.bl.get i=if i=it∨h.next≤i then .dead else if i=bm then .cells Tz (64 * n) 0 else h.bl.get i
theorem S7{r:Hp}{Tz:VT}(B:FlB h it bd bm bc n c0 cs arm dn T0)(hz:LaidT T0 cs Tz)(hR:FlR h it bm n cs Tz r)(h0:cs≠[])(s0:AB 0 e=pt bd)(s21:AB 21 e=pt it):∀ (m:Nat) (seen:List Nat) (g:Hp) (tr:Rds),FlI h it bm bc n c0 cs T0 seen g→(restE seen (entsS c0 cs)).length<m→Ju fK fB F e it (Uo it h.next r) m g tr=true
 |0,_,_,_,_,hm=>absurd hm (Nat.not_lt_zero _)
 |m+1,seen,g,tr,I,hm=>by
  have hib:Ds (g.bl.get it)=.ok (some bc) (c0+cs.length) seen (c0+cs.length):=by rw[I.itr];rfl
  have hlt:=B.lt
  have hbn:=B.nx
  have hnx:=I.nx
  have hmap:g.bl.get bc=.map (entsS c0 cs) (c0+cs.length):=by rw[I.old bc (by omega) (by omega) B.ne.2];exact B.map
  have he:Ba g bc=.ok (entsS c0 cs) (c0+cs.length):=by unfold Ba;rw[hmap];rfl
  unfold Ju Ms
  simp only[hib,he,Nat.beq_refl,cond_true,J4 (Nat.zero_le c0) (Nat.le_refl (c0+cs.length))]
  cases hr:restE seen (entsS c0 cs)with
  |nil=>
   simp only
   have hc:=I.cnt
   rw[hr]at hc
   have hc:seen.length=cs.length:=hc
   have hlen:0<cs.length:=by
    cases cs with
    |nil=>exact absurd rfl h0
    |cons _ _=>exact Nat.succ_pos _
   obtain⟨T,done,t1,t2,t3⟩:=I.med
   have hT:T=Tz:=t2.uniq hz fun y=>by
    rw[t3 y]
    constructor
    ·rintro⟨i,hi,_⟩;exact List.mem_of_getElem? hi
    ·intro hy
     obtain⟨i,hi⟩:=List.mem_iff_getElem?.1 hy
     refine⟨i,hi,?_⟩
     apply Classical.byContradiction
     intro hn
     have h1:(⟨.int .i64 (y.1:Int),DL y.2,c0+i⟩:Ent)∈entsS c0 cs:=(JS (HH hi)).1
     have:=L9 h1 hn
     rw[hr]at this;cases this
   obtain⟨q1,q2,q3,q4⟩:=hR
   rcases I.lh with ⟨h1,_,_⟩|⟨_,h2,h3⟩
   ·rw[h1]at hc
    have:0=cs.length:=hc
    omega
   refine Ng.2 ⟨by rw[hnx,q1,hc],by rw[q2,BO,h2];omega,by rw[B2];omega,fun i=>?_⟩
   rw[q4]
   by_cases c1:i=it∨h.next≤i
   ·rw[if_pos c1,if_pos c1]
   ·rw[if_neg c1,if_neg c1]
    by_cases c2:i=bm
    ·rw[if_pos c2,c2,t1,hT]
    ·rw[if_neg c2,I.old i (by omega) (by omega) c2]
  |cons y l=>
   simp only
   rw[hr]at hm
   refine Of fun x hx=>?_
   rw[← hr]at hx
   obtain⟨h1,e1,I1⟩:=aq (F:=F) (e:=e) B I s0 s21 hx
   rw[e1]
   refine S7 B hz hR h0 s0 s21 m _ h1 _ I1 ?_
   have c1:=I1.cnt
   have c2:=I.cnt
   rw[hr]at c2
   rw[List.length_append,List.length_singleton]at c1
   simp only[List.length_cons]at c2 hm
   omega
end
end
noncomputable section
open Go
set_option maxRecDepth 100000
section
variable {F:CallF}{e:Env}{h g g1:Hp}{it bd bm bc n k c0:Nat}{l seen:List Nat}{T T0:VT}{M:List Nat}{cs:List (Nat×List Nat)}{arm:Int}{dn:Bool}
def J3:Nat→Hp→Hp
 |0,h=>h
 |k+1,h=>J3 k (h.push .dead)
theorem QR:∀ (k:Nat) {h:Hp} (W:h.Wf),(J3 k h).Wf∧(J3 k h).next=h.next+k∧∀ i,(J3 k h).bl.get i=h.bl.get i
 |0,h,W=>⟨W,rfl,fun _=>rfl⟩
 |k+1,h,W=>by
  obtain⟨a,b,c⟩:=QR k (W.push .dead)
  refine⟨a,?_,fun i=>?_⟩
  ·show(J3 k (h.push .dead)).next=_
   rw[b]
   show h.next+1+k=_
   omega
  ·show(J3 k (h.push .dead)).bl.get i=_
   rw[c,W.push_get]
   by_cases hi:i=h.next
   ·rw[if_pos hi,W.fresh i (by omega)]
   ·rw[if_neg hi]
theorem jm(B:FlB h it bd bm bc n c0 cs arm dn T0)(h0:cs≠[])(Tz:VT):∃ r,FlR h it bm n cs Tz r∧∀ i,i<r.next→r.bl.has i:=by
 have hbn:=B.nx
 have hlt:=B.lt
 have W1:=B.wf.put (b:=it) (by omega) .dead
 have P1:=B.wf.put_get (b:=it) (by omega) .dead
 have W2:=W1.put (b:=bm) (show bm<h.next by omega) (.cells Tz (64 * n) 0)
 have P2:=W1.put_get (b:=bm) (show bm<h.next by omega) (.cells Tz (64 * n) 0)
 obtain⟨a,b,c⟩:=QR cs.length W2
 have hlen:0<cs.length:=by
  cases cs with
  |nil=>exact absurd rfl h0
  |cons _ _=>exact Nat.succ_pos _
 refine⟨⟨h.next+cs.length,bm,h.next+cs.length - 1,0,(J3 cs.length ((h.put it .dead).put bm (.cells Tz (64 * n) 0))).bl⟩,⟨rfl,rfl,by show h.next+cs.length - 1+1=_;omega,fun i=>?_⟩,fun i hi=>a.has i (by rw[b];exact hi)⟩
 show(J3 cs.length ((h.put it .dead).put bm (.cells Tz (64 * n) 0))).bl.get i=_
 rw[c,P2,P1]
 by_cases c1:i=it
 ·rw[if_neg (by omega),if_pos c1,if_pos (.inl c1)]
 ·by_cases c2:h.next≤i
  ·rw[if_neg (by omega),if_neg c1,if_pos (.inr c2)]
   exact B.wf.fresh i c2
  ·rw[if_neg (by omega:¬ (i=it∨h.next≤i)),if_neg c1]
theorem an(B:FlB h it bd bm bc n c0 cs arm dn T0){y z:Nat×List Nat}{rs:List (Nat×List Nat)}(hcs:cs=y::z::rs)(h60:cs.length≤60)(s0:AB 0 e=pt bd)(s21:AB 21 e=pt it):
  ∃ e' h',fW F e h=.exit 0 e' h'∧AB 0 e'=pt bd∧h'.Wf∧h.next≤h'.next∧(∀ i,i<h.next→i≠it→i≠bm→h'.bl.get i=h.bl.get i)∧∃ T,h'.bl.get bm=.cells T (64 * n) 0∧LaidT T0 cs T∧∀ L,L≤h.low→L≤it→L≤bm→L≤h'.low:=by
 have hbn:=B.nx
 have hlt:=B.lt
 have hbig:=B.big
 have h0:cs≠[]:=by rw[hcs];exact fun h=>by cases h
 obtain⟨Tz,hz⟩:=LaidT.all B.has cs [] T0 (.nil T0) B.sec B.key fun y _ z hz=>by cases hz
 have hz:LaidT T0 cs Tz:=hz
 obtain⟨r,hR,hhas⟩:=jm B h0 Tz
 have W1:(⟨h.next,h.next,0,h.mark,h.bl⟩:Hp).Wf:=⟨B.wf.big,B.wf.has,B.wf.fresh⟩
 have I0:FlI h it bm bc n c0 cs T0 [] ⟨h.next,h.next,0,h.mark,h.bl⟩:=⟨W1,rfl,.inl ⟨rfl,rfl,rfl⟩,B.itr,fun _ _ _ _=>rfl,⟨T0,[],B.med,.nil T0,fun y=>⟨fun h=>(by cases h),fun⟨_,_,h⟩=>by cases h⟩⟩,by rw[Jh,LH];exact Nat.zero_add _⟩
 have S:NW fK fB F e h it r:=⟨hhas,S7 B hz hR h0 s0 s21 64 [] _ [] I0 (by rw[Jh,LH];omega)⟩
 obtain⟨q1,q2,q3,q4⟩:=hR
 obtain⟨h',a1,a2,a3,a4,_,a6⟩:=RE B.wf S (by omega)
 have hib:Ds (h.bl.get it)=.ok (some bc) (c0+cs.length) [] (c0+cs.length):=by rw[B.itr];rfl
 have he:Ba h bc=.ok (entsS c0 cs) (c0+cs.length):=by unfold Ba;rw[B.map];rfl
 refine⟨Env.set 23 (.bool false) (Cd e fK.ws),h',?_,?_,a2,by rw[a3];omega,fun i h1 h2 h3=>?_,Tz,?_,hz,fun L h1 _ h3=>by rw[a6];omega⟩
 ·rw[eM]
  unfold Hc
  have s21':AB fK.it e=.pointer (some ⟨it,0,none⟩):=s21
  have es:entsS c0 cs=⟨.int .i64 (y.1:Int),DL y.2,c0⟩::⟨.int .i64 (z.1:Int),DL z.2,c0+1⟩::entsS (c0+1+1) rs:=by rw[hcs];rfl
  rw[es]at he
  have b2:Nat.ble 256 it=true:=Al.2 hbig.2
  simp only[s21',hib,he,Nat.beq_refl,cond_true,b2]
  exact a1
 ·obtain⟨c1,_⟩:=St (e:=e)
  rw[AH (by decide) (by decide),if_neg (by decide),c1];exact s0
 ·rw[a4 i h1 h2,q4,if_neg (by omega),if_neg h3]
 ·rw[a4 bm (by omega) (by omega),q4,if_neg (by omega),if_pos rfl]
theorem jl(B:FlB h it bd bm bc n c0 cs arm dn T0){y:Nat×List Nat}(hcs:cs=[y])(s0:AB 0 e=pt bd)(s21:AB 21 e=pt it):
  ∃ e' h',fW F e h=.exit 0 e' h'∧AB 0 e'=pt bd∧h'.Wf∧h.next≤h'.next∧(∀ i,i<h.next→i≠it→i≠bm→h'.bl.get i=h.bl.get i)∧∃ T,h'.bl.get bm=.cells T (64 * n) 0∧LaidT T0 cs T∧∀ L,L≤h.low→L≤it→L≤bm→L≤h'.low:=by
 have hbn:=B.nx
 have hlt:=B.lt
 have hbig:=B.big
 have hib:Ds (h.bl.get it)=.ok (some bc) (c0+cs.length) [] (c0+cs.length):=by rw[B.itr];rfl
 have he:Ba h bc=.ok (entsS c0 cs) (c0+cs.length):=by unfold Ba;rw[B.map];rfl
 have hi:cs[0]? =some y:=by rw[hcs];rfl
 obtain⟨y1,y2,y3⟩:=B.sec y (List.mem_of_getElem? hi)
 obtain⟨T',hs,ht'⟩:=(LaidT.nil T0).step B.has (k:=y.1) (l:=y.2) (by omega) y2 fun z hz=>by cases hz
 have es:entsS c0 cs=[⟨.int .i64 (y.1:Int),DL y.2,c0⟩]:=by rw[hcs];rfl
 have hl1:cs.length=1:=by rw[hcs];rfl
 have hlf:J1 (c0+cs.length) [] [⟨.int .i64 (y.1:Int),DL y.2,c0⟩]=some [⟨.int .i64 (y.1:Int),DL y.2,c0⟩]:=by
  show(bif Nat.blt c0 (c0+cs.length)then some [_]else none)=_
  rw[BH.2 (by omega)];rfl
 have W2:=B.wf.put (b:=it) (by omega) (.iter (some bc) (c0+cs.length) [c0] (c0+cs.length))
 have P2:=B.wf.put_get (b:=it) (by omega) (.iter (some bc) (c0+cs.length) [c0] (c0+cs.length))
 have nxv:Fq ⟨it,0,none⟩ h=.ok (.tuple ⟨[.bool true,.int .i64 (y.1:Int),DL y.2]⟩) (h.put it (.iter (some bc) (c0+cs.length) [c0] (c0+cs.length))):=by
  unfold Fq
  simp only[hib,he,es,hlf,cond_false]
  have:Ip c0 []=[c0]:=rfl
  rw[this,Di B.wf hbig.2 (by omega)]
 have n2:(h.put it (.iter (some bc) (c0+cs.length) [c0] (c0+cs.length))).next=h.next:=rfl
 have lo2:(h.put it (.iter (some bc) (c0+cs.length) [c0] (c0+cs.length))).low=min h.low it:=BO _ _
 generalize h.put it (.iter (some bc) (c0+cs.length) [c0] (c0+cs.length))=g2 at W2 P2 nxv n2 lo2
 have old2:∀ j,j≠it→g2.bl.get j=h.bl.get j:=fun j hj=>by rw[P2,if_neg hj]
 have env:=O5 (g:=g2) (seen:=[]) (c0:=c0) (i:=0) hi (by rw[P2,if_pos rfl];rfl) (by rw[old2 bc (by omega)];exact B.map)
 obtain⟨e',g',r1,r2,r3,r4,r5,r6,r7,r8,r9⟩:=PH (F:=F) (e:=e) (g:=h) (g1:=g2) (it:=it) (bd:=bd) (bm:=bm) (bc:=bc) (n:=n) (k:=y.1) (l:=y.2) (T:=T0) (arm:=arm) (dn:=dn) W2 s0 s21
  (fun e he=>Xu nxv he) (fun e he=>eK env he) (MB B.disk (old2 bd (by omega))) ((old2 bm (by omega)).trans B.med) hs y1 y2 hbig.1 (by omega)
 have old3:∀ j,j<h.next→j≠it→j≠bm→g'.bl.get j=h.bl.get j:=fun j h1 h2 h3=>by rw[r7 j (by omega) h3,old2 j h2]
 have nx2:Fq ⟨it,0,none⟩ g'=.ok (.tuple ⟨[.bool false]⟩) g':=by
  have hib:Ds (g'.bl.get it)=.ok (some bc) (c0+cs.length) [c0] (c0+cs.length):=by rw[r7 it (by omega) (by omega),P2,if_pos rfl];rfl
  have he:Ba g' bc=.ok (entsS c0 cs) (c0+cs.length):=by
   unfold Ba
   rw[old3 bc (by omega) (by omega) B.ne.2,B.map];rfl
  have hlf:J1 (c0+cs.length) [c0] [⟨.int .i64 (y.1:Int),DL y.2,c0⟩]=some []:=by
   show(bif (bif Nat.beq c0 c0 then true else false)then some []else _)=_
   rw[Nat.beq_refl];rfl
  have hyg:Ew (c0+cs.length) [⟨.int .i64 (y.1:Int),DL y.2,c0⟩]=false:=by
   show(bif Nat.ble (c0+cs.length) c0 then true else false)=false
   have:Nat.ble (c0+cs.length) c0=false:=by
    cases hb:Nat.ble (c0+cs.length) c0
    ·rfl
    ·have:=Al.1 hb;omega
   rw[this];rfl
  unfold Fq
  simp only[hib,he,es,hlf,hyg,cond_false];rfl
 have hb2:∃ e2,fB F e' g'=.exit 0 e2 g'∧AB 0 e2=pt bd:=by
  have nn:=Xu (F:=F) nx2 r3
  unfold fB
  simp only[sT,Nat.reduceLT,Nat.reduceEqDiff,reduceIte,nn,BV,Bj]
  exact⟨_,rfl,by simp[AH,r2]⟩
 obtain⟨e2,b1,b2⟩:=hb2
 refine⟨e2,g',?_,b2,r4,by omega,old3,T',r6,by rw[hcs];exact ht',fun L h1 h2 h3=>by rw[r8];omega⟩
 rw[eM]
 unfold Hc
 have s21':AB fK.it e=.pointer (some ⟨it,0,none⟩):=s21
 rw[es]at he
 simp only[s21',hib,he]
 refine Be (I:=fun i e1 h1=>(i=0∧e1=e∧h1=h)∨(i=1∧e1=e'∧h1=g')) (Q:=fun x=>x=.exit 0 e2 g') 1 (by omega) (fun i e1 h1 hI=>?_) (.inl ⟨rfl,rfl,rfl⟩)
 rcases hI with ⟨rfl,rfl,rfl⟩|⟨rfl,rfl,rfl⟩
 ·exact .inl ⟨by omega,e',g',r1,.inr ⟨rfl,rfl,rfl⟩⟩
 ·right
  rw[b1];exact⟨rfl,rfl⟩
theorem XM{m:Nat}(W:h.Wf)(d:Dk h bd bm bc n M c0 cs arm false){k:Nat}(ha:Bu arm (k+1))(hK:KeyU cs)(hc:SecOk n cs)(h0:cs≠[])(h60:cs.length≤60):
  ∃ h',call AF (m+3) 76 [pt bd] h=.ok (.int .i64 0) h'∧Fx (fun b=>b=bd∨b=bm∨b=bc) h h'∧Dk h' bd bm bc n (FQ M cs) (c0+cs.length) [] (FZ arm) false:=by
 have k1:=MH (m:=m) d (i:=0) (by have:=d.n1;omega)
 have k1:call AF (m+2) 95 [pt bd,.int .i64 0] h=.ok (.int .i64 0) h:=k1
 obtain⟨h1,k2,f1,d1⟩:=Tm (m:=m+1) W d ha
 have c1:iNe 0 0=false:=CT rfl
 obtain⟨_,l1,_,_⟩:=Cm d1.disk
 have hlt:=d1.lt f1.wf
 have rg:∀ (F:CallF) (e:Env),AB 20 e=.map (some bc)→Jc (AB 20) F e h1=.ok (pt h1.next) (h1.push (.iter (some bc) (c0+cs.length) [] (c0+cs.length))):=fun F e he=>by
  have hen:Ba h1 bc=.ok (entsS c0 cs) (c0+cs.length):=by unfold Ba;rw[d1.map];rfl
  unfold Jc
  rw[he]
  simp only[hen]
  rw[Ci f1.wf];rfl
 have W2:=f1.wf.push (.iter (some bc) (c0+cs.length) [] (c0+cs.length))
 have P2:=f1.wf.push_get (.iter (some bc) (c0+cs.length) [] (c0+cs.length))
 have x2:h1.Ext (h1.push (.iter (some bc) (c0+cs.length) [] (c0+cs.length))):=(Hp.Ext.refl f1.wf).push _
 have n2:(h1.push (.iter (some bc) (c0+cs.length) [] (c0+cs.length))).next=h1.next+1:=rfl
 generalize h1.push (.iter (some bc) (c0+cs.length) [] (c0+cs.length))=h2 at rg W2 P2 x2 n2
 have d2:=d1.ext f1.wf x2
 obtain⟨T0,t1,t2⟩:=d2.med
 rw[List.length_map,d2.len]at t1
 have B:FlB h2 h1.next bd bm bc n c0 cs (FZ arm) false T0:=⟨W2,n2,by rw[P2,if_pos rfl],d2.disk,t1,fun j hj=>(t2 j (by rw[List.length_map,d2.len];exact hj)).1,d2.map,hlt,⟨d.bdm,fun h=>d.bmc h.symm⟩,⟨d.big.2.1,f1.wf.big⟩,hc,hK⟩
 have lM:∀ (F:CallF) (e:Env),AB 0 e=pt bd→AB 21 e=pt h1.next→∃ e' h',fW F e h2=.exit 0 e' h'∧AB 0 e'=pt bd∧h'.Wf∧h2.next≤h'.next∧(∀ i,i<h2.next→i≠h1.next→i≠bm→h'.bl.get i=h2.bl.get i)∧∃ T,h'.bl.get bm=.cells T (64 * n) 0∧LaidT T0 cs T∧∀ L,L≤h2.low→L≤h1.next→L≤bm→L≤h'.low:=fun F e e1 e2=>by
  cases cs with
  |nil=>exact absurd rfl h0
  |cons y l=>
   cases l with
   |nil=>exact jl B rfl e1 e2
   |cons z l=>exact an B rfl h60 e1 e2
 have pre:∃ e1,aM (call AF (m+2)) (AV e0 0 [pt bd]) h=fS (call AF (m+2)) e1 h2∧AB 0 e1=pt bd∧AB 21 e1=pt h1.next:=by
  unfold aM
  simp only[iN,Nat.reduceAdd,sT,Nat.reduceLT,Nat.reduceEqDiff,reduceIte,cA0,k1,k2,AO,AN,c1,Ay,Aq,AJ,AQ,AP,AU,Nat.zero_add,l1,rg]
  exact⟨_,rfl,by simp[AH]⟩
 obtain⟨e1,p1,p2,p3⟩:=pre
 obtain⟨e3,h3,w1,w2,w3,w4,w5,T,w6,w7,w8⟩:=lM (call AF (m+2)) e1 p2 p3
 have d3:h3.Row bd 0 (dkL bm bc n (FZ arm) false):=MB d2.disk (w5 bd (by omega) (by omega) d.bdm)
 have m3:h3.bl.get bc=.map (entsS c0 cs) (c0+cs.length):=by rw[w5 bc (by omega) (by omega) (fun h=>d.bmc h.symm)];exact d2.map
 have r3:h3.Row bm 0 ((FQ M cs).map bv):=⟨T,by rw[w6,List.length_map,Fm d.len hc],w7.is t2 d.len hc hK⟩
 obtain⟨_,l3,_,_⟩:=Cm d3
 have cl:∀ (F:CallF) (e:Env),AB 37 e=.map (some bc)→EI (AB 37) F e h3=.ok noRes (h3.put bc (.map [] (c0+cs.length))):=fun F e he=>by
  have hen:Ba h3 bc=.ok (entsS c0 cs) (c0+cs.length):=by unfold Ba;rw[m3];rfl
  unfold EI
  rw[he]
  simp only[hen]
  rw[Di w3 d.big.2.2 (by omega)];rfl
 have W4:=w3.put (b:=bc) (by omega) (.map [] (c0+cs.length))
 have P4:=w3.put_get (b:=bc) (by omega) (.map [] (c0+cs.length))
 have n4:(h3.put bc (.map [] (c0+cs.length))).next=h3.next:=rfl
 have lo4:(h3.put bc (.map [] (c0+cs.length))).low=min h3.low bc:=BO _ _
 generalize h3.put bc (.map [] (c0+cs.length))=h4 at cl W4 P4 n4 lo4
 refine⟨h4,?_,⟨by have:=f1.next;omega,fun i hi hs=>?_,W4,fun L q1 q2 q3=>by
  have z1:=f1.low L q1 q2 fun b hb=>q3 b (.inl hb)
  have z2:=f1.next
  have z3:=x2.low
  have z4:=w8 L (by omega) (by omega) (q3 bm (.inr (.inl rfl)))
  have z5:=q3 bc (.inr (.inr rfl))
  omega⟩,⟨MB d3 (by rw[P4,if_neg d.bdc]),MB r3 (by rw[P4,if_neg d.bmc]),Fm d.len hc,Pb d.byt hc,by rw[P4,if_pos rfl];rfl,d.big,d.n1⟩⟩
 ·rw[ik rfl,jZ,p1,nk]
  simp only[BP,A1,w1,A5,BJ]
  unfold fE
  simp only[sT,Nat.reduceLT,Nat.reduceEqDiff,reduceIte,Ay,w2,Aq,AJ,AQ,AP,AU,Nat.zero_add,l3,cl,lV0]
 ·have hn:=f1.next
  rw[P4,if_neg (fun e=>hs (.inr (.inr e))),w5 i (by omega) (by omega) (fun e=>hs (.inr (.inl e))),x2.get i (by omega),f1.get i hi (fun e=>hs (.inl e))]
end
end
noncomputable section
open Go
set_option maxRecDepth 100000
structure Kt where
 a:Int
 b:Int
 c:Int
 s:Nat
 l:List Nat
 p:Nat
 u:Value
def Ab(k:Kt):List Value:=[.int .i64 k.a,.int .i64 k.b,.int .i64 k.c,.int .u8 (k.s:Int),k.u,.int .i64 (k.p:Int)]
def ktV(k:Kt):Value:=.agg ⟨Ab k⟩
def flK(ks:List Kt):List Value:=ks.flatMap Ab
theorem CJ:∀ ks:List Kt,(flK ks).length=6 * ks.length
 |[]=>rfl
 |k::ks=>by
  show(Ab k++flK ks).length=_
  rw[List.length_append,CJ ks,List.length_cons]
  show 6+_=_
  omega
theorem IU(a b:List Kt):flK (a++b)=flK a++flK b:=List.flatMap_append
theorem S5:∀ (ks:List Kt) (i:Nat) (k:Kt),ks[i]? =some k→((flK ks).drop (6 * i)).take 6=Ab k
 |[],i,k,h=>by cases h
 |x::ks,0,k,h=>by
  have h:some x=some k:=h
  cases h
  show((Ab x++flK ks).drop 0).take 6=_
  rw[List.drop_zero]
  exact List.take_left' rfl
 |x::ks,i+1,k,h=>by
  rw[List.getElem?_cons_succ]at h
  show((Ab x++flK ks).drop (6 * (i+1))).take 6=_
  have:6 * (i+1)=(Ab x).length+6 * i:=by show _=6+_;omega
  rw[this,List.drop_length_add_append]
  exact S5 ks i k h
def Hp.KS(h:Hp)(S:Nat→Prop)(v:Value)(ks:List Kt):Prop:=(v=.slice none 0 0∧ks=[])∨∃ b c el L,v=.slice (some ⟨b,0,none⟩) ks.length c∧ks.length≤c∧h.Row b el L∧6 * ks.length≤L.length∧L.take (6 * ks.length)=flK ks∧(el=84∨el=0)∧S b
section
variable {h h':Hp}{S S':Nat→Prop}{v:Value}{ks:List Kt}
theorem Hp.KS.keep(o:h.KS S v ks)(hk:∀ b el L,S b→h.Row b el L→h'.Row b el L):h'.KS S v ks:=by
 rcases o with h1|⟨b,c,el,L,h1,h2,h3,h4,h5,h6,h7⟩
 ·exact .inl h1
 ·exact .inr ⟨b,c,el,L,h1,h2,hk _ _ _ h7 h3,h4,h5,h6,h7⟩
theorem Hp.KS.ext(o:h.KS S v ks)(W:h.Wf)(x:h.Ext h'):h'.KS S v ks:=o.keep fun _ _ _ _ r=>r.ext W x
theorem Hp.KS.same(o:h.KS S v ks)(hb:h'.bl=h.bl):h'.KS S v ks:=o.keep fun _ _ _ _ r=>r.same hb
theorem Hp.KS.mono(o:h.KS S v ks)(hs:∀ b,S b→S' b):h.KS S' v ks:=by
 rcases o with h1|⟨b,c,el,L,h1,h2,h3,h4,h5,h6,h7⟩
 ·exact .inl h1
 ·exact .inr ⟨b,c,el,L,h1,h2,h3,h4,h5,h6,hs _ h7⟩
theorem Hp.KS.len(o:h.KS S v ks)(g:Hp):lenSR v g=.ok (.int .i64 (ks.length:Int)) g:=by
 rcases o with ⟨rfl,rfl⟩|⟨b,c,el,L,rfl,_⟩<;>rfl
theorem Hp.KS.at(o:h.KS S v ks){i:Nat}{k:Kt}(hi:ks[i]? =some k):∃ b,S b∧idxSR 6 v (.int .i64 (i:Int)) h=.ok (.pointer (some ⟨b,6 * i,none⟩)) h∧loadN 6 ⟨b,6 * i,none⟩ h=.ok (ktV k) h∧∀ j w,(Ab k)[j]? =some w→load1 ⟨b,6 * i+j,none⟩ h=.ok w h:=by
 have hil:=(List.getElem?_eq_some_iff.1 hi).1
 rcases o with ⟨rfl,rfl⟩|⟨b,c,el,L,rfl,h2,h3,h4,h5,h6,h7⟩
 ·cases hi
 ·have hc:(L.drop (6 * i)).take 6=Ab k:=by
   have:=S5 ks i k hi
   rw[← h5,List.drop_take,List.take_take,Nat.min_eq_left (by omega)]at this
   exact this
  refine⟨b,h7,?_,?_,fun j w hj=>?_⟩
  ·have:=DJ (h:=h) (n:=ks.length) (c:=c) (es:=6) (b:=b) (off:=0) (i:=i) (k:=.i64) hil
   rwa [Nat.zero_add,Nat.mul_comm]at this
  ·rw[h3.loadN (by omega),hc];rfl
  ·have hj6:j<6:=(List.getElem?_eq_some_iff.1 hj).1
   rw[← hc,List.getElem?_take,if_pos hj6,List.getElem?_drop]at hj
   rw[h3.load1 (by omega),List.getD_eq_getElem?_getD,hj];rfl
theorem Hp.KS.one(o:h.KS S v ks):cellsOf v=[v]∧A0 v=true∧known v=true:=by
 rcases o with ⟨rfl,_⟩|⟨b,c,el,L,rfl,_⟩<;>exact⟨rfl,rfl,rfl⟩
end
def Hp.KW(h:Hp)(S:Nat→Prop)(v:Value)(ks:List Kt):Prop:=(v=.slice none 0 0∧ks=[])∨∃ b,v=.slice (some ⟨b,0,none⟩) ks.length ks.length∧h.Row b 84 (flK ks)∧S b
theorem Hp.KW.ks{h:Hp}{S:Nat→Prop}{v:Value}{ks:List Kt}(o:h.KW S v ks):h.KS S v ks:=by
 rcases o with h1|⟨b,h1,h2,h3⟩
 ·exact .inl h1
 ·exact .inr ⟨b,_,84,_,h1,Nat.le_refl _,h2,by rw[CJ];omega,by rw[← CJ,List.take_length],.inl rfl,h3⟩
theorem Hp.KS.ks{h:Hp}{S:Nat→Prop}{v:Value}{ks:List Kt}(o:h.KS S v ks):h.KS S v ks:=o
def Hp.WI(h:Hp)(S:Nat→Prop)(v:Value)(xs:List Value):Prop:=(v=.slice none 0 0∧xs=[])∨∃ b el,v=.slice (some ⟨b,0,none⟩) xs.length xs.length∧h.Row b el xs∧(el=4∨el=0)∧S b
theorem Hp.WI.keep{h h':Hp}{S:Nat→Prop}{v:Value}{xs:List Value}(o:h.WI S v xs)(hk:∀ b el L,S b→h.Row b el L→h'.Row b el L):h'.WI S v xs:=by
 rcases o with h1|⟨b,el,h1,h2,h3,h4⟩
 ·exact .inl h1
 ·exact .inr ⟨b,el,h1,hk _ _ _ h4 h2,h3,h4⟩
theorem Hp.WI.vals{h:Hp}{S:Nat→Prop}{v:Value}{xs:List Value}(o:h.WI S v xs):h.Vals v xs:=by
 rcases o with h1|⟨b,el,h1,h2,h3,h4⟩
 ·exact .inl h1
 ·exact .inr ⟨b,0,_,el,xs,h1,h2,by omega,by rw[List.drop_zero,List.take_length]⟩
def KtOk(h:Hp)(S:Nat→Prop)(k:Kt):Prop:=h.BS S k.u (k.l.map bv)∧(∀ x∈k.l,x<256)∧k.l.length≤100∧(k.s=1∨k.s=2)∧B4 k.a k.b k.c k.s k.l.length=true∧k.p<65536
def slL(bd tb:Nat)(lv fv:Value)(bad:Nat)(ov:Bool):List Value:=[pt bd,pt tb,.int .i64 100,lv,fv,.int .i64 (bad:Int),.bool ov]
structure At where
 bs:Nat
 bd:Nat
 bm:Nat
 bc:Nat
 tb:Nat
 n:Nat
abbrev At.D(A:At):Nat→Prop:=fun b=>b=A.bs∨b=A.bd∨b=A.bm∨b=A.bc
structure Sl (h:Hp)(A:At)(T M:List Nat)(c0:Nat)(arm:Int)(ks:List Kt)(fr:List Nat)(lv fv:Value)(bad:Nat)(ov:Bool):Prop where
 row:h.Row A.bs 0 (slL A.bd A.tb lv fv bad ov)
 dk:Dk h A.bd A.bm A.bc A.n M c0 [] arm false
 tab:h.Row A.tb 0 (T.map wv)
 tok:TblOk T
 ls:h.KS (fun b=>¬ A.D b) lv ks
 ko:∀ k∈ks,KtOk h (fun b=>¬ A.D b) k
 fs:h.WI (fun b=>¬ A.D b) fv (ints .i64 (fr.map Int.ofNat))
 ne:A.bs≠A.bd∧A.bs≠A.bm∧A.bs≠A.bc∧¬ A.D A.tb∧256≤A.bs
 le:ks.length≤1000∧fr.length≤1000∧bad≤1000∧∀ p∈fr,3 * p+3≤A.n
section
variable {F:CallF}{e:Env}{h h':Hp}{A:At}{T M:List Nat}{c0 bad m:Nat}{arm:Int}{ks:List Kt}{fr:List Nat}{lv fv:Value}{ov:Bool}
theorem Sl.keep(s:Sl h A T M c0 arm ks fr lv fv bad ov)(hr:∀ b el L,h.Row b el L→h'.Row b el L)(hm:h'.bl.get A.bc=h.bl.get A.bc):Sl h' A T M c0 arm ks fr lv fv bad ov:=
 ⟨hr _ _ _ s.row,⟨hr _ _ _ s.dk.disk,hr _ _ _ s.dk.med,s.dk.len,s.dk.byt,hm.trans s.dk.map,s.dk.big,s.dk.n1⟩,hr _ _ _ s.tab,s.tok,s.ls.keep fun _ _ _ _ r=>hr _ _ _ r,fun k hk=>⟨(s.ko k hk).1.keep fun _ _ _ _ _ r=>hr _ _ _ r,(s.ko k hk).2⟩,s.fs.keep fun _ _ _ _ r=>hr _ _ _ r,s.ne,s.le⟩
theorem Sl.ext(s:Sl h A T M c0 arm ks fr lv fv bad ov)(W:h.Wf)(x:h.Ext h'):Sl h' A T M c0 arm ks fr lv fv bad ov:=s.keep (fun _ _ _ r=>r.ext W x) (x.get _ (s.dk.lt W).2.2)
theorem Sl.same(s:Sl h A T M c0 arm ks fr lv fv bad ov)(hb:h'.bl=h.bl):Sl h' A T M c0 arm ks fr lv fv bad ov:=s.keep (fun _ _ _ r=>r.same hb) (by rw[hb])
theorem BC{bs bd tb:Nat}(R:h.Row bs 0 (slL bd tb lv fv bad ov)):load1 ⟨bs,0,none⟩ h=.ok (pt bd) h∧load1 ⟨bs,1,none⟩ h=.ok (pt tb) h∧load1 ⟨bs,2,none⟩ h=.ok (.int .i64 100) h∧load1 ⟨bs,3,none⟩ h=.ok lv h∧load1 ⟨bs,4,none⟩ h=.ok fv h∧load1 ⟨bs,5,none⟩ h=.ok (.int .i64 (bad:Int)) h∧load1 ⟨bs,6,none⟩ h=.ok (.bool ov) h:=
 ⟨R.load1 (off:=0) (by show 0<7;omega),R.load1 (off:=1) (by show 1<7;omega),R.load1 (off:=2) (by show 2<7;omega),R.load1 (off:=3) (by show 3<7;omega),R.load1 (off:=4) (by show 4<7;omega),R.load1 (off:=5) (by show 5<7;omega),R.load1 (off:=6) (by show 6<7;omega)⟩
theorem n8{a b:Nat}(h1:a * b≤1000000000):FE Int.mul .i64 (.int .i64 (a:Int)) (.int .i64 (b:Int)) h=.ok (.int .i64 ((a * b:Nat):Int)) h:=by
 have:Int.mul (a:Int) (b:Int)=((a * b:Nat):Int):=(Int.natCast_mul a b).symm
 rw[CO,this,Bg (by omega)]
theorem Sh{a b:Nat}(h1:a+b≤1000000000):FD .i64 (.int .i64 (a:Int)) (.int .i64 (b:Int)) h=.ok (.int .i64 ((a+b:Nat):Int)) h:=by
 have:(a:Int)+(b:Int)=((a+b:Nat):Int):=by omega
 rw[EM,this,Bg (by omega)]
theorem NM:NL 100=3:=by decide
theorem MX{bs bd tb:Nat}(R:h.Row bs 0 (slL bd tb lv fv bad ov)){p:Nat}(hp:p≤65536):call AF (m+2) 46 [pt bs,.int .i64 (p:Int)] h=.ok (.int .i64 ((p * 3:Nat):Int)) h:=by
 obtain⟨_,_,l2,_⟩:=BC R
 have k1:=UA (n:=m) (h:=h) (z:=100)
 rw[NM]at k1
 have a1:=n8 (h:=h) (a:=p) (b:=3) (by omega)
 rw[iI rfl]
 unfold d46
 simp only[iN,Nat.reduceAdd,sT,Nat.reduceLT,Nat.reduceEqDiff,reduceIte,Ay,Aq,AJ,AQ,Nat.zero_add,AP,AU,l2,cA0,k1,Bz,a1,lV0]
theorem G1{f:OpF}{mm:Qm}{v:Value}(W:h.Wf)(hf:f F e h.quiet=.ok v h.quiet)(hm:h.mark≤h.next):Ac mm f F e h=.ok v (h.back h.quiet):=DK hf (.refl W.quiet) hm
theorem Zz{x y z:O}{b N k:Nat}(hx:x e=.slice (some ⟨b,0,none⟩) N N)(hy:y e=.int .i64 (k:Int))(hz:z e=.int .i64 (k:Int))(hk:k≤N):DE 5 1 x none (some y) (some z) F e h=.ok (.slice (some ⟨b,0,none⟩) k k) h:=by
 have hb:∀ (d:Nat) (y:O) (Y:Nat) (K:Nat→R),y e=.int .i64 (k:Int)→k≤Y→CZ e (some y) d Y K=K k:=fun d y Y K hy hY=>by
  show(match Cy (y e)with|.ok n=>(bif Nat.ble n Y then K n else .no)|.no=>.no)=_
  rw[hy,Cu]
  simp only
  rw[Al.2 hY];rfl
 show(match x e with|.slice a n c=>DB e n c none (some y) (some z) (fun l hh m=>Dq 5 1 a true l hh m h)|_=>.no)=_
 rw[hx]
 show CZ e (some z) N N (fun m=>CZ e (some y) N m fun hh=>CZ e none 0 hh fun l=>Dq 5 1 (some ⟨b,0,none⟩) true l hh m h)=_
 rw[hb _ _ _ _ hz hk,hb _ _ _ _ hy (Nat.le_refl _)]
 show Bn (some ⟨b,0,none⟩) 1 0 k k h=_
 unfold Bn
 simp only[Ai]
 cases k with
 |zero=>rfl
 |succ k=>rfl
theorem Wp{x y z:O}(hx:x e=.slice none 0 0)(hy:y e=.int .i64 ((0:Nat):Int))(hz:z e=.int .i64 ((0:Nat):Int)):DE 5 1 x none (some y) (some z) F e h=.ok (.slice none 0 0) h:=by
 show(match x e with|.slice a n c=>DB e n c none (some y) (some z) (fun l hh m=>Dq 5 1 a true l hh m h)|_=>.no)=_
 rw[hx]
 show(match Cy (z e)with|.ok n=>(bif Nat.ble n 0 then(match Cy (y e)with|.ok n'=>(bif Nat.ble n' n then Bn none 1 0 n' n h else .no)|.no=>.no)else .no)|.no=>.no)=_
 rw[hy,hz];rfl
def dat(M:List Nat)(p k:Nat):List Nat:=(M.drop (64 * (3 * p+1))).take k
theorem XA{M:List Nat}{n p i:Nat}(hM:M.length=64 * n)(hi:3 * p+1+i<n):dat M p (64 * i)++sec M (3 * p+1+i)=dat M p (64 * (i+1)):=by
 unfold dat sec
 have:M.drop (64 * (3 * p+1+i))=(M.drop (64 * (3 * p+1))).drop (64 * i):=by rw[List.drop_drop];congr 1;omega
 rw[this,show 64 * (i+1)=64 * i+64 by omega,List.take_add]
theorem IK{M:List Nat}{n p k:Nat}(hM:M.length=64 * n)(hk:64 * (3 * p+1)+k≤64 * n):(dat M p k).length=k:=by
 unfold dat;rw[List.length_take,List.length_drop];omega
theorem W9{M:List Nat}(hb:∀ x∈M,x<256)(p k:Nat):∀ x∈dat M p k,x<256:=fun x hx=>hb x (List.mem_of_mem_drop (List.mem_of_mem_take hx))
def reB:C:=(AE (AC 13) (BD (AB 8))
(AE (AC 15) (AW iLt .i64 (AB 13) (AB 2))
(AS (AB 15)
(A2 (AY 1 (BW (AE (AC 20) (BM (AB 0))
(AE (AC 21) (AG 0 (AB 20))
(Dm (AB 21) (CW (AB 21) []
(AE (AC 22) (AK (AB 21))
(AE (AC 25) (Ac .weak (AM 46 [(AB 0),(AB 1)]))
(AE (AC 26) (BZ .i64 (Ar .i64) (AB 25) (kV (.int .i64 1)))
(AE (AC 28) (BZ .i64 (Ar .i64) (AB 26) (AB 9))
(AE (AC 29) (Ac .free (AM 84 [(AB 22),(AB 28)]))
(AE (AC 30) (Aa 0 (AB 29))
(AE (AC 31) (Aa 1 (AB 29))
(AE (AC 10) (AD (AB 30))
(AE (AC 11) (AD (AB 31))
(AE (AC 33) (AW iNe .i64 (AB 11) (kV (.int .i64 0)))
(AS (AB 33)
(AE (AC 6) (AD (kV (.slice none 0 0)))
(AE (AC 7) (AD (AB 11))
Ad))
(AE (AC 37) (A9 1 1 5 (AB 8) (AB 10))
(AE (AC 8) (AD (AB 37))
AX)))))))))))))))))))
(AE (AC 17) (BZ .i64 (Ar .i64) (AB 9) (kV (.int .i64 1)))
(AE (AC 9) (AD (AB 17))
AX)))
(BK 0))))
def reE:C:=(AE (AC 41) (DE 5 1 (AB 8) none (some (AB 2)) (some (AB 2)))
(AE (AC 6) (AD (AB 41))
(AE (AC 7) (AD (kV (.int .i64 0)))
Ad)))
theorem Yi:reS=A2 (AY 0 (Az reB)) reE:=rfl
theorem W6:d88=aP:=rfl
theorem WS(W:h.Wf){bs bd bm bc tb n:Nat}(R:h.Row bs 0 (slL bd tb lv fv bad ov))(d:Dk h bd bm bc n M c0 [] arm false){p k:Nat}(hp:3 * p+3≤n)(hk:k≤128):
  ∃ h' v,call AF (m+4) 88 [pt bs,.int .i64 (p:Int),.int .i64 (k:Int)] h=.ok (.tuple ⟨[v,.int .i64 0]⟩) h'∧h.Ext h'∧h'.BS (fun b=>h.next≤b) v ((dat M p k).map bv):=by
 have hn:=d.n1
 have pre:∃ e1,aP (call AF (m+3)) (AV e0 0 [pt bs,.int .i64 (p:Int),.int .i64 (k:Int)]) h=reS (call AF (m+3)) e1 h∧AB 0 e1=pt bs∧AB 1 e1=.int .i64 (p:Int)∧AB 2 e1=.int .i64 (k:Int)∧AB 8 e1=.slice none 0 0∧AB 9 e1=.int .i64 ((0:Nat):Int):=by
  unfold aP
  simp only[iN,Nat.reduceAdd,sT,Nat.reduceLT,Nat.reduceEqDiff,reduceIte]
  exact⟨_,rfl,by simp[AH]⟩
 obtain⟨e1,p1,s0,s1,s2,s8,s9⟩:=pre
 have run:∃ e' h' v i,Az reB (call AF (m+3)) e1 h=.exit 0 e' h'∧h.Ext h'∧h'.Own h.next 5 v ((dat M p (64 * i)).map bv)∧k≤64 * i∧i≤2∧AB 8 e'=v∧AB 2 e'=.int .i64 (k:Int):=by
  refine Be (I:=fun i e' h'=>∃ v,h.Ext h'∧h'.Own h.next 5 v ((dat M p (64 * i)).map bv)∧AB 0 e'=pt bs∧AB 1 e'=.int .i64 (p:Int)∧AB 2 e'=.int .i64 (k:Int)∧AB 8 e'=v∧AB 9 e'=.int .i64 (i:Int)∧i≤2)
   (Q:=fun x=>∃ e' h' v i,x=.exit 0 e' h'∧h.Ext h'∧h'.Own h.next 5 v ((dat M p (64 * i)).map bv)∧k≤64 * i∧i≤2∧AB 8 e'=v∧AB 2 e'=.int .i64 (k:Int)) 2 (by omega) (fun i e' h' ⟨v,x',o',t0,t1,t2,t8,t9,hi⟩=>?_)
   ⟨_,.refl W,.inl ⟨rfl,rfl⟩,s0,s1,s2,s8,s9,by omega⟩
  have hdl:(dat M p (64 * i)).length=64 * i:=IK d.len (by omega)
  have ln:=o'.vals.bl h'
  rw[hdl]at ln
  by_cases hlt:64 * i<k
  ·left
   have hi1:i<2:=by omega
   have c1:iLt ((64 * i:Nat):Int) (k:Int)=true:=Eo hlt
   have xm:=x'.marked
   have Rm:=(R.ext W xm)
   have old:∀ (off:Nat) (kk:C) (F:CallF) (e:Env),Jf (.pointer (some ⟨bs,off,none⟩)) kk F e h'.marked=kk F e h'.marked:=fun off kk F e=>Dw (by
    show bs<h'.next
    have:=R.lt W
    have:=x'.next
    omega)
   obtain⟨l0,_⟩:=BC Rm
   have k1:=MX (m:=m+1) (Rm.same (h':=h'.marked.quiet) rfl) (p:=p) (by omega)
   have q1:∀ e:Env,AB 0 e=pt bs→AB 1 e=.int .i64 (p:Int)→Ac .weak (AM 46 [AB 0,AB 1]) (call AF (m+3)) e h'.marked=.ok (.int .i64 ((p * 3:Nat):Int)) (h'.marked.back h'.marked.quiet):=fun e e1 e2=>by
    refine G1 x'.wf.marked ?_ (Nat.le_refl _)
    rw[Bk,Ah,Ah,A7,e1,e2];exact k1
   have y2:h'.Ext (h'.marked.back h'.marked.quiet):=Hp.Ext.back2 (Hp.Ext.refl x'.wf).marked (Hp.Ext.refl x'.wf).marked.quiet
   have n2:(h'.marked.back h'.marked.quiet).next=h'.next:=rfl
   generalize h'.marked.back h'.marked.quiet=h2 at q1 y2 n2
   have x2:=x'.trans y2
   have a1:=CR (h:=h2) (i:=p * 3) (by omega)
   have a2:=Sh (h:=h2) (a:=p * 3+1) (b:=i) (by omega)
   obtain⟨h3,w,k2,y3,mk,n3,_⟩:=Ts (m:=m) x2.quiet.wf ((d.ext W x2).same (h':=h2.quiet) rfl) (i:=p * 3+1+i) (by omega)
   have q2:∀ e:Env,AB 22 e=pt bd→AB 28 e=.int .i64 ((p * 3+1+i:Nat):Int)→Ac .free (AM 84 [AB 22,AB 28]) (call AF (m+3)) e h2=.ok (.tuple ⟨[w,.int .i64 0]⟩) (h2.back h3):=fun e e1 e2=>by
    refine Bb ?_
    rw[Bk,Ah,Ah,A7,e1,e2];exact k2
   have y4:h2.Ext (h2.back h3):=.back y3
   have mk4:Mk (h2.back h3) h2.quiet.next w (sec M (p * 3+1+i)):=mk.same rfl
   generalize h2.back h3=h4 at q2 y4 mk4
   have x4:=x2.trans y4
   have hsl:(sec M (p * 3+1+i)).length=64:=Ka d.len (by omega)
   obtain⟨h5,v5,k5,x5,o5,n5,fr5⟩:=EL (eb:=1) (en:=5) (k:=h.next) x4 (Nat.le_refl _) x4.next ((o'.ext x'.wf y2).ext x2.wf y4) mk4.vals (by rw[List.length_map,hsl];omega) (C9 _) (by rw[List.length_map,List.length_map,hdl,hsl];omega)
   rw[← List.map_append,show p * 3+1+i=3 * p+1+i by omega,XA d.len (by omega)]at o5
   have c2:iNe 0 0=false:=CT rfl
   have a3:=CR (i:=i) (h:=h5) (by omega)
   have hrun:∃ e2,reB (call AF (m+3)) e' h'=.norm e2 h5∧AB 0 e2=pt bs∧AB 1 e2=.int .i64 (p:Int)∧AB 2 e2=.int .i64 (k:Int)∧AB 8 e2=v5∧AB 9 e2=.int .i64 ((i+1:Nat):Int):=by
    unfold reB
    simp only[sT,Nat.reduceLT,Nat.reduceEqDiff,reduceIte,Am,t8,ln,AO,AN,t2,c1,BA,Ay,t0,Aq,AJ,AQ,Nat.zero_add,EP,old,DV,AP,AU,l0,q1,t1,BR,a1,t9,a2,q2,BV,Bj,Bo,c2,BL,k5,a3]
    exact⟨_,rfl,by simp[AH,t0,t1,t2]⟩
   obtain⟨e2,r1,r2,r3,r4,r5,r6⟩:=hrun
   exact⟨hi1,e2,h5,r1,v5,x5,o5,r2,r3,r4,r5,r6,by omega⟩
  ·right
   have c1:iLt ((64 * i:Nat):Int) (k:Int)=false:=DD (by omega)
   have hrun:∃ e2,reB (call AF (m+3)) e' h'=.exit 0 e2 h'∧AB 8 e2=v∧AB 2 e2=.int .i64 (k:Int):=by
    unfold reB
    simp only[sT,Nat.reduceLT,Nat.reduceEqDiff,reduceIte,Am,t8,ln,AO,AN,t2,c1]
    exact⟨_,rfl,by simp[AH,t8,t2]⟩
   obtain⟨e2,r1,r2,r3⟩:=hrun
   rw[r1]
   exact⟨rfl,e2,h',v,i,rfl,x',o',by omega,hi,r2,r3⟩
 obtain⟨e2,h2,v,i,r1,x2,o2,hk2,hi2,r2,r3⟩:=run
 have hdl:(dat M p (64 * i)).length=64 * i:=IK d.len (by omega)
 have htk:(dat M p (64 * i)).take k=dat M p k:=by
  unfold dat
  rw[List.take_take,Nat.min_eq_left hk2]
 have hdk:(dat M p k).length=k:=IK d.len (by omega)
 rcases o2 with ⟨rfl,hx⟩|⟨b,rfl,R2,hb,h256⟩
 ·have h0:64 * i=0:=by
   have:=congrArg List.length hx
   rw[List.length_map,hdl]at this;exact this
  obtain rfl:k=0:=by omega
  have ct:∀ e:Env,AB 8 e=.slice none 0 0→AB 2 e=.int .i64 ((0:Nat):Int)→DE 5 1 (AB 8) none (some (AB 2)) (some (AB 2)) (call AF (m+3)) e h2=.ok (.slice none 0 0) h2:=fun e e1 e2=>Wp e1 e2 e2
  refine⟨h2,.slice none 0 0,?_,x2,.inl ⟨rfl,?_⟩⟩
  ·rw[Wd rfl,W6,p1,Yi]
   simp only[BP,A1,r1,A5,BJ]
   unfold reE
   simp only[sT,Nat.reduceLT,Nat.reduceEqDiff,reduceIte,ct,r2,r3,Bp,DI]
  ·unfold dat;rfl
 ·rw[List.length_map,hdl]at r2
  have ct:∀ e:Env,AB 8 e=.slice (some ⟨b,0,none⟩) (64 * i) (64 * i)→AB 2 e=.int .i64 (k:Int)→DE 5 1 (AB 8) none (some (AB 2)) (some (AB 2)) (call AF (m+3)) e h2=.ok (.slice (some ⟨b,0,none⟩) k k) h2:=fun e e1 e2=>Zz e1 e2 e2 hk2
  refine⟨h2,.slice (some ⟨b,0,none⟩) k k,?_,x2,.inr ⟨b,0,k,6,_,by rw[List.length_map,hdk],by rw[List.length_map,hdk];exact Nat.le_refl _,R2,by rw[List.length_map,List.length_map,hdk,hdl];omega,?_,hb,.inr rfl⟩⟩
  ·rw[Wd rfl,W6,p1,Yi]
   simp only[BP,A1,r1,A5,BJ]
   unfold reE
   simp only[sT,Nat.reduceLT,Nat.reduceEqDiff,reduceIte,ct,r2,r3,Bp,DI]
  ·rw[List.length_map,hdk,List.drop_zero,← List.map_take,htk]
end
end
end Go.Proofs.YtedbmmfebjfibaaGreat

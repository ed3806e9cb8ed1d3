/-
  'SlotsSound' of layer 06 answers true, whatever memory it is called in, whatever bytes, place, turns and choice it is handed and whatever the tape answers: no condition. What the canonical machine gives is shown for any of them (YtedbmmfebjfibaaGreatSpw); that machine is sound for the model (YtedbmmfebjfibaaGreatFns).
-/
import Derived.Test.YtedbmmfebjfibaaGreatZP
import Derived.Test.YtedbmmfebjfibaaGreatRows
import Derived.ProofKit
import Derived.OpenShut
import Derived.Carry
set_option linter.unusedVariables false
set_option linter.unusedSimpArgs false
namespace Go.Proofs.YtedbmmfebjfibaaGreat
noncomputable section
open Go
set_option maxRecDepth 100000
theorem Qr{b:List Nat}:∀ {ks:List Kt} {ch:Bool},ks.map Kt.core=(if ch=true then []else [⟨1,0,1,2,b,0⟩])++[⟨2,0,1,1,b,1⟩]→(ks.find? (Nc 1 0)).isSome= !ch∧(ks.find? (Ej 2 0 1)).isSome=true∧(freeL ks 8).length+ks.length=8∧ks.length≤2
 |[],true,h=>by have:=congrArg List.length h;simp at this
 |[],false,h=>by have:=congrArg List.length h;simp at this
 |[x],false,h=>by have:=congrArg List.length h;simp at this
 |[⟨xa,xb,xc,xs,xl,xp,xu⟩],true,h=>by
  cases h
  exact⟨rfl,rfl,rfl,Nat.le_of_ble_eq_true rfl⟩
 |[x,y],true,h=>by have:=congrArg List.length h;simp at this
 |[⟨xa,xb,xc,xs,xl,xp,xu⟩,⟨ya,yb,yc,ys,yl,yp,yu⟩],false,h=>by
  cases h
  exact⟨rfl,rfl,rfl,Nat.le_of_ble_eq_true rfl⟩
 |x::y::z::l,true,h=>by have:=congrArg List.length h;simp at this
 |x::y::z::l,false,h=>by have:=congrArg List.length h;simp at this
section
variable {F:CallF}{e:Env}{h h':Hp}{bs bd bm bc tb c0 m k mn fr bad b10 b13 b14 b15 bt:Nat}{T M b tl:List Nat}{arm:Int}{ks:List Kt}{frs:List Nat}{lv fv:Value}{ch:Bool}
theorem UZ(W:h.Wf){v:Value}(hv:(cellsOf v).length=5)(ha:Bg (cellsOf v)=true):
  ∃ h',(∀ (F:CallF) (e:Env),A2 5 CN F e h=.ok (pt h.next) (h.push (.cells CN 5 0)))∧storeR 5 (pt h.next) v (h.push (.cells CN 5 0))=.ok noRes h'∧h.Ext h':=by
 have Ra:=Hp.Row.alloc W Fo (show(A0 0 0 0 0 nilS).length=5 from rfl)
 have x:h.Ext (h.push (.cells CN 5 0)):=(Hp.Ext.refl W).push _
 have hoo:0+(cellsOf v).length≤(A0 0 0 0 0 nilS).length:=by rw[hv];exact Nat.le_refl _
 exact⟨_,fun F e=>Bt W,Ra.storeR (n:=5) (off:=0) x.wf W.big hv hoo ha,Ra.wr_ext x (Nat.le_refl _) hoo⟩
theorem kn(W:h.Wf)(s:Sl h ⟨bs,bd,bm,bc,tb,24⟩ T M c0 arm ks frs lv fv bad false)(hk:ks.map Kt.core=(if ch=true then []else [⟨1,0,1,2,b,0⟩])++[⟨2,0,1,1,b,1⟩])(hf:frs=freeL ks 8)(hbad:bad=if ch=true then 1 else 0)
  (s17:AB 17 e=.bool ch)(s18:AB 18 e=pt bs):∃ e' h',tG (call AG (m+9)) e h=.ret e' h'∧AB 8 e'=.bool true∧h.Ext h':=by
 obtain⟨f1,f2,f3,f4⟩:=Qr hk
 have kv:=fun (h':Hp) (x:h.Ext h') (y:Kt) (hy:y∈ks)=>(s.ko y hy).1.vs.vals.ext W x
 have kl:=fun (y:Kt) (hy:y∈ks)=>(s.ko y hy).2.2.1
 obtain⟨h1,v1,k1,x1,v1a,v1b⟩:=ZI (m:=m+4) W s.row s.ls.ks (fun y hy=>⟨kv h (.refl W) y hy,by have:=kl y hy;omega⟩) (by omega) 1 0
 rw[f1]at k1
 obtain⟨h2,al2,st2,y2⟩:=UZ x1.wf v1a v1b
 have x2:=x1.trans y2
 have s2:=s.ext W x2
 obtain⟨h3,v3,k3,y3,v3a,v3b⟩:=Yr (m:=m+4) x2.wf s2.row s2.ls.ks (fun y hy=>⟨kv h2 x2 y hy,by have:=kl y hy;omega⟩) (by omega) 2 0 1
 rw[f2]at k3
 have x3:=x2.trans y3
 obtain⟨h4,al4,st4,y4⟩:=UZ x3.wf v3a v3b
 have x4:=x3.trans y4
 have s4:=s.ext W x4
 have k5:=Xy (m:=m+8) s4.row
 have k6:=aC (m:=m+8) s4.row (s4.fs.vals)
 obtain⟨h7,v7,o7,c7,k7,y7,hv7⟩:=Xl (m:=m+5) x4.wf s4.row s4.ls.ks (fun y hy=>⟨kv h4 x4 y hy,by have:=kl y hy;omega,(s4.ko y hy).1.vs.one.2.1⟩) (by omega)
 subst hv7
 have aw:=Kv (bs:=AG) (n:=m+8) (f:=8) OB (h:=h7)
 have k1:call AG (m+9) 17 [pt bs,.int .i64 1,.int .i64 0] h=.ok (.tuple ⟨[v1,.bool !ch]⟩) h1:=k1
 have k3:call AG (m+9) 18 [pt bs,.int .i64 2,.int .i64 0,.int .i64 1] h2=.ok (.tuple ⟨[v3,.bool true]⟩) h3:=k3
 have k5:call AG (m+9) 19 [pt bs] h4=.ok (.int .i64 (bad:Int)) h4:=k5
 have k6:call AG (m+9) 20 [pt bs] h4=.ok (.int .i64 (frs.length:Int)) h4:=k6
 have k7:call AG (m+9) 21 [pt bs] h4=.ok (.slice o7 ks.length c7) h7:=k7
 have e1:iEq (bad:Int) 1=ch:=by
  rw[hbad]
  cases ch
  ·exact Cz (by decide)
  ·exact C4 (by decide)
 have a8:Hu Int.sub .i64 (.int .i64 8) (.int .i64 (ks.length:Int)) h7=.ok (.int .i64 (frs.length:Int)) h7:=by
  have:Int.sub 8 (ks.length:Int)=(frs.length:Int):=by
   show(8:Int) - (ks.length:Int)=_
   rw[hf];omega
  rw[DI,this,Br (by rw[hf];omega)]
 have e2:iEq (frs.length:Int) (frs.length:Int)=true:=C4 rfl
 have q1:∀ (F:CallF) (e:Env),AB 21 e=.bool !ch→AB 103 e=.bool !ch→oEq ty4.k false (AB 21) (AB 103) F e h4=.ok (.bool true) h4:=fun F e a1 a2=>by
  rw[Kk a1 a2];cases ch<;>rfl
 have q2:∀ (F:CallF) (e:Env),AB 108 e=.bool ch→AB 109 e=.bool ch→oEq ty4.k false (AB 108) (AB 109) F e h4=.ok (.bool true) h4:=fun F e a1 a2=>by
  rw[Kk a1 a2];cases ch<;>rfl
 have hrun:∃ e',tG (call AG (m+9)) e h=.ret e' h7∧AB 8 e'=.bool true:=by
  unfold tG
  simp only[sT,Nat.reduceLT,Nat.reduceEqDiff,if_true,if_false,reduceIte,gD,Ab,AN,AX,s18,k1,BM,BV,Ba,al2,Av,st2,k3,al4,st4,CG,CF,s17,q1,k5,AS,AQ,e1,q2,k6,k7,Ay,E7,DK,a8,e2,aw]
  exact⟨_,rfl,by simp[AE]⟩
 obtain⟨e',r1,r2⟩:=hrun
 exact⟨e',h7,r1,r2,x4.trans y7⟩
theorem iC{hd:Bool}{ts:List Nat}(W:h.Wf)(s:Sl h ⟨bs,bd,bm,bc,tb,24⟩ T (Cm T b hd k ts) c0 arm ks frs lv fv bad false)(hI:DV T)(hl:1≤b.length∧b.length≤100)(hb:∀ x∈b,x<256)(t:Trn b hd k ts)(ha:CT arm 60)
  (Rb:h.Row b10 0 [pt bd])(s9:AB 9 e=pt tb)(s10:AB 10 e=pt b10)(s17:AB 17 e=.bool (chg ts)):∃ e' h',tF (call AG (m+9)) e h=.ret e' h'∧AB 8 e'=.bool true∧Fx (fun b=>b=bd∨b=bm∨b=bc) h h':=by
 obtain⟨m1,m2⟩:=TW (T:=T) hl hb t s.tok hI
 have ld:=CH Rb
 have nt:=s.ne.2.2.2.1
 obtain⟨h1,bs',c1,arm',lv',fv',ks',k1,f1,s1,hks,l1,_,_⟩:=Se (m:=m+1) (k:=0) W s.dk s.tab s.tok (n:=24) (by omega) ⟨fun h=>nt (.inr (.inl h)),fun h=>nt (.inr (.inr (.inl h))),fun h=>nt (.inr (.inr (.inr h)))⟩ (fun i x y hx hy=>by
  rw[show 24 / 3=8 from rfl,m1]at hx hy
  cases hc:chg ts with
  |true=>
   rw[hc]at hx hy
   match i,hx,hy with
   |0,hx,hy=>cases hy
   |i+1,hx,hy=>cases hx
  |false=>
   rw[hc]at hx hy
   match i,hx,hy with
   |0,hx,hy=>
    cases hx;cases hy
    have:Tw ⟨2,0,1,1,b,1⟩ ⟨1,0,1,2,b,0⟩=1:=rfl
    show(0:Int)≤Tw ⟨2,0,1,1,b,1⟩ ⟨1,0,1,2,b,0⟩
    rw[this];decide
   |1,hx,hy=>cases hy
   |i+2,hx,hy=>cases hx) (fun i j x y hx hy hij=>by
  rw[show 24 / 3=8 from rfl,m1]at hx hy
  cases hc:chg ts with
  |true=>
   rw[hc]at hx hy
   match i,j,hx,hy,hij with
   |0,0,hx,hy,hij=>exact absurd rfl hij
   |i+1,_,hx,hy,hij=>cases hx
   |_,j+1,hx,hy,hij=>cases hy
  |false=>
   rw[hc]at hx hy
   match i,j,hx,hy,hij with
   |0,0,hx,hy,hij=>exact absurd rfl hij
   |1,1,hx,hy,hij=>exact absurd rfl hij
   |0,1,hx,hy,hij=>cases hx;cases hy;show(2:Int)≠1;decide
   |1,0,hx,hy,hij=>cases hx;cases hy;show(1:Int)≠2;decide
   |i+2,_,hx,hy,hij=>cases hx
   |_,j+2,hx,hy,hij=>cases hy) (by
  rw[show 24 / 3=8 from rfl,m1]
  cases chg ts<;>exact Nat.le_of_ble_eq_true rfl) (ha.le (by omega))
 rw[show 24 / 3=8 from rfl,m1]at hks
 rw[show 24 / 3=8 from rfl]at s1
 have k1:call AG (m+9) 16 [pt bd,pt tb,.int .i64 100] h=.ok (.tuple ⟨[pt bs',.int .i64 0]⟩) h1:=k1
 have c0':iNe 0 0=false:=Db rfl
 have pre:∃ e1,tF (call AG (m+9)) e h=tG (call AG (m+9)) e1 h1∧AB 17 e1=.bool (chg ts)∧AB 18 e1=pt bs':=by
  rw[km]
  unfold tFh
  simp only[sT,Nat.reduceLT,Nat.reduceEqDiff,if_true,if_false,reduceIte,AV,Ac,s10,ld,Ab,AN,AX,s9,k1,BM,BV,Ba,AS,AQ,c0']
  exact⟨_,rfl,by simp only[AE,Nat.reduceLT,Nat.reduceEqDiff,if_true,if_false,reduceIte];exact s17,by simp[AE]⟩
 obtain⟨e1,p1,t17,t18⟩:=pre
 obtain⟨e2,h2,r1,r2,x2⟩:=kn (m:=m) f1.wf s1 hks rfl m2 t17 t18
 exact⟨e2,h2,p1.trans r1,r2,f1.trans (.of x2)⟩
structure Bx (h:Hp)(bd bm b10 b13 b14 b15 bt k mn fr:Nat)(tl:List Nat):Prop where
 R15:h.Row b15 0 [.int .i64 (k:Int)]
 R14:h.Row b14 0 [.int .i64 (mn:Int)]
 R13:h.Row b13 0 [.int .i64 (fr:Int)]
 R10:h.Row b10 0 [pt bd]
 Rt:h.Row bt 0 (tl.map bv)
 ne:b15≠bm∧b14≠bm∧b13≠bm∧b10≠bm∧bt≠bm
theorem Bx.ext(B:Bx h bd bm b10 b13 b14 b15 bt k mn fr tl)(W:h.Wf)(x:h.Ext h'):Bx h' bd bm b10 b13 b14 b15 bt k mn fr tl:=⟨B.R15.ext W x,B.R14.ext W x,B.R13.ext W x,B.R10.ext W x,B.Rt.ext W x,B.ne⟩
theorem Bx.fx(B:Bx h bd bm b10 b13 b14 b15 bt k mn fr tl)(W:h.Wf)(x:Fx (fun b=>b=bm) h h'):Bx h' bd bm b10 b13 b14 b15 bt k mn fr tl:=⟨x.row W B.R15 B.ne.1,x.row W B.R14 B.ne.2.1,x.row W B.R13 B.ne.2.2.1,x.row W B.R10 B.ne.2.2.2.1,x.row W B.Rt B.ne.2.2.2.2,B.ne⟩
theorem Sl.turn{M':List Nat}{A:At}(s:Sl h A T M c0 arm ks frs lv fv bad false)(W:h.Wf)(x:Fx (fun b=>b=A.bm) h h')(d:Dk h' A.bd A.bm A.bc A.n M' c0 [] arm false):Sl h' A T M' c0 arm ks frs lv fv bad false:=by
 have nm:∀ b,¬ A.D b→¬ b=A.bm:=fun b hb h=>hb (.inr (.inr (.inl h)))
 exact⟨x.row W s.row s.ne.2.1,d,x.row W s.tab (nm _ s.ne.2.2.2.1),s.tok,s.ls.keep fun b el L hb r=>x.row W r (nm b hb),fun y hy=>⟨(s.ko y hy).1.keep fun b el L hb _ r=>x.row W r (nm b hb),(s.ko y hy).2⟩,s.fs.keep fun b el L hb r=>x.row W r (nm b hb),s.ne,s.le⟩
theorem Ny(W:h.Wf)(s:Sl h ⟨bs,bd,bm,bc,tb,24⟩ T M c0 arm ks frs lv fv bad false)(B:Bx h bd bm b10 b13 b14 b15 bt k mn fr tl)(htl:tl.length=4)(htb:∀ x∈tl,x<256)(hmn:mn≤100)(hk:k<mn)(hfr:fr≤64):
  ∃ h',call AG (m+3) 13 [pt b15,pt b14,pt b13,pt b10,pt bt] h=.ok (.bool (chg (tl.take (mn - k)))) h'∧Fx (fun b=>b=bm) h h'∧Sl h' ⟨bs,bd,bm,bc,tb,24⟩ T (CR M (fr+k) (tl.take (mn - k))) c0 arm ks frs lv fv bad false∧Bx h' bd bm b10 b13 b14 b15 bt k mn fr tl:=by
 obtain⟨h',k1,x1,d1⟩:=gz (m:=m) W s.dk B.R15 B.R14 B.R13 B.R10 B.Rt htl htb B.ne hmn hk hfr
 exact⟨h',k1,x1,s.turn (A:=⟨bs,bd,bm,bc,tb,24⟩) W x1 d1,B.fx W x1⟩
abbrev clo(b10 b13 b14 b15 bt:Nat):Value:=.func (.func 13) ⟨[]⟩ ⟨[pt b15,pt b14,pt b13,pt b10,pt bt]⟩
theorem iB{hd:Bool}{u1 u2:Value}(W:h.Wf)(s:Sl h ⟨bs,bd,bm,bc,tb,24⟩ T (Cm T b hd k (tl.take (mn - k))) c0 arm [⟨1,0,1,2,b,0,u1⟩,⟨2,0,1,1,b,1,u2⟩] frs lv fv bad false)(B:Bx h bd bm b10 b13 b14 b15 bt k mn (frm hd) tl)(htl:tl.length=4)(htb:∀ x∈tl,x<256)(hmn:mn=if hd=true then 60 else b.length)(hk:k<mn)
  (hI:DV T)(hl:1≤b.length∧b.length≤100)(hb:∀ x∈b,x<256)(t:Trn b hd k (tl.take (mn - k)))(ha:CT arm 60)
  (s9:AB 9 e=pt tb)(s10:AB 10 e=pt b10)(s11:AB 11 e=pt bs)(s16:AB 16 e=clo b10 b13 b14 b15 bt)(s17:AB 17 e=.bool (chg (tl.take (mn - k)))):
  ∃ e' h',tE (call AG (m+9)) e h=.ret e' h'∧AB 8 e'=.bool true∧Fx (fun b=>b=bd∨b=bm∨b=bc) h h':=by
 have hm100:mn≤100:=by rw[hmn];split<;>omega
 have hf64:frm hd≤64:=by unfold frm;split<;>omega
 obtain⟨h1,k1,f1,s1,B1⟩:=Ny (m:=m+6) W s B htl htb hm100 hk hf64
 have e1:CR (Cm T b hd k (tl.take (mn - k))) (frm hd+k) (tl.take (mn - k))=Cm T b hd k []:=P6 (Io hl t)
 rw[e1]at s1
 have t0:Trn b hd k []:=⟨fun x hx=>(by cases hx),(by
  show k+0≤if hd=true then 60 else b.length
  rw[← hmn];omega),Nat.zero_le _⟩
 obtain⟨h2,r,k2,x2,hr⟩:=L7 (m:=m+3) f1.wf s1 (j:=0) rfl (a:=1) (b:=0) (c:=1) rfl ⟨rfl,rfl,rfl⟩ (by show 3 * 0+3≤24;omega)
 have hrt:r=true:=hr.2 ((Mh hl hb t0 s.tok hI (k1:=⟨1,0,1,2,b,0,u1⟩) (k2:=⟨2,0,1,1,b,1,u2⟩) rfl rfl).1.2 rfl)
 subst hrt
 have s2:=s1.ext f1.wf x2
 have B2:=B1.ext f1.wf x2
 obtain⟨h3,k3,f3,s3,B3⟩:=Ny (m:=m+6) x2.wf s2 B2 htl htb hm100 hk hf64
 have k1:call AG (m+9) 13 [pt b15,pt b14,pt b13,pt b10,pt bt] h=.ok (.bool (chg (tl.take (mn - k)))) h1:=k1
 have k2:call AG (m+9) 15 [pt bs,.int .i64 1,.int .i64 0,.int .i64 1] h1=.ok (.bool true) h2:=k2
 have k3:call AG (m+9) 13 [pt b15,pt b14,pt b13,pt b10,pt bt] h2=.ok (.bool (chg (tl.take (mn - k)))) h3:=k3
 have pre:∃ e1,tE (call AG (m+9)) e h=tF (call AG (m+9)) e1 h3∧AB 9 e1=pt tb∧AB 10 e1=pt b10∧AB 17 e1=.bool (chg (tl.take (mn - k))):=by
  rw[kj]
  unfold tEh
  simp only[sT,Nat.reduceLT,Nat.reduceEqDiff,if_true,if_false,reduceIte,Ci,s16,CU,AX,List.nil_append,k1,Ab,AN,AX,s11,k2,CG,CF,Bool.not_true,k3]
  exact⟨_,rfl,by simp only[AE,Nat.reduceLT,Nat.reduceEqDiff,if_true,if_false,reduceIte];exact s9,by simp only[AE,Nat.reduceLT,Nat.reduceEqDiff,if_true,if_false,reduceIte];exact s10,by simp only[AE,Nat.reduceLT,Nat.reduceEqDiff,if_true,if_false,reduceIte];exact s17⟩
 obtain⟨e2,p1,t9,t10,t17⟩:=pre
 obtain⟨e3,h4,r1,r2,f4⟩:=iC (m:=m) f3.wf s3 hI hl hb t ha B3.R10 t9 t10 t17
 exact⟨e3,h4,p1.trans r1,r2,(((f1.mono fun b hb=>.inr (.inl hb)).trans (.of x2)).trans (f3.mono fun b hb=>.inr (.inl hb))).trans f4⟩
theorem iA{hd:Bool}{u1 u2:Value}(W:h.Wf)(s:Sl h ⟨bs,bd,bm,bc,tb,24⟩ T (Cm T b hd k (tl.take (mn - k))) c0 arm [⟨1,0,1,2,b,0,u1⟩,⟨2,0,1,1,b,1,u2⟩] frs lv fv bad false)(B:Bx h bd bm b10 b13 b14 b15 bt k mn (frm hd) tl)(htl:tl.length=4)(htb:∀ x∈tl,x<256)(hmn:mn=if hd=true then 60 else b.length)(hk:k<mn)
  (hI:DV T)(hl:1≤b.length∧b.length≤100)(hb:∀ x∈b,x<256)(t:Trn b hd k (tl.take (mn - k)))(ha:CT arm 60)
  (s9:AB 9 e=pt tb)(s10:AB 10 e=pt b10)(s11:AB 11 e=pt bs)(s16:AB 16 e=clo b10 b13 b14 b15 bt)(s17:AB 17 e=.bool (chg (tl.take (mn - k)))):
  ∃ e' h',tD (call AG (m+9)) e h=.ret e' h'∧AB 8 e'=.bool true∧Fx (fun b=>b=bd∨b=bm∨b=bc) h h':=by
 obtain⟨t1,t2⟩:=Mh hl hb t s.tok hI (k1:=⟨1,0,1,2,b,0,u1⟩) (k2:=⟨2,0,1,1,b,1,u2⟩) rfl rfl
 obtain⟨h1,r,k1,x1,hr⟩:=L7 (m:=m+3) W s (j:=0) rfl (a:=1) (b:=0) (c:=1) rfl ⟨rfl,rfl,rfl⟩ (by show 3 * 0+3≤24;omega)
 have hre:r= !chg (tl.take (mn - k)):=by
  have:=hr.trans t1
  cases r<;>cases hc:chg (tl.take (mn - k))<;>simp_all
 have s1:=s.ext W x1
 obtain⟨h2,r2,k2,x2,hr2⟩:=L7 (m:=m+3) x1.wf s1 (j:=1) rfl (a:=2) (b:=0) (c:=1) rfl ⟨rfl,rfl,rfl⟩ (by show 3 * 1+3≤24;omega)
 have hr2:r2=true:=hr2.2 t2
 subst hr2
 have q1:∀ (F:CallF) (e:Env),AB 69 e=.bool r→AB 17 e=.bool (chg (tl.take (mn - k)))→oEq ty4.k false (AB 69) (AB 17) F e h1=.ok (.bool false) h1:=fun F e a1 a2=>by
  rw[Kk a1 a2,hre];cases chg (tl.take (mn - k))<;>rfl
 have k1:call AG (m+9) 15 [pt bs,.int .i64 1,.int .i64 0,.int .i64 1] h=.ok (.bool r) h1:=k1
 have k2:call AG (m+9) 15 [pt bs,.int .i64 2,.int .i64 0,.int .i64 1] h1=.ok (.bool true) h2:=k2
 have x12:=x1.trans x2
 have pre:∃ e1,tD (call AG (m+9)) e h=tE (call AG (m+9)) e1 h2∧AB 9 e1=pt tb∧AB 10 e1=pt b10∧AB 11 e1=pt bs∧AB 16 e1=clo b10 b13 b14 b15 bt∧AB 17 e1=.bool (chg (tl.take (mn - k))):=by
  rw[kh]
  unfold tDh
  simp only[sT,Nat.reduceLT,Nat.reduceEqDiff,if_true,if_false,reduceIte,gD,Ab,AN,AX,s11,k1,q1,s17,k2,CG,CF,Bool.not_true]
  exact⟨_,rfl,by simp only[AE,Nat.reduceLT,Nat.reduceEqDiff,if_true,if_false,reduceIte];exact s9,by simp only[AE,Nat.reduceLT,Nat.reduceEqDiff,if_true,if_false,reduceIte];exact s10,by simp only[AE,Nat.reduceLT,Nat.reduceEqDiff,if_true,if_false,reduceIte];exact s11,by simp only[AE,Nat.reduceLT,Nat.reduceEqDiff,if_true,if_false,reduceIte];exact s16,by simp only[AE,Nat.reduceLT,Nat.reduceEqDiff,if_true,if_false,reduceIte];exact s17⟩
 obtain⟨e1,p1,u9,u10,u11,u16,u17⟩:=pre
 obtain⟨e3,h4,r1,r2,f4⟩:=iB (m:=m) x12.wf (s.ext W x12) (B.ext W x12) htl htb hmn hk hI hl hb t ha u9 u10 u11 u16 u17
 exact⟨e3,h4,p1.trans r1,r2,(Fx.of x12).trans f4⟩
end
end
noncomputable section
open Go
set_option maxRecDepth 100000
theorem OL{k:Kt}{a b c:Int}{s p:Nat}{l:List Nat}(h:k.core=⟨a,b,c,s,l,p⟩):∃ u,k=⟨a,b,c,s,l,p,u⟩:=by
 cases k;cases h;exact⟨_,rfl⟩
theorem aa:B6 .mt 0 [.pointer none]=some nB:=by kernel_rfl
section
variable {F:CallF}{e:Env}{h h0 h':Hp}{bs bd bm bc tb c0 m at_ mn bad b10 b13 b14 bt:Nat}{T M b tl:List Nat}{arm:Int}{ks:List Kt}{frs:List Nat}{lv fv:Value}{hd:Bool}
theorem nO{a n:Nat}(hn:0<n):RB .i64 (.int .i64 (a:Int)) (.int .i64 (n:Int)) h=.ok (.int .i64 ((a % n:Nat):Int)) h:=by
 have:((a:Nat):Int).tmod (n:Int)=((a % n:Nat):Int):=rfl
 rw[KT (by omega),this]
theorem XI{u1 u2:Value}(W:h.Wf)(s:Sl h ⟨bs,bd,bm,bc,tb,24⟩ T (GO T b) c0 arm [⟨1,0,1,2,b,0,u1⟩,⟨2,0,1,1,b,1,u2⟩] frs lv fv bad false)(R14:h.Row b14 0 [.int .i64 (mn:Int)])(R13:h.Row b13 0 [.int .i64 ((frm hd:Nat):Int)])(R10:h.Row b10 0 [pt bd])(Rt:h.Row bt 0 (tl.map bv))(ne:b14≠bm∧b13≠bm∧b10≠bm∧bt≠bm)
  (htl:tl.length=4)(htb:∀ x∈tl,x<256)(hmn:mn=if hd=true then 60 else b.length)(hat:at_<256)
  (hI:DV T)(hl:1≤b.length∧b.length≤100)(hb:∀ x∈b,x<256)(ha:CT arm 60)
  (s1:AB 1 e=.int .u8 (at_:Int))(s6:AB 6 e=pt bt)(s9:AB 9 e=pt tb)(s10:AB 10 e=pt b10)(s11:AB 11 e=pt bs)(s13:AB 13 e=pt b13)(s14:AB 14 e=pt b14):
  ∃ e' h',tC (call AG (m+9)) e h=.ret e' h'∧AB 8 e'=.bool true∧Fx (fun b=>b=bd∨b=bm∨b=bc) h h':=by
 have hm0:0<mn:=by rw[hmn];split<;>omega
 have hm100:mn≤100:=by rw[hmn];split<;>omega
 have hf64:frm hd≤64:=by unfold frm;split<;>omega
 have cv:DZ .i64 (.int .u8 (at_:Int)) h=.ok (.int .i64 (at_:Int)) h:=by rw[Cy,Br (by omega)]
 have l14:=CH R14
 have rm:=nO (h:=h) (a:=at_) hm0
 obtain⟨h1,al,st,x1,R15,n1,_⟩:=Fy W MD (v:=.int .i64 ((at_ % mn:Nat):Int)) rfl rfl
 have hkm:at_ % mn<mn:=Nat.mod_lt _ hm0
 have B:Bx h1 bd bm b10 b13 b14 h.next bt (at_ % mn) mn (frm hd) tl:=⟨R15,R14.ext W x1,R13.ext W x1,R10.ext W x1,Rt.ext W x1,by have:=(s.dk.lt W).2.1;have this:bm<h.next:=this;omega,ne⟩
 have sx:=s.ext W x1
 have t:Trn b hd (at_ % mn) (tl.take (mn - at_ % mn)):=⟨fun x hx=>htb x (List.mem_of_mem_take hx),by
  rw[← hmn,List.length_take];omega,by rw[List.length_take];omega⟩
 obtain⟨h2,k2,f2,s2,B2⟩:=Ny (m:=m+6) x1.wf sx B htl htb hm100 hkm hf64
 have k2:call AG (m+9) 13 [pt h.next,pt b14,pt b13,pt b10,pt bt] h1=.ok (.bool (chg (tl.take (mn - at_ % mn)))) h2:=k2
 have s2:Sl h2 ⟨bs,bd,bm,bc,tb,24⟩ T (Cm T b hd (at_ % mn) (tl.take (mn - at_ % mn))) c0 arm [⟨1,0,1,2,b,0,u1⟩,⟨2,0,1,1,b,1,u2⟩] frs lv fv bad false:=s2
 have pre:∃ e1,tC (call AG (m+9)) e h=tD (call AG (m+9)) e1 h2∧AB 9 e1=pt tb∧AB 10 e1=pt b10∧AB 11 e1=pt bs∧AB 16 e1=clo b10 b13 b14 h.next bt∧AB 17 e1=.bool (chg (tl.take (mn - at_ % mn))):=by
  rw[kZ]
  unfold tCh
  simp only[sT,Nat.reduceLT,Nat.reduceEqDiff,if_true,if_false,reduceIte,Cd,s1,cv,AV,Ac,s14,l14,Ho,rm,al,Av,st,Dc,AN,AX,s13,s10,s6,Ci,CU,List.nil_append,k2]
  exact⟨_,rfl,by simp only[AE,Nat.reduceLT,Nat.reduceEqDiff,if_true,if_false,reduceIte];exact s9,by simp only[AE,Nat.reduceLT,Nat.reduceEqDiff,if_true,if_false,reduceIte];exact s10,by simp only[AE,Nat.reduceLT,Nat.reduceEqDiff,if_true,if_false,reduceIte];exact s11,by simp[AE],by simp[AE]⟩
 obtain⟨e1,p1,u9,u10,u11,u16,u17⟩:=pre
 obtain⟨e3,h4,r1,r2,f4⟩:=iA (m:=m) f2.wf s2 B2 htl htb hmn hkm hI hl hb t ha u9 u10 u11 u16 u17
 exact⟨e3,h4,p1.trans r1,r2,((Fx.of x1).trans (f2.mono fun b hb=>.inr (.inl hb))).trans f4⟩
theorem hU{u1 u2:Value}{o:Addr}{cp:Nat}(W:h.Wf)(s:Sl h ⟨bs,bd,bm,bc,tb,24⟩ T (GO T b) c0 arm [⟨1,0,1,2,b,0,u1⟩,⟨2,0,1,1,b,1,u2⟩] frs lv fv bad false)(R10:h.Row b10 0 [pt bd])(Rt:h.Row bt 0 (tl.map bv))(ne:b10≠bm∧bt≠bm)
  (htl:tl.length=4)(htb:∀ x∈tl,x<256)(hat:at_<256)
  (hI:DV T)(hl:1≤b.length∧b.length≤100)(hb:∀ x∈b,x<256)(ha:CT arm 60)
  (s0:AB 0 e=.slice (some o) b.length cp)(s1:AB 1 e=.int .u8 (at_:Int))(s3:AB 3 e=.bool hd)(s6:AB 6 e=pt bt)(s9:AB 9 e=pt tb)(s10:AB 10 e=pt b10)(s11:AB 11 e=pt bs):
  ∃ e' h',tB (call AG (m+9)) e h=.ret e' h'∧AB 8 e'=.bool true∧Fx (fun b=>b=bd∨b=bm∨b=bc) h h':=by
 have al1:=fun (F:CallF) (e:Env)=>Bt (F:=F) (e:=e) W (n:=1) (t:=zt3)
 have R1:=Hp.Row.alloc W MD (show [Value.int .i64 0].length=1 from rfl)
 have x1:h.Ext (h.push (.cells zt3 1 0)):=(Hp.Ext.refl W).push _
 have n1:(h.push (.cells zt3 1 0)).next=h.next+1:=rfl
 generalize h.push (.cells zt3 1 0)=h1 at al1 R1 x1 n1
 have al2:=fun (F:CallF) (e:Env)=>Bt (F:=F) (e:=e) x1.wf (n:=1) (t:=zt3)
 have R2:=Hp.Row.alloc x1.wf MD (show [Value.int .i64 0].length=1 from rfl)
 have y2:h1.Ext (h1.push (.cells zt3 1 0)):=(Hp.Ext.refl x1.wf).push _
 have n2:(h1.push (.cells zt3 1 0)).next=h1.next+1:=rfl
 generalize h1.push (.cells zt3 1 0)=h2 at al2 R2 y2 n2
 have x2:=x1.trans y2
 obtain⟨h3,st3,x3,R3,n3,kp3⟩:=IW W x2 (Nat.le_refl _) (R1.ext x1.wf y2) (v:=.int .i64 64) rfl rfl
 obtain⟨h4,st4,x4,R4,n4,kp4⟩:=IW W x3 (show h.next≤h1.next by omega) (kp3 _ _ _ (by omega) R2) (v:=.int .i64 (b.length:Int)) rfl rfl
 have R34:=kp4 _ _ _ (by omega) R3
 have lt:=(s.dk.lt W).2.1
 have lt:bm<h.next:=lt
 cases hd with
 |false=>
  have pre:∃ e1,tB (call AG (m+9)) e h=tC (call AG (m+9)) e1 h4∧AB 1 e1=.int .u8 (at_:Int)∧AB 6 e1=pt bt∧AB 9 e1=pt tb∧AB 10 e1=pt b10∧AB 11 e1=pt bs∧AB 13 e1=pt h.next∧AB 14 e1=pt h1.next:=by
   rw[bE]
   unfold tBh
   simp only[sT,Nat.reduceLT,Nat.reduceEqDiff,if_true,if_false,reduceIte,Ay,s0,E7,al1,al2,Av,st3,st4,BU,s3,BH]
   exact⟨_,rfl,by simp only[AE,Nat.reduceLT,Nat.reduceEqDiff,if_true,if_false,reduceIte];exact s1,by simp only[AE,Nat.reduceLT,Nat.reduceEqDiff,if_true,if_false,reduceIte];exact s6,by simp only[AE,Nat.reduceLT,Nat.reduceEqDiff,if_true,if_false,reduceIte];exact s9,by simp only[AE,Nat.reduceLT,Nat.reduceEqDiff,if_true,if_false,reduceIte];exact s10,by simp only[AE,Nat.reduceLT,Nat.reduceEqDiff,if_true,if_false,reduceIte];exact s11,by simp[AE],by simp[AE]⟩
  obtain⟨e1,p1,t1,t6,t9,t10,t11,t13,t14⟩:=pre
  obtain⟨e2,h5,r1,r2,f5⟩:=XI (m:=m) (hd:=false) (mn:=b.length) x4.wf (s.ext W x4) R4 R34 (R10.ext W x4) (Rt.ext W x4) ⟨by omega,by omega,ne⟩ htl htb rfl hat hI hl hb ha t1 t6 t9 t10 t11 t13 t14
  exact⟨e2,h5,p1.trans r1,r2,(Fx.of x4).trans f5⟩
 |true=>
  obtain⟨h5,st5,x5,R5,n5,kp5⟩:=IW W x4 (Nat.le_refl _) R34 (v:=.int .i64 0) rfl rfl
  obtain⟨h6,st6,x6,R6,n6,kp6⟩:=IW W x5 (show h.next≤h1.next by omega) (kp5 _ _ _ (by omega) R4) (v:=.int .i64 60) rfl rfl
  have R56:=kp6 _ _ _ (by omega) R5
  have pre:∃ e1,tB (call AG (m+9)) e h=tC (call AG (m+9)) e1 h6∧AB 1 e1=.int .u8 (at_:Int)∧AB 6 e1=pt bt∧AB 9 e1=pt tb∧AB 10 e1=pt b10∧AB 11 e1=pt bs∧AB 13 e1=pt h.next∧AB 14 e1=pt h1.next:=by
   rw[bE]
   unfold tBh
   simp only[sT,Nat.reduceLT,Nat.reduceEqDiff,if_true,if_false,reduceIte,Ay,s0,E7,al1,al2,Av,st3,st4,BU,s3,st5,st6,BH]
   exact⟨_,rfl,by simp only[AE,Nat.reduceLT,Nat.reduceEqDiff,if_true,if_false,reduceIte];exact s1,by simp only[AE,Nat.reduceLT,Nat.reduceEqDiff,if_true,if_false,reduceIte];exact s6,by simp only[AE,Nat.reduceLT,Nat.reduceEqDiff,if_true,if_false,reduceIte];exact s9,by simp only[AE,Nat.reduceLT,Nat.reduceEqDiff,if_true,if_false,reduceIte];exact s10,by simp only[AE,Nat.reduceLT,Nat.reduceEqDiff,if_true,if_false,reduceIte];exact s11,by simp[AE],by simp[AE]⟩
  obtain⟨e1,p1,t1,t6,t9,t10,t11,t13,t14⟩:=pre
  obtain⟨e2,h7,r1,r2,f7⟩:=XI (m:=m) (hd:=true) (mn:=60) x6.wf (s.ext W x6) R6 R56 (R10.ext W x6) (Rt.ext W x6) ⟨by omega,by omega,ne⟩ htl htb rfl hat hI hl hb ha t1 t6 t9 t10 t11 t13 t14
  exact⟨e2,h7,p1.trans r1,r2,(Fx.of x6).trans f7⟩
theorem hQ{o:Addr}{cp:Nat}(W0:h0.Wf)(x0:h0.Ext h)(V:h0.Vals (.slice (some o) b.length cp) (b.map bv))(Rt:h0.Row bt 0 (tl.map bv))(hD:h0.next≤bs∧h0.next≤bd∧h0.next≤bm∧h0.next≤bc)(s:Sl h ⟨bs,bd,bm,bc,tb,24⟩ T LV c0 arm [] [0,1,2,3,4,5,6,7] lv fv bad false)(hlv:lv=.slice none 0 0)(R10:h.Row b10 0 [pt bd])(ne:b10≠bs∧b10≠bd∧b10≠bm∧b10≠bc)
  (htl:tl.length=4)(htb:∀ x∈tl,x<256)(hat:at_<256)
  (hI:DV T)(hl:1≤b.length∧b.length≤100)(hb:∀ x∈b,x<256)(ha:CT arm 90)
  (s0:AB 0 e=.slice (some o) b.length cp)(s1:AB 1 e=.int .u8 (at_:Int))(s3:AB 3 e=.bool hd)(s6:AB 6 e=pt bt)(s9:AB 9 e=pt tb)(s10:AB 10 e=pt b10)(s11:AB 11 e=pt bs)(s12:AB 12 e=.bool true):
  ∃ e' h',tA (call AG (m+9)) e h=.ret e' h'∧AB 8 e'=.bool true∧h0.Ext h':=by
 have W:=x0.wf
 have hge:∀ x,(⟨bs,bd,bm,bc,tb,24⟩:At).D x→h0.next≤x:=fun x hx=>by
  rcases hx with h1|h1|h1|h1
  ·have h1:x=bs:=h1
   omega
  ·have h1:x=bd:=h1
   omega
  ·have h1:x=bm:=h1
   omega
  ·have h1:x=bc:=h1
   omega
 have n10:¬ (⟨bs,bd,bm,bc,tb,24⟩:At).D b10:=fun hx=>by
  rcases hx with h1|h1|h1|h1
  ·exact ne.1 h1
  ·exact ne.2.1 h1
  ·exact ne.2.2.1 h1
  ·exact ne.2.2.2 h1
 obtain⟨h1,c1,arm1,lv1,fv1,k1',k1,f1,q1,e1,a1⟩:=Sh (m:=m+1) (k:=80) W s (fun _=>hlv) (a:=1) (b:=0) (c:=1) (V.ext W0 x0) hb hl (rOk (.inl rfl) (.inl rfl) hl.2) rfl rfl (fun i x y hx hy=>by
  match i,hx,hy with
  |0,hx,hy=>cases hy
  |i+1,hx,hy=>cases hx) (by show 0≤10;omega) ha
 obtain⟨u1,rfl⟩:=OL e1
 have x1:=Fx.extF x0 f1 hge
 obtain⟨h2,c2,arm2,lv2,fv2,k2',k2,f2,q2,e2,a2⟩:=Sh (m:=m+1) (k:=70) f1.wf q1 (fun h=>by cases h) (a:=2) (b:=0) (c:=1) (V.ext W0 x1) hb hl (rOk (.inr rfl) (.inl rfl) hl.2) rfl rfl (fun i x y hx hy=>by
  match i,hx,hy with
  |0,hx,hy=>
   cases hx;cases hy
   have:Tw ⟨2,0,1,1,b,1⟩ ⟨1,0,1,1,b,0⟩=1:=rfl
   exact Int.le_of_lt (show(0:Int)<Tw ⟨2,0,1,1,b,1⟩ ⟨1,0,1,1,b,0⟩by rw[this];decide)
  |1,hx,hy=>cases hy
  |i+2,hx,hy=>cases hx) (by show 1≤10;omega) a1
 obtain⟨u2,rfl⟩:=OL e2
 have x2:=Fx.extF x1 f2 hge
 obtain⟨h3,c3,arm3,lv3,k3,f3,q3,a3⟩:=YG (m:=m+1) (k:=60) f2.wf q2 (j:=0) rfl rfl (a:=1) (b:=0) (c:=1) rfl ⟨rfl,rfl,rfl⟩ rfl (fun k hk=>by
  intro hh
  have hk:k∈[(⟨1,0,1,1,b,0,u1⟩:Kt),⟨2,0,1,1,b,1,u2⟩]:=hk
  simp only[List.mem_cons,List.not_mem_nil,or_false]at hk
  rcases hk with rfl|rfl
  ·exact absurd (show(1:Int)<1 from hh.2.2) (by decide)
  ·exact absurd (show(1:Int)<1 from hh.2.2) (by decide)) (by show 3 * 0+3≤24;omega) (by show 2≤1000;omega) a2
 have x3:=Fx.extF x2 f3 hge
 have q3:Sl h3 ⟨bs,bd,bm,bc,tb,24⟩ T (GO T b) c3 arm3 [⟨1,0,1,2,b,0,u1⟩,⟨2,0,1,1,b,1,u2⟩] [2,3,4,5,6,7] lv3 fv2 bad false:=q3
 have k1:call AG (m+9) 11 [pt bs,.int .i64 1,.int .i64 0,.int .i64 1,.slice (some o) b.length cp] h=.ok (.int .i64 0) h1:=k1
 have k2:call AG (m+9) 11 [pt bs,.int .i64 2,.int .i64 0,.int .i64 1,.slice (some o) b.length cp] h1=.ok (.int .i64 0) h2:=k2
 have k3:call AG (m+9) 12 [pt bs,.int .i64 1,.int .i64 0,.int .i64 1] h2=.ok (.int .i64 0) h3:=k3
 have c0':iNe 0 0=false:=Db rfl
 have pre:∃ e1,tA (call AG (m+9)) e h=tB (call AG (m+9)) e1 h3∧AB 0 e1=.slice (some o) b.length cp∧AB 1 e1=.int .u8 (at_:Int)∧AB 3 e1=.bool hd∧AB 6 e1=pt bt∧AB 9 e1=pt tb∧AB 10 e1=pt b10∧AB 11 e1=pt bs:=by
  rw[kY]
  unfold tAh
  simp only[sT,Nat.reduceLT,Nat.reduceEqDiff,if_true,if_false,reduceIte,gD,CG,CF,s12,Bool.not_true,s11,s0,Ab,AN,AX,k1,AS,AQ,c0',k2,k3]
  exact⟨_,rfl,by simp only[AE,Nat.reduceLT,Nat.reduceEqDiff,if_true,if_false,reduceIte];exact s0,by simp only[AE,Nat.reduceLT,Nat.reduceEqDiff,if_true,if_false,reduceIte];exact s1,by simp only[AE,Nat.reduceLT,Nat.reduceEqDiff,if_true,if_false,reduceIte];exact s3,by simp only[AE,Nat.reduceLT,Nat.reduceEqDiff,if_true,if_false,reduceIte];exact s6,by simp only[AE,Nat.reduceLT,Nat.reduceEqDiff,if_true,if_false,reduceIte];exact s9,by simp only[AE,Nat.reduceLT,Nat.reduceEqDiff,if_true,if_false,reduceIte];exact s10,by simp only[AE,Nat.reduceLT,Nat.reduceEqDiff,if_true,if_false,reduceIte];exact s11⟩
 obtain⟨e1,p1,t0,t1,t3,t6,t9,t10,t11⟩:=pre
 have R103:=f3.row f2.wf (f2.row f1.wf (f1.row W R10 n10) n10) n10
 obtain⟨e2,h4,r1,r2,f4⟩:=hU (m:=m) f3.wf q3 R103 (Rt.ext W0 x3) ⟨ne.2.2.1,by have:=Rt.lt W0;omega⟩ htl htb hat hI hl hb a3 t0 t1 t3 t6 t9 t10 t11
 exact⟨e2,h4,p1.trans r1,r2,Fx.extF x3 f4 fun x hx=>hge x (.inr hx)⟩
theorem UI{u:Value}(W:h.Wf)(V:h.Vals u (b.map bv))(hC:N2 u)(hb:∀ x∈b,x<256)(hat:at_<256)(htl:tl.length=4)(htb:∀ x∈tl,x<256):
  ∃ h',call AG (m+10) 3 [u,.int .u8 (at_:Int),.agg ⟨tl.map bv⟩,.bool hd] h=.ok (.bool true) h'∧h.Ext h':=by
 have x1:=(Hp.Ext.refl W).pushRow 0 (tl.map bv)
 have Rt:=Hp.Row.new W 0 (tl.map bv)
 have bx:∀ (F:CallF) (e:Env),AB 2 e=.agg ⟨tl.map bv⟩→DL (AB 2) F e h=.ok (pt h.next) (h.pushRow 0 (tl.map bv)):=fun F e he=>by
  rw[Fe,he,FR W rfl];rfl
 generalize h.pushRow 0 (tl.map bv)=h1 at bx x1 Rt
 have Vl:=V.bl h1
 have aw:=Kv (bs:=AG) (n:=m+8) (f:=8) OB (h:=h1)
 by_cases h0:b.length=0
 ·have c1:iEq (b.length:Int) 0=true:=C4 (by omega)
  refine⟨h1,?_,x1⟩
  rw[Uw rfl,VD]
  unfold d3h
  simp only[AJ,AK,Nat.succ_eq_add_one,Nat.zero_add,Nat.reduceAdd,sT,Nat.reduceLT,Nat.reduceEqDiff,if_true,if_false,reduceIte,gD,bx,Ay,Vl,AS,AQ,c1,Ab,AN,AX,aw,AP,Aa]
 ·have c1:iEq (b.length:Int) 0=false:=Cz (by omega)
  by_cases h100:100<b.length
  ·have c2:iGt (b.length:Int) 100=true:=Hz (by omega)
   refine⟨h1,?_,x1⟩
   rw[Uw rfl,VD]
   unfold d3h
   simp only[AJ,AK,Nat.succ_eq_add_one,Nat.zero_add,Nat.reduceAdd,sT,Nat.reduceLT,Nat.reduceEqDiff,if_true,if_false,reduceIte,gD,bx,Ay,Vl,AS,AQ,c1,c2,Ab,AN,AX,aw,AP,Aa]
  ·have c2:iGt (b.length:Int) 100=false:=Gk (by omega)
   obtain⟨o,cp,rfl⟩:∃ o cp,u=.slice (some o) b.length cp:=by
    rcases V with ⟨_,h2⟩|⟨bb,off,c,el,L,h1,_⟩
    ·have:=congrArg List.length h2
     rw[List.length_map]at this
     exact absurd this h0
    ·rw[List.length_map]at h1
     exact⟨_,_,h1⟩
   have k9:call AG (m+9) 9 [] h1=.ok (.agg ⟨Jf⟩) h1:=S8 (n:=m+8) XL
   obtain⟨T,hTl,hT,hI⟩:=aM
   rw[hTl]at k9
   have hz:aQ.zero.length=256:=by kernel_rfl
   have f9:=fun (F:CallF) (e:Env)=>Bt (F:=F) (e:=e) (n:=256) (t:=N1) x1.wf
   have y2:=(Hp.Ext.refl x1.wf).push (.cells N1 256 0)
   have R9:(h1.push (.cells N1 256 0)).Row h1.next 0 aQ.zero:=Hp.Row.alloc x1.wf aZ hz
   generalize h1.push (.cells N1 256 0)=h2 at f9 y2 R9
   obtain⟨st,y3,R9'⟩:=gq x1.wf y2 (Nat.le_refl _) R9 hz hT.1
   generalize h2.wr h1.next 0 (T.map wv)=h3 at st y3 R9'
   have x3:=x1.trans y3
   obtain⟨h4,bs,bd,bm,bc,lv,fv,c4,arm4,k4,x4,s4,hlv,l1,l2,l3,l4,a4⟩:=Tv (m:=m) (k:=90) x3.wf R9' hT
   obtain⟨h5,al5,st5,x5,R5,n5,_⟩:=Fy x4.wf aa (v:=pt bd) rfl rfl
   have dl:=s4.dk.lt x4.wf
   have dl:bd<h4.next∧bm<h4.next∧bc<h4.next:=dl
   have bl:=s4.row.lt x4.wf
   have bl:bs<h4.next:=bl
   have pre:∃ e1,d3h (call AG (m+9)) (AZ e0 0 [.slice (some o) b.length cp,.int .u8 (at_:Int),.agg ⟨tl.map bv⟩,.bool hd]) h=tA (call AG (m+9)) e1 h5∧AB 0 e1=.slice (some o) b.length cp∧AB 1 e1=.int .u8 (at_:Int)∧AB 3 e1=.bool hd∧AB 6 e1=pt h.next∧AB 9 e1=pt h1.next∧AB 10 e1=pt h4.next∧AB 11 e1=pt bs∧AB 12 e1=.bool true:=by
    unfold d3h
    simp only[AJ,AK,Nat.succ_eq_add_one,Nat.zero_add,Nat.reduceAdd,sT,Nat.reduceLT,Nat.reduceEqDiff,if_true,if_false,reduceIte,gD,bx,Ay,Vl,AS,AQ,c1,c2,Ab,AN,AX,k9,f9,Av,st,k4,BM,BV,Ba,Cj,al5,st5]
    exact⟨_,rfl,by simp[AE],by simp[AE],by simp[AE],by simp[AE],by simp[AE],by simp[AE],by simp[AE],by simp[AE]⟩
   obtain⟨e1,p1,t0,t1,t3,t6,t9,t10,t11,t12⟩:=pre
   obtain⟨e2,h6,r1,r2,x6⟩:=hQ (m:=m) x3.wf (x4.trans x5) (V.ext W x3) (Rt.ext x1.wf y3) ⟨l1,l2,l3,l4⟩ (s4.ext x4.wf x5) hlv R5 ⟨by omega,by omega,by omega,by omega⟩ htl htb hat hI (by omega) hb a4 t0 t1 t3 t6 t9 t10 t11 t12
   refine⟨h6,?_,x3.trans x6⟩
   rw[Uw rfl,VD,p1,r1]
   simp only[AP,Aa,r2]
end
end
end Go.Proofs.YtedbmmfebjfibaaGreat
namespace Go.Proofs.YtedbmmfebjfibaaGreat.slotsSound
noncomputable section
open Go Go.ChangeShapes Go.WideShapes Go.ChangeAt Go.RowKit
set_option linter.unusedVariables false
theorem own:ownKnob Tryz.prog.godebug=none:=by kernel_rfl
theorem KH:laidOutB Tryz.prog=true:=by kernel_rfl
theorem ey:Tryz.prog.cellsOf 5=1:=by kernel_rfl
theorem I5{P:Program}{W:World}{base t:Nat}{v:Value}(ht:P.underlying t=some (.int .u8))(h:Cell.okWide P W .any base t v):∃ n:Nat,v=.int .u8 (n:Int)∧n<256:=by
 unfold Cell.okWide at h
 rw[ht]at h
 have h:Cell.ok P W .any base t v:=by cases v<;>exact h
 unfold Cell.ok at h
 rw[ht]at h
 split at h<;>first|(exact h.elim;done)|skip
 all_goals (rename_i n e1 _;cases e1)
 have h1:0≤n:=h.2.1
 have h2:n≤255:=h.2.2
 obtain⟨m,rfl⟩:=Int.eq_ofNat_of_zero_le h1
 exact⟨m,by rw[h.1],by omega⟩
theorem Un{P:Program}{W:World}{base t:Nat}{v:Value}(ht:P.underlying t=some .bool)(h:Value.okWide P W .any base t v):∃ b,v=.bool b:=by
 unfold Value.okWide at h
 rw[ht]at h
 have h:Cell.okWide P W .any base t v:=h
 unfold Cell.okWide at h
 rw[ht]at h
 have h:Cell.ok P W .any base t v:=by cases v<;>exact h
 unfold Cell.ok at h
 rw[ht]at h
 cases v with
 |bool b=>exact⟨b,rfl⟩
 |_=>exact h.elim
theorem iI{P:Program}{W:World}{base t:Nat}{v:Value}(ht:P.underlying t=some (.int .u8))(h:Value.okWide P W .any base t v):∃ n:Nat,v=.int .u8 (n:Int)∧n<256:=by
 unfold Value.okWide at h
 rw[ht]at h
 exact I5 ht h
theorem Xn{P:Program}{W:World}{base t n e:Nat}{v:Value}{ts:List Nat}(ht:P.underlying t=some (.array n e))(hts:P.cellTypes P.depth t=some ts)(hn:P.cellsOf t=ts.length)(h:Value.okWide P W .any base t v):
  ∃ l:List Value,v=.agg ⟨l⟩∧l.length=ts.length∧∀ (i:Nat) (u:Nat) (x:Value),ts[i]? =some u→l[i]? =some x→Cell.okWide P W .any base u x:=by
 unfold Value.okWide at h
 rw[ht]at h
 obtain⟨cs,rfl,hsz,ts',hts',_,hc⟩:=h
 rw[hts]at hts'
 cases hts'
 cases cs with|mk l=>
 refine⟨l,rfl,by rw[← hn];exact hsz,fun i u x hu hx=>?_⟩
 obtain⟨u',h1,h2⟩:=hc i x (by simpa using hx)
 have hi:i<ts.length:=(List.getElem?_eq_some_iff.1 hu).1
 rw[Nat.mod_eq_of_lt hi,hu]at h1
 cases h1
 exact h2
theorem Ur{l:List Int}(h:∀ z∈l,(Lit.int .u8 z).wf=true):∃ m:List Nat,ints .u8 l=m.map bv∧∀ x∈m,x<256:=by
 refine⟨l.map Int.toNat,?_,fun x hx=>?_⟩
 ·unfold ints
  rw[List.map_map]
  refine List.map_congr_left fun z hz=>?_
  have:=bounds_u8 (h z hz)
  show Value.int .u8 z=.int .u8 ((z.toNat:Nat):Int)
  rw[Int.toNat_of_nonneg this.1]
 ·obtain⟨z,hz,rfl⟩:=List.mem_map.1 hx
  have:=bounds_u8 (h z hz)
  omega
theorem ex{φ:Phi}{u v:Value}(h:RelV φ u v):N2 u:=fun o n c e=>by
 subst e
 cases h with
 |slice0=>exact Nat.le_refl _
 |slice hn _=>exact hn
theorem ME{P:Program}{W:World}{base t e:Nat}{v:Value}(ht:P.underlying t=some (.slice e))(h:Value.okWide P W .any base t v):Cell.okWide P W .any base t v:=by
 unfold Value.okWide at h
 rw[ht]at h
 exact h
set_option maxRecDepth 100000 in
theorem iL{H:Type}{enc:TypeId×Value→H}(x y z o:Value)(w:World){base:Nat}{d:DataW H}{p:List MemPlace}(hx:Value.okWide Tryz.prog w .any base 22 x)(hy:Value.okWide Tryz.prog w .any base 5 y)(hz:Value.okWide Tryz.prog w .any base 23 z)(ho:Value.okWide Tryz.prog w .any base 4 o)
  (tx:DataW.Trod enc Tryz.prog w 0 (fun _=>true) true 22 x d p)(fx:∀ b off,MemPlace.cell b off∈p→w.frozen? ⟨b,off,none⟩=false):
  Calls Tryz.prog 3 #[x,y,z,o] w fun e w'=>e=.returned (.bool true)∧Below w.heap.size w w':=by
 obtain⟨l,rfl,hl,hc⟩:=Xn Tryz.underlying23 (ts:=[5,5,5,5]) (by kernel_rfl) (by kernel_rfl) hz
 match l,hl,hc with
 |[x0,x1,x2,x3],_,hc=>
  obtain⟨a0,rfl,h0⟩:=I5 Tryz.underlying5 (hc 0 5 x0 rfl rfl)
  obtain⟨a1,rfl,h1⟩:=I5 Tryz.underlying5 (hc 1 5 x1 rfl rfl)
  obtain⟨a2,rfl,h2⟩:=I5 Tryz.underlying5 (hc 2 5 x2 rfl rfl)
  obtain⟨a3,rfl,h3⟩:=I5 Tryz.underlying5 (hc 3 5 x3 rfl rfl)
  obtain⟨at_,rfl,hat⟩:=iI Tryz.underlying5 hy
  obtain⟨ob,rfl⟩:=Un Tryz.underlying4 ho
  have hx':=ME Tryz.underlying22 hx
  obtain⟨fuel,hf⟩:=tx
  have hf:DataW.trod enc Tryz.prog w 0 (fun _=>true) true fuel 22 [x]=some (d,p):=by
   rcases L4 Tryz.underlying22 hx' with rfl|⟨a,n,c,rfl,_⟩<;>exact hf
  obtain⟨bs,hbs,I⟩:=Yz Tryz.underlying22 Tryz.underlying5 ey hx' hf fx
  obtain⟨m,hm,hmb⟩:=Ur hbs
  obtain⟨u,q0,Z0,i1,i2,i3⟩:=I.rel 0
  have W0:(inH [ints .u8 Z0,[]]).Wf:=Vi (by show 2≤256;omega)
  have V:=i3 _ (Yx (Ls:=[ints .u8 Z0,[]]) (by show 2≤256;omega) (i:=0) rfl)
  rw[hm]at V
  have ru:=i2 (Ol [q0,none]) rfl
  obtain⟨h',hr,hx2⟩:=UI (m:=54) (hd:=ob) (tl:=[a0,a1,a2,a3]) W0 V (ex ru) hmb hat rfl (fun x hx=>by
   simp only[List.mem_cons,List.not_mem_nil,or_false]at hx
   rcases hx with rfl|rfl|rfl|rfl<;>assumption)
  exact aD U4 hr hx2 rfl (.cons ru (.cons (.int _ _) (.cons (.agg (.cons (.int _ _) (.cons (.int _ _) (.cons (.int _ _) (.cons (.int _ _) .nil))))) (.cons (.bool _) .nil)))) (aP i1 (.inl rfl) (fun φ=>On φ _ _) (fun φ=>.nil))
set_option maxRecDepth 100000 in
theorem gT(os:Os)(started:os.Started)(H:Type)(enc:TypeId×Value→H):
  ReturnsInHanded {} Tryz.checked os 3 .any (Rows.slotsSoundSpec.pre6 enc Tryz.prog Tryz.f3 Rows.slotsSoundRow.domain false) (Rows.slotsSoundSpec.post enc Tryz.prog Tryz.f3 false true false false):=by
 refine returnsInHanded_of_change (C:=Tryz.checked) own started (by kernel_rfl) Tryz.func3
  (ChangeSpec.witness6 (enc:=enc) (C:=Tryz.checked) false ⟨#[],#[.slice none 0 0,.int .u8 0,.agg #[.int .u8 0,.int .u8 0,.int .u8 0,.int .u8 0],.bool false],[]⟩ 8 (by kernel_rfl) (by kernel_rfl) (by kernel_rfl) (by kernel_rfl)) ?_
 intro W base args ds gs before hval0 hW hcnd _
 have hval:∀ (j:Nat) t v,Tryz.f3.params[j]? =some t→args[j]? =some v→Value.okWide Tryz.prog W .any base t v:=hval0
 have hW':=hW
 obtain⟨p,q,hA0,hV,rfl,hfz,hnd⟩:=hW
 have hA:DataW.TrodAll enc Tryz.prog W 0 (fun _=>true) true Tryz.f3.params.toList args.toList ds p:=hA0
 rw[Tryz.params3]at hA hval
 obtain⟨v0,vs0,d0,ds0,p0,q0,hargs,rfl,rfl,h0,r0⟩:=trodAll_cons hA
 obtain⟨v1,vs1,d1,ds1,p1,q1,rfl,rfl,rfl,h1,r1⟩:=trodAll_cons r0
 obtain⟨v2,vs2,d2,ds2,p2,q2,rfl,rfl,rfl,h2,r2⟩:=trodAll_cons r1
 obtain⟨v3,vs3,d3,ds3,p3,q3,rfl,rfl,rfl,h3,r3⟩:=trodAll_cons r2
 obtain⟨rfl,rfl,rfl⟩:=trodAll_nil r3
 obtain rfl:args= #[v0,v1,v2,v3]:=by cases args;simp_all
 obtain⟨rfl,rfl⟩:=trodVars_none hV
 clear hA0 hval0
 simp only[List.append_nil]at hW' hfz
 have hlt:∀ x∈p0++(p1++(p2++p3)),x.block<W.heap.size:=fun x hx=>hW'.lt x hx
 have i0:∀ x∈p0,x∈p0++(p1++(p2++p3)):=fun x hx=>List.mem_append_left _ hx
 have i1:∀ x∈p1,x∈p0++(p1++(p2++p3)):=fun x hx=>List.mem_append_right _ (List.mem_append_left _ hx)
 have i2:∀ x∈p2,x∈p0++(p1++(p2++p3)):=fun x hx=>List.mem_append_right _ (List.mem_append_right _ (List.mem_append_left _ hx))
 have i3:∀ x∈p3,x∈p0++(p1++(p2++p3)):=fun x hx=>List.mem_append_right _ (List.mem_append_right _ (List.mem_append_right _ hx))
 refine(iL v0 v1 v2 v3 W (hval 0 22 v0 rfl rfl) (hval 1 5 v1 rfl rfl) (hval 2 23 v2 rfl rfl) (hval 3 4 v3 rfl rfl) h0 (fun b off hm=>hfz b off (i0 _ hm))).mono fun e W' ⟨he,hb⟩=>?_
 subst he
 refine⟨_,rfl,MI (pa:=p0++(p1++(p2++p3))) (pv:=[]) hW' (fun _ _ _=>(trodAll_cons_mk (shut_bool Tryz.underlying4 _) trodAll_mk0)) (fun sp hsp=>?_) (fun _ _=>rfl) (by simp) hb (ok_one (by kernel_rfl) rfl (okWide_bool_mk Tryz.underlying4 _))⟩
 have s0:=WideElems.Trod_stays KH (by kernel_rfl) (of_decide_eq_true (by kernel_rfl)) h0 (fun x hx=>hb.same (hlt x (i0 x hx))) (fun x hx=>hsp x (i0 x hx))
 have s1:=WideElems.Trod_stays KH (by kernel_rfl) (of_decide_eq_true (by kernel_rfl)) h1 (fun x hx=>hb.same (hlt x (i1 x hx))) (fun x hx=>hsp x (i1 x hx))
 have s2:=WideElems.Trod_stays KH (by kernel_rfl) (of_decide_eq_true (by kernel_rfl)) h2 (fun x hx=>hb.same (hlt x (i2 x hx))) (fun x hx=>hsp x (i2 x hx))
 have s3:=WideElems.Trod_stays KH (by kernel_rfl) (of_decide_eq_true (by kernel_rfl)) h3 (fun x hx=>hb.same (hlt x (i3 x hx))) (fun x hx=>hsp x (i3 x hx))
 have:=trodAll_cons_mk s0 (trodAll_cons_mk s1 (trodAll_cons_mk s2 (trodAll_cons_mk s3 (trodAll_mk0 (enc:=enc) (P:=Tryz.prog) (w:=W') (base:=0) (spare:=sp) (held:=true)))))
 rw[List.append_nil]at this
 exact this
theorem over:Rows.slotsSoundRow.holds Tryz.pinned (OpenSpec.ofChange Rows.slotsSoundSpec):=
 OpenClaim.holds_of_wide 3 Tryz.f3 rfl rfl rfl rfl rfl rfl rfl ⟨rfl,rfl,rfl,rfl,rfl⟩ rfl rfl rfl rfl rfl (by kernel_rfl) Tryz.func3 (by kernel_rfl)
  (of_decide_eq_true (by kernel_rfl)) (by unfold Func.isWrapper;first|(rw[if_pos (by decide +kernel)];kernel_rfl)|(rw[if_neg (by decide +kernel)];exact⟨rfl,rfl⟩))
  (fun os started H enc _=>gT os started H enc)
theorem proved:Rows.SlotsSoundSaid:=
 over
#print axioms proved
end
end Go.Proofs.YtedbmmfebjfibaaGreat.slotsSound

/-
  Part ZK of what Lawso stands on: printed by program, names and spaces cut.
-/
import Derived.Test.YtedbmmfebjfibaaGreatZJ
set_option linter.unusedVariables false
set_option linter.unusedSimpArgs false
namespace Go.Proofs.YtedbmmfebjfibaaGreat
noncomputable section
open Go
set_option maxRecDepth 100000
theorem mr:MK.k=.slice 5:=by kernel_rfl
theorem gW{F:CallF}{e:Env}{h:Hp}{a:Addr}{n c:Nat}{g:O}(hg:g e=.slice (some a) n c):oEq MK.k false g (kV (.slice none 0 0)) F e h=.ok (.bool false) h:=by
 show(match eqV MK.k (g e) (.slice none 0 0)with|some r=>okB (false != r) h|none=>.no)=_
 rw[mr,hg]
 exact Ft
theorem NK{h0 h:Hp}{eb en k b:Nat}{u:Value}{ys:List Value}(x0:h0.Ext h)(hk2:k≤h.next)(r:h.Row b 0 [])(y:h.Vals u ys)(hy:0<ys.length)(ha:Bg ys=true)(hm:(ys.length+1) * (eb+1)≤1099511627776):
  ∃ h' v',Eb 1 eb en (.slice (some ⟨b,0,none⟩) 0 0) u h=.ok v' h'∧h0.Ext h'∧h'.Own k en v' ys:=by
 have W:=x0.wf
 obtain⟨cc,hcc,hl⟩:=r.rowOf
 obtain⟨t,h2,h3⟩:=Dq ys cc [] 0 hl (.inr rfl)
 have h3:t.Is ys:=by simpa using h3
 refine⟨h.push (.cells t ys.length (en+1)),.slice (some ⟨h.next,0,none⟩) ys.length ys.length,?_,x0.push _,.inr ⟨h.next,rfl,⟨t,by rw[W.push_get,if_pos rfl],h3⟩,hk2,W.big⟩⟩
 unfold Eb Dg
 simp only[y.lenV,y.src rfl,Ao,Nat.add_eq,Nat.zero_add]
 have e1:Nat.ble ys.length 0=false:=by
  cases e:Nat.ble ys.length 0
  ·rfl
  ·have:=Aq.1 e;omega
 have e2:Nat.ble (Nat.mul (Nat.succ ys.length) (Nat.succ eb)) Ip=true:=Aq.2 (Hi hm)
 rw[e1]
 simp only[e2,cond_true,ha]
 unfold Gj
 have hcc:rowOf h b=.ok cc 0 0:=hcc
 have e3:Nat.beq 0 (Nat.mul 0 1)=true:=rfl
 simp only[hcc,e3,h2]
 unfold Ee
 simp only[hcc,BW,Nat.add_eq,Nat.zero_add]
 unfold CO
 rw[Ao,Cr W];rfl
theorem OS{F:CallF}{e:Env}{h:Hp}(W:h.Wf):Af 0 (BG ty5.zero 0) [] F e h=.ok (.slice (some ⟨h.next,0,none⟩) 0 0) (h.pushRow 0 []):=by
 have:BG ty5.zero 0=[]:=rfl
 rw[this,Ck,CV,DH W];rfl
theorem OH{n:Nat}{h:Hp}(W:h.Wf){a:Addr}{c:Nat}{l:List Nat}(V:h.Vals (.slice (some a) l.length c) (l.map bv))(hl:l.length≤900000):∃ h' v,call AG (n+1) 39 [.slice (some a) l.length c] h=.ok v h'∧h.Ext h'∧Mk h' h.next v l:=by
 have y1:=(Hp.Ext.refl W).pushRow 0 []
 have R:=Hp.Row.new W 0 []
 have es:=fun (e:Env)=>OS (F:=call AG n) (e:=e) W
 have n1:(h.pushRow 0 []).next=h.next+1:=rfl
 generalize h.pushRow 0 []=h1 at y1 R es n1
 have ne:∀ e:Env,AB 0 e=.slice (some a) l.length c→oEq MK.k false (AB 0) (kV (.slice none 0 0)) (call AG n) e h=.ok (.bool false) h:=fun e he=>gW he
 rcases Nat.eq_zero_or_pos l.length with hz|hz
 ·have hl0:l=[]:=List.eq_nil_of_length_eq_zero hz
  subst hl0
  have h256:=W.big
  have ap:Eb 1 1 5 (.slice (some ⟨h.next,0,none⟩) 0 0) (.slice (some a) 0 c) h1=.ok (.slice (some ⟨h.next,0,none⟩) 0 0) (h1.wr h.next 0 []):=N8 (l:=[]) y1.wf h256 R (V.ext W y1).bytes (Nat.le_refl _) (Nat.le_refl _)
  have R2:=R.wr_self y1.wf (off:=0) (vs:=[]) (Nat.le_refl _)
  have x2:=R.wr_ext y1 (Nat.le_refl _) (off:=0) (vs:=[]) (Nat.le_refl _)
  refine⟨_,.slice (some ⟨h.next,0,none⟩) 0 0,?_,x2,⟨h.next,0,rfl,.inl rfl,R2,Nat.le_refl _⟩⟩
  rw[Ks rfl]
  unfold d39
  have ne:∀ e:Env,AB 0 e=.slice (some a) 0 c→oEq MK.k false (AB 0) (kV (.slice none 0 0)) (call AG n) e h=.ok (.bool false) h:=ne
  simp only[AJ,AK,Nat.succ_eq_add_one,Nat.zero_add,Nat.reduceAdd,sT,Nat.reduceLT,Nat.reduceEqDiff,if_true,if_false,reduceIte,List.length_nil,ne,es,Bn,ap,AP,Aa]
 ·obtain⟨h2,v,a1,a2,a3⟩:=NK (eb:=1) (en:=5) (k:=h.next) y1 (by omega) R (V.ext W y1) (by rw[List.length_map];exact hz) (DE l) (by rw[List.length_map];omega)
  refine⟨h2,v,?_,a2,a3.mk hz⟩
  rw[Ks rfl]
  unfold d39
  simp only[AJ,AK,Nat.succ_eq_add_one,Nat.zero_add,Nat.reduceAdd,sT,Nat.reduceLT,Nat.reduceEqDiff,if_true,if_false,reduceIte,ne,es,Bn,a1,AP,Aa]
theorem VB{F:CallF}{e:Env}{h:Hp}{x y:O}{a:Addr}{el N C m:Nat}(hx:x e=.slice (some a) N C)(hy:y e=.int .i64 (m:Int))(hm:m≤C):Dj el 1 x none (some y) none F e h=.ok (.slice (some a) m C) h:=by
 show(match x e with|.slice a n c=>Dv e n c none (some y) none (fun l hh m=>Fz el 1 a false l hh m h)|_=>.no)=_
 rw[hx]
 show DM e (some y) N C (fun hh=>DM e none 0 hh fun l=>Fz el 1 (some a) false l hh C h)=_
 have hb:∀ K:Nat→R,DM e (some y) N C K=K m:=fun K=>by
  show(match C8 (y e)with|.ok n=>(bif Nat.ble n C then K n else .no)|.no=>.no)=_
  rw[hy,DG]
  simp only
  rw[Aq.2 hm];rfl
 rw[hb]
 show CB (some a) 1 0 m C h=_
 unfold CB
 simp only[Ao]
 cases C with
 |zero=>rfl
 |succ C=>rfl
theorem Wh{F:CallF}{e:Env}{h:Hp}{k:C}{o:Addr}{n c:Nat}(hb:o.block<h.mark):Ja (.slice (some o) n c) k F e h=k F e h:=by
 show(bif Nat.blt o.block h.mark then k F e h else .no)=_
 rw[BL.2 hb];rfl
theorem Hp.Vals.blt{h:Hp}(W:h.Wf){o:Addr}{n c:Nat}{xs:List Value}(V:h.Vals (.slice (some o) n c) xs):o.block<h.next:=by
 rcases V with ⟨h1,_⟩|⟨b,off,c',el,L,h1,h2,_⟩
 ·cases h1
 ·cases h1;exact h2.lt W
def N2(u:Value):Prop:=∀ o n c,u=.slice o n c→n≤c
theorem Mk.cap{h:Hp}{k:Nat}{v:Value}{l:List Nat}(m:Mk h k v l):N2 v:=fun o n c e=>by
 obtain⟨b,el,h1,_⟩:=m
 rw[h1]at e;cases e;exact Nat.le_refl _
def nG(T l:List Nat)(h h':Hp)(r:R):Prop:=(∃ body v,Dh T l=some body∧r=.ok (.tuple ⟨[v,.int .i64 0]⟩) h'∧Mk h' h.next v body)∨(Dh T l=none∧∃ c:Int,c≠0∧r=.ok (.tuple ⟨[.slice none 0 0,.int .i64 c]⟩) h')
theorem UT{n:Nat}{h:Hp}(W:h.Wf){tb:Nat}{T:List Nat}(R:h.Row tb 0 (T.map wv))(hT:TblOk T){u:Value}{l:List Nat}(V:h.Vals u (l.map bv))(hC:N2 u)(hb:∀ x∈l,x<256)(hl:l.length≤900000):
  ∃ h',h.Ext h'∧nG T l h h' (call AG (n+3) 110 [pt tb,u] h):=by
 have Vl:=V.bl h
 by_cases h4:l.length<4
 ·have c1:iLt (l.length:Int) 4=true:=E8 h4
  refine⟨h,.refl W,.inr ⟨by unfold Dh;rw[if_pos h4],11,by omega,?_⟩⟩
  rw[ND rfl]
  unfold TB
  simp only[AJ,AK,Nat.succ_eq_add_one,Nat.zero_add,Nat.reduceAdd,sT,Nat.reduceLT,Nat.reduceEqDiff,if_true,if_false,reduceIte,Ay,Vl,AS,AQ,c1,AP,DP]
 ·have c1:iLt (l.length:Int) 4=false:=DU (a:=l.length) (b:=4) (by omega)
  have a1:Hu Int.sub .i64 (.int .i64 (l.length:Int)) (.int .i64 4) h=.ok (.int .i64 ((l.length - 4:Nat):Int)) h:=by
   have:Int.sub (l.length:Int) 4=((l.length - 4:Nat):Int):=by show(l.length:Int) - 4=_;omega
   rw[DI,this,Br (by omega)]
  have hlm:(l.map bv).length=l.length:=List.length_map ..
  obtain⟨o,c,hu,V1⟩:=V.cut (n:=l.length - 4) (by rw[hlm];omega)
  rw[hlm]at hu
  have hlen:(l.take (l.length - 4)).length=l.length - 4:=by rw[List.length_take];omega
  have V1:h.Vals (.slice (some o) (l.take (l.length - 4)).length c) ((l.take (l.length - 4)).map bv):=by rw[hlen,List.map_take];exact V1
  obtain⟨h1,v,k1,x1,m1⟩:=OH (n:=n+1) W V1 (by omega)
  rw[hlen]at k1
  have hbb:∀ x∈l.take (l.length - 4),x<256:=fun x hx=>hb x (List.mem_of_mem_take hx)
  have xm:=x1.marked
  have Wm:=xm.wf
  have xq:h.Ext h1.marked.quiet:=xm.quiet
  obtain⟨h2,w,k2,x2,m2⟩:=Sk (n:=n) xq.wf (R.ext W xq) hT ((m1.same (h':=h1.marked.quiet) rfl).vals) hbb (by omega)
  have q1:∀ (F:CallF) (e:Env),F=call AG (n+2)→AB 0 e=pt tb→AB 6 e=v→Ak .weak (AO 73 [AB 0,AB 6]) F e h1.marked=.ok w (h1.marked.back h2):=fun F e hF h0 h6=>by
   subst hF
   refine DQ ?_ x2 (Nat.le_refl _)
   rw[Ab,AN,AN,AX,h0,h6]
   exact k2
  have x3:h1.marked.Ext (h1.marked.back h2):=Hp.Ext.back x2
  have xb:=xm.trans x3
  have m3:Mk (h1.marked.back h2) h1.marked.quiet.next w (C3 T (l.take (l.length - 4))):=m2.same rfl
  have m4:Mk (h1.marked.back h2) h.next v (l.take (l.length - 4)):=(m1.same (h':=h1.marked) rfl).ext Wm x3
  have Ve:=V.ext W xb
  have st1:=m3.vals.bytes.str
  have st2:=Ve.bytes.str
  have hbs:=Uf (Pv (T:=T) hbb) hb
  have hmk:o.block<(h1.marked.back h2).mark:=by
   have h5:o.block<h.next:=by rw[hu]at V;exact V.blt W
   have h6:=x1.next
   show o.block<h1.next
   omega
  have old:∀ (k:C) (F:CallF) (e:Env),Ja u k F e (h1.marked.back h2)=k F e (h1.marked.back h2):=fun k F e=>by rw[hu];exact Wh hmk
  have ct:∀ (F:CallF) (e:Env),AB 1 e=u→AB 13 e=.int .i64 ((l.length - 4:Nat):Int)→Dj 5 1 (AB 1) none (some (AB 13)) none F e h=.ok (.slice (some o) (l.length - 4) c) h:=fun F e e1 e2=>by
   have:=hC _ _ _ hu
   exact VB (e1.trans hu) e2 (by omega)
  by_cases hs:C3 T (l.take (l.length - 4))=l
  ·refine⟨_,xb,.inl ⟨_,v,by unfold Dh;rw[if_neg h4,if_pos hs],?_,m4⟩⟩
   rw[decide_eq_true hs]at hbs
   rw[ND rfl]
   unfold TB
   simp only[AJ,AK,Nat.succ_eq_add_one,Nat.zero_add,Nat.reduceAdd,sT,Nat.reduceLT,Nat.reduceEqDiff,if_true,if_false,reduceIte,Ay,Vl,AS,AQ,c1,DK,a1,ct,Ab,AN,AX,k1,BD,q1,Mq,st1,EW,old,DY,st2,Sb,Rj,hbs,Bool.not_true,AP,DP]
  ·refine⟨_,xb,.inr ⟨by unfold Dh;rw[if_neg h4,if_neg hs],12,by omega,?_⟩⟩
   rw[decide_eq_false hs]at hbs
   rw[ND rfl]
   unfold TB
   simp only[AJ,AK,Nat.succ_eq_add_one,Nat.zero_add,Nat.reduceAdd,sT,Nat.reduceLT,Nat.reduceEqDiff,if_true,if_false,reduceIte,Ay,Vl,AS,AQ,c1,DK,a1,ct,Ab,AN,AX,k1,BD,q1,Mq,st1,EW,old,DY,st2,Sb,Rj,hbs,Bool.not_false,AP,DP]
end
noncomputable section
open Go
set_option maxRecDepth 100000
def CI(a b c:Int)(s:Nat)(u:Value):Value:=.agg ⟨[.int .i64 a,.int .i64 b,.int .i64 c,.int .u8 (s:Int),u]⟩
def A0(a b c:Int)(s:Nat)(u:Value):List Value:=[.int .i64 a,.int .i64 b,.int .i64 c,.int .u8 (s:Int),u]
theorem P3{F:CallF}{h:Hp}(W:h.Wf){a b c:Int}{s:Nat}{u:Value}{g:O}{e:Env}(he:g e=CI a b c s u):DL g F e h=.ok (.pointer (some ⟨h.next,0,none⟩)) (h.pushRow 0 (A0 a b c s u)):=by
 rw[Fe,he,FR W];rfl
theorem Ca{h:Hp}{r:Nat}{a b c:Int}{s:Nat}{u:Value}(R:h.Row r 0 (A0 a b c s u)):load1 ⟨r,0,none⟩ h=.ok (.int .i64 a) h∧load1 ⟨r,1,none⟩ h=.ok (.int .i64 b) h∧load1 ⟨r,2,none⟩ h=.ok (.int .i64 c) h∧load1 ⟨r,3,none⟩ h=.ok (.int .u8 (s:Int)) h∧load1 ⟨r,4,none⟩ h=.ok u h∧loadN 5 ⟨r,0,none⟩ h=.ok (CI a b c s u) h:=
 ⟨R.load1 (off:=0) (by show 0<5;omega),R.load1 (off:=1) (by show 1<5;omega),R.load1 (off:=2) (by show 2<5;omega),R.load1 (off:=3) (by show 3<5;omega),R.load1 (off:=4) (by show 4<5;omega),R.loadN (off:=0) (n:=5) (by show 0+5≤5;omega)⟩
theorem Jr{a b:Int}(h:b≤a):iGe a b=true:=(NM a b).trans (decide_eq_true h)
theorem FZ{a b:Int}(h:¬ b≤a):iGe a b=false:=(NM a b).trans (decide_eq_false h)
theorem Oi{a b:Int}(h:a≤b):iLe a b=true:=(Qi a b).trans (decide_eq_true h)
theorem SG{a b:Int}(h:¬ a≤b):iLe a b=false:=(Qi a b).trans (decide_eq_false h)
theorem Oj{a b:Int}(h:a<b):iLt a b=true:=(C0 a b).trans (decide_eq_true h)
theorem F6{a b:Int}(h:¬ a<b):iLt a b=false:=(C0 a b).trans (decide_eq_false h)
theorem Hz{a b:Int}(h:b<a):iGt a b=true:=(G1 a b).trans (decide_eq_true h)
theorem Gk{a b:Int}(h:¬ b<a):iGt a b=false:=(G1 a b).trans (decide_eq_false h)
theorem C4{a b:Int}(h:a=b):iEq a b=true:=by rw[Dz];simpa using h
theorem Cz{a b:Int}(h:¬ a=b):iEq a b=false:=by rw[Dz];simpa using h
theorem Me{a b:Int}(h:¬ a=b):iNe a b=true:=by rw[G3];simpa using h
theorem Db{a b:Int}(h:a=b):iNe a b=false:=by rw[G3];simpa using h
theorem RD{F:CallF}{h:Hp}(W:h.Wf){a b c:Int}{s n:Nat}{u:Value}(hu:∀ g,Fc u g=.ok (.int .i64 (n:Int)) g):BB [.t (AB 2)] (d40 F (AZ e0 0 [CI a b c s u]) h)=.ok (.bool (CA a b c s n)) (h.pushRow 0 (A0 a b c s u)):=by
 have R:=Hp.Row.new W 0 (A0 a b c s u)
 have bx:∀ e:Env,AB 0 e=CI a b c s u→DL (AB 0) F e h=.ok (.pointer (some ⟨h.next,0,none⟩)) (h.pushRow 0 (A0 a b c s u)):=fun e he=>P3 W he
 generalize h.pushRow 0 (A0 a b c s u)=h1 at R bx
 obtain⟨l0,l1,l2,l3,l4,_⟩:=Ca R
 unfold d40
 by_cases k1:0≤a
 ·have c1:iGe a 0=true:=Jr k1
  by_cases k2:a≤1099511627776
  ·have c2:iLe a 1099511627776=true:=Oi k2
   by_cases k3:0≤b
   ·have c3:iGe b 0=true:=Jr k3
    by_cases k4:b<255
    ·have c4:iLt b 255=true:=Oj k4
     by_cases k5:1≤c
     ·have c5:iGe c 1=true:=Jr k5
      by_cases k6:c≤1099511627776
      ·have c6:iLe c 1099511627776=true:=Oi k6
       by_cases k7:(s:Int)=1
       ·have c7:iEq (s:Int) 1=true:=C4 k7
        by_cases k9:(n:Int)≤65536
        ·have c9:iLe (n:Int) 65536=true:=Oi k9
         rw[show CA a b c s n=true from decide_eq_true (by omega)]
         simp only[AJ,AK,Nat.succ_eq_add_one,Nat.zero_add,Nat.reduceAdd,sT,Nat.reduceLT,Nat.reduceEqDiff,if_true,if_false,reduceIte,gD,bx,AM,AY,AV,Ac,l0,l1,l2,l3,l4,AS,AQ,Ay,hu,c1,c2,c3,c4,c5,c6,c7,c9,AP,Aa]
        ·have c9:iLe (n:Int) 65536=false:=SG k9
         rw[show CA a b c s n=false from decide_eq_false (by omega)]
         simp only[AJ,AK,Nat.succ_eq_add_one,Nat.zero_add,Nat.reduceAdd,sT,Nat.reduceLT,Nat.reduceEqDiff,if_true,if_false,reduceIte,gD,bx,AM,AY,AV,Ac,l0,l1,l2,l3,l4,AS,AQ,Ay,hu,c1,c2,c3,c4,c5,c6,c7,c9,AP,Aa]
       ·have c7:iEq (s:Int) 1=false:=Cz k7
        by_cases k8:(s:Int)=2
        ·have c8:iEq (s:Int) 2=true:=C4 k8
         by_cases k9:(n:Int)≤65536
         ·have c9:iLe (n:Int) 65536=true:=Oi k9
          rw[show CA a b c s n=true from decide_eq_true (by omega)]
          simp only[AJ,AK,Nat.succ_eq_add_one,Nat.zero_add,Nat.reduceAdd,sT,Nat.reduceLT,Nat.reduceEqDiff,if_true,if_false,reduceIte,gD,bx,AM,AY,AV,Ac,l0,l1,l2,l3,l4,AS,AQ,Ay,hu,c1,c2,c3,c4,c5,c6,c7,c8,c9,AP,Aa]
         ·have c9:iLe (n:Int) 65536=false:=SG k9
          rw[show CA a b c s n=false from decide_eq_false (by omega)]
          simp only[AJ,AK,Nat.succ_eq_add_one,Nat.zero_add,Nat.reduceAdd,sT,Nat.reduceLT,Nat.reduceEqDiff,if_true,if_false,reduceIte,gD,bx,AM,AY,AV,Ac,l0,l1,l2,l3,l4,AS,AQ,Ay,hu,c1,c2,c3,c4,c5,c6,c7,c8,c9,AP,Aa]
        ·have c8:iEq (s:Int) 2=false:=Cz k8
         rw[show CA a b c s n=false from decide_eq_false (by omega)]
         simp only[AJ,AK,Nat.succ_eq_add_one,Nat.zero_add,Nat.reduceAdd,sT,Nat.reduceLT,Nat.reduceEqDiff,if_true,if_false,reduceIte,gD,bx,AM,AY,AV,Ac,l0,l1,l2,l3,l4,AS,AQ,Ay,hu,c1,c2,c3,c4,c5,c6,c7,c8,AP,Aa]
      ·have c6:iLe c 1099511627776=false:=SG k6
       rw[show CA a b c s n=false from decide_eq_false (by omega)]
       simp only[AJ,AK,Nat.succ_eq_add_one,Nat.zero_add,Nat.reduceAdd,sT,Nat.reduceLT,Nat.reduceEqDiff,if_true,if_false,reduceIte,gD,bx,AM,AY,AV,Ac,l0,l1,l2,l3,l4,AS,AQ,Ay,hu,c1,c2,c3,c4,c5,c6,AP,Aa]
     ·have c5:iGe c 1=false:=FZ k5
      rw[show CA a b c s n=false from decide_eq_false (by omega)]
      simp only[AJ,AK,Nat.succ_eq_add_one,Nat.zero_add,Nat.reduceAdd,sT,Nat.reduceLT,Nat.reduceEqDiff,if_true,if_false,reduceIte,gD,bx,AM,AY,AV,Ac,l0,l1,l2,l3,l4,AS,AQ,Ay,hu,c1,c2,c3,c4,c5,AP,Aa]
    ·have c4:iLt b 255=false:=F6 k4
     rw[show CA a b c s n=false from decide_eq_false (by omega)]
     simp only[AJ,AK,Nat.succ_eq_add_one,Nat.zero_add,Nat.reduceAdd,sT,Nat.reduceLT,Nat.reduceEqDiff,if_true,if_false,reduceIte,gD,bx,AM,AY,AV,Ac,l0,l1,l2,l3,l4,AS,AQ,Ay,hu,c1,c2,c3,c4,AP,Aa]
   ·have c3:iGe b 0=false:=FZ k3
    rw[show CA a b c s n=false from decide_eq_false (by omega)]
    simp only[AJ,AK,Nat.succ_eq_add_one,Nat.zero_add,Nat.reduceAdd,sT,Nat.reduceLT,Nat.reduceEqDiff,if_true,if_false,reduceIte,gD,bx,AM,AY,AV,Ac,l0,l1,l2,l3,l4,AS,AQ,Ay,hu,c1,c2,c3,AP,Aa]
  ·have c2:iLe a 1099511627776=false:=SG k2
   rw[show CA a b c s n=false from decide_eq_false (by omega)]
   simp only[AJ,AK,Nat.succ_eq_add_one,Nat.zero_add,Nat.reduceAdd,sT,Nat.reduceLT,Nat.reduceEqDiff,if_true,if_false,reduceIte,gD,bx,AM,AY,AV,Ac,l0,l1,l2,l3,l4,AS,AQ,Ay,hu,c1,c2,AP,Aa]
 ·have c1:iGe a 0=false:=FZ k1
  rw[show CA a b c s n=false from decide_eq_false (by omega)]
  simp only[AJ,AK,Nat.succ_eq_add_one,Nat.zero_add,Nat.reduceAdd,sT,Nat.reduceLT,Nat.reduceEqDiff,if_true,if_false,reduceIte,gD,bx,AM,AY,AV,Ac,l0,l1,l2,l3,l4,AS,AQ,Ay,hu,c1,AP,Aa]
theorem Ly{n:Nat}{h:Hp}(W:h.Wf){a b c:Int}{s m:Nat}{u:Value}(hu:∀ g,Fc u g=.ok (.int .i64 (m:Int)) g):call AG (n+1) 40 [CI a b c s u] h=.ok (.bool (CA a b c s m)) (h.pushRow 0 (A0 a b c s u)):=by
 rw[du rfl];exact RD W hu
def Mw(z:Int):Nat:=if z<0∨65536<z then 0 else 1+(z.toNat+63) / 64
theorem gV{F:CallF}{e:Env}{h:Hp}{x y:O}{k j:IntKind}{a b:Int}(hx:x e=.int k a)(hy:y e=.int j b):Q7 x y F e h=.ok (.int k (min a b)) h:=by
 show HC true (x e) (y e) h=_
 rw[hx,hy]
 show(bif iLt b a then R.ok (.int k b) h else .ok (.int k a) h)=_
 rw[C0]
 rcases Int.lt_or_le b a with hlt|hle
 ·rw[decide_eq_true hlt,Int.min_eq_right (by omega)];rfl
 ·rw[decide_eq_false (by omega),Int.min_eq_left hle];rfl
theorem So{n:Nat}{h:Hp}{z:Int}:call AG (n+1) 57 [.int .i64 z] h=.ok (.int .i64 (Mw z:Nat)) h:=by
 rw[eE rfl]
 unfold d57
 by_cases k1:z<0
 ·have c1:iLt z 0=true:=Oj k1
  rw[show Mw z=0 from if_pos (by omega)]
  simp only[AJ,AK,Nat.succ_eq_add_one,Nat.zero_add,Nat.reduceAdd,sT,Nat.reduceLT,Nat.reduceEqDiff,if_true,if_false,reduceIte,gD,AS,AQ,c1,AP,Aa];rfl
 ·have c1:iLt z 0=false:=F6 k1
  by_cases k2:65536<z
  ·have c2:iGt z 65536=true:=Hz k2
   rw[show Mw z=0 from if_pos (by omega)]
   simp only[AJ,AK,Nat.succ_eq_add_one,Nat.zero_add,Nat.reduceAdd,sT,Nat.reduceLT,Nat.reduceEqDiff,if_true,if_false,reduceIte,gD,AS,AQ,c1,c2,AP,Aa];rfl
  ·have c2:iGt z 65536=false:=Gk k2
   obtain⟨m,rfl⟩:=Int.eq_ofNat_of_zero_le (show 0≤z by omega)
   have a1:Gn .i64 (.int .i64 (m:Int)) (.int .i64 64) h=.ok (.int .i64 ((m+64:Nat):Int)) h:=by
    rw[EU,show(m:Int)+64=((m+64:Nat):Int)by omega,Br (by omega)]
   have a2:Hu Int.sub .i64 (.int .i64 ((m+64:Nat):Int)) (.int .i64 1) h=.ok (.int .i64 ((m+63:Nat):Int)) h:=by
    have:Int.sub ((m+64:Nat):Int) 1=((m+63:Nat):Int):=by show((m+64:Nat):Int) - 1=_;omega
    rw[DI,this,Br (by omega)]
   have a3:OP .i64 (.int .i64 ((m+63:Nat):Int)) (.int .i64 64) h=.ok (.int .i64 (((m+63) / 64:Nat):Int)) h:=by
    have:IntKind.i64.wrap (((m+63:Nat):Int).tdiv 64)=(((m+63) / 64:Nat):Int):=Br (n:=(m+63) / 64) (by omega)
    rw[Ib (by omega),this]
   have a4:Gn .i64 (.int .i64 1) (.int .i64 (((m+63) / 64:Nat):Int)) h=.ok (.int .i64 ((Mw (m:Int):Nat):Int)) h:=by
    rw[show Mw (m:Int)=1+((m:Int).toNat+63) / 64 from if_neg (by omega),Int.toNat_natCast,EU,show(1:Int)+(((m+63) / 64:Nat):Int)=((1+(m+63) / 64:Nat):Int)by omega,Br (by omega)]
   simp only[AJ,AK,Nat.succ_eq_add_one,Nat.zero_add,Nat.reduceAdd,sT,Nat.reduceLT,Nat.reduceEqDiff,if_true,if_false,reduceIte,gD,AS,AQ,c1,c2,BZ,a1,DK,a2,GR,a3,a4,AP,Aa]
end
noncomputable section
open Go
set_option maxRecDepth 100000
def Bd(a b c s m t:Nat):List Nat:=[s,a,b,c,m,t]
theorem WA{a b c s m t:Nat}(ha:a≤1099511627776)(hb:b<255)(hc:c≤1099511627776)(hs:s<256)(hm:m≤65536)(ht:t<4294967296):∀ v∈Bd a b c s m t,v<18446744073709551616:=fun v hv=>by
 unfold Bd at hv
 simp only[List.mem_cons,List.mem_nil_iff,or_false]at hv
 omega
theorem Mn{a b c s m t:Nat}(ha:a≤1099511627776)(hb:b<255)(hc:c≤1099511627776)(hs:s<256)(hm:m≤65536)(ht:t<4294967296):(Bo (Bd a b c s m t)).length≤40:=by
 have h1:=Dr 1 s (by show s<16384;omega)
 have h2:=Dr 5 a (by show a<4398046511104;omega)
 have h3:=Dr 1 b (by show b<16384;omega)
 have h4:=Dr 5 c (by show c<4398046511104;omega)
 have h5:=Dr 2 m (by show m<2097152;omega)
 have h6:=Dr 4 t (by show t<34359738368;omega)
 show(B4 s++(B4 a++(B4 b++(B4 c++(B4 m++(B4 t++[])))))).length≤40
 simp only[List.length_append,List.length_nil]
 omega
theorem JM{k:IntKind}{n:Nat}(hn:n≤18446744073709551615){h:Hp}:DZ .u64 (.int k (n:Int)) h=.ok (.int .u64 (n:Int)) h:=by rw[Cy,FI hn]
def nE(T:List Nat)(a b c:Int)(s:Nat)(l:List Nat)(h h':Hp)(r:R):Prop:=(CA a b c s l.length=true∧∃ v,r=.ok (.tuple ⟨[v,.int .i64 0]⟩) h'∧Mk h' h.next v (C3 T (F5 (Bd a.toNat b.toNat c.toNat s l.length (BX T l)))))∨(CA a b c s l.length=false∧r=.ok (.tuple ⟨[.slice none 0 0,.int .i64 2]⟩) h')
end
noncomputable section
open Go
set_option maxRecDepth 100000
def nv(n:Nat):Value:=.int .u64 (n:Int)
theorem Hp.Own.apart{h:Hp}{k en b:Nat}{v:Value}{xs:List Value}(o:h.Own k en v xs)(hb:b<k):¬ blkV v b:=by
 rcases o with ⟨rfl,_⟩|⟨c,rfl,_,h3,_⟩
 ·exact Gr
 ·exact KB (by omega)
theorem Ty{h0 h:Hp}{k n:Nat}{v:Value}{xs:List Nat}(x0:h0.Ext h)(hk:h0.next≤k)(hk2:k≤h.next)(o:h.Own k 5 v (xs.map bv))(hn:0<n)(hm:xs.length+n≤1000000):
  ∃ h' v',HV 1 1 5 ty5.zero v (.ok n) h=.ok v' h'∧h0.Ext h'∧h'.Own k 5 v' ((xs++List.replicate n 0).map bv)∧h.next≤h'.next:=by
 have W:=x0.wf
 have hz:Bg ty5.zero=true:=by kernel_rfl
 have hyl:((List.replicate n 0).map bv).length=n:=by simp
 rw[List.map_append]
 have hx:(xs.map bv).length=xs.length:=List.length_map ..
 generalize hY:(List.replicate n 0).map bv=ys at hyl
 rcases o with ⟨rfl,hnil⟩|⟨b,rfl,r,hb,hb2⟩
 ·rw[hnil]
  obtain⟨t1,t2⟩:=HH ys
  refine⟨h.push (.cells (ofL ys) ys.length 6),.slice (some ⟨h.next,0,none⟩) ys.length ys.length,?_,x0.push _,.inr ⟨h.next,rfl,⟨ofL ys,by rw[W.push_get,if_pos rfl];rfl,t2⟩,hk2,W.big⟩,Nat.le_succ _⟩
  unfold HV
  simp only[Ao,Nat.add_eq,Nat.zero_add]
  have e1:Nat.ble n 0=false:=by
   cases e:Nat.ble n 0
   ·rfl
   ·have:=Aq.1 e;omega
  have e2:Nat.ble (Nat.mul (Nat.succ n) (Nat.succ 1)) Ip=true:=Aq.2 (Hi (by show(n+1) * 2≤1099511627776;omega))
  rw[e1]
  simp only[e2,cond_true,hz,KU,hY]
  unfold Gj BQ Il
  simp only[List.nil_append,t1]
  unfold Ee
  simp only[BW]
  unfold CO
  rw[Ao,Cr W,hyl];rfl
 ·obtain⟨cc,hcc,hl⟩:=r.rowOf
  rw[hx]at hcc
  obtain⟨t,h2,h3⟩:=Dq ys cc (xs.map bv) xs.length hl (.inr hx.symm)
  have h3:t.Is (xs.map bv++ys):=by
   have e:(xs.map bv).drop (xs.length+ys.length)=[]:=List.drop_of_length_le (by omega)
   have e':(xs.map bv).take xs.length=xs.map bv:=List.take_of_length_le (by omega)
   rw[e,e']at h3
   simpa using h3
  have hlen:(xs.map bv++ys).length=xs.length+n:=by rw[List.length_append,hx,hyl]
  have hlt:=r.lt W
  have W1:(h.put b .dead).Wf:=W.put hlt _
  have x1:h0.Ext (h.put b .dead):=x0.put (by omega) hlt _
  refine⟨(h.put b .dead).push (.cells t (xs.length+n) 6),.slice (some ⟨h.next,0,none⟩) (xs.length+n) (xs.length+n),?_,x1.push _,.inr ⟨h.next,by rw[hlen],⟨t,by
   have:=W1.push_get (.cells t (xs.length+n) 6) h.next
   rw[this,if_pos (show h.next=(h.put b .dead).next from rfl),hlen],h3⟩,hk2,W.big⟩,Nat.le_succ _⟩
  rw[hx]
  unfold HV
  simp only[Ao,Nat.add_eq]
  have e1:Nat.ble (xs.length+n) xs.length=false:=by
   cases e:Nat.ble (xs.length+n) xs.length
   ·rfl
   ·have:=Aq.1 e;omega
  have e2:Nat.ble (Nat.mul (Nat.succ (xs.length+n)) (Nat.succ 1)) Ip=true:=Aq.2 (Hi (by show(xs.length+n+1) * 2≤1099511627776;omega))
  rw[e1]
  simp only[e2,cond_true,hz,KU,hY]
  unfold Gj
  have e3:Nat.beq xs.length (Nat.mul xs.length 1)=true:=Au.2 (Nat.mul_one _).symm
  simp only[hcc,e3,h2]
  unfold Ee
  have e4:Jl 0 xs.length 1 xs.length=true:=by
   unfold Jl
   cases xs.length with
   |zero=>rfl
   |succ n=>exact Au.2 (by show 0+(n+1) * 1=n+1;omega)
  simp only[hcc,BW,Nat.add_eq,Nat.beq_refl,cond_true,e4]
  rw[Dp W hb2 hlt]
  unfold CO
  rw[Ao,Cr W1,hyl];rfl
theorem PG{F:CallF}{e:Env}{h:Hp}{x y:O}{n:Nat}{v:Value}(hx:x e=v)(hy:y e=.int .i64 (n:Int)):Eg 1 1 5 ty5.zero x y F e h=HV 1 1 5 ty5.zero v (.ok n) h:=by
 unfold Eg
 rw[hx,hy,DG]
theorem aW:BG QD.zero 6=[nv 0,nv 0,nv 0,nv 0,nv 0,nv 0]:=by kernel_rfl
theorem U5{n:Nat}:cellsOf (nv n)=[nv n]:=rfl
theorem UG{F:CallF}{e:Env}{h:Hp}(W:h.Wf){g1 g2 g3 g4 g5 g6:O}{a b c d i j:Nat}(h1:g1 e=nv a)(h2:g2 e=nv b)(h3:g3 e=nv c)(h4:g4 e=nv d)(h5:g5 e=nv i)(h6:g6 e=nv j):
  Af 6 (BG QD.zero 6) [(0,1,g1),(1,1,g2),(2,1,g3),(3,1,g4),(4,1,g5),(5,1,g6)] F e h=.ok (.slice (some ⟨h.next,0,none⟩) 6 6) (h.pushRow 0 ([a,b,c,d,i,j].map nv)):=by
 rw[Ck,aW,BC (hk:=by rw[h1];rfl),h1,BC (hk:=by rw[h2];rfl),h2,BC (hk:=by rw[h3];rfl),h3,BC (hk:=by rw[h4];rfl),h4,BC (hk:=by rw[h5];rfl),h5,BC (hk:=by rw[h6];rfl),h6]
 simp only[U5,List.length_singleton,List.length_cons,List.length_nil,over,List.take,List.drop,List.append_eq,List.nil_append,List.cons_append,Nat.reduceAdd,Nat.reduceLeDiff,if_true,CV,reduceIte]
 rw[DH W];rfl
def heB:C:=(AF (AC 36) (Ad iLt .i64 (AB 35) (AB 34))
(AW (AB 36)
(A5 (Ah 1 (AF (AC 37) (Bp 1 (AB 33) (AB 35))
(AF (AC 38) (AL (AB 37))
(AF (AC 8) (AD (AB 38))
(AF (AC 41) (AO 72 [(AB 6),(AB 8)])
(AF (AC 6) (AD (AB 41))
Ai))))))
(AF (AC 42) (Bh .i64 (Ax .i64) (AB 35) (kV (.int .i64 1)))
(AF (AC 35) (AD (AB 42))
Ai)))
(Bc 0)))
def heE:C:=(AF (AC 46) (BR (AB 6))
(AF (AC 47) (B9 Int.sub .i64 (kV (.int .i64 60)) (AB 46))
(AF (AC 48) (Eg 1 1 5 ty5.zero (AB 6) (AB 47))
(AF (AC 49) (AO 73 [(AB 0),(AB 48)])
(AF (AC 4) (AD (AB 49))
(AF (AC 5) (AD (kV (.int .i64 0)))
Aj))))))
theorem gC:heS=A5 (Ah 0 (A1 heB)) heE:=rfl
theorem VF:d44=VG:=rfl
theorem Ys{n:Nat}{h0 h:Hp}(x0:h0.Ext h){b6:Nat}(hb6:b6<h.next)(hk:h0.next≤h.next){ns:List Nat}(R6:h.Row b6 0 (ns.map nv))(hns:∀ v∈ns,v<18446744073709551616)(h6:ns.length=6){p:Value}{e:Env}
  (s0:AB 0 e=p)(s6:AB 6 e=.slice none 0 0)(s33:AB 33 e=.slice (some ⟨b6,0,none⟩) 6 6)(s34:AB 34 e=.int .i64 6)(s35:AB 35 e=.int .i64 ((0:Nat):Int)):
  ∃ e' h' v,A1 heB (call AG (n+1)) e h=.exit 0 e' h'∧h0.Ext h'∧h'.Own h.next 5 v ((Bo ns).map bv)∧AB 0 e'=p∧AB 6 e'=v∧h.next≤h'.next:=by
 refine Bz (I:=fun i e' h'=>∃ v,h0.Ext h'∧h'.Own h.next 5 v ((Bo (ns.take i)).map bv)∧h'.Row b6 0 (ns.map nv)∧AB 0 e'=p∧AB 6 e'=v∧AB 33 e'=.slice (some ⟨b6,0,none⟩) 6 6∧AB 34 e'=.int .i64 6∧AB 35 e'=.int .i64 (i:Int)∧h.next≤h'.next∧i≤6)
  (Q:=fun x=>∃ e' h' v,x=.exit 0 e' h'∧h0.Ext h'∧h'.Own h.next 5 v ((Bo ns).map bv)∧AB 0 e'=p∧AB 6 e'=v∧h.next≤h'.next) 6 (by omega) (fun i e' h' ⟨v,x',o',R',t0,t6,t33,t34,t35,hn,hi⟩=>?_)
  ⟨_,x0,.inl ⟨rfl,rfl⟩,R6,s0,s6,s33,s34,s35,Nat.le_refl _,by omega⟩
 by_cases hlt:i<6
 ·left
  have c1:iLt (i:Int) 6=true:=E8 (b:=6) hlt
  have hil:i<ns.length:=by omega
  have i1:Fa 1 (.slice (some ⟨b6,0,none⟩) 6 6) (.int .i64 (i:Int)) h'=.ok (.pointer (some ⟨b6,i,none⟩)) h':=by
   have:=D0 (h:=h') (n:=6) (c:=6) (es:=1) (b:=b6) (off:=0) (i:=i) (k:=.i64) hlt
   rwa [Nat.zero_add,Nat.mul_one]at this
  have l1:load1 ⟨b6,i,none⟩ h'=.ok (.int .u64 ((ns[i]'hil:Nat):Int)) h':=by
   rw[R'.load1 (off:=i) (by rw[List.length_map];exact hil),List.getD_eq_getElem?_getD,List.getElem?_map,List.getElem?_eq_getElem hil];rfl
  have htl:(Bo (ns.take i)).length≤1000000:=by
   have h1:=IM (ns:=ns.take i) fun v hv=>hns v (List.mem_of_mem_take hv)
   rw[List.length_take]at h1
   omega
  obtain⟨h2,v2,k2,x2,o2,hn2,fr⟩:=aT (n:=n) x' hk hn o' htl (hns _ (List.getElem_mem hil))
  have a3:=C1 (i:=i) (h:=h2) (by omega)
  have R2:=(fr b6 0 _ (o'.apart hb6) R').1
  have htk:Bo (ns.take i)++B4 (ns[i]'hil)=Bo (ns.take (i+1)):=by
   rw[List.take_succ_eq_append_getElem hil,RJ]
   show _=_++(B4 _++[])
   rw[List.append_nil]
  rw[htk]at o2
  have hrun:∃ e2,heB (call AG (n+1)) e' h'=.norm e2 h2∧AB 0 e2=p∧AB 6 e2=v2∧AB 33 e2=.slice (some ⟨b6,0,none⟩) 6 6∧AB 34 e2=.int .i64 6∧AB 35 e2=.int .i64 ((i+1:Nat):Int):=by
   unfold heB
   simp only[sT,Nat.reduceLT,Nat.reduceEqDiff,if_true,if_false,reduceIte,AS,AQ,t35,t34,c1,Bb,t33,i1,AV,Ac,l1,Ab,AN,AX,t6,k2,BZ,a3]
   exact⟨_,rfl,by simp only[AE,Nat.reduceLT,Nat.reduceEqDiff,if_true,if_false,reduceIte];exact t0,by simp[AE],by simp only[AE,Nat.reduceLT,Nat.reduceEqDiff,if_true,if_false,reduceIte];exact t33,by simp only[AE,Nat.reduceLT,Nat.reduceEqDiff,if_true,if_false,reduceIte];exact t34,by simp[AE]⟩
  obtain⟨e2,q1,q2,q3,q4,q5,q6⟩:=hrun
  exact⟨by omega,e2,h2,q1,v2,x2,o2,R2,q2,q3,q4,q5,q6,by omega,by omega⟩
 ·right
  have hi6:i=6:=by omega
  subst hi6
  have c1:iLt ((6:Nat):Int) 6=false:=DU (a:=6) (b:=6) (by omega)
  have hrun:∃ e2,heB (call AG (n+1)) e' h'=.exit 0 e2 h'∧AB 0 e2=p∧AB 6 e2=v:=by
   unfold heB
   simp only[sT,Nat.reduceLT,Nat.reduceEqDiff,if_true,if_false,reduceIte,AS,AQ,t35,t34,c1]
   exact⟨_,rfl,by simp only[AE,Nat.reduceLT,Nat.reduceEqDiff,if_true,if_false,reduceIte];exact t0,by simp only[AE,Nat.reduceLT,Nat.reduceEqDiff,if_true,if_false,reduceIte];exact t6⟩
  obtain⟨e2,q1,q2,q3⟩:=hrun
  rw[q1]
  rw[List.take_of_length_le (by omega)]at o'
  exact⟨rfl,e2,h',v,rfl,x',o',q2,q3,hn⟩
theorem SD{n:Nat}{h:Hp}(W:h.Wf){tb:Nat}{T:List Nat}(R:h.Row tb 0 (T.map wv))(hT:TblOk T){a b c:Int}{s:Nat}{u:Value}{l:List Nat}(V:h.Vals u (l.map bv))(hb:∀ x∈l,x<256)(hs:s<256)(hl:l.length≤900000):
  ∃ h',h.Ext h'∧nE T a b c s l h h' (call AG (n+3) 44 [pt tb,CI a b c s u] h):=by
 have x1:=(Hp.Ext.refl W).pushRow 0 (A0 a b c s u)
 have R1:=Hp.Row.new W 0 (A0 a b c s u)
 have bx:∀ e:Env,AB 1 e=CI a b c s u→DL (AB 1) (call AG (n+2)) e h=.ok (.pointer (some ⟨h.next,0,none⟩)) (h.pushRow 0 (A0 a b c s u)):=fun e he=>P3 W he
 have n1:(h.pushRow 0 (A0 a b c s u)).next=h.next+1:=rfl
 generalize h.pushRow 0 (A0 a b c s u)=h1 at x1 R1 bx n1
 obtain⟨_,_,_,_,_,ln⟩:=Ca R1
 have k1:=Ly (n:=n+1) x1.wf (a:=a) (b:=b) (c:=c) (s:=s) (u:=u) V.bl
 have y2:=(Hp.Ext.refl x1.wf).pushRow 0 (A0 a b c s u)
 have n2:(h1.pushRow 0 (A0 a b c s u)).next=h1.next+1:=rfl
 generalize h1.pushRow 0 (A0 a b c s u)=h2 at y2 k1 n2
 have x2:=x1.trans y2
 cases hr:CA a b c s l.length with
 |false=>
  rw[hr]at k1
  refine⟨h2,x2,.inr ⟨hr,?_⟩⟩
  rw[Ux rfl,VF]
  unfold VG
  simp only[AJ,AK,Nat.succ_eq_add_one,Nat.zero_add,Nat.reduceAdd,sT,Nat.reduceLT,Nat.reduceEqDiff,if_true,if_false,reduceIte,bx,BP,BF,ln,Ab,AN,AX,k1,CG,CF,Bool.not_false,AP,DP]
 |true=>
  rw[hr]at k1
  obtain⟨ha1,ha2,hb1,hb2,hc1,hc2,hs2,hm⟩:=of_decide_eq_true hr
  have xm:=x2.marked
  have R2:h2.marked.Row h.next 0 (A0 a b c s u):=(R1.ext x1.wf y2).same rfl
  obtain⟨m0,m1,m2,m3,m4,_⟩:=Ca R2
  have hmk:h.next<h2.marked.mark:=by show h.next<h2.next;omega
  have old:∀ (off:Nat) (k:C) (F:CallF) (e:Env),Ja (.pointer (some ⟨h.next,off,none⟩)) k F e h2.marked=k F e h2.marked:=fun off k F e=>D7 hmk
  have Vl:=V.bl h2.marked
  obtain⟨a',rfl⟩:=Int.eq_ofNat_of_zero_le ha1
  obtain⟨b',rfl⟩:=Int.eq_ofNat_of_zero_le hb1
  obtain⟨c',rfl⟩:=Int.eq_ofNat_of_zero_le (show 0≤c by omega)
  have cs:=JM (k:=.u8) (n:=s) (by omega) (h:=h2.marked)
  have ca:=JM (k:=.i64) (n:=a') (by omega) (h:=h2.marked)
  have cb:=JM (k:=.i64) (n:=b') (by omega) (h:=h2.marked)
  have cc:=JM (k:=.i64) (n:=c') (by omega) (h:=h2.marked)
  have cm:=JM (k:=.i64) (n:=l.length) (by omega) (h:=h2.marked)
  obtain⟨hq,kq,hq2⟩:=RH (n:=n+1) (h:=h2.marked.quiet) (R.ext W xm.quiet) hT (V.ext W xm.quiet) hb hl
  have yq:h2.marked.quiet.Ext hq:=by
   rcases hq2 with rfl|rfl
   ·exact Hp.Ext.refl xm.quiet.wf
   ·exact(Hp.Ext.refl xm.quiet.wf).marked
  have nq:hq.next=h2.next:=by rcases hq2 with rfl|rfl<;>rfl
  have q1:∀ e:Env,AB 0 e=pt tb→AB 30 e=u→Ak .weak (AO 71 [AB 0,AB 30]) (call AG (n+2)) e h2.marked=.ok (.int .u32 ((BX T l:Nat):Int)) (h2.marked.back hq):=fun e h0 h6=>by
   refine DQ ?_ yq (Nat.le_refl _)
   rw[Ab,AN,AN,AX,h0,h6]
   exact kq
  have yb:h2.marked.Ext (h2.marked.back hq):=Hp.Ext.back yq
  have nb:(h2.marked.back hq).next=h2.next:=nq
  have mb:(h2.marked.back hq).mark=h2.next:=rfl
  generalize h2.marked.back hq=h3 at q1 yb nb mb
  have x3:=xm.trans yb
  have ct:=JM (k:=.u32) (n:=BX T l) (by have:=Fl T l;omega) (h:=h3)
  have y4:h3.quiet.Ext (h3.quiet.pushRow 0 ((Bd a' b' c' s l.length (BX T l)).map nv)):=(Hp.Ext.refl x3.quiet.wf).pushRow _ _
  have R4:=Hp.Row.new x3.quiet.wf 0 ((Bd a' b' c' s l.length (BX T l)).map nv)
  have q2:∀ (F:CallF) (e:Env),AB 14 e=nv s→AB 17 e=nv a'→AB 20 e=nv b'→AB 23 e=nv c'→AB 27 e=nv l.length→AB 32 e=nv (BX T l)→
    Ak .strong (Af 6 (BG QD.zero 6) [(0,1,AB 14),(1,1,AB 17),(2,1,AB 20),(3,1,AB 23),(4,1,AB 27),(5,1,AB 32)]) F e h3=.ok (.slice (some ⟨h3.next,0,none⟩) 6 6) (h3.back (h3.quiet.pushRow 0 ((Bd a' b' c' s l.length (BX T l)).map nv))):=fun F e e1 e2 e3 e4 e5 e6=>
   DQ (UG x3.quiet.wf e1 e2 e3 e4 e5 e6) y4 (by omega)
  have z4:h3.Ext (h3.back (h3.quiet.pushRow 0 ((Bd a' b' c' s l.length (BX T l)).map nv))):=Hp.Ext.back y4
  have n4:(h3.back (h3.quiet.pushRow 0 ((Bd a' b' c' s l.length (BX T l)).map nv))).next=h3.next+1:=rfl
  have R5:(h3.back (h3.quiet.pushRow 0 ((Bd a' b' c' s l.length (BX T l)).map nv))).Row h3.next 0 ((Bd a' b' c' s l.length (BX T l)).map nv):=R4.same rfl
  generalize h3.back (h3.quiet.pushRow 0 ((Bd a' b' c' s l.length (BX T l)).map nv))=h4 at q2 z4 n4 R5
  have x4:=x3.trans z4
  have hnl:=WA (a:=a') (b:=b') (c:=c') (s:=s) (m:=l.length) (t:=BX T l) (by omega) (by omega) (by omega) hs (by omega) (Fl T l)
  have hl7:=Mn (a:=a') (b:=b') (c:=c') (s:=s) (m:=l.length) (t:=BX T l) (by omega) (by omega) (by omega) hs (by omega) (Fl T l)
  have pre:∃ e1,VG (call AG (n+2)) (AZ e0 0 [pt tb,CI (a':Int) (b':Int) (c':Int) s u]) h=heS (call AG (n+2)) e1 h4∧AB 0 e1=pt tb∧AB 6 e1=.slice none 0 0∧AB 33 e1=.slice (some ⟨h3.next,0,none⟩) 6 6∧AB 34 e1=.int .i64 6∧AB 35 e1=.int .i64 ((0:Nat):Int):=by
   have cs:DZ .u64 (.int .u8 (s:Int)) h2.marked=.ok (nv s) h2.marked:=cs
   have ca:DZ .u64 (.int .i64 (a':Int)) h2.marked=.ok (nv a') h2.marked:=ca
   have cb:DZ .u64 (.int .i64 (b':Int)) h2.marked=.ok (nv b') h2.marked:=cb
   have cc:DZ .u64 (.int .i64 (c':Int)) h2.marked=.ok (nv c') h2.marked:=cc
   have cm:DZ .u64 (.int .i64 (l.length:Int)) h2.marked=.ok (nv l.length) h2.marked:=cm
   have ct:DZ .u64 (.int .u32 ((BX T l:Nat):Int)) h3=.ok (nv (BX T l)) h3:=ct
   unfold VG
   simp only[AJ,AK,Nat.succ_eq_add_one,Nat.zero_add,Nat.reduceAdd,sT,Nat.reduceLT,Nat.reduceEqDiff,if_true,if_false,reduceIte,bx,BP,BF,ln,Ab,AN,AX,k1,CG,CF,Bool.not_true,BD,AM,AY,EW,old,DY,AV,Ac,m0,m1,m2,m3,m4,Cd,cs,ca,cb,cc,Ay,Vl,cm,q1,ct,q2,E7]
   exact⟨_,rfl,by simp[AE],by simp[AE],by simp[AE],by simp only[AE,Nat.reduceLT,Nat.reduceEqDiff,if_true,if_false,reduceIte];rfl,by simp only[AE,Nat.reduceLT,Nat.reduceEqDiff,if_true,if_false,reduceIte];rfl⟩
  obtain⟨e1,p1,p2,p3,p4,p5,p6⟩:=pre
  obtain⟨e2,h5,v5,r1,x5,o5,r2,r3,n5⟩:=Ys (n:=n+1) x4 (b6:=h3.next) (by omega) x4.next R5 hnl rfl p2 p3 p4 p5 p6
  have Vl5:=o5.vals.bl h5
  have a1:Hu Int.sub .i64 (.int .i64 60) (.int .i64 ((Bo (Bd a' b' c' s l.length (BX T l))).length:Int)) h5=.ok (.int .i64 ((60 - (Bo (Bd a' b' c' s l.length (BX T l))).length:Nat):Int)) h5:=by
   have:Int.sub 60 ((Bo (Bd a' b' c' s l.length (BX T l))).length:Int)=((60 - (Bo (Bd a' b' c' s l.length (BX T l))).length:Nat):Int):=by
    show(60:Int) - _=_
    omega
   rw[DI,this,Br (by omega)]
  obtain⟨h6,v6,k6,x6,o6,n6⟩:=Ty x5 (k:=h4.next) x4.next n5 o5 (n:=60 - (Bo (Bd a' b' c' s l.length (BX T l))).length) (by omega) (by omega)
  have ap:∀ (F:CallF) (e:Env),AB 6 e=v5→AB 47 e=.int .i64 ((60 - (Bo (Bd a' b' c' s l.length (BX T l))).length:Nat):Int)→Eg 1 1 5 ty5.zero (AB 6) (AB 47) F e h5=.ok v6 h6:=fun F e e1 e2=>(PG e1 e2).trans k6
  have hpl:=Lo (l:=Bo (Bd a' b' c' s l.length (BX T l))) (by omega)
  have Vp:h6.Vals v6 ((Nl (Bo (Bd a' b' c' s l.length (BX T l)))).map bv):=o6.vals
  obtain⟨h7,w,k7,y7,m7⟩:=Sk (n:=n) x6.wf (R.ext W x6) hT Vp (Nm Jh) (by omega)
  refine⟨h7,x6.trans y7,.inl ⟨hr,w,?_,?_⟩⟩
  ·rw[Ux rfl,VF,p1,gC]
   simp only[BU,A3,r1,A9,BH]
   unfold heE
   simp only[sT,Nat.reduceLT,Nat.reduceEqDiff,if_true,if_false,reduceIte,Ay,r3,Vl5,DK,a1,ap,Ab,AN,AX,r2,k7,AP,DP]
  ·rw[Int.toNat_natCast,Int.toNat_natCast,Int.toNat_natCast]
   exact m7.le x6.next
end
noncomputable section
open Go
set_option maxRecDepth 100000
abbrev nilS:Value:=.slice none 0 0
def okT(ns:List Nat):Value:=.tuple ⟨[CI (at6 ns 1) (at6 ns 2) (at6 ns 3) (at6 ns 0) nilS,.int .i64 (at6 ns 4:Nat),.int .u32 (at6 ns 5:Nat),.bool true]⟩
def noT:Value:=.tuple ⟨[CI 0 0 0 0 nilS,.int .i64 0,.int .u32 0,.bool false]⟩
theorem RL:FN.zero=A0 0 0 0 0 nilS:=by kernel_rfl
theorem Fo:B6 .mt 0 (A0 0 0 0 0 nilS)=some CN:=by kernel_rfl
theorem Xj:B6 .mt 0 ([0,0,0,0,0,0].map nv)=some M8:=by kernel_rfl
theorem JQ{e:Env}{h:Hp}{g g1 g2 g3:O}{n:Nat}{v:Value}(hv:LS n (g e) h=.ok v h):EK [.cN g n,.t g1,.t g2,.t g3] e h=.ok (.tuple ⟨[v,g1 e,g2 e,g3 e]⟩) h:=by
 have h1:Es e h (.cN g n)=.ok v h:=hv
 show(match Es e h (.cN g n)with|.ok v _=>forceV v fun v=>forceV (g1 e) (fun x=>forceV (g2 e) fun y=>forceV (g3 e) fun z=>Ih h [v,x,y,z])|.no=>.no)=_
 rw[h1]
 simp only[BA];rfl
theorem J6{h g:Hp}(W0:h.Wf)(x:h.Ext g){r:Nat}(hr:h.next≤r){L:List Value}(R:g.Row r 0 L)(hL:L.length=5){a b c:Int}{s:Nat}{u:Value}(hu:A6 u=true):
  storeR 5 (pt r) (CI a b c s u) g=.ok noRes (g.wr r 0 (A0 a b c s u))∧loadN 5 ⟨r,0,none⟩ (g.wr r 0 (A0 a b c s u))=.ok (CI a b c s u) (g.wr r 0 (A0 a b c s u))∧h.Ext (g.wr r 0 (A0 a b c s u))∧(g.wr r 0 (A0 a b c s u)).Row r 0 (A0 a b c s u)∧(g.wr r 0 (A0 a b c s u)).next=g.next:=by
 have h256:256≤r:=by have:=W0.big;omega
 have ho:0+(A0 a b c s u).length≤L.length:=by rw[hL];show 0+5≤5;omega
 have h1:Bg (A0 a b c s u)=true:=by
  show(bif A6 u then true else false)=true
  rw[hu];rfl
 have st:=R.storeR (n:=5) (off:=0) x.wf h256 (v:=CI a b c s u) rfl ho h1
 have wr:=R.wr_self x.wf ho
 rw[HI (show L.length=(A0 a b c s u).length from hL)]at wr
 exact⟨st,(Ca wr).2.2.2.2.2,R.wr_ext x hr ho,wr,R.wr_next ho⟩
theorem X4{F:CallF}{e:Env}{h:Hp}{g1 g2 g3 g4:O}{a b c:Int}{s:Nat}(h1:g1 e=.int .u8 (s:Int))(h2:g2 e=.int .i64 a)(h3:g3 e=.int .i64 b)(h4:g4 e=.int .i64 c):
  Bj FN.zero [(3,1,g1),(0,1,g2),(1,1,g3),(2,1,g4)] F e h=.ok (CI a b c s nilS) h:=by
 rw[EO,RL,BC (hk:=by rw[h1];rfl),h1,BC (hk:=by rw[h2];rfl),h2,BC (hk:=by rw[h3];rfl),h3,BC (hk:=by rw[h4];rfl),h4]
 simp only[EG,List.length_singleton,List.length_cons,List.length_nil,A0,over,List.take,List.drop,List.append_eq,List.nil_append,List.cons_append,Nat.reduceAdd,Nat.reduceLeDiff,if_true,CV,reduceIte]
 rfl
theorem DF{F:CallF}{e:Env}{h:Hp}:Bj FN.zero [] F e h=.ok (CI 0 0 0 0 nilS) h:=by
 rw[EO,CV,RL];rfl
theorem Ok{r k:Nat}(hk:k<6){g:Hp}:J5 6 1 (pt r) (.int .i64 (k:Int)) g=.ok (.pointer (some ⟨r,k,none⟩)) g:=by
 have:=KG (h:=g) (n:=6) (es:=1) (b:=r) (off:=0) (i:=k) (k:=.i64) hk
 rwa [Nat.zero_add,Nat.mul_one]at this
theorem PD{g:Hp}{r k:Nat}{ns:List Nat}(R:g.Row r 0 (ns.map nv))(h6:ns.length=6)(hk:k<6):load1 ⟨r,k,none⟩ g=.ok (.int .u64 ((at6 ns k:Nat):Int)) g:=by
 have hil:k<ns.length:=by omega
 unfold at6
 rw[R.load1 (off:=k) (by rw[List.length_map];exact hil),List.getD_eq_getElem?_getD,List.getElem?_map,List.getD_eq_getElem?_getD,List.getElem?_eq_getElem hil];rfl
abbrev f112:Value:=.func (.func 112) ⟨[]⟩ ⟨[]⟩
theorem Um{n:Nat}{h:Hp}{c:Nat}:call AG (n+1) 112 [.int .u8 (c:Int)] h=.ok (.bool (iNe (c:Int) 0)) h:=by
 rw[X9 rfl]
 unfold YQ
 simp only[AJ,AK,Nat.succ_eq_add_one,Nat.zero_add,Nat.reduceAdd,sT,Nat.reduceLT,Nat.reduceEqDiff,if_true,if_false,reduceIte,AS,AQ,AP,Aa]
def ifB:C:=(AF (AC 9) (Ad iLt .i64 (AB 8) (AB 7))
(AW (AB 9)
(A5 (Ah 1 (AF (AC 5) (AD (AB 8))
(AF (AC 14) (Bp 1 (AB 0) (AB 5))
(AF (AC 15) (AL (AB 14))
(AF (AC 16) (B0 (AB 1) [(AB 15)])
(AW (AB 16)
(AF (AC 4) (AD (AB 5))
Aj)
Ai))))))
(AF (AC 18) (Bh .i64 (Ax .i64) (AB 8) (kV (.int .i64 1)))
(AF (AC 8) (AD (AB 18))
Ai)))
(Bc 0)))
def ifE:C:=AF (AC 4) (AD (kV (.int .i64 (-1)))) Aj
theorem NP:ifS=A5 (Ah 0 (A1 ifB)) ifE:=rfl
theorem KD:YO=MR:=rfl
theorem Yw{n:Nat}{h:Hp}{u:Value}{l:List Nat}(V:h.Vals u (l.map bv))(hl:l.length≤900000){e:Env}(s0:AB 0 e=u)(s1:AB 1 e=f112)(s7:AB 7 e=.int .i64 (l.length:Int))(s8:AB 8 e=.int .i64 ((0:Nat):Int)):
  (∃ e',A1 ifB (call AG (n+1)) e h=.exit 0 e' h∧∀ x∈l,x=0)∨(∃ e' i,A1 ifB (call AG (n+1)) e h=.ret e' h∧AB 4 e'=.int .i64 ((i:Nat):Int)∧∃ x∈l,x≠0):=by
 refine Bz (I:=fun i e' h'=>h'=h∧AB 0 e'=u∧AB 1 e'=f112∧AB 7 e'=.int .i64 (l.length:Int)∧AB 8 e'=.int .i64 (i:Int)∧i≤l.length∧((∀ x∈l,x=0)↔∀ x∈l.drop i,x=0))
  (Q:=fun x=>(∃ e',x=.exit 0 e' h∧∀ x∈l,x=0)∨(∃ e' i,x=.ret e' h∧AB 4 e'=.int .i64 ((i:Nat):Int)∧∃ x∈l,x≠0)) l.length (by omega) (fun i e' h' ⟨hh,t0,t1,t7,t8,hi,hr⟩=>?_) ⟨rfl,s0,s1,s7,s8,Nat.zero_le _,by simp⟩
 subst hh
 by_cases hlt:i<l.length
 ·obtain⟨a,g1,g2⟩:=IP V hlt
  have hmem:l.getD i 0∈l:=by
   rw[List.getD_eq_getElem?_getD,List.getElem?_eq_getElem hlt];exact List.getElem_mem hlt
  rw[F0 hlt]at hr
  generalize l.getD i 0=c at g2 hr hmem
  have c1:=E8 hlt
  have k1:=Um (n:=n) (h:=h') (c:=c)
  by_cases hc:c=0
  ·left
   subst hc
   have k1:call AG (n+1) 112 [.int .u8 ((0:Nat):Int)] h'=.ok (.bool false) h':=k1
   have a3:=C1 (i:=i) (h:=h') (by omega)
   have hrun:∃ e2,ifB (call AG (n+1)) e' h'=.norm e2 h'∧AB 0 e2=u∧AB 1 e2=f112∧AB 7 e2=.int .i64 (l.length:Int)∧AB 8 e2=.int .i64 ((i+1:Nat):Int):=by
    unfold ifB
    simp only[sT,Nat.reduceLT,Nat.reduceEqDiff,if_true,if_false,reduceIte,AS,AQ,t8,t7,c1,Bb,t0,g1,AV,g2,Ci,t1,CU,AN,AX,List.nil_append,List.append_nil,k1,BZ,a3]
    exact⟨_,rfl,by simp only[AE,Nat.reduceLT,Nat.reduceEqDiff,if_true,if_false,reduceIte];exact t0,by simp only[AE,Nat.reduceLT,Nat.reduceEqDiff,if_true,if_false,reduceIte];exact t1,by simp only[AE,Nat.reduceLT,Nat.reduceEqDiff,if_true,if_false,reduceIte];exact t7,by simp[AE]⟩
   obtain⟨e2,q1,q2,q3,q4,q5⟩:=hrun
   refine⟨hlt,e2,h',q1,rfl,q2,q3,q4,q5,hlt,hr.trans ?_⟩
   simp
  ·right
   have c2:iNe (c:Int) 0=true:=by rw[G3];simpa using hc
   rw[c2]at k1
   have hrun:∃ e2,ifB (call AG (n+1)) e' h'=.ret e2 h'∧AB 4 e2=.int .i64 (i:Int):=by
    unfold ifB
    simp only[sT,Nat.reduceLT,Nat.reduceEqDiff,if_true,if_false,reduceIte,AS,AQ,t8,t7,c1,Bb,t0,g1,AV,g2,Ci,t1,CU,AN,AX,List.nil_append,List.append_nil,k1]
    exact⟨_,rfl,by simp[AE]⟩
   obtain⟨e2,q1,q2⟩:=hrun
   rw[q1]
   exact⟨rfl,.inr ⟨e2,i,rfl,q2,c,hmem,hc⟩⟩
 ·right
  have c1:=DU (show l.length≤i by omega)
  have hrun:∃ e2,ifB (call AG (n+1)) e' h'=.exit 0 e2 h':=by
   unfold ifB
   simp only[sT,Nat.reduceLT,Nat.reduceEqDiff,if_true,if_false,reduceIte,AS,AQ,t8,t7,c1]
   exact⟨_,rfl⟩
  obtain⟨e2,q1⟩:=hrun
  rw[q1]
  refine⟨rfl,.inl ⟨e2,rfl,hr.2 ?_⟩⟩
  rw[List.drop_of_length_le (by omega)]
  intro x hx;cases hx
theorem S5{n:Nat}{h:Hp}{u:Value}{l:List Nat}(V:h.Vals u (l.map bv))(hl:l.length≤900000):∃ r:Bool,call AG (n+3) 85 [u,f112] h=.ok (.bool r) h∧(r=true↔∃ x∈l,x≠0):=by
 have Vl:=V.bl h
 have pre:∃ e1,MR (call AG (n+1)) (AZ e0 0 [u,f112]) h=ifS (call AG (n+1)) e1 h∧AB 0 e1=u∧AB 1 e1=f112∧AB 7 e1=.int .i64 (l.length:Int)∧AB 8 e1=.int .i64 ((0:Nat):Int):=by
  unfold MR
  simp only[AJ,AK,Nat.succ_eq_add_one,Nat.zero_add,Nat.reduceAdd,sT,Nat.reduceLT,Nat.reduceEqDiff,if_true,if_false,reduceIte,Ay,Vl]
  exact⟨_,rfl,by simp[AE],by simp[AE],by simp[AE],by simp only[AE,Nat.reduceLT,Nat.reduceEqDiff,if_true,if_false,reduceIte];rfl⟩
 obtain⟨e1,p1,p2,p3,p4,p5⟩:=pre
 rcases Yw (n:=n) V hl p2 p3 p4 p5 with ⟨e2,q1,q2⟩|⟨e2,i,q1,q2,q3⟩
 ·have k1:call AG (n+2) 109 [u,f112] h=.ok (.int .i64 (-1)) h:=by
   rw[KC rfl,KD,p1,NP]
   simp only[BU,A3,q1,A9,BH]
   unfold ifE
   simp only[sT,Nat.reduceLT,Nat.reduceEqDiff,if_true,if_false,reduceIte,AP,Aa]
  refine⟨false,?_,by simp;exact q2⟩
  have c1:iGe (-1) 0=false:=FZ (by omega)
  rw[NE rfl]
  unfold d85
  simp only[AJ,AK,Nat.succ_eq_add_one,Nat.zero_add,Nat.reduceAdd,sT,Nat.reduceLT,Nat.reduceEqDiff,if_true,if_false,reduceIte,Ab,AN,AX,k1,AS,AQ,c1,AP,Aa]
 ·have k1:call AG (n+2) 109 [u,f112] h=.ok (.int .i64 (i:Int)) h:=by
   rw[KC rfl,KD,p1,NP]
   simp only[BU,A3,q1,CY,DD,AP,Aa,q2]
  refine⟨true,?_,by simp only[true_iff];exact q3⟩
  have c1:iGe (i:Int) 0=true:=Jr (by omega)
  rw[NE rfl]
  unfold d85
  simp only[AJ,AK,Nat.succ_eq_add_one,Nat.zero_add,Nat.reduceAdd,sT,Nat.reduceLT,Nat.reduceEqDiff,if_true,if_false,reduceIte,Ab,AN,AX,k1,AS,AQ,c1,AP,Aa]
theorem OM{h:Hp}{k m:Nat}{v:Value}{l:List Nat}(M:Mk h k v l)(hm:m≤l.length):∃ w,(∀ (F:CallF) (e:Env) (x y:O),x e=v→y e=.int .i64 (m:Int)→Dj 5 1 x (some y) none none F e h=.ok w h)∧h.Vals w ((l.drop m).map bv):=by
 obtain⟨b,el,hv,hel,Rb,_⟩:=M
 have hdl:(l.drop m).length=l.length - m:=List.length_drop
 have key:∀ (F:CallF) (e:Env) (x y:O),x e=v→y e=.int .i64 (m:Int)→Dj 5 1 x (some y) none none F e h=Fz 5 1 (some ⟨b,0,none⟩) false m l.length l.length h:=fun F e x y hx hy=>by
  have hb:∀ K:Nat→R,DM e (some y) 0 l.length K=K m:=fun K=>by
   show(match C8 (y e)with|.ok n=>(bif Nat.ble n l.length then K n else .no)|.no=>.no)=_
   rw[hy,DG]
   simp only
   rw[Aq.2 hm];rfl
  show(match x e with|.slice a n c=>Dv e n c (some y) none none (fun l hh m=>Fz 5 1 a false l hh m h)|_=>.no)=_
  rw[hx,hv]
  show DM e none l.length l.length (fun hh=>DM e (some y) 0 hh fun l'=>Fz 5 1 (some ⟨b,0,none⟩) false l' hh l.length h)=_
  show DM e (some y) 0 l.length (fun l'=>Fz 5 1 (some ⟨b,0,none⟩) false l' l.length l.length h)=_
  rw[hb]
 have key2:Fz 5 1 (some ⟨b,0,none⟩) false m l.length l.length h=CB (some ⟨b,0,none⟩) 1 m l.length l.length h:=by
  cases m with
  |zero=>rfl
  |succ m=>
   show(bif F4 5 (some ⟨b,0,none⟩) h then CB (some ⟨b,0,none⟩) 1 (m+1) l.length l.length h else .no)=_
   have:F4 5 (some ⟨b,0,none⟩) h=true:=by
    obtain⟨cc,hcc,_⟩:=Rb.rowOf
    unfold F4
    simp only[hcc]
    rcases hel with rfl|rfl<;>rfl
   rw[this];rfl
 rcases Nat.lt_or_ge m l.length with hlt|hge
 ·refine⟨.slice (some ⟨b,m,none⟩) (l.length - m) (l.length - m),?_,.inr ⟨b,m,l.length - m,el,_,by rw[List.length_map,hdl],Rb,by rw[List.length_map,List.length_map,hdl];omega,?_⟩⟩
  ·intro F e x y hx hy
   rw[key F e x y hx hy,key2]
   unfold CB
   simp only[Ao]
   have e1:Nat.beq l.length m=false:=by
    cases e:Nat.beq l.length m
    ·rfl
    ·have:=Au.1 e;omega
   rw[e1]
   cases m with
   |zero=>rfl
   |succ m=>
    have e2:Nat.mul (m+1) 1=Nat.succ m:=Nat.mul_one _
    simp only[e2,Nat.add_eq,Nat.zero_add];rfl
  ·rw[List.length_map,hdl,← List.map_drop,List.take_of_length_le (by rw[List.length_map,hdl];exact Nat.le_refl _)]
 ·have hml:m=l.length:=by omega
  subst hml
  refine⟨.slice (some ⟨b,0,none⟩) 0 0,?_,.inr ⟨b,0,0,el,_,by rw[List.drop_length];rfl,Rb,by rw[List.drop_length];exact Nat.zero_le _,by rw[List.drop_length];rfl⟩⟩
  intro F e x y hx hy
  rw[key F e x y hx hy,key2]
  unfold CB
  simp only[Ao,Nat.sub_eq,Nat.sub_self,Nat.beq_refl]
end
noncomputable section
open Go
set_option maxRecDepth 100000
def paB:C:=(AF (AC 30) (Ad iLt .i64 (AB 29) (kV (.int .i64 6)))
(AW (AB 30)
(A5 (Ah 1 (AF (AC 12) (AD (AB 29))
(AF (AC 36) (AO 111 [(AB 8),(AB 11)])
(AF (AC 37) (AU 0 (AB 36))
(AF (AC 38) (AU 1 (AB 36))
(AF (AC 39) (AU 2 (AB 36))
(AF (AC 40) (Bk 6 1 (AB 10) (AB 12))
(cDo (Ae 1 (AB 40) (AB 37))
(AF (AC 11) (AD (AB 38))
(AF (AC 9) (AD (AB 39))
(AF (AC 42) (Ad iNe .i64 (AB 9) (kV (.int .i64 0)))
(cG (AB 42) false (AC 44) (AD (AB 12))
(cG (AB 42) false (AC 45) (Bk 6 1 (AB 10) (AB 44))
(cG (AB 42) false (AC 46) (AL (AB 45))
(cG (AB 42) false (AC 47) (Ad iGt .u64 (AB 46) (kV (.int .u64 1099511627776)))
(AF (AC 48) (Am (AB 42) (kV (.bool true)) (AB 47))
(AW (AB 48)
(AF (AC 49) (Bj FN.zero [])
(cDo (Ae 5 (AB 4) (AB 49))
(AF (AC 5) (AD (kV (.int .i64 0)))
(AF (AC 6) (AD (kV (.int .u32 0)))
(AF (AC 7) (AD (kV (.bool false)))
Aj)))))
Ai)))))))))))))))))
(AF (AC 50) (Bh .i64 (Ax .i64) (AB 29) (kV (.int .i64 1)))
(AF (AC 29) (AD (AB 50))
Ai)))
(Bc 0)))
def paE:C:=(AF (AC 51) (Bk 6 1 (AB 10) (kV (.int .i64 0)))
(AF (AC 52) (AL (AB 51))
(AF (AC 53) (Q7 (AB 52) (kV (.int .u64 9)))
(AF (AC 54) (CD .u8 (AB 53))
(AF (AC 55) (Bk 6 1 (AB 10) (kV (.int .i64 1)))
(AF (AC 56) (AL (AB 55))
(AF (AC 57) (CD .i64 (AB 56))
(AF (AC 58) (Bk 6 1 (AB 10) (kV (.int .i64 2)))
(AF (AC 59) (AL (AB 58))
(AF (AC 60) (CD .i64 (AB 59))
(AF (AC 61) (Bk 6 1 (AB 10) (kV (.int .i64 3)))
(AF (AC 62) (AL (AB 61))
(AF (AC 63) (CD .i64 (AB 62))
(AF (AC 64) (Bj FN.zero [(3,1,(AB 54)),(0,1,(AB 57)),(1,1,(AB 60)),(2,1,(AB 63))])
(AF (AC 13) (A2 5 CN)
(cDo (Ae 5 (AB 13) (AB 64))
(AF (AC 14) (AD (kV (.func (.func 112) #[] #[])))
(AF (AC 65) (BE 5 (AB 13))
(AF (AC 66) (AO 40 [(AB 65)])
(AF (AC 67) (CP (AB 66))
(cG (AB 67) false (AC 69) (Bk 6 1 (AB 10) (kV (.int .i64 4)))
(cG (AB 67) false (AC 70) (AL (AB 69))
(cG (AB 67) false (AC 71) (Ad iGt .u64 (AB 70) (kV (.int .u64 65536)))
(AF (AC 72) (Am (AB 67) (kV (.bool true)) (AB 71))
(cG (AB 72) false (AC 74) (Bk 6 1 (AB 10) (kV (.int .i64 5)))
(cG (AB 72) false (AC 75) (AL (AB 74))
(cG (AB 72) false (AC 76) (Ad iGt .u64 (AB 75) (kV (.int .u64 4294967295)))
(AF (AC 77) (Am (AB 72) (kV (.bool true)) (AB 76))
(cG (AB 77) false (AC 79) (AD (AB 8))
(cG (AB 77) false (AC 80) (AD (AB 11))
(cG (AB 77) false (AC 81) (Dj 5 1 (AB 79) (some (AB 80)) none none)
(cG (AB 77) false (AC 82) (AD (AB 14))
(cG (AB 77) false (AC 83) (AO 85 [(AB 81),(AB 82)])
(AF (AC 84) (Am (AB 77) (kV (.bool true)) (AB 83))
(AW (AB 84)
(AF (AC 85) (Bj FN.zero [])
(cDo (Ae 5 (AB 4) (AB 85))
(AF (AC 5) (AD (kV (.int .i64 0)))
(AF (AC 6) (AD (kV (.int .u32 0)))
(AF (AC 7) (AD (kV (.bool false)))
Aj)))))
(Bm (AF (AC 86) (BE 5 (AB 13))
(AF (AC 87) (Bk 6 1 (AB 10) (kV (.int .i64 4)))
(AF (AC 88) (AL (AB 87))
(AF (AC 89) (CD .i64 (AB 88))
(AF (AC 90) (Bk 6 1 (AB 10) (kV (.int .i64 5)))
(AF (AC 91) (AL (AB 90))
(AF (AC 92) (CD .u32 (AB 91))
(Ce (AB 4) [(AB 87),(AB 90)]
(cDo (IE (AB 4) (Ae 5 (AB 4) (AB 86)))
(AF (AC 5) (AD (AB 89))
(AF (AC 6) (AD (AB 92))
(AF (AC 7) (AD (kV (.bool true)))
Aj))))))))))))))))))))))))))))))))))))))))))))))))
theorem Q9:paS=A5 (Ah 0 (A1 paB)) paE:=rfl
theorem K5:d87=ON:=rfl
theorem Pm(k:Nat)(l:List Nat)(p:Nat):rdN (k+1) l p=(match FO 0 0 (l.drop p)with
 |none=>none
 |some (v,j)=>if v≤1099511627776 then(match rdN k l (p+j)with
  |none=>none
  |some (vs,q)=>some (v::vs,q))else none):=rfl
def UW(h:Hp)(r4:Nat)(e:Env)(g:Hp):Prop:=h.Ext g∧AB 4 e=pt r4∧AB 5 e=.int .i64 0∧AB 6 e=.int .u32 0∧AB 7 e=.bool false∧loadN 5 ⟨r4,0,none⟩ g=.ok (CI 0 0 0 0 nilS) g
theorem Z5{n:Nat}{h hB g:Hp}(W0:h.Wf)(xB:h.Ext hB)(x:hB.Ext g){r4 r10:Nat}(hr4:h.next≤r4)(hr10:hB.next≤r10)(R4:hB.Row r4 0 (A0 0 0 0 0 nilS)){v:Value}{l:List Nat}(V:hB.Vals v (l.map bv))(hb:∀ x∈l,x<256)(hl:l.length≤900000)
  (R10:g.Row r10 0 ([0,0,0,0,0,0].map nv)){e:Env}(s4:AB 4 e=pt r4)(s8:AB 8 e=v)(s10:AB 10 e=pt r10)(s11:AB 11 e=.int .i64 ((0:Nat):Int))(s29:AB 29 e=.int .i64 ((0:Nat):Int)):
  (∃ e' g' ns q,A1 paB (call AG (n+1)) e g=.exit 0 e' g'∧hB.Ext g'∧g'.Row r10 0 (ns.map nv)∧rdN 6 l 0=some (ns,q)∧AB 4 e'=pt r4∧AB 8 e'=v∧AB 10 e'=pt r10∧AB 11 e'=.int .i64 (q:Int))∨
  (∃ e' g',A1 paB (call AG (n+1)) e g=.ret e' g'∧rdN 6 l 0=none∧UW h r4 e' g'):=by
 have WB:=xB.wf
 refine Bz (I:=fun i e' g'=>hB.Ext g'∧∃ (ns:List Nat) (Z:List Value) (p:Nat),ns.length=i∧Z.length=6 - i∧g'.Row r10 0 (ns.map nv++Z)∧AB 4 e'=pt r4∧AB 8 e'=v∧AB 10 e'=pt r10∧AB 11 e'=.int .i64 (p:Int)∧AB 29 e'=.int .i64 (i:Int)∧p≤l.length∧i≤6∧
   rdN 6 l 0=(match rdN (6 - i) l p with|none=>none|some (vs,q)=>some (ns++vs,q)))
  (Q:=fun x=>(∃ e' g' ns q,x=.exit 0 e' g'∧hB.Ext g'∧g'.Row r10 0 (ns.map nv)∧rdN 6 l 0=some (ns,q)∧AB 4 e'=pt r4∧AB 8 e'=v∧AB 10 e'=pt r10∧AB 11 e'=.int .i64 (q:Int))∨
   (∃ e' g',x=.ret e' g'∧rdN 6 l 0=none∧UW h r4 e' g')) 6 (by omega) (fun i e' g' ⟨x',ns,Z,p,hns,hZ,R',t4,t8,t10,t11,t29,hp,hi,hr⟩=>?_)
  ⟨x,[],_,0,rfl,rfl,R10,s4,s8,s10,s11,s29,Nat.zero_le _,by omega,by
   rw[Nat.sub_zero]
   cases rdN 6 l 0 with
   |none=>rfl
   |some y=>rfl⟩
 by_cases hlt:i<6
 ·have W:=x'.wf
  obtain⟨k,hk⟩:∃ k,6 - i=k+1:=⟨5 - i,by omega⟩
  obtain⟨z,Z',rfl⟩:∃ z Z',Z=z::Z':=by
   cases Z with
   |nil=>rw[List.length_nil]at hZ;omega
   |cons z Z'=>exact⟨z,Z',rfl⟩
  rw[hk,Pm k l p]at hr
  have c1:iLt (i:Int) 6=true:=E8 (b:=6) hlt
  obtain⟨a,b,c,k1,G⟩:=gB (n:=n) (V.ext WB x') hb hp (by omega)
  have i1:=Ok (r:=r10) hlt (g:=g')
  have hal:(ns.map nv).length=i:=by rw[List.length_map];exact hns
  have ho:i+[Value.int .u64 a].length≤(ns.map nv++z::Z').length:=by
   simp only[List.length_append,List.length_cons,List.length_nil,hal];omega
  have h256:256≤r10:=by have:=WB.big;omega
  have st:=R'.storeR (n:=1) (off:=i) W h256 (v:=.int .u64 a) rfl ho rfl
  rw[EG]at st
  have wr:=R'.wr_self W (off:=i) (vs:=[.int .u64 a]) ho
  have x2:=R'.wr_ext x' hr10 (off:=i) (vs:=[.int .u64 a]) ho
  have hov:over (ns.map nv++z::Z') i [.int .u64 a]=ns.map nv++.int .u64 a::Z':=by
   have:=PW (A:=ns.map nv) (B:=Z') (x:=z) (y:=.int .u64 a)
   rwa [hal]at this
  rw[hov]at wr
  generalize g'.wr r10 i [.int .u64 a]=g2 at st wr x2
  have i2:=Ok (r:=r10) hlt (g:=g2)
  have l2:load1 ⟨r10,i,none⟩ g2=.ok (.int .u64 a) g2:=by
   rw[wr.load1 (off:=i) (by simp only[List.length_append,List.length_cons,hal];omega),List.getD_eq_getElem?_getD,List.getElem?_append_right (by rw[hal];exact Nat.le_refl _),hal,Nat.sub_self];rfl
  have a3:=C1 (i:=i) (h:=g2) (by omega)
  obtain⟨w1,w2,w3,_,_⟩:=J6 W0 (xB.trans x2) hr4 (R4.ext WB x2) rfl (a:=0) (b:=0) (c:=0) (s:=0) (u:=nilS) rfl
  have fail:rdN 6 l 0=none→(iNe c 0=true∨iNe c 0=false∧iGt a 1099511627776=true)→∃ e2,paB (call AG (n+1)) e' g'=.ret e2 (g2.wr r4 0 (A0 0 0 0 0 nilS))∧AB 4 e2=pt r4∧AB 5 e2=.int .i64 0∧AB 6 e2=.int .u32 0∧AB 7 e2=.bool false:=fun _ hc=>by
   unfold paB
   rcases hc with c2|⟨c2,c3⟩
   ·simp only[sT,Nat.reduceLT,Nat.reduceEqDiff,if_true,if_false,reduceIte,gD,AS,AQ,t29,c1,Ab,AN,AX,t8,t11,k1,BM,BV,Ba,Cj,CZ,t10,i1,Av,st,c2,DF,t4,w1]
    exact⟨_,rfl,by simp only[AE,Nat.reduceLT,Nat.reduceEqDiff,if_true,if_false,reduceIte];exact t4,by simp[AE],by simp[AE],by simp[AE]⟩
   ·simp only[sT,Nat.reduceLT,Nat.reduceEqDiff,if_true,if_false,reduceIte,gD,AS,AQ,t29,c1,Ab,AN,AX,t8,t11,k1,BM,BV,Ba,Cj,CZ,t10,i1,Av,st,c2,i2,AV,Ac,l2,c3,DF,t4,w1]
    exact⟨_,rfl,by simp only[AE,Nat.reduceLT,Nat.reduceEqDiff,if_true,if_false,reduceIte];exact t4,by simp[AE],by simp[AE],by simp[AE]⟩
  rcases G with ⟨vv,j,hu,rfl,rfl,rfl⟩|⟨hu,hc⟩
  ·rw[hu]at hr
   simp only at hr
   have c2:iNe 0 0=false:=Db rfl
   by_cases hv:vv≤1099511627776
   ·left
    rw[if_pos hv]at hr
    have c3:iGt (vv:Int) 1099511627776=false:=Gk (by omega)
    have hbd:∀ x∈l.drop p,x<256:=fun x hx=>hb x (List.mem_of_mem_drop hx)
    have hj:=bL hbd hu
    rw[List.length_drop]at hj
    have hrun:∃ e2,paB (call AG (n+1)) e' g'=.norm e2 g2∧AB 4 e2=pt r4∧AB 8 e2=v∧AB 10 e2=pt r10∧AB 11 e2=.int .i64 ((p+j:Nat):Int)∧AB 29 e2=.int .i64 ((i+1:Nat):Int):=by
     unfold paB
     simp only[sT,Nat.reduceLT,Nat.reduceEqDiff,if_true,if_false,reduceIte,gD,AS,AQ,t29,c1,Ab,AN,AX,t8,t11,k1,BM,BV,Ba,Cj,CZ,t10,i1,Av,st,c2,i2,AV,Ac,l2,c3,BZ,a3]
     exact⟨_,rfl,by simp only[AE,Nat.reduceLT,Nat.reduceEqDiff,if_true,if_false,reduceIte];exact t4,by simp only[AE,Nat.reduceLT,Nat.reduceEqDiff,if_true,if_false,reduceIte];exact t8,by simp only[AE,Nat.reduceLT,Nat.reduceEqDiff,if_true,if_false,reduceIte];exact t10,by simp[AE],by simp[AE]⟩
    obtain⟨e2,q1,q2,q3,q4,q5,q6⟩:=hrun
    refine⟨hlt,e2,g2,q1,x2,ns++[vv],Z',p+j,by rw[List.length_append,hns];rfl,by rw[List.length_cons]at hZ;omega,?_,q2,q3,q4,q5,q6,by omega,by omega,?_⟩
    ·rw[List.map_append,List.append_assoc];exact wr
    ·rw[hr,show 6 - (i+1)=k by omega]
     cases rdN k l (p+j)with
     |none=>rfl
     |some y=>
      obtain⟨vs,q⟩:=y
      show some (ns++vv::vs,q)=some (ns++[vv]++vs,q)
      rw[List.append_assoc];rfl
   ·right
    rw[if_neg hv]at hr
    have hr:rdN 6 l 0=none:=hr
    obtain⟨e2,q1,q2,q3,q4,q5⟩:=fail hr (.inr ⟨c2,Hz (by omega)⟩)
    rw[q1]
    exact⟨rfl,.inr ⟨e2,_,rfl,hr,w3,q2,q3,q4,q5,w2⟩⟩
  ·right
   rw[hu]at hr
   have hr:rdN 6 l 0=none:=hr
   obtain⟨e2,q1,q2,q3,q4,q5⟩:=fail hr (.inl (Me hc))
   rw[q1]
   exact⟨rfl,.inr ⟨e2,_,rfl,hr,w3,q2,q3,q4,q5,w2⟩⟩
 ·right
  have hi6:i=6:=by omega
  subst hi6
  have c1:iLt ((6:Nat):Int) 6=false:=DU (a:=6) (b:=6) (by omega)
  have hrun:∃ e2,paB (call AG (n+1)) e' g'=.exit 0 e2 g'∧AB 4 e2=pt r4∧AB 8 e2=v∧AB 10 e2=pt r10∧AB 11 e2=.int .i64 (p:Int):=by
   unfold paB
   simp only[sT,Nat.reduceLT,Nat.reduceEqDiff,if_true,if_false,reduceIte,AS,AQ,t29,c1]
   exact⟨_,rfl,by simp only[AE,Nat.reduceLT,Nat.reduceEqDiff,if_true,if_false,reduceIte];exact t4,by simp only[AE,Nat.reduceLT,Nat.reduceEqDiff,if_true,if_false,reduceIte];exact t8,by simp only[AE,Nat.reduceLT,Nat.reduceEqDiff,if_true,if_false,reduceIte];exact t10,by simp only[AE,Nat.reduceLT,Nat.reduceEqDiff,if_true,if_false,reduceIte];exact t11⟩
  obtain⟨e2,q1,q2,q3,q4,q5⟩:=hrun
  rw[q1]
  have hZ0:Z=[]:=List.eq_nil_of_length_eq_zero hZ
  rw[hZ0,List.append_nil]at R'
  have hr:rdN 6 l 0=some (ns++[],p):=hr
  rw[List.append_nil]at hr
  exact⟨rfl,.inl ⟨e2,g',ns,p,rfl,x',R',hr,q2,q3,q4,q5⟩⟩
theorem dT{F:CallF}{e:Env}{h:Hp}{x y z:O}{k:C}{a b c i j m:Nat}(hx:x e=.pointer (some ⟨a,i,none⟩))(hy:y e=.pointer (some ⟨b,j,none⟩))(hz:z e=.pointer (some ⟨c,m,none⟩))(h1:b≠a)(h2:c≠a):Ce x [y,z] k F e h=k F e h:=by
 have n1:Nat.beq b a=false:=by
  cases e:Nat.beq b a
  ·rfl
  ·exact absurd (Au.1 e) h1
 have n2:Nat.beq c a=false:=by
  cases e:Nat.beq c a
  ·rfl
  ·exact absurd (Au.1 e) h2
 unfold Ce
 rw[hx]
 show(bif DN a e [y,z]then k F e h else .no)=_
 have:DN a e [y,z]=true:=by
  unfold DN
  rw[hy]
  show(bif Nat.beq b a then false else DN a e [z])=true
  rw[n1]
  unfold DN
  rw[hz]
  show(bif Nat.beq c a then false else DN a e [])=true
  rw[n2];rfl
 rw[this];rfl
theorem ZO{F:CallF}{e:Env}{h:Hp}(W:h.Wf){x y:O}{r:Nat}{L:List Value}{a b c:Int}{s:Nat}{u:Value}(hx:x e=pt r)(hy:y e=CI a b c s u)(R:h.Row r 0 L)(hL:L.length=5)(h256:256≤r)(hu:A6 u=true):
  IE x (Ae 5 x y) F e h=.ok noRes (h.back (h.quiet.wr r 0 (A0 a b c s u))):=by
 have Rq:h.quiet.Row r 0 L:=R.same rfl
 have ho:0+(A0 a b c s u).length≤L.length:=by rw[hL];show 0+5≤5;omega
 have h1:Bg (A0 a b c s u)=true:=by
  show(bif A6 u then true else false)=true
  rw[hu];rfl
 have st:=Rq.storeR (n:=5) (off:=0) W.quiet h256 (v:=CI a b c s u) rfl ho h1
 have st:storeR 5 (pt r) (CI a b c s u) h.quiet=.ok noRes (h.quiet.wr r 0 (A0 a b c s u)):=st
 obtain⟨cc,_,hw,_⟩:=Rq.wr_is ho
 have hlow:(h.quiet.wr r 0 (A0 a b c s u)).low=r:=by
  rw[hw]
  show CC h.next r=r
  have:=R.lt W
  rw[BK];omega
 have hhigh:(h.quiet.wr r 0 (A0 a b c s u)).high=r:=by
  rw[hw]
  show Cq 0 r=r
  rw[B8];omega
 show(match Ae 5 x y F e h.quiet with|.ok v h'=>bif J3 (blkOf (x e)) h h'.low h'.high then Dt h v h' else .no|.no=>.no)=_
 rw[Av,hx,hy,st]
 show(bif J3 (.ok r) h (h.quiet.wr r 0 (A0 a b c s u)).low (h.quiet.wr r 0 (A0 a b c s u)).high then Dt h noRes (h.quiet.wr r 0 (A0 a b c s u))else .no)=_
 rw[hlow,hhigh]
 have:J3 (.ok r) h r r=true:=by
  show(bif Nat.ble r r then Nat.ble r r else false)=true
  rw[Aq.2 (Nat.le_refl r)];rfl
 rw[this]
 show Dt h noRes (h.quiet.wr r 0 (A0 a b c s u))=_
 unfold Dt
 simp only[Ao];rfl
end
noncomputable section
open Go
set_option maxRecDepth 100000
def Ok4(h:Hp)(r4:Nat)(ns:List Nat)(e:Env)(g:Hp):Prop:=h.Ext g∧AB 4 e=pt r4∧AB 5 e=.int .i64 (at6 ns 4:Nat)∧AB 6 e=.int .u32 (at6 ns 5:Nat)∧AB 7 e=.bool true∧loadN 5 ⟨r4,0,none⟩ g=.ok (CI (at6 ns 1) (at6 ns 2) (at6 ns 3) (at6 ns 0) nilS) g
theorem KR{h g:Hp}{r4:Nat}{e:Env}(D:UW h r4 e g):BB [.cN (AB 4) 5,.t (AB 5),.t (AB 6),.t (AB 7)] (.ret e g)=.ok noT g:=by
 obtain⟨_,h4,h5,h6,h7,hl⟩:=D
 rw[AP,JQ (v:=CI 0 0 0 0 nilS) (by rw[h4];exact hl),h5,h6,h7];rfl
theorem gc{h g:Hp}{r4:Nat}{ns:List Nat}{e:Env}(D:Ok4 h r4 ns e g):BB [.cN (AB 4) 5,.t (AB 5),.t (AB 6),.t (AB 7)] (.ret e g)=.ok (okT ns) g:=by
 obtain⟨_,h4,h5,h6,h7,hl⟩:=D
 rw[AP,JQ (v:=CI (at6 ns 1) (at6 ns 2) (at6 ns 3) (at6 ns 0) nilS) (by rw[h4];exact hl),h5,h6,h7];rfl
theorem kT{n:Nat}{h hB g:Hp}(W0:h.Wf)(xB:h.Ext hB)(x:hB.Ext g){r4 r10 k q:Nat}(hr4:h.next≤r4)(hr410:r10≠r4)(R4:hB.Row r4 0 (A0 0 0 0 0 nilS)){v:Value}{l ns:List Nat}(M:Mk hB k v l)(hl:l.length≤900000)(hq:q≤l.length)
  (R10:g.Row r10 0 (ns.map nv))(h6:ns.length=6)(hns:∀ v∈ns,v≤1099511627776){e:Env}(s4:AB 4 e=pt r4)(s8:AB 8 e=v)(s10:AB 10 e=pt r10)(s11:AB 11 e=.int .i64 (q:Int)):
  (Ni ns∧(∀ x∈l.drop q,x=0)∧∃ e2 g2,paE (call AG (n+3)) e g=.ret e2 g2∧Ok4 h r4 ns e2 g2)∨(¬ (Ni ns∧∀ x∈l.drop q,x=0)∧∃ e2 g2,paE (call AG (n+3)) e g=.ret e2 g2∧UW h r4 e2 g2):=by
 have W:=x.wf
 have WB:=xB.wf
 have hat:∀ i,at6 ns i≤1099511627776:=fun i=>by
  unfold at6
  rw[List.getD_eq_getElem?_getD]
  cases h:ns[i]? with
  |none=>exact Nat.zero_le _
  |some y=>exact hns y (List.mem_of_getElem? h)
 have i0:∀ g:Hp,J5 6 1 (pt r10) (.int .i64 0) g=.ok (.pointer (some ⟨r10,0,none⟩)) g:=fun g=>Ok (k:=0) (by omega)
 have i1:∀ g:Hp,J5 6 1 (pt r10) (.int .i64 1) g=.ok (.pointer (some ⟨r10,1,none⟩)) g:=fun g=>Ok (k:=1) (by omega)
 have i2:∀ g:Hp,J5 6 1 (pt r10) (.int .i64 2) g=.ok (.pointer (some ⟨r10,2,none⟩)) g:=fun g=>Ok (k:=2) (by omega)
 have i3:∀ g:Hp,J5 6 1 (pt r10) (.int .i64 3) g=.ok (.pointer (some ⟨r10,3,none⟩)) g:=fun g=>Ok (k:=3) (by omega)
 have i4:∀ g:Hp,J5 6 1 (pt r10) (.int .i64 4) g=.ok (.pointer (some ⟨r10,4,none⟩)) g:=fun g=>Ok (k:=4) (by omega)
 have i5:∀ g:Hp,J5 6 1 (pt r10) (.int .i64 5) g=.ok (.pointer (some ⟨r10,5,none⟩)) g:=fun g=>Ok (k:=5) (by omega)
 have l0:=PD R10 h6 (k:=0) (by omega)
 have l1:=PD R10 h6 (k:=1) (by omega)
 have l2:=PD R10 h6 (k:=2) (by omega)
 have l3:=PD R10 h6 (k:=3) (by omega)
 have a0:=hat 0
 have a1:=hat 1
 have a2:=hat 2
 have a3:=hat 3
 have a4:=hat 4
 have a5:=hat 5
 have hcast:min ((at6 ns 0:Nat):Int) 9=((min (at6 ns 0) 9:Nat):Int):=by omega
 have mn:∀ (F:CallF) (e:Env),AB 52 e=.int .u64 ((at6 ns 0:Nat):Int)→Q7 (AB 52) (kV (.int .u64 9)) F e g=.ok (.int .u64 ((min (at6 ns 0) 9:Nat):Int)) g:=fun F e he=>by rw[gV he rfl,hcast]
 have v0:DZ .u8 (.int .u64 ((min (at6 ns 0) 9:Nat):Int)) g=.ok (.int .u8 ((min (at6 ns 0) 9:Nat):Int)) g:=by rw[Cy,Ht,Nat.mod_eq_of_lt (by omega)]
 have cv:∀ (i:Nat) (g:Hp),DZ .i64 (.int .u64 ((at6 ns i:Nat):Int)) g=.ok (.int .i64 ((at6 ns i:Nat):Int)) g:=fun i g=>by rw[Cy,Br (by have:=hat i;omega)]
 have bd:∀ (F:CallF) (e:Env),AB 54 e=.int .u8 ((min (at6 ns 0) 9:Nat):Int)→AB 57 e=.int .i64 ((at6 ns 1:Nat):Int)→AB 60 e=.int .i64 ((at6 ns 2:Nat):Int)→AB 63 e=.int .i64 ((at6 ns 3:Nat):Int)→
   Bj FN.zero [(3,1,AB 54),(0,1,AB 57),(1,1,AB 60),(2,1,AB 63)] F e g=.ok (CI (at6 ns 1) (at6 ns 2) (at6 ns 3) (min (at6 ns 0) 9) nilS) g:=fun F e h1 h2 h3 h4=>X4 h1 h2 h3 h4
 have f1:=fun (F:CallF) (e:Env)=>Bt (F:=F) (e:=e) (n:=5) (t:=CN) W
 have x1:=(Hp.Ext.refl W).push (.cells CN 5 0)
 have R13:(g.push (.cells CN 5 0)).Row g.next 0 (A0 0 0 0 0 nilS):=Hp.Row.alloc W Fo rfl
 generalize g.push (.cells CN 5 0)=g1 at f1 x1 R13
 obtain⟨st,ld,x2,R13',_⟩:=J6 W x1 (Nat.le_refl _) R13 rfl (a:=at6 ns 1) (b:=at6 ns 2) (c:=at6 ns 3) (s:=min (at6 ns 0) 9) (u:=nilS) rfl
 generalize g1.wr g.next 0 (A0 (at6 ns 1) (at6 ns 2) (at6 ns 3) (min (at6 ns 0) 9) nilS)=g2 at st ld x2 R13'
 have k24:=Ly (n:=n+2) x2.wf (a:=at6 ns 1) (b:=at6 ns 2) (c:=at6 ns 3) (s:=min (at6 ns 0) 9) (m:=0) (u:=nilS) (fun _=>rfl)
 have y3:=(Hp.Ext.refl x2.wf).pushRow 0 (A0 (at6 ns 1) (at6 ns 2) (at6 ns 3) (min (at6 ns 0) 9) nilS)
 generalize g2.pushRow 0 (A0 (at6 ns 1) (at6 ns 2) (at6 ns 3) (min (at6 ns 0) 9) nilS)=g3 at k24 y3
 have x3:=x2.trans y3
 have xB3:=x.trans x3
 have xh3:=xB.trans xB3
 obtain⟨w1,w2,w3,_,_⟩:=J6 W0 xh3 hr4 (R4.ext WB xB3) rfl (a:=0) (b:=0) (c:=0) (s:=0) (u:=nilS) rfl
 have R10':=R10.ext W x3
 have l4:=PD R10' h6 (k:=4) (by omega)
 have l5:=PD R10' h6 (k:=5) (by omega)
 have nok:¬ (Ni ns∧∀ x∈l.drop q,x=0)→(∃ e2,paE (call AG (n+3)) e g=.ret e2 (g3.wr r4 0 (A0 0 0 0 0 nilS))∧AB 4 e2=pt r4∧AB 5 e2=.int .i64 0∧AB 6 e2=.int .u32 0∧AB 7 e2=.bool false)→
   (Ni ns∧(∀ x∈l.drop q,x=0)∧∃ e2 g2,paE (call AG (n+3)) e g=.ret e2 g2∧Ok4 h r4 ns e2 g2)∨(¬ (Ni ns∧∀ x∈l.drop q,x=0)∧∃ e2 g2,paE (call AG (n+3)) e g=.ret e2 g2∧UW h r4 e2 g2):=fun hn ⟨e2,q1,q2,q3,q4,q5⟩=>.inr ⟨hn,e2,_,q1,w3,q2,q3,q4,q5,w2⟩
 cases hr:CA (at6 ns 1) (at6 ns 2) (at6 ns 3) (min (at6 ns 0) 9) 0 with
 |false=>
  rw[hr]at k24
  refine nok (fun hh=>by rw[hh.1.1]at hr;cases hr) ?_
  unfold paE
  simp only[sT,Nat.reduceLT,Nat.reduceEqDiff,if_true,if_false,reduceIte,gD,CZ,s10,i0,i1,i2,i3,AV,Ac,l0,l1,l2,l3,mn,Cd,v0,cv,bd,f1,Av,st,BP,BF,ld,Ab,AN,AX,k24,CG,CF,Bool.not_false,DF,s4,w1]
  exact⟨_,rfl,by simp only[AE,Nat.reduceLT,Nat.reduceEqDiff,if_true,if_false,reduceIte];exact s4,by simp[AE],by simp[AE],by simp[AE]⟩
 |true=>
  rw[hr]at k24
  by_cases h4:at6 ns 4≤65536
  ·have c4:iGt ((at6 ns 4:Nat):Int) 65536=false:=Gk (by omega)
   by_cases h5:at6 ns 5≤4294967295
   ·have c5:iGt ((at6 ns 5:Nat):Int) 4294967295=false:=Gk (by omega)
    have M3:=M.ext WB xB3
    obtain⟨w,ct,Vw⟩:=OM M3 hq
    obtain⟨rb,kb,hrb⟩:=S5 (n:=n) Vw (by rw[List.length_drop];omega)
    have kb:call AG (n+3) 85 [w,.func (.func 112) #[] #[]] g3=.ok (.bool rb) g3:=kb
    cases rb with
    |true=>
     obtain⟨y,hy1,hy2⟩:=hrb.1 rfl
     refine nok (fun hh=>hy2 (hh.2 y hy1)) ?_
     unfold paE
     simp only[sT,Nat.reduceLT,Nat.reduceEqDiff,if_true,if_false,reduceIte,gD,CZ,s10,i0,i1,i2,i3,i4,i5,AV,Ac,l0,l1,l2,l3,l4,l5,mn,Cd,v0,cv,bd,f1,Av,st,BP,BF,ld,Ab,AN,AX,k24,CG,CF,Bool.not_true,AS,AQ,c4,c5,s8,s11,ct,kb,DF,s4,w1]
     exact⟨_,rfl,by simp only[AE,Nat.reduceLT,Nat.reduceEqDiff,if_true,if_false,reduceIte];exact s4,by simp[AE],by simp[AE],by simp[AE]⟩
    |false=>
     have hz:∀ x∈l.drop q,x=0:=fun y hy=>by
      rcases Nat.eq_zero_or_pos y with h0|h0
      ·exact h0
      ·have:=hrb.2 ⟨y,hy,by omega⟩;cases this
     have hok:Ni ns:=⟨hr,h4,h5⟩
     have hmin:min (at6 ns 0) 9=at6 ns 0:=Nat.min_eq_left (Nat.le_trans (Zw.1 hok).1 (by decide))
     left
     refine⟨hok,hz,?_⟩
     have xm:=x3.marked
     have R10m:g3.marked.Row r10 0 (ns.map nv):=R10'.same rfl
     have m4:=PD R10m h6 (k:=4) (by omega)
     have m5:=PD R10m h6 (k:=5) (by omega)
     have R13m:g3.marked.Row g.next 0 (A0 (at6 ns 1) (at6 ns 2) (at6 ns 3) (min (at6 ns 0) 9) nilS):=(R13'.ext x2.wf y3).same rfl
     have mld:=(Ca R13m).2.2.2.2.2
     have v5:DZ .u32 (.int .u64 ((at6 ns 5:Nat):Int)) g3.marked=.ok (.int .u32 ((at6 ns 5:Nat):Int)) g3.marked:=by rw[Cy,QI h5]
     have ck:∀ (k:C) (F:CallF) (e:Env),AB 4 e=pt r4→AB 87 e=.pointer (some ⟨r10,4,none⟩)→AB 90 e=.pointer (some ⟨r10,5,none⟩)→Ce (AB 4) [AB 87,AB 90] k F e g3.marked=k F e g3.marked:=fun k F e e1 e2 e3=>dT e1 e2 e3 hr410 hr410
     have h256:256≤r4:=by have:=W0.big;omega
     have R4m:g3.marked.Row r4 0 (A0 0 0 0 0 nilS):=(R4.ext WB xB3).same rfl
     have ta:∀ (F:CallF) (e:Env),AB 4 e=pt r4→AB 86 e=CI (at6 ns 1) (at6 ns 2) (at6 ns 3) (min (at6 ns 0) 9) nilS→IE (AB 4) (Ae 5 (AB 4) (AB 86)) F e g3.marked=.ok noRes (g3.marked.back (g3.marked.quiet.wr r4 0 (A0 (at6 ns 1) (at6 ns 2) (at6 ns 3) (min (at6 ns 0) 9) nilS))):=fun F e e1 e2=>ZO xm.wf e1 e2 R4m rfl h256 rfl
     have xhm:=xh3.marked
     obtain⟨_,z2,z3,z4,_⟩:=J6 W0 xhm.quiet hr4 (R4m.same (h':=g3.marked.quiet) rfl) rfl (a:=at6 ns 1) (b:=at6 ns 2) (c:=at6 ns 3) (s:=min (at6 ns 0) 9) (u:=nilS) rfl
     have xf:h.Ext (g3.marked.back (g3.marked.quiet.wr r4 0 (A0 (at6 ns 1) (at6 ns 2) (at6 ns 3) (min (at6 ns 0) 9) nilS))):=Hp.Ext.back2 xhm z3
     have Rf:(g3.marked.back (g3.marked.quiet.wr r4 0 (A0 (at6 ns 1) (at6 ns 2) (at6 ns 3) (min (at6 ns 0) 9) nilS))).Row r4 0 (A0 (at6 ns 1) (at6 ns 2) (at6 ns 3) (min (at6 ns 0) 9) nilS):=z4.same rfl
     generalize g3.marked.back (g3.marked.quiet.wr r4 0 (A0 (at6 ns 1) (at6 ns 2) (at6 ns 3) (min (at6 ns 0) 9) nilS))=g4 at ta xf Rf
     have ldf:=(Ca Rf).2.2.2.2.2
     rw[hmin]at ldf
     have hrun:∃ e2,paE (call AG (n+3)) e g=.ret e2 g4∧AB 4 e2=pt r4∧AB 5 e2=.int .i64 (at6 ns 4:Nat)∧AB 6 e2=.int .u32 (at6 ns 5:Nat)∧AB 7 e2=.bool true:=by
      unfold paE
      simp only[sT,Nat.reduceLT,Nat.reduceEqDiff,if_true,if_false,reduceIte,gD,CZ,s10,i0,i1,i2,i3,i4,i5,AV,Ac,l0,l1,l2,l3,l4,l5,mn,Cd,v0,cv,bd,f1,Av,st,BP,BF,ld,Ab,AN,AX,k24,CG,CF,Bool.not_true,AS,AQ,c4,c5,s8,s11,ct,kb,BD,mld,m4,m5,v5,s4,ck,ta]
      exact⟨_,rfl,by simp only[AE,Nat.reduceLT,Nat.reduceEqDiff,if_true,if_false,reduceIte];exact s4,by simp[AE],by simp[AE],by simp[AE]⟩
     obtain⟨e2,q1,q2,q3,q4,q5⟩:=hrun
     exact⟨e2,g4,q1,xf,q2,q3,q4,q5,ldf⟩
   ·have c5:iGt ((at6 ns 5:Nat):Int) 4294967295=true:=Hz (by omega)
    refine nok (fun hh=>h5 hh.1.2.2) ?_
    unfold paE
    simp only[sT,Nat.reduceLT,Nat.reduceEqDiff,if_true,if_false,reduceIte,gD,CZ,s10,i0,i1,i2,i3,i4,i5,AV,Ac,l0,l1,l2,l3,l4,l5,mn,Cd,v0,cv,bd,f1,Av,st,BP,BF,ld,Ab,AN,AX,k24,CG,CF,Bool.not_true,AS,AQ,c4,c5,DF,s4,w1]
    exact⟨_,rfl,by simp only[AE,Nat.reduceLT,Nat.reduceEqDiff,if_true,if_false,reduceIte];exact s4,by simp[AE],by simp[AE],by simp[AE]⟩
  ·have c4:iGt ((at6 ns 4:Nat):Int) 65536=true:=Hz (by omega)
   refine nok (fun hh=>h4 hh.1.2.1) ?_
   unfold paE
   simp only[sT,Nat.reduceLT,Nat.reduceEqDiff,if_true,if_false,reduceIte,gD,CZ,s10,i0,i1,i2,i3,i4,i5,AV,Ac,l0,l1,l2,l3,l4,mn,Cd,v0,cv,bd,f1,Av,st,BP,BF,ld,Ab,AN,AX,k24,CG,CF,Bool.not_true,AS,AQ,c4,DF,s4,w1]
   exact⟨_,rfl,by simp only[AE,Nat.reduceLT,Nat.reduceEqDiff,if_true,if_false,reduceIte];exact s4,by simp[AE],by simp[AE],by simp[AE]⟩
theorem Wr{n:Nat}{h:Hp}(W:h.Wf){tb:Nat}{T:List Nat}(R:h.Row tb 0 (T.map wv))(hT:TblOk T){u:Value}{l:List Nat}(V:h.Vals u (l.map bv))(hC:N2 u)(hb:∀ x∈l,x<256)(hl:l.length≤900000):
  ∃ h',h.Ext h'∧((∃ ns,H3 T l ns∧call AG (n+4) 87 [pt tb,u] h=.ok (okT ns) h')∨((¬ ∃ ns,H3 T l ns)∧call AG (n+4) 87 [pt tb,u] h=.ok noT h')):=by
 have f1:=fun (F:CallF) (e:Env)=>Bt (F:=F) (e:=e) (n:=5) (t:=CN) W
 have x1:=(Hp.Ext.refl W).push (.cells CN 5 0)
 have R4:(h.push (.cells CN 5 0)).Row h.next 0 (A0 0 0 0 0 nilS):=Hp.Row.alloc W Fo rfl
 have nA:(h.push (.cells CN 5 0)).next=h.next+1:=rfl
 generalize h.push (.cells CN 5 0)=hA at f1 x1 R4 nA
 obtain⟨hB,yB,U⟩:=UT (n:=n) x1.wf (R.ext W x1) hT (V.ext W x1) hC hb hl
 have xB:=x1.trans yB
 have R4B:=R4.ext x1.wf yB
 obtain⟨w1,w2,w3,_,_⟩:=J6 W xB (Nat.le_refl _) R4B rfl (a:=0) (b:=0) (c:=0) (s:=0) (u:=nilS) rfl
 rcases U with ⟨body,v,hu,k1,M⟩|⟨hu,c,hc,k1⟩
 ·have c2:iNe 0 0=false:=Db rfl
  have Vl:=M.vals.bl hB
  by_cases h60:body.length=60
  ·have c3:iNe (body.length:Int) 60=false:=Db (by omega)
   have f2:=fun (F:CallF) (e:Env)=>Bt (F:=F) (e:=e) (n:=6) (t:=M8) xB.wf
   have y2:=(Hp.Ext.refl xB.wf).push (.cells M8 6 0)
   have R10:(hB.push (.cells M8 6 0)).Row hB.next 0 ([0,0,0,0,0,0].map nv):=Hp.Row.alloc xB.wf Xj rfl
   generalize hB.push (.cells M8 6 0)=hC' at f2 y2 R10
   have pre:∃ e1,ON (call AG (n+3)) (AZ e0 0 [pt tb,u]) h=paS (call AG (n+3)) e1 hC'∧AB 4 e1=pt h.next∧AB 8 e1=v∧AB 10 e1=pt hB.next∧AB 11 e1=.int .i64 ((0:Nat):Int)∧AB 29 e1=.int .i64 ((0:Nat):Int):=by
    unfold ON
    simp only[AJ,AK,Nat.succ_eq_add_one,Nat.zero_add,Nat.reduceAdd,sT,Nat.reduceLT,Nat.reduceEqDiff,if_true,if_false,reduceIte,gD,f1,Ab,AN,AX,k1,BM,BV,Ba,AS,AQ,c2,Ay,Vl,c3,f2]
    exact⟨_,rfl,by simp[AE],by simp[AE],by simp[AE],by simp only[AE,Nat.reduceLT,Nat.reduceEqDiff,if_true,if_false,reduceIte];rfl,by simp only[AE,Nat.reduceLT,Nat.reduceEqDiff,if_true,if_false,reduceIte];rfl⟩
   obtain⟨e1,p1,p2,p3,p4,p5,p6⟩:=pre
   obtain⟨hsl,hbt⟩:=I6 hu
   have hbb:∀ x∈body,x<256:=fun x hx=>hb x (by rw[hbt]at hx;exact List.mem_of_mem_take hx)
   rcases Z5 (n:=n+2) W xB y2 (Nat.le_refl h.next) (Nat.le_refl _) R4B M.vals hbb (by omega) R10 p2 p3 p4 p5 p6 with ⟨e2,g,ns,q,q1,x2,R10',hrd,t4,t8,t10,t11⟩|⟨e2,g,q1,hrd,D⟩
   ·obtain⟨g1,g2,g3,g4,g5⟩:=KP 6 body 0 ns q hbb (Nat.zero_le _) hrd
    have hn2:hB.next≠h.next:=by have:=yB.next;omega
    rcases kT (n:=n) W xB x2 (Nat.le_refl _) hn2 R4B M (by omega) g4 R10' g1 g5 t4 t8 t10 t11 with ⟨ho,hz,e3,g',r1,D⟩|⟨hno,e3,g',r1,D⟩
    ·refine⟨g',D.1,.inl ⟨ns,⟨body,q,hu,h60,hrd,ho,hz⟩,?_⟩⟩
     rw[Ku rfl,K5,p1,Q9]
     simp only[BU,A3,q1,A9,BH,r1]
     exact gc D
    ·refine⟨g',D.1,.inr ⟨?_,?_⟩⟩
     ·rintro⟨ms,body',q',j1,j2,j3,j4,j5⟩
      rw[hu]at j1;cases j1
      rw[hrd]at j3;cases j3
      exact hno ⟨j4,j5⟩
     ·rw[Ku rfl,K5,p1,Q9]
      simp only[BU,A3,q1,A9,BH,r1]
      exact KR D
   ·refine⟨g,D.1,.inr ⟨?_,?_⟩⟩
    ·rintro⟨ms,body',q',j1,j2,j3,j4,j5⟩
     rw[hu]at j1;cases j1
     rw[hrd]at j3;cases j3
    ·rw[Ku rfl,K5,p1,Q9]
     simp only[BU,A3,q1,CY,DD]
     exact KR D
  ·have c3:iNe (body.length:Int) 60=true:=Me (by omega)
   have hrun:∃ e2,ON (call AG (n+3)) (AZ e0 0 [pt tb,u]) h=.ret e2 (hB.wr h.next 0 (A0 0 0 0 0 nilS))∧AB 4 e2=pt h.next∧AB 5 e2=.int .i64 0∧AB 6 e2=.int .u32 0∧AB 7 e2=.bool false:=by
    unfold ON
    simp only[AJ,AK,Nat.succ_eq_add_one,Nat.zero_add,Nat.reduceAdd,sT,Nat.reduceLT,Nat.reduceEqDiff,if_true,if_false,reduceIte,gD,f1,Ab,AN,AX,k1,BM,BV,Ba,AS,AQ,c2,Ay,Vl,c3,DF,Av,w1]
    exact⟨_,rfl,by simp[AE],by simp[AE],by simp[AE],by simp[AE]⟩
   obtain⟨e2,q1,q2,q3,q4,q5⟩:=hrun
   refine⟨_,w3,.inr ⟨?_,?_⟩⟩
   ·rintro⟨ms,body',q',j1,j2,_⟩
    rw[hu]at j1;cases j1
    exact h60 j2
   ·rw[Ku rfl,K5,q1]
    exact KR (h:=h) ⟨w3,q2,q3,q4,q5,w2⟩
 ·have c2:iNe c 0=true:=Me hc
  have hrun:∃ e2,ON (call AG (n+3)) (AZ e0 0 [pt tb,u]) h=.ret e2 (hB.wr h.next 0 (A0 0 0 0 0 nilS))∧AB 4 e2=pt h.next∧AB 5 e2=.int .i64 0∧AB 6 e2=.int .u32 0∧AB 7 e2=.bool false:=by
   unfold ON
   simp only[AJ,AK,Nat.succ_eq_add_one,Nat.zero_add,Nat.reduceAdd,sT,Nat.reduceLT,Nat.reduceEqDiff,if_true,if_false,reduceIte,gD,f1,Ab,AN,AX,k1,BM,BV,Ba,AS,AQ,c2,DF,Av,w1]
   exact⟨_,rfl,by simp[AE],by simp[AE],by simp[AE],by simp[AE]⟩
  obtain⟨e2,q1,q2,q3,q4,q5⟩:=hrun
  refine⟨_,w3,.inr ⟨?_,?_⟩⟩
  ·rintro⟨ms,body',q',j1,_⟩
   rw[hu]at j1;cases j1
  ·rw[Ku rfl,K5,q1]
   exact KR (h:=h) ⟨w3,q2,q3,q4,q5,w2⟩
end
noncomputable section
open Go
set_option maxRecDepth 100000
structure Fx (S:Nat→Prop)(h h':Hp):Prop where
 next:h.next≤h'.next
 get:∀ i,i<h.next→¬ S i→h'.bl.get i=h.bl.get i
 wf:h'.Wf
 low:∀ L,L≤h.low→L≤h.next→(∀ b,S b→L≤b)→L≤h'.low
theorem OD{h g:Hp}:(h.back g).low=min h.low g.low:=BK _ _
section
variable {S T:Nat→Prop}{h h' h1 h2:Hp}
theorem Fx.refl(W:h.Wf):Fx S h h:=⟨Nat.le_refl _,fun _ _ _=>rfl,W,fun _ h1 _ _=>h1⟩
theorem Fx.of(x:h.Ext h'):Fx S h h':=⟨x.next,fun i hi _=>x.get i hi,x.wf,fun L h1 h2 _=>by have:=x.low;omega⟩
theorem Fx.trans(a:Fx S h h1)(b:Fx S h1 h2):Fx S h h2:=⟨Nat.le_trans a.next b.next,fun i hi hs=>by rw[b.get i (Nat.lt_of_lt_of_le hi a.next) hs,a.get i hi hs],b.wf,fun L h1 h2 h3=>b.low L (a.low L h1 h2 h3) (Nat.le_trans h2 a.next) h3⟩
theorem Fx.mono(a:Fx S h h')(hs:∀ i,S i→T i):Fx T h h':=⟨a.next,fun i hi ht=>a.get i hi fun s=>ht (hs i s),a.wf,fun L h1 h2 h3=>a.low L h1 h2 fun b hb=>h3 b (hs b hb)⟩
theorem aU(W:h.Wf)(hb:h'.bl=h.bl)(hn:h'.next=h.next):h'.Wf:=⟨by rw[hn];exact W.big,by rw[hn,hb];exact W.has,by rw[hn,hb];exact W.fresh⟩
theorem Fx.same(a:Fx S h h1)(hb:h2.bl=h1.bl)(hn:h2.next=h1.next)(hl:min h.low h1.low≤h2.low:=by first|exact Nat.le_of_eq OD.symm|exact Nat.min_le_right _ _):Fx S h h2:=⟨by rw[hn];exact a.next,fun i hi hs=>by rw[hb];exact a.get i hi hs,aU a.wf hb hn,fun L q1 q2 q3=>by have:=a.low L q1 q2 q3;omega⟩
theorem Fx.from(a:Fx S h1 h')(hb:h1.bl=h.bl)(hn:h1.next=h.next)(hl:min h.low h.next≤h1.low:=by first|exact Nat.min_le_left _ _|exact Nat.min_le_right _ _):Fx S h h':=⟨by rw[← hn];exact a.next,fun i hi hs=>by rw[← hb];exact a.get i (by rw[hn];exact hi) hs,a.wf,fun L q1 q2 q3=>a.low L (by omega) (by omega) q3⟩
theorem Fx.back(x:Fx S h.quiet h'):Fx S h (h.back h'):=⟨x.next,x.get,⟨x.wf.big,x.wf.has,x.wf.fresh⟩,fun L h1 h2 h3=>by
 have h2':L≤h.quiet.next:=h2
 have:=x.low L h2 h2' h3
 rw[OD];omega⟩
theorem Fx.row(x:Fx S h h')(W:h.Wf){b el:Nat}{l:List Value}(r:h.Row b el l)(hb:¬ S b):h'.Row b el l:=by
 have:=r.lt W
 obtain⟨c,hc,hl⟩:=r
 exact⟨c,(x.get b this hb).trans hc,hl⟩
theorem Fx.put(W:h.Wf){b:Nat}(hb:b<h.next)(hs:S b)(o:Blk):Fx S h (h.put b o):=⟨Nat.le_refl _,fun i hi hn=>by
 rw[W.put_get hb]
 exact if_neg fun e=>hn (by rw[e];exact hs),W.put hb o,fun L h1 _ h3=>by
 have:=h3 b hs
 have e:(h.put b o).low=min h.low b:=BK _ _
 omega⟩
theorem Fx.wr(W:h.Wf){b el off:Nat}{l vs:List Value}(r:h.Row b el l)(ho:off+vs.length≤l.length)(hs:S b):Fx S h (h.wr b off vs):=by
 obtain⟨c,_,e,_⟩:=r.wr_is ho
 rw[e];exact Fx.put W (r.lt W) hs _
theorem XZ{b el off bc:Nat}{l vs:List Value}{es:List Ent}{k:Nat}(W:h.Wf)(r:h.Row b el l)(ho:off+vs.length≤l.length)(m:h.bl.get bc=.map es k):(h.wr b off vs).bl.get bc=.map es k:=by
 obtain⟨c,_,e,_⟩:=r.wr_is ho
 rw[e,W.put_get (r.lt W),if_neg]
 ·exact m
 ·rintro rfl
  obtain⟨c,hc,_⟩:=r
  rw[m]at hc;cases hc
end
def Hp.VS(h:Hp)(S:Nat→Prop)(v:Value)(xs:List Value):Prop:=(v=nilS∧xs=[])∨∃ b off c el L,v=.slice (some ⟨b,off,none⟩) xs.length c∧xs.length≤c∧h.Row b el L∧off+xs.length≤L.length∧(L.drop off).take xs.length=xs∧S b
section
variable {h h':Hp}{S S':Nat→Prop}{v:Value}{xs:List Value}
theorem Hp.VS.vals(o:h.VS S v xs):h.Vals v xs:=by
 rcases o with h1|⟨b,off,c,el,L,h1,h2,h3,h4,h5,_⟩
 ·exact .inl h1
 ·exact .inr ⟨b,off,c,el,L,h1,h3,h4,h5⟩
theorem Hp.VS.keep(o:h.VS S v xs)(hk:∀ b el L,S b→h.Row b el L→h'.Row b el L):h'.VS S v xs:=by
 rcases o with h1|⟨b,off,c,el,L,h1,h2,h3,h4,h5,h6⟩
 ·exact .inl h1
 ·exact .inr ⟨b,off,c,el,L,h1,h2,hk _ _ _ h6 h3,h4,h5,h6⟩
theorem Hp.VS.ext(o:h.VS S v xs)(W:h.Wf)(x:h.Ext h'):h'.VS S v xs:=o.keep fun _ _ _ _ r=>r.ext W x
theorem Hp.VS.same(o:h.VS S v xs)(hb:h'.bl=h.bl):h'.VS S v xs:=o.keep fun _ _ _ _ r=>r.same hb
theorem Hp.VS.mono(o:h.VS S v xs)(hs:∀ b,S b→S' b):h.VS S' v xs:=by
 rcases o with h1|⟨b,off,c,el,L,h1,h2,h3,h4,h5,h6⟩
 ·exact .inl h1
 ·exact .inr ⟨b,off,c,el,L,h1,h2,h3,h4,h5,hs _ h6⟩
theorem Hp.VS.lt(o:h.VS S v xs)(W:h.Wf):h.VS (fun b=>S b∧b<h.next) v xs:=by
 rcases o with h1|⟨b,off,c,el,L,h1,h2,h3,h4,h5,h6⟩
 ·exact .inl h1
 ·exact .inr ⟨b,off,c,el,L,h1,h2,h3,h4,h5,h6,h3.lt W⟩
theorem Hp.VS.one(o:h.VS S v xs):cellsOf v=[v]∧A6 v=true∧known v=true:=by
 rcases o with ⟨rfl,_⟩|⟨b,off,c,el,L,rfl,_⟩<;>exact⟨rfl,rfl,rfl⟩
theorem Hp.VS.cap(o:h.VS S v xs):∃ a c,v=.slice a xs.length c∧xs.length≤c:=by
 rcases o with ⟨rfl,rfl⟩|⟨b,off,c,el,L,rfl,h2,_⟩
 ·exact⟨none,0,rfl,Nat.le_refl _⟩
 ·exact⟨_,_,rfl,h2⟩
theorem Hp.VS.fx(o:h.VS S v xs)(W:h.Wf){T:Nat→Prop}(x:Fx T h h')(hs:∀ b,S b→¬ T b):h'.VS S v xs:=o.keep fun b _ _ hb r=>x.row W r (hs b hb)
theorem Sd{l:List Value}(h:∀ x∈l,A6 x=true):Bg l=true:=by
 induction l with
 |nil=>rfl
 |cons a l ih=>
  show(bif A6 a then Bg l else false)=true
  rw[h a List.mem_cons_self,ih fun x hx=>h x (List.mem_cons_of_mem _ hx)];rfl
end
def Hp.BS(h:Hp)(S:Nat→Prop)(v:Value)(xs:List Value):Prop:=(v=nilS∧xs=[])∨∃ b off c el L,v=.slice (some ⟨b,off,none⟩) xs.length c∧xs.length≤c∧h.Row b el L∧off+xs.length≤L.length∧(L.drop off).take xs.length=xs∧S b∧(el=0∨el=6)
section
variable {h h':Hp}{S S':Nat→Prop}{v:Value}{xs:List Value}
theorem Hp.BS.vs(o:h.BS S v xs):h.VS S v xs:=by
 rcases o with h1|⟨b,off,c,el,L,h1,h2,h3,h4,h5,h6,_⟩
 ·exact .inl h1
 ·exact .inr ⟨b,off,c,el,L,h1,h2,h3,h4,h5,h6⟩
theorem Hp.BS.keep(o:h.BS S v xs)(hk:∀ b el L,S b→(el=0∨el=6)→h.Row b el L→h'.Row b el L):h'.BS S v xs:=by
 rcases o with h1|⟨b,off,c,el,L,h1,h2,h3,h4,h5,h6,h7⟩
 ·exact .inl h1
 ·exact .inr ⟨b,off,c,el,L,h1,h2,hk _ _ _ h6 h7 h3,h4,h5,h6,h7⟩
theorem Hp.BS.ext(o:h.BS S v xs)(W:h.Wf)(x:h.Ext h'):h'.BS S v xs:=o.keep fun _ _ _ _ _ r=>r.ext W x
theorem Hp.BS.same(o:h.BS S v xs)(hb:h'.bl=h.bl):h'.BS S v xs:=o.keep fun _ _ _ _ _ r=>r.same hb
theorem Hp.BS.mono(o:h.BS S v xs)(hs:∀ b,S b→S' b):h.BS S' v xs:=by
 rcases o with h1|⟨b,off,c,el,L,h1,h2,h3,h4,h5,h6,h7⟩
 ·exact .inl h1
 ·exact .inr ⟨b,off,c,el,L,h1,h2,h3,h4,h5,hs _ h6,h7⟩
end
def DR(l:List Nat):Value:=.agg ⟨l.map bv⟩
def entsS:Nat→List (Nat×List Nat)→List Ent
 |_,[]=>[]
 |i,x::r=>⟨.int .i64 (x.1:Int),DR x.2,i⟩::entsS (i+1) r
def sec(M:List Nat)(i:Nat):List Nat:=(M.drop (64 * i)).take 64
theorem EZ{M:List Nat}{n i:Nat}(hM:M.length=64 * n)(hi:i<n):(sec M i).length=64:=by
 unfold sec;rw[List.length_take,List.length_drop];omega
theorem gu{M:List Nat}(hb:∀ x∈M,x<256)(i:Nat):∀ x∈sec M i,x<256:=fun x hx=>hb x (List.mem_of_mem_drop (List.mem_of_mem_take hx))
def dkL(bm bc n:Nat)(arm:Int)(dn:Bool):List Value:=[.slice (some ⟨bm,0,none⟩) n n,.map (some bc),.int .i64 arm,.bool dn]
structure Dk (h:Hp)(bd bm bc n:Nat)(M:List Nat)(c0:Nat)(cs:List (Nat×List Nat))(arm:Int)(dn:Bool):Prop where
 disk:h.Row bd 0 (dkL bm bc n arm dn)
 med:h.Row bm 0 (M.map bv)
 len:M.length=64 * n
 byt:∀ x∈M,x<256
 map:h.bl.get bc=.map (entsS c0 cs) (c0+cs.length)
 big:256≤bd∧256≤bm∧256≤bc
 n1:1≤n∧n≤65536
section
variable {F:CallF}{e:Env}{h h':Hp}{S:Nat→Prop}{bd bm bc n c0:Nat}{M:List Nat}{cs:List (Nat×List Nat)}{arm:Int}{dn:Bool}
theorem Y6{h:Hp}{b b' el el':Nat}{L L':List Value}(r:h.Row b el L)(r':h.Row b' el' L')(he:L.length≠L'.length):b≠b':=fun hb=>by
 subst hb
 obtain⟨_,e1,_⟩:=r
 obtain⟨_,e2,_⟩:=r'
 rw[e1]at e2
 injection e2 with _ e3 _
 exact he e3
theorem Dk.bdm(d:Dk h bd bm bc n M c0 cs arm dn):bd≠bm:=Y6 d.disk d.med (by
 rw[List.length_map,d.len]
 show 4≠_
 have:=d.n1;omega)
theorem Nq{h:Hp}{b bc el k:Nat}{L:List Value}{es:List Ent}(r:h.Row b el L)(m:h.bl.get bc=.map es k):b≠bc:=fun hb=>by
 subst hb
 obtain⟨_,e1,_⟩:=r
 rw[e1]at m;cases m
theorem Dk.bdc(d:Dk h bd bm bc n M c0 cs arm dn):bd≠bc:=Nq d.disk d.map
theorem Dk.bmc(d:Dk h bd bm bc n M c0 cs arm dn):bm≠bc:=Nq d.med d.map
theorem Dk.lt(d:Dk h bd bm bc n M c0 cs arm dn)(W:h.Wf):bd<h.next∧bm<h.next∧bc<h.next:=⟨d.disk.lt W,d.med.lt W,by
 rcases Nat.lt_or_ge bc h.next with h1|h1
 ·exact h1
 ·have:=W.fresh bc h1
  rw[d.map]at this;cases this⟩
theorem Dk.same(d:Dk h bd bm bc n M c0 cs arm dn)(hb:h'.bl=h.bl):Dk h' bd bm bc n M c0 cs arm dn:=⟨d.disk.same hb,d.med.same hb,d.len,d.byt,by rw[hb];exact d.map,d.big,d.n1⟩
theorem Dk.fr(d:Dk h bd bm bc n M c0 cs arm dn)(W:h.Wf)(x:Fx S h h')(h1:¬ S bd)(h2:¬ S bm)(h3:¬ S bc):Dk h' bd bm bc n M c0 cs arm dn:=⟨x.row W d.disk h1,x.row W d.med h2,d.len,d.byt,by rw[x.get bc (d.lt W).2.2 h3];exact d.map,d.big,d.n1⟩
theorem Dk.ext(d:Dk h bd bm bc n M c0 cs arm dn)(W:h.Wf)(x:h.Ext h'):Dk h' bd bm bc n M c0 cs arm dn:=d.fr (S:=fun _=>False) W (.of x) (fun h=>h) (fun h=>h) (fun h=>h)
theorem Cs(R:h.Row bd 0 (dkL bm bc n arm dn)):load1 ⟨bd,0,none⟩ h=.ok (.slice (some ⟨bm,0,none⟩) n n) h∧load1 ⟨bd,1,none⟩ h=.ok (.map (some bc)) h∧load1 ⟨bd,2,none⟩ h=.ok (.int .i64 arm) h∧load1 ⟨bd,3,none⟩ h=.ok (.bool dn) h:=
 ⟨R.load1 (off:=0) (by show 0<4;omega),R.load1 (off:=1) (by show 1<4;omega),R.load1 (off:=2) (by show 2<4;omega),R.load1 (off:=3) (by show 3<4;omega)⟩
theorem Iw{k:TK}{t:Nat}{a:Addr}{g:O}(hk:k=.ptr t)(hg:g e=.pointer (some a)):oEq k false g (kV (.pointer none)) F e h=.ok (.bool false) h:=by
 subst hk
 show(match eqV (.ptr t) (g e) (.pointer none)with|some r=>okB (false != r) h|none=>.no)=_
 rw[hg]
 exact Ft
theorem Y7{k:TK}{a b r:Nat}{g:O}(hk:k=.map a b)(hg:g e=.map (some r)):oEq k false g (kV (.map none)) F e h=.ok (.bool false) h:=by
 subst hk
 show(match eqV (.map a b) (g e) (.map none)with|some r=>okB (false != r) h|none=>.no)=_
 rw[hg]
 exact Ft
theorem bG:UQ.k=.ptr 98:=by kernel_rfl
theorem mw:aR.k=.map 3 100:=by kernel_rfl
theorem KJ{m:Nat}(d:Dk h bd bm bc n M c0 cs arm dn):call AG (m+1) 54 [pt bd] h=.ok (.bool false) h:=by
 obtain⟨_,l1,_,_⟩:=Cs d.disk
 have e1:∀ e:Env,AB 0 e=pt bd→oEq UQ.k false (AB 0) (kV (.pointer none)) (call AG m) e h=.ok (.bool false) h:=fun e he=>Iw bG he
 have e2:∀ e:Env,AB 9 e=.map (some bc)→oEq aR.k false (AB 9) (kV (.map none)) (call AG m) e h=.ok (.bool false) h:=fun e he=>Y7 mw he
 rw[eB rfl]
 unfold d54
 simp only[AJ,AK,Nat.succ_eq_add_one,Nat.zero_add,Nat.reduceAdd,sT,Nat.reduceLT,Nat.reduceEqDiff,if_true,if_false,reduceIte,gD,e1,A4,Az,AM,AY,AV,Ac,l1,e2,AP,Aa]
theorem MA{m:Nat}(d:Dk h bd bm bc n M c0 cs arm false){i:Nat}(hi:i<n):call AG (m+2) 95 [pt bd,.int .i64 (i:Int)] h=.ok (.int .i64 0) h:=by
 obtain⟨l0,_,_,l3⟩:=Cs d.disk
 have k1:=KJ (m:=m) d
 have c1:iLt (i:Int) 0=false:=F6 (by omega)
 have c2:iGe (i:Int) (n:Int)=false:=FZ (by omega)
 rw[ep rfl]
 unfold d95
 simp only[AJ,AK,Nat.succ_eq_add_one,Nat.zero_add,Nat.reduceAdd,sT,Nat.reduceLT,Nat.reduceEqDiff,if_true,if_false,reduceIte,gD,Ab,AN,AX,k1,A4,Az,AM,AY,AV,Ac,l0,l3,Ay,E7,AS,AQ,c1,c2,AP,Aa]
theorem aG{m:Nat}(d:Dk h bd bm bc n M c0 cs arm dn):call AG (m+2) 56 [pt bd] h=.ok (.int .i64 (n:Int)) h:=by
 obtain⟨l0,_,_,l3⟩:=Cs d.disk
 have k1:=KJ (m:=m) d
 rw[eD rfl]
 unfold d56
 simp only[AJ,AK,Nat.succ_eq_add_one,Nat.zero_add,Nat.reduceAdd,sT,Nat.reduceLT,Nat.reduceEqDiff,if_true,if_false,reduceIte,gD,Ab,AN,AX,k1,A4,Az,AM,AY,AV,Ac,l0,l3,Ay,E7,AP,Aa]
theorem Yi{m:Nat}(d:Dk h bd bm bc n M c0 cs arm dn):call AG (m+2) 58 [pt bd] h=.ok (.bool dn) h:=by
 obtain⟨l0,_,_,l3⟩:=Cs d.disk
 have k1:=KJ (m:=m) d
 rw[eF rfl]
 unfold d58
 simp only[AJ,AK,Nat.succ_eq_add_one,Nat.zero_add,Nat.reduceAdd,sT,Nat.reduceLT,Nat.reduceEqDiff,if_true,if_false,reduceIte,gD,Ab,AN,AX,k1,CG,CF,Bool.not_false,A4,Az,AM,AY,AV,Ac,l0,l3,AP,Aa]
theorem gU{x y:O}{k j:IntKind}{a b:Int}(hx:x e=.int k a)(hy:y e=.int j b):Tp x y F e h=.ok (.int k (max a b)) h:=by
 show HC false (x e) (y e) h=_
 rw[hx,hy]
 show(bif iLt a b then R.ok (.int k b) h else .ok (.int k a) h)=_
 rw[C0]
 by_cases hab:a<b
 ·rw[decide_eq_true hab,Int.max_eq_right (by omega)];rfl
 ·rw[decide_eq_false hab,Int.max_eq_left (by omega)];rfl
def Fq(a:Int):Int:=max (a - 1) (-1)
def CT(a:Int)(k:Nat):Prop:=a≤1099511627776∧-1≤a∧(a<0∨(k:Int)≤a)
theorem CT.one{a:Int}{k:Nat}(h:CT a (k+1)):CT (Fq a) k∧a≠0:=by
 unfold CT Fq at *
 omega
theorem CT.le{a:Int}{k j:Nat}(h:CT a k)(hj:j≤k):CT a j:=by
 unfold CT at *
 omega
theorem Sf{m:Nat}(W:h.Wf)(d:Dk h bd bm bc n M c0 cs arm false){k:Nat}(ha:CT arm (k+1)):
  ∃ h',call AG (m+1) 96 [pt bd] h=.ok (.int .i64 0) h'∧Fx (fun i=>i=bd) h h'∧Dk h' bd bm bc n M c0 cs (Fq arm) false:=by
 obtain⟨_,_,l2,_⟩:=Cs d.disk
 obtain⟨_,hne⟩:=ha.one
 have c1:iEq arm 0=false:=Cz hne
 have hs:=d.disk.storeR (n:=1) (off:=2) W d.big.1 (v:=.int .i64 (Fq arm)) rfl (by show 2+1≤4;omega) rfl
 have fr:=Fx.wr (S:=fun i=>i=bd) W d.disk (off:=2) (vs:=[.int .i64 (Fq arm)]) (by show 2+1≤4;omega) rfl
 have r1:=d.disk.wr_self W (off:=2) (vs:=[.int .i64 (Fq arm)]) (by show 2+1≤4;omega)
 have hw:IntKind.i64.wrap (Int.sub arm 1)=arm - 1:=by
  obtain⟨h1,h2,h3⟩:=ha
  show IntKind.i64.wrap (arm - 1)=_
  rcases Int.lt_or_le arm 1 with hlt|hge
  ·have:arm= -1∨arm=0:=by omega
   rcases this with rfl|rfl<;>rfl
  ·exact Xa (by omega) (by omega)
 have mx:∀ e:Env,AB 19 e=.int .i64 (arm - 1)→Tp (AB 19) (kV (.int .i64 (-1))) (call AG m) e h=.ok (.int .i64 (Fq arm)) h:=fun e he=>gU he rfl
 have hs:storeR 1 (.pointer (some ⟨bd,2,none⟩)) (.int .i64 (Fq arm)) h=.ok noRes (h.wr bd 2 [.int .i64 (Fq arm)]):=hs
 refine⟨_,?_,fr,⟨r1,fr.row W d.med (fun h=>d.bdm h.symm),d.len,d.byt,XZ W d.disk (by show 2+1≤4;omega) d.map,d.big,d.n1⟩⟩
 rw[et rfl]
 unfold d96
 simp only[AJ,AK,Nat.succ_eq_add_one,Nat.zero_add,Nat.reduceAdd,sT,Nat.reduceLT,Nat.reduceEqDiff,if_true,if_false,reduceIte,A4,Az,AM,AY,AV,Ac,Nat.zero_add,l2,AS,AQ,c1,DK,DI,hw,mx,Av,hs,AP,Aa]
end
end
end Go.Proofs.YtedbmmfebjfibaaGreat

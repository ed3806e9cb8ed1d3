/-
  Part ZO of what Lawap stands on: printed by program, names and spaces cut.
-/
import Derived.Test.YtedbmmfebjfibaaGreatZN
set_option linter.unusedVariables false
set_option linter.unusedSimpArgs false
namespace Go.Proofs.YtedbmmfebjfibaaGreat
noncomputable section
open Go
set_option maxRecDepth 100000
theorem Yn:prB=dK:=rfl
theorem H9:d11=Mg:=rfl
section
variable {F:CallF}{e:Env}{h h' h0:Hp}{S:Nat→Prop}{A:At}{T M:List Nat}{c0 bad m k p:Nat}{arm:Int}{ks:List Kt}{fr:List Nat}{v lv fv:Value}{ov:Bool}
def VcI(h:Hp)(k:Nat)(v:Value)(l:List Nat):Prop:=(v=nilS∧l=[])∨Mk h k v l
theorem VcI.vals{k:Nat}{v:Value}{l:List Nat}(o:VcI h k v l):h.Vals v (l.map bv):=by
 rcases o with ⟨h1,h2⟩|o
 ·exact .inl ⟨h1,by rw[h2];rfl⟩
 ·exact o.vals
theorem VcI.ext{k:Nat}{v:Value}{l:List Nat}(o:VcI h k v l)(W:h.Wf)(x:h.Ext h'):VcI h' k v l:=by
 rcases o with o|o
 ·exact .inl o
 ·exact .inr (o.ext W x)
theorem VcI.same{k:Nat}{v:Value}{l:List Nat}(o:VcI h k v l)(hb:h'.bl=h.bl):VcI h' k v l:=by
 rcases o with o|o
 ·exact .inl o
 ·exact .inr (o.same hb)
theorem VcI.one{k:Nat}{v:Value}{l:List Nat}(o:VcI h k v l):cellsOf v=[v]∧oneCell v=true∧known v=true:=by
 rcases o with ⟨h1,_⟩|⟨b,el,h1,_⟩<;>rw[h1]<;>exact⟨rfl,rfl,rfl⟩
def Hp.VE(h:Hp)(u:Value)(xs:List Value):Prop:=h.Vals u xs∨((∃ r,u=.chan (some r))∧xs=[])
theorem Hp.VE.bl{u:Value}{l:List Nat}(V:h.VE u (l.map bv))(g:Hp):lenSR u g=.ok (.int .i64 (l.length:Int)) g:=by
 rcases V with V|⟨⟨r,rfl⟩,h2⟩
 ·exact V.bl g
 ·rw[List.map_eq_nil_iff.1 h2];rfl
theorem Hp.VE.ext{u:Value}{xs:List Value}(V:h.VE u xs)(W:h.Wf)(x:h.Ext h'):h'.VE u xs:=V.imp (fun V=>V.ext W x) id
theorem Hp.VE.vals{u:Value}{xs:List Value}(V:h.VE u xs)(hl:0<xs.length):h.Vals u xs:=by
 rcases V with V|⟨_,h2⟩
 ·exact V
 ·rw[h2]at hl;cases hl
theorem My{n:Nat}(W:h.Wf){u:Value}{l:List Nat}(V:h.VE u (l.map bv))(hl:l.length≤900000):∃ h' v,call AD (n+1) 39 [u] h=.ok v h'∧h.Ext h'∧VcI h' h.next v l:=by
 rcases V with V|⟨⟨r,rfl⟩,h2⟩
 case inr=>
  obtain rfl:=List.map_eq_nil_iff.1 h2
  have x1:=(Hp.Ext.refl W).pushRow 0 []
  have R:=Hp.Row.new W 0 []
  have es:=fun (e:Env) (t:List Value)=>Jg (F:=call AD n) (e:=e) (t:=t) W
  generalize h.pushRow 0 []=g at x1 R es
  have ne:∀ e:Env,AB 0 e=.chan (some r)→oEq Ki.k false (AB 0) (kV (.slice none 0 0)) (call AD n) e h=.ok (.bool false) h:=fun e he=>by
   rw[ZF]
   show(match eqV (.slice 5) (AB 0 e) (.slice none 0 0)with|some r=>okB (false != r) h|none=>.no)=_
   rw[he]
   exact Fp
  have big:=W.big
  have ap:DM 1 1 5 (.slice (some ⟨h.next,0,none⟩) 0 0) (.chan (some r)) g=.ok (.slice (some ⟨h.next,0,none⟩) 0 0) (g.wr h.next 0 []):=HB x1.wf big R (fun k=>rfl) rfl
  have R2:=R.wr_self x1.wf (off:=0) (vs:=[]) (Nat.le_refl _)
  refine⟨_,.slice (some ⟨h.next,0,none⟩) 0 0,?_,R.wr_ext x1 (Nat.le_refl _) (off:=0) (vs:=[]) (Nat.le_refl _),.inr ⟨h.next,0,rfl,.inl rfl,R2,Nat.le_refl _⟩⟩
  rw[H5 rfl]
  unfold d39
  simp only[iN,Nat.reduceAdd,sT,Nat.reduceLT,Nat.reduceEqDiff,reduceIte,ne,es,BE,ap,lV0]
 have V0:=V
 rcases V with ⟨rfl,h2⟩|⟨b,off,c,el,L,h1,_⟩
 ·have ne:∀ e:Env,AB 0 e=.slice none 0 0→oEq Ki.k false (AB 0) (kV (.slice none 0 0)) (call AD n) e h=.ok (.bool true) h:=fun e he=>Iz (t:=0) ZF he
  refine⟨h,nilS,?_,.refl W,.inl ⟨rfl,List.map_eq_nil_iff.1 h2⟩⟩
  rw[H5 rfl]
  unfold d39
  simp only[iN,Nat.reduceAdd,sT,Nat.reduceLT,Nat.reduceEqDiff,reduceIte,ne,lV0]
 ·rw[List.length_map]at h1
  rw[h1]at V0 ⊢
  obtain⟨h',v,a,b,c⟩:=O9 (n:=n) W V0 hl
  exact⟨h',v,a,b,.inr c⟩
theorem Hp.KN.same{k:Nat}{v:Value}{ks:List Kt}(o:h.KN k v ks)(hb:h'.bl=h.bl):h'.KN k v ks:=by
 rcases o with o|⟨h1,b,h2,h3,h4⟩
 ·exact .inl (o.same hb)
 ·exact .inr ⟨h1,b,h2,h3.same hb,h4⟩
theorem bR(x0:h0.Ext h)(hk:h0.next≤k)(hk2:k≤h.next)(o:h.KN k v ks){x:Kt}(hu:oneCell x.u=true)(hl:ks.length≤100000):
  ∃ h' v',DM 6 64 83 v (.slice (some ⟨h.next,0,none⟩) 1 1) (h.pushRow 0 (AU x))=.ok v' h'∧h0.Ext h'∧h'.KO k v' (ks++[x])∧h.next≤h'.next:=by
 rcases o with o|⟨rfl,b,rfl,r,hb,h256⟩
 ·obtain⟨h',v',a1,a2,a3,a4,_⟩:=SA x0 hk hk2 o hu hl
  exact⟨h',v',a1,a2,a3,a4⟩
 ·have W:=x0.wf
  have x1:=x0.pushRow 0 (AU x)
  have y1:=(Hp.Ext.refl W).pushRow 0 (AU x)
  have Rw:=Hp.Row.new W 0 (AU x)
  have n1:(h.pushRow 0 (AU x)).next=h.next+1:=rfl
  have r1:=r.ext W y1
  generalize h.pushRow 0 (AU x)=h1 at x1 y1 Rw n1 r1
  have hs:∀ K:List Value→R,BF h1 6 (.slice (some ⟨h.next,0,none⟩) 1 1) 1 K=K (AU x):=fun K=>Rw.srcE (es:=6) (off:=0) (n:=1) (by show 0+1 * 6≤6;omega)
  obtain⟨h5,a1,a2,a3,a4,_⟩:=EI (eb:=64) (en:=83) x1 r1 hs rfl rfl (by omega) (GL hu) (by omega)
  refine⟨h5,_,a1,a2,.inr ⟨h1.next,rfl,?_,by omega,by have:=W.big;omega⟩,by omega⟩
  show h5.Row h1.next 84 (AU x++[])
  rw[List.append_nil];exact a3
theorem Fx.fresh{S:Nat→Prop}{h h1 h2:Hp}{b:Nat}(a:Fx S h h1)(x:Fx (fun i=>i=b) h1 h2)(hb:h.next≤b):Fx S h h2:=
 ⟨Nat.le_trans a.next x.next,fun i hi hs=>by
  have:=a.next
  rw[x.get i (by omega) (by omega),a.get i hi hs],x.wf,fun L q1 q2 q3=>x.low L (a.low L q1 q2 q3) (Nat.le_trans q2 a.next) fun i hi=>by rw[hi];omega⟩
theorem UG{z:Kt}:∀ {B A:List Kt},z∈srt A B↔z∈A∨z∈B
 |[],A=>by simp[srt]
 |x::B,A=>by
  show z∈srt (IG A x) B↔_
  rw[UG,Pk,List.mem_cons]
  constructor
  ·rintro ((h|h)|h)
   ·exact .inr (.inl h)
   ·exact .inl h
   ·exact .inr (.inr h)
  ·rintro (h|h|h)
   ·exact .inl (.inr h)
   ·exact .inl (.inl h)
   ·exact .inr h
theorem UF:∀ (B A:List Kt),(srt A B).length=A.length+B.length
 |[],A=>rfl
 |x::B,A=>by
  show(srt (IG A x) B).length=_
  rw[UF,Lq,List.length_cons];omega
theorem GA{z:Kt}{ks:List Kt}:z∈DS ks↔z∈ks:=by
 unfold DS
 rw[UG,← List.mem_append,List.take_append_drop]
theorem Hj(ks:List Kt):(DS ks).length=ks.length:=by
 unfold DS
 rw[UF,List.length_take,List.length_drop];omega
theorem Sl.lst{ks':List Kt}{bl:Nat}{L0:List Value}(s:Sl h A T M c0 arm ks fr lv fv bad ov)(W:h.Wf)(x:Fx (fun b=>b=bl) h h')(nbl:¬ A.D bl)(Rl:h.Row bl 84 L0)(ls:h'.KS (fun b=>¬ A.D b) lv ks')(hm:∀ k∈ks',k∈ks)(hn:ks'.length=ks.length):Sl h' A T M c0 arm ks' fr lv fv bad ov:=by
 have kp:∀ b el L,b≠bl→h.Row b el L→h'.Row b el L:=fun b el L hb r=>x.row W r hb
 have nb:∀ b el L,(el=0∨el=6∨el=4)→h.Row b el L→b≠bl:=fun b el L he r=>Ds r Rl (by omega)
 refine⟨kp _ _ _ (nb _ _ _ (.inl rfl) s.row) s.row,s.dk.fr W x (nb _ _ _ (.inl rfl) s.dk.disk) (nb _ _ _ (.inl rfl) s.dk.med) (fun h=>(JD Rl s.dk.map) h.symm),kp _ _ _ (nb _ _ _ (.inl rfl) s.tab) s.tab,s.tok,ls,fun y hy=>⟨(s.ko y (hm y hy)).1.keep fun b el L hb he r=>kp b el L (nb b el L (by omega) r) r,(s.ko y (hm y hy)).2⟩,?_,s.ne,by rw[hn];exact s.le⟩
 rcases s.fs with h1|⟨b,el,h1,h2,h3,h4⟩
 ·exact .inl h1
 ·exact .inr ⟨b,el,h1,kp _ _ _ (nb b el _ (by omega) h2) h2,h3,h4⟩
theorem Yp(W:h.Wf)(s:Sl h A T M c0 arm ks (p::fr) lv fv bad false){a b c:Int}{l:List Nat}{u:Value}(V:h.VE u (l.map bv))(hb:∀ x∈l,x<256)(hl:l.length≤100)
  (hr:rightS a b c 1 l.length=true)(hf:ks.any (Bg a b c)=false)(hst:Bx a b c ks=false)(hkl:ks.length≤10)(ha:Bk arm (k+10)):
  ∃ h' c1 arm' lv' fv' k',call AD (m+8) 11 [pt A.bs,.int .i64 a,.int .i64 b,.int .i64 c,u] h=.ok (.int .i64 0) h'∧Fx A.D h h'∧
   Sl h' A T (C2 T M p l (headL T a b c 1 l)) c1 arm' (DS (ks++[k'])) fr lv' fv' bad false∧k'.core=⟨a,b,c,1,l,p⟩∧Bk arm' k:=by
 have big:=W.big
 have hD:=s.D_lt W
 have hp3:3 * p+3≤A.n:=s.le.2.2.2 p List.mem_cons_self
 have hn:=s.dk.n1
 have hH:=F2 (T:=T) hr
 have hHb:=Lo (T:=T) (a:=a) (b:=b) (c:=c) (s:=1) (l:=l)
 have c00:iNe 0 0=false:=Cm rfl
 have k0:=Me (m:=m+6) s.row
 obtain⟨h1,vc,k1,x1,mk1⟩:=My (n:=m+6) W V (by omega)
 have oc:=mk1.one
 have bl:=fun (F:CallF) (e:Env) (e1:AB 1 e=.int .i64 a) (e2:AB 2 e=.int .i64 b) (e3:AB 3 e=.int .i64 c) (e4:AB 28 e=vc)=>O5 (F:=F) (h:=h1) (g1:=AB 1) (g2:=AB 2) (g3:=AB 3) (g5:=AB 28) e1 e2 e3 e4 oc.1 oc.2.2
 have al:=fun (F:CallF) (e:Env)=>Bd (F:=F) (e:=e) x1.wf (n:=5) (t:=CV)
 have Ra:=Hp.Row.alloc x1.wf EX (show(A0 0 0 0 0 nilS).length=5 from rfl)
 have y2:h1.Ext (h1.push (.cells CV 5 0)):=(Hp.Ext.refl x1.wf).push _
 have n2:(h1.push (.cells CV 5 0)).next=h1.next+1:=rfl
 generalize h1.push (.cells CV 5 0)=h2 at al Ra y2 n2
 obtain⟨st,_,y3,R12,n3⟩:=IM x1.wf y2 (Nat.le_refl _) Ra rfl (a:=a) (b:=b) (c:=c) (s:=1) (u:=vc) oc.2.1
 generalize h2.wr h1.next 0 (A0 a b c 1 vc)=h3 at st y3 R12 n3
 have x3:=x1.trans y3
 obtain⟨_,_,_,_,_,ld12⟩:=B4 R12
 have lnc:∀ g,lenSR vc g=.ok (.int .i64 (l.length:Int)) g:=fun g=>mk1.vals.bl g
 have k4:=JC (n:=m+6) x3.wf (a:=a) (b:=b) (c:=c) (s:=1) (u:=vc) lnc
 rw[hr]at k4
 have y4:=(Hp.Ext.refl x3.wf).pushRow 0 (A0 a b c 1 vc)
 generalize h3.pushRow 0 (A0 a b c 1 vc)=h4 at k4 y4
 have x4:=x3.trans y4
 have lnu:∀ g:Hp,lenSR u g=.ok (.int .i64 (l.length:Int)) g:=fun g=>V.bl g
 obtain⟨_,_,l2,_⟩:=A5 (s.row.ext W x4)
 have c1:iGt (l.length:Int) 100=false:=Ee (by omega)
 have s4:=s.ext W x4
 obtain⟨h5,k5,x5⟩:=FY (m:=m+4) x4.wf s4.row s4.ls.ks (by omega) a b c
 have hidx:E6 (Bg a b c) 0 ks= -1:=by
  rcases OA (Bg a b c) ks 0 with ⟨_,h2⟩|⟨h1,_⟩
  ·exact h2
  ·rw[hf]at h1;cases h1
 rw[hidx]at k5
 have c2:iGe (-1) 0=false:=E3 (by omega)
 have x45:=x4.trans x5
 have s5:=s.ext W x45
 obtain⟨h6,k6,x6⟩:=GB (m:=m+3) x45.wf s5.row s5.ls.ks (by omega) a b c
 rw[hst]at k6
 have x46:=x45.trans x6
 have s6:=s.ext W x46
 obtain⟨_,l1,_,_,l4,_⟩:=A5 s6.row
 have hil:(ints .i64 ((p::fr).map Int.ofNat)).length=fr.length+1:=by unfold ints;rw[List.length_map,List.length_map];rfl
 have lnf:=s6.fs.vals.len
 rw[hil]at lnf
 have c3:iEq ((fr.length+1:Nat):Int) 0=false:=BW (by omega)
 obtain⟨af,g1,g2⟩:=s6.fs.vals.at (i:=0) (by rw[hil];omega)
 have g1:idxSR 1 fv (.int .i64 0) h6=.ok (.pointer (some af)) h6:=g1
 have g2:G7 (.pointer (some af)) h6=.ok (.int .i64 (p:Int)) h6:=g2
 have pre:∃ e1,Mg (call AD (m+7)) (AQ e0 0 [pt A.bs,.int .i64 a,.int .i64 b,.int .i64 c,u]) h=prB (call AD (m+7)) e1 h6∧AB 0 e1=pt A.bs∧AB 4 e1=u∧AB 12 e1=pt h1.next∧AB 14 e1=.int .i64 (p:Int):=by
  unfold Mg
  simp only[iN,Nat.reduceAdd,sT,Nat.reduceLT,Nat.reduceEqDiff,reduceIte,gD,cA0,k0,AL,AK,c00,k1,bl,al,AX,st,Aq,Ao,ld12,k4,Bt,Br,Bool.not_true,Ae,lnu,Au,Aj,AJ,AN,Nat.zero_add,AM,AP,l2,c1,k5,c2,k6,l4,lnf,c3]
  rw[Az]
  simp only[sT,Nat.reduceLT,Nat.reduceEqDiff,reduceIte,g1,AM,g2]
  exact⟨_,rfl,by simp[AG]⟩
 obtain⟨e1,p1,t0,t4,t12,t14⟩:=pre
 have x6m:=x46.marked
 have R12m:h6.marked.Row h1.next 0 (A0 a b c 1 vc):=(((R12.ext x3.wf y4).ext x4.wf x5).ext x45.wf x6).same rfl
 obtain⟨_,_,_,_,_,ld12m⟩:=B4 R12m
 obtain⟨_,l1m,_⟩:=A5 (s.row.ext W x6m)
 have mkm:VcI h6.marked h.next vc l:=((mk1.ext x1.wf y3).ext x3.wf ((y4.trans x5).trans x6)).same rfl
 obtain⟨h7,x7,hd⟩:=TM (n:=m+4) x6m.quiet.wf ((s.tab.ext W x6m).same (h':=h6.marked.quiet) rfl) s.tok (a:=a) (b:=b) (c:=c) (s:=1) ((mkm.vals).same (h':=h6.marked.quiet) rfl) hb (by omega) (by omega)
 rcases hd with ⟨_,vh,k7,mkh⟩|⟨hrf,_⟩
 case inr=>rw[hr]at hrf;cases hrf
 have q7:∀ e:Env,AB 83 e=pt A.tb→AB 84 e=B7 a b c 1 vc→Am .free (AS 44 [AB 83,AB 84]) (call AD (m+7)) e h6.marked=.ok (.tuple ⟨[vh,.int .i64 0]⟩) (h6.marked.back h7):=fun e e1 e2=>by
  refine BQ ?_
  rw[Bb,AY,AY,A3,e1,e2];exact k7
 have y8:h6.Ext (h6.marked.back h7):=(Hp.Ext.refl x46.wf).marked.trans (.back x7)
 have mkh8:Mk (h6.marked.back h7) h6.next vh (headL T a b c 1 l):=mkh.same rfl
 generalize h6.marked.back h7=h8 at q7 y8 mkh8
 have x8:=x46.trans y8
 have R12x:∀ g:Hp,h6.Ext g→g.Row h1.next 0 (A0 a b c 1 vc):=fun g x=>((((R12.ext x3.wf y4).ext x4.wf x5).ext x45.wf x6)).ext x46.wf x
 have hrunB:∃ e2 h11 dv1 ds1,prB (call AD (m+7)) e1 h6=prC (call AD (m+7)) e2 h11∧AB 0 e2=pt A.bs∧AB 12 e2=pt h1.next∧AB 14 e2=.int .i64 (p:Int)∧AB 15 e2=vh∧AB 17 e2=dv1∧h8.Ext h11∧CB h11 A h8.next dv1 ds1∧((l≠[]∧ds1=JP p l)∨(l=[]∧ds1=[])):=by
  rcases Nat.eq_zero_or_pos l.length with hz|hz
  ·have hl0:l=[]:=List.eq_nil_of_length_eq_zero hz
   have c4:iGt (l.length:Int) 0=false:=Ee (by omega)
   have hrun:∃ e2,prB (call AD (m+7)) e1 h6=prC (call AD (m+7)) e2 h8∧AB 0 e2=pt A.bs∧AB 12 e2=pt h1.next∧AB 14 e2=.int .i64 (p:Int)∧AB 15 e2=vh∧AB 17 e2=nilS:=by
    rw[Yn]
    unfold dK
    simp only[sT,Nat.reduceLT,Nat.reduceEqDiff,reduceIte,Ay,Au,t0,Aj,AJ,AN,Nat.zero_add,AM,AP,l1m,Aq,Ao,t12,ld12m,q7,BA,BL,BM,Ae,t4,lnu,AL,AK,c4]
    exact⟨_,rfl,by simp[AG,t0,t12,t14]⟩
   obtain⟨e2,r1,u0,u12,u14,u15,u17⟩:=hrun
   exact⟨e2,h8,nilS,[],r1,u0,u12,u14,u15,u17,.refl x8.wf,⟨[],.inl ⟨rfl,rfl⟩,rfl,fun i w x hw _=>by cases hw⟩,.inr ⟨hl0,rfl⟩⟩
  ·have c4:iGt (l.length:Int) 0=true:=E4 (by omega)
   have mk1':Mk h1 h.next vc l:=by
    rcases mk1 with ⟨_,h2⟩|h2
    ·rw[h2]at hz;exact absurd hz (Nat.lt_irrefl 0)
    ·exact h2
   have x8m:=x8.marked
   have s8m:=s.ext W x8m
   have k9:=Mu (m:=m+5) (s8m.row.same (h':=h8.marked.quiet) rfl) (p:=p) (by omega)
   have q9:∀ e:Env,AB 0 e=pt A.bs→AB 14 e=.int .i64 (p:Int)→Am .weak (AS 46 [AB 0,AB 14]) (call AD (m+7)) e h8.marked=.ok (.int .i64 ((p * 3:Nat):Int)) (h8.marked.back h8.marked.quiet):=fun e e1 e2=>by
    refine HG x8m.wf ?_ (Nat.le_refl _)
    rw[Bb,AY,AY,A3,e1,e2];exact k9
   have y9:h8.Ext (h8.marked.back h8.marked.quiet):=Hp.Ext.back2 (Hp.Ext.refl x8.wf).marked (Hp.Ext.refl x8.wf).marked.quiet
   have n9:(h8.marked.back h8.marked.quiet).next=h8.next:=rfl
   have m9:(h8.marked.back h8.marked.quiet).mark=h8.next:=rfl
   generalize h8.marked.back h8.marked.quiet=h9 at q9 y9 n9 m9
   have x9:=x8.trans y9
   have ad:=CQ (h:=h9) (i:=p * 3) (by omega)
   obtain⟨_,_,_,_,lv12,_⟩:=B4 (R12x h9 (y8.trans y9))
   have hr12:h1.next<h9.mark:=by
    rw[m9]
    have:=(R12x h8 y8).lt x8.wf
    exact this
   have old9:∀ (off:Nat) (kk:C) (F:CallF) (e:Env),J1 (.pointer (some ⟨h1.next,off,none⟩)) kk F e h9=kk F e h9:=fun off kk F e=>Dy hr12
   have s9:=s.ext W x9
   have mk9:Mk h9 h.next vc l:=(((mk1'.ext x1.wf y3).ext x3.wf ((y4.trans x5).trans x6)).ext x46.wf (y8.trans y9))
   obtain⟨h10,dv1,k10,x10,D1⟩:=J7 (m:=m+6) x9.wf.quiet (s9.row.same (h':=h9.quiet) rfl) (fun b hb=>by have:=hD b hb;have:=x9.next;show b<h9.next;omega) (sct:=p * 3+1) (by omega) (mk9.same (h':=h9.quiet) rfl) (by omega)
   have q10:∀ e:Env,AB 0 e=pt A.bs→AB 95 e=.int .i64 ((p * 3+1:Nat):Int)→AB 97 e=vc→Am .free (AS 45 [AB 0,AB 95,AB 97]) (call AD (m+7)) e h9=.ok dv1 (h9.back h10):=fun e e1 e2 e3=>by
    refine BQ ?_
    rw[Bb,AY,AY,AY,A3,e1,e2,e3];exact k10
   have y11:h9.Ext (h9.back h10):=.back x10
   have D11:CB (h9.back h10) A h9.next dv1 (JP p l):=D1.same rfl
   generalize h9.back h10=h11 at q10 y11 D11
   have hrun:∃ e2,prB (call AD (m+7)) e1 h6=prC (call AD (m+7)) e2 h11∧AB 0 e2=pt A.bs∧AB 12 e2=pt h1.next∧AB 14 e2=.int .i64 (p:Int)∧AB 15 e2=vh∧AB 17 e2=dv1:=by
    rw[Yn]
    unfold dK
    simp only[sT,Nat.reduceLT,Nat.reduceEqDiff,reduceIte,Ay,Au,t0,Aj,AJ,AN,Nat.zero_add,AM,AP,l1m,Aq,Ao,t12,ld12m,q7,BA,BL,BM,Ae,t4,lnu,AL,AK,c4,q9,t14,BK,ad,EU,old9,DW,lv12,q10]
    exact⟨_,rfl,by simp[AG,t0,t12,t14]⟩
   obtain⟨e2,r1,u0,u12,u14,u15,u17⟩:=hrun
   exact⟨e2,h11,dv1,JP p l,r1,u0,u12,u14,u15,u17,y9.trans y11,by rw[← n9];exact D11,.inl ⟨fun h=>by rw[h]at hz;exact absurd hz (Nat.lt_irrefl 0),rfl⟩⟩
 obtain⟨e2,h11,dv1,ds1,r1,u0,u12,u14,u15,u17,y811,D11,hds⟩:=hrunB
 have x11:=x8.trans y811
 have s11:=s.ext W x11
 have hd3:ds1.length≤3:=by
  rcases hds with ⟨_,rfl⟩|⟨_,rfl⟩
  ·unfold JP
   rw[List.length_append,List.length_map,List.length_range]
   show _+1≤3
   omega
  ·exact Nat.zero_le _
 have k11:=Mu (m:=m+5) s11.row (p:=p) (by omega)
 have mkh11:Mk h11 h6.next vh (headL T a b c 1 l):=(mkh8.ext x8.wf y811)
 obtain⟨h12,dv2,k12,x12,D2⟩:=J7 (m:=m+6) x11.wf s11.row (fun b hb=>by have:=hD b hb;have:=x11.next;omega) (sct:=p * 3) (by omega) mkh11 (by omega)
 rw[hH,show(List.range ((64+63) / 64)).map (fun j=>Deed.w (p * 3+j) (Cd (headL T a b c 1 l) j))++[.f]=Fk p (Cd (headL T a b c 1 l) 0)from rfl,O8 hH]at D2
 have x12':=x11.trans x12
 obtain⟨h13,dv3,k13,x13,D3,n13,kp13⟩:=CB.app x12' (by have:=x8.next;omega) (by have:=y811.next;have:=x12.next;omega) (D11.ext x11.wf x12) D2 (by show 0<2;omega) (by
  show _+2≤1000
  omega)
 have s13:=s.ext W x13
 obtain⟨vs,w1,w2,w3⟩:=D3.ends fun b hb=>by have:=hD b hb;have:=x8.next;omega
 have hdl:(ds1++Fk p (headL T a b c 1 l)).length≤6:=by
  rw[List.length_append]
  show _+2≤6
  omega
 have hok:Eq A.n [] (ds1++Fk p (headL T a b c 1 l)):=by
  rcases hds with ⟨h0,rfl⟩|⟨_,rfl⟩
  ·exact cx hp3 ⟨by rcases l with _|⟨_,_⟩;exact absurd rfl h0;exact Nat.succ_pos _,hl⟩ hb hH hHb
  ·exact Tn hp3 hH hHb
 obtain⟨h14,c14,arm14,k14,f14,d14,ea⟩:=RI (m:=m+2) x13.wf s13.row s.nK s13.dk w1 w2 w3 hok (ha.le (by omega)) (by omega)
 have hcs:(F9 M [] (ds1++Fk p (headL T a b c 1 l))).2=[]:=by
  have:ds1++Fk p (headL T a b c 1 l)=(ds1++[.w (p * 3) (headL T a b c 1 l)])++[.f]:=by rw[List.append_assoc];rfl
  rw[this];exact MU _ _ _
 have hM:(F9 M [] (ds1++Fk p (headL T a b c 1 l))).1=C2 T M p l (headL T a b c 1 l):=by
  rcases hds with ⟨_,rfl⟩|⟨h0,rfl⟩
  ·rfl
  ·rw[h0];rfl
 rw[hcs,hM]at d14
 have s14:Sl h14 A T (C2 T M p l (headL T a b c 1 l)) c14 arm14 ks (p::fr) lv fv bad false:=(s13.sc.fx x13.wf f14).sl d14
 have a14:Bk arm14 k:=by rw[ea];exact Gu _ k arm (ha.le (by omega))
 obtain⟨_,_,_,l3',l4',_⟩:=A5 s14.row
 obtain⟨wc,Vc,ct⟩:=Z8 (xs:=ints .i64 (fr.map Int.ofNat)) (z:=.int .i64 (p:Int)) s14.fs
 have hone:BO (ints .i64 (fr.map Int.ofNat))=true:=Gm .i64 _
 obtain⟨h15,fv',k15,x15,wi15⟩:=jL (n:=m+6) f14.wf Vc hone (by have:=s.le.2.1;unfold ints;rw[List.length_map,List.length_map];rw[List.length_cons]at this;omega)
 have s15:=s14.ext f14.wf x15
 have onf:cellsOf fv'=[fv']∧oneCell fv'=true:=by
  rcases wi15 with ⟨h1,_⟩|⟨b,el,h1,_⟩<;>rw[h1]<;>exact⟨rfl,rfl⟩
 obtain⟨h16,st16,row16,n16,f16,_⟩:=HX x15.wf s15.row (off:=4) (show 4<7 by omega) s.ne.2.2.2.2 onf.1 onf.2
 have hDn14:∀ b,A.D b→b<h14.next:=fun b hb=>by have:=hD b hb;have:=x13.next;have:=f14.next;omega
 have row16:h16.Row A.bs 0 (slL A.bd A.tb lv fv' bad false):=row16
 have nbs:∀ b,¬ A.D b→b≠A.bs:=fun b hb h=>hb (.inl h)
 have s16:Sl h16 A T (C2 T M p l (headL T a b c 1 l)) c14 arm14 ks fr lv fv' bad false:=s15.bsx x15.wf f16 row16 (s15.ls.keep fun b el L hb r=>f16.row x15.wf r (nbs b hb)) (fun k hk=>⟨(s15.ko k hk).1.keep fun b el L hb _ r=>f16.row x15.wf r (nbs b hb),(s15.ko k hk).2⟩)
  (by
   rcases wi15 with h1|⟨b,el,h1,h2,h3,h4⟩
   ·exact .inl h1
   ·have hb:¬ A.D b:=fun h=>by have:=hDn14 b h;omega
    exact .inr ⟨b,el,h1,f16.row x15.wf h2 (nbs b hb),h3,hb⟩) ⟨s.le.1,by have:=s.le.2.1;rw[List.length_cons]at this;omega,s.le.2.2.1,fun q hq=>s.le.2.2.2 q (List.mem_cons_of_mem _ hq)⟩
 have W16:=f16.wf
 have xm16:=(Hp.Ext.refl W16).marked
 have s16m:=s16.ext W16 xm16
 obtain⟨_,_,_,l3m,_⟩:=A5 s16m.row
 obtain⟨h17,w17,k17,x17,ko17⟩:=Sv (m:=m+6) xm16.quiet.wf ((s16m.same (h':=h16.marked.quiet) rfl).ls) (fun k hk=>(s16.ko k hk).1.vs.one.2.1) (by omega)
 have q17:∀ e:Env,AB 125 e=lv→Am .weak (AS 49 [AB 125]) (call AD (m+7)) e h16.marked=.ok w17 (h16.marked.back h17):=fun e he=>by
  refine DJ ?_ x17 (Nat.le_refl _)
  rw[Bb,AY,A3,he];exact k17
 have y18:h16.Ext (h16.marked.back h17):=Hp.Ext.back2 xm16 (xm16.quiet.trans x17)
 have ko18:(h16.marked.back h17).KN h16.next w17 ks:=ko17.same rfl
 have m18:(h16.marked.back h17).mark=h16.next:=rfl
 generalize h16.marked.back h17=h18 at q17 y18 ko18 m18
 have hr12lt:h1.next<h6.next:=(R12x h6 (.refl x46.wf)).lt x46.wf
 have hl6:h6.next≤h13.next:=by
  have a1:=y8.next;have a2:=y811.next;have a4:=x12.next
  omega
 have nD12:¬ A.D h1.next:=fun h=>by have:=hD _ h;have:=x1.next;omega
 have R12':=kp13 _ _ _ (.inl rfl) (R12x h12 ((y8.trans y811).trans x12))
 have nK12:=Xw nD12
 have R1214:=f14.row x13.wf R12' nK12
 have R1216:=f16.row x15.wf (R1214.ext f14.wf x15) (nbs _ nD12)
 obtain⟨_,_,_,_,_,ld18⟩:=B4 (R1216.ext W16 y18)
 have old18:∀ (off:Nat) (kk:C) (F:CallF) (e:Env),J1 (.pointer (some ⟨h1.next,off,none⟩)) kk F e h18=kk F e h18:=fun off kk F e=>Dy (by
  rw[m18];exact R1216.lt W16)
 generalize hk':(⟨a,b,c,1,l,p,vc⟩:Kt)=k'
 have bd18:∀ (F:CallF) (e:Env),AB 127 e=B7 a b c 1 vc→AB 14 e=.int .i64 (p:Int)→Bp FH.zero [(0,5,AB 127),(5,1,AB 14)] F e h18=.ok (ktV k') h18:=fun F e e1 e2=>by rw[← hk'];exact Sq e1 e2
 have hku:k'.u=vc:=by rw[← hk']
 have qs:∀ (F:CallF) (e:Env),AB 129 e=ktV k'→Am .strong (Ah 1 (BJ FH.zero 1) [(0,6,AB 129)]) F e h18=.ok (.slice (some ⟨h18.next,0,none⟩) 1 1) (h18.back (h18.quiet.pushRow 0 (AU k'))):=fun F e he=>DJ (Lx y18.wf.quiet he) ((Hp.Ext.refl y18.wf.quiet).pushRow _ _) (by rw[m18];exact y18.next)
 have hn18:=y18.next
 have xX:h16.Ext (⟨h18.next,h18.next+1,0,h18.mark,h18.bl⟩:Hp):=⟨hn18,y18.get,by show _≤h18.next+1;omega,⟨y18.wf.big,y18.wf.has,y18.wf.fresh⟩⟩
 obtain⟨h20,lv',k20,x20,ko20,n20⟩:=bR (k:=h16.next) xX (Nat.le_refl _) hn18 (ko18.same (h':=⟨h18.next,h18.next+1,0,h18.mark,h18.bl⟩) rfl) (x:=k') (by rw[hku];exact oc.2.1) (by omega)
 have q20:∀ (F:CallF) (e:Env),AB 126 e=w17→AB 130 e=.slice (some ⟨h18.next,0,none⟩) 1 1→Am .free (Be 6 64 83 (AB 126) (AB 130)) F e (h18.back (h18.quiet.pushRow 0 (AU k')))=.ok lv' ((h18.back (h18.quiet.pushRow 0 (AU k'))).back h20):=fun F e e1 e2=>by
  refine BQ ?_
  rw[BE,e1,e2];exact k20
 have y21:h16.Ext ((h18.back (h18.quiet.pushRow 0 (AU k'))).back h20):=Hp.Ext.back2 (Hp.Ext.back2 y18 (y18.quiet.pushRow _ _)) x20
 have ko21:((h18.back (h18.quiet.pushRow 0 (AU k'))).back h20).KO h16.next lv' (ks++[k']):=ko20.same rfl
 generalize h18.back (h18.quiet.pushRow 0 (AU k'))=h19 at qs q20 y21 ko21
 generalize h19.back h20=h21 at q20 y21 ko21
 have s21:=s16.ext W16 y21
 have onl:cellsOf lv'=[lv']∧oneCell lv'=true:=⟨ko21.lst.one.1,ko21.lst.one.2.1⟩
 obtain⟨h22,st22,row22,n22,_,f22,_⟩:=Rj y21.wf s21.row (off:=3) (show 3<7 by omega) s.ne.2.2.2.2 onl.1 onl.2
 have row22:h22.Row A.bs 0 (slL A.bd A.tb lv' fv' bad false):=row22
 have hDn16:∀ b,A.D b→b<h16.next:=fun b hb=>by have:=hDn14 b hb;have:=x15.next;have:=f16.next;omega
 have ko22:h22.KO h16.next lv' (ks++[k']):=ko21.keep fun b el L hb r=>f22.row y21.wf r (fun h=>by
  have:=(ko21.blk y21.wf hb).1
  have:=hDn16 A.bs (.inl rfl)
  omega)
 have bsv:h22.BS (fun b=>¬ A.D b) vc (l.map bv):=by
  have mk12:=(((mk1.ext x1.wf y3).ext x3.wf ((y4.trans x5).trans x6)).ext x46.wf (y8.trans y811)).ext x11.wf x12
  rcases mk12 with ⟨e1,e2⟩|⟨bq,eq,e1,e2,e3,e4⟩
  ·exact .inl ⟨e1,by rw[e2];rfl⟩
  ·have hb':¬ A.D bq:=fun h=>by have:=hD _ h;omega
   have r13:=kp13 _ _ _ e2 e3
   have r16:=f16.row x15.wf ((f14.row x13.wf r13 (Xw hb')).ext f14.wf x15) (nbs _ hb')
   exact .inr ⟨bq,0,l.length,eq,_,by rw[List.length_map];exact e1,by rw[List.length_map];exact Nat.le_refl _,f22.row y21.wf (r16.ext W16 y21) (nbs _ hb'),by omega,by rw[List.drop_zero,List.take_length],hb',e2⟩
 have s22:Sl h22 A T (C2 T M p l (headL T a b c 1 l)) c14 arm14 (ks++[k']) fr lv' fv' bad false:=s21.bsx y21.wf f22 row22 (by
   refine Hp.KW.ks ?_
   rcases ko22 with ⟨h1,h2⟩|⟨b,h1,h2,h3,_⟩
   ·exact .inl ⟨h1,h2⟩
   ·exact .inr ⟨b,h1,h2,fun h=>by have:=hDn16 b h;omega⟩) (fun x hx=>by
   rcases List.mem_append.1 hx with hx|hx
   ·exact⟨(s21.ko x hx).1.keep fun b el L hb _ r=>f22.row y21.wf r (nbs b hb),(s21.ko x hx).2⟩
   ·rw[List.mem_singleton.1 hx,← hk']
    exact⟨bsv,hb,hl,.inl rfl,hr,by show p<65536;omega⟩)
  (s21.fs.keep fun b el L hb r=>f22.row y21.wf r (nbs b hb)) ⟨by rw[List.length_append];show ks.length+1≤1000;omega,s16.le.2.1,s16.le.2.2.1,s16.le.2.2.2⟩
 have hcore:k'.core=⟨a,b,c,1,l,p⟩:=by rw[← hk'];rfl
 obtain⟨_,_,_,l3z,_⟩:=A5 s22.row
 obtain⟨bl,hlw,Rl,hbk,hb256⟩:∃ bl,lv'=.slice (some ⟨bl,0,none⟩) (ks++[k']).length (ks++[k']).length∧h22.Row bl 84 (flK (ks++[k']))∧h16.next≤bl∧256≤bl:=by
  rcases ko22 with ⟨_,h2⟩|h2
  ·have:=congrArg List.length h2
   simp at this
  ·exact h2
 have nbl:¬ A.D bl:=fun h=>by have:=hDn16 bl h;omega
 obtain⟨h23,k23,f23,R23⟩:=Q0 (m:=m+1) (Z:=[]) (n:=(ks++[k']).length) (c:=(ks++[k']).length) f22.wf (by rw[List.append_nil];exact Rl) hb256 rfl (Nat.le_refl _) (by rw[List.length_append];show ks.length+1≤12;omega) fun k hk=>(s22.ko k hk).1.vs.one.2.1
 rw[← hlw]at k23
 have s23:Sl h23 A T (C2 T M p l (headL T a b c 1 l)) c14 arm14 (DS (ks++[k'])) fr lv' fv' bad false:=s22.lst f22.wf f23 nbl Rl (by
  rw[hlw,← Hj]
  exact(Of R23 rfl (Nat.le_refl _)).mono fun b hb=>by rw[show b=bl from hb];exact nbl) (fun k hk=>(GA).1 hk) (Hj _)
 have fx:Fx A.D h h23:=by
  have e1:Fx A.D h h13:=.of x13
  have e2:Fx A.D h13 h14:=f14.mono fun b hb=>.inr hb
  have e3:Fx A.D h14 h15:=.of x15
  have e4:Fx A.D h15 h16:=f16.mono fun b hb=>.inl hb
  have e5:Fx A.D h16 h21:=.of y21
  have e6:Fx A.D h21 h22:=f22.mono fun b hb=>.inl hb
  have e7:=((((e1.trans e2).trans e3).trans e4).trans e5).trans e6
  have a1:=x13.next
  have a2:=f14.next
  have a3:=x15.next
  have a4:=f16.next
  exact e7.fresh f23 (by omega)
 refine⟨h23,c14,arm14,lv',fv',k',?_,fx,s23,hcore,a14⟩
 rw[H4 rfl,H9,p1,r1]
 unfold prC
 have k11':call AD (m+7) 46 [pt A.bs,.int .i64 (p:Int)] h11=.ok (.int .i64 ((p * 3:Nat):Int)) h11:=k11
 have k12':call AD (m+7) 45 [pt A.bs,.int .i64 ((p * 3:Nat):Int),vh] h11=.ok dv2 h12:=k12
 have k14':call AD (m+7) 47 [pt A.bs,dv3] h13=.ok (.int .i64 0) h14:=k14
 have k15':call AD (m+7) 48 [wc] h14=.ok fv' h15:=k15
 have k23':call AD (m+7) 50 [lv',.func (.func 51) ⟨[]⟩ ⟨[]⟩] h22=.ok noRes h23:=k23
 simp only[sT,Nat.reduceLT,Nat.reduceEqDiff,reduceIte,cA0,u0,u14,k11',u15,k12',BE,u17,k13,k14',AL,AK,c00,Au,Aj,AJ,AN,Nat.zero_add,AM,AP,l4']
 rw[ct _ _ _ (by simp[AG])]
 simp only[sT,Nat.reduceLT,Nat.reduceEqDiff,reduceIte,cA0,u0,k15',Au,Aj,AJ,AN,Nat.zero_add,AX,st16,Ay,AM,AP,l3m,q17,u12,EU,old18,DW,Aq,Ao,ld18,u14,bd18,qs,q20]
 rw[st22 _ _ _ _ (by simp[AG]) (by simp[AG])]
 simp only[sT,Nat.reduceLT,Nat.reduceEqDiff,reduceIte,u0,Au,Aj,AJ,AN,Nat.zero_add,AM,AP,l3z,cA0,k23',lV0]
end
end
noncomputable section
open Go
set_option maxRecDepth 100000
theorem jO:cmS=BG (Ac 1 (Ax cmL)) cmE:=rfl
theorem jM:cmB=jN:=rfl
theorem LY:d12=N1:=rfl
section
variable {F:CallF}{e:Env}{h h':Hp}{S:Nat→Prop}{A:At}{T M:List Nat}{c0 bad m k p:Nat}{arm:Int}{ks:List Kt}{fr:List Nat}{v lv fv:Value}
theorem Ws(W:h.Wf)(s:Sl h A T M c0 arm ks fr lv fv bad false){j:Nat}{kx:Kt}(hj:ks[j]? =some kx)(hs1:kx.s=1){a b c:Int}(hf:E6 (Bg a b c) 0 ks=(j:Int))(habc:kx.a=a∧kx.b=b∧kx.c=c)(hst:Bx a b c ks=false)(hp3:3 * kx.p+3≤A.n)(hkl:ks.length≤1000)(ha:Bk arm (k+5)):
  ∃ h' c1 arm' lv' e2,N1 (call AD (m+7)) (AQ e0 0 [pt A.bs,.int .i64 a,.int .i64 b,.int .i64 c]) h=cmS (call AD (m+7)) e2 h'∧AB 0 e2=pt A.bs∧AB 1 e2=.int .i64 a∧AB 2 e2=.int .i64 b∧AB 3 e2=.int .i64 c∧AB 15 e2=nilS∧AB 16 e2=.int .i64 ((0:Nat):Int)∧Fx A.D h h'∧
   Sl h' A T (Fv M kx.p (headL T a b c 2 kx.l)) c1 arm' (ks.set j {kx with s:=2}) fr lv' fv bad false∧Bk arm' k:=by
 have big:=W.big
 have hD:=s.D_lt W
 have hn:=s.dk.n1
 have hjl:=(List.getElem?_eq_some_iff.1 hj).1
 have hkm:=List.mem_of_getElem? hj
 obtain⟨o1,o2,o3,o4,o5,o6⟩:=s.ko kx hkm
 obtain⟨rfl,rfl,rfl⟩:=habc
 have oc:=o1.vs.one
 have c00:iNe 0 0=false:=Cm rfl
 have k0:=Me (m:=m+6) s.row
 obtain⟨h1,k1,x1⟩:=FY (m:=m+4) W s.row s.ls.ks (by omega) kx.a kx.b kx.c
 rw[hf]at k1
 have c1:iGe (j:Int) 0=true:=Gw (by omega)
 have s1:=s.ext W x1
 obtain⟨_,_,_,l3,_⟩:=A5 s1.row
 obtain⟨bb,_,ix,ld,lde⟩:=s1.ls.ks.at hj
 have lst:=lde 3 (.int .u8 (kx.s:Int)) rfl
 have c2:iEq (kx.s:Int) 2=false:=BW (by omega)
 obtain⟨h2,k2,x2⟩:=GB (m:=m+3) x1.wf s1.row s1.ls.ks (by omega) kx.a kx.b kx.c
 rw[hst]at k2
 have x12:=x1.trans x2
 have s2:=s.ext W x12
 have c3:iLt (j:Int) 0=false:=E5 (by omega)
 obtain⟨_,_,_,l3',_⟩:=A5 s2.row
 obtain⟨bb2,_,ix2,ld2,_⟩:=s2.ls.ks.at hj
 have al:=fun (F:CallF) (e:Env)=>Bd (F:=F) (e:=e) x12.wf (n:=6) (t:=DL)
 have Ra:=Hp.Row.alloc x12.wf Gc (show(AU K0).length=6 from rfl)
 have y3:h2.Ext (h2.push (.cells DL 6 0)):=(Hp.Ext.refl x12.wf).push _
 have n3:(h2.push (.cells DL 6 0)).next=h2.next+1:=rfl
 generalize h2.push (.cells DL 6 0)=h3 at al Ra y3 n3
 obtain⟨st,_,y4,R11,n4⟩:=Kg x12.wf y3 (Nat.le_refl _) Ra rfl (k:=kx) oc.2.1
 generalize h3.wr h2.next 0 (AU kx)=h4 at st y4 R11 n4
 have h256:256≤h2.next:=by have:=x12.next;omega
 obtain⟨h5,st5,R5,n5,f5,e5⟩:=HX y4.wf R11 (off:=3) (show 3<6 by omega) h256 (v:=.int .u8 2) rfl rfl
 have y5:=e5 h2 y4 (Nat.le_refl _)
 generalize hkx:({kx with s:=2}:Kt)=X
 have R5:h5.Row h2.next 0 (AU X):=by rw[← hkx];exact R5
 have x5:=x12.trans y5
 have pre:∃ e1,N1 (call AD (m+7)) (AQ e0 0 [pt A.bs,.int .i64 kx.a,.int .i64 kx.b,.int .i64 kx.c]) h=cmB (call AD (m+7)) e1 h5∧AB 0 e1=pt A.bs∧AB 1 e1=.int .i64 kx.a∧AB 2 e1=.int .i64 kx.b∧AB 3 e1=.int .i64 kx.c∧AB 10 e1=.int .i64 (j:Int)∧AB 11 e1=pt h2.next:=by
  unfold N1
  simp only[iN,Nat.reduceAdd,sT,Nat.reduceLT,Nat.reduceEqDiff,reduceIte,gD,cA0,k0,AL,AK,c00,k1,c1,Au,Aj,AJ,AN,Nat.zero_add,Nat.add_zero,AM,AP,l3,Az,ix,lst,c2,k2,c3,l3',ix2,Aq,Ao,ld2,al,AX,st,st5]
  exact⟨_,rfl,by simp[AG]⟩
 obtain⟨e1,p1,t0,t1,t2,t3,t10,t11⟩:=pre
 have x5m:=x5.marked
 have s5m:=s.ext W x5m
 have R5m:h5.marked.Row h2.next 0 (AU X):=R5.same rfl
 obtain⟨_,_,_,_,_,_,_,ld5⟩:=Bn R5m
 obtain⟨_,l1m,_⟩:=A5 s5m.row
 have hX:X.a=kx.a∧X.b=kx.b∧X.c=kx.c∧X.s=2∧X.u=kx.u∧X.l=kx.l∧X.p=kx.p:=by rw[← hkx];exact⟨rfl,rfl,rfl,rfl,rfl,rfl,rfl⟩
 obtain⟨e6a,e6b,e6c,e6s,e6u,e6l,e6p⟩:=hX
 rw[e6a,e6b,e6c,e6s,e6u]at ld5
 have bsu:=(s5m.ko kx hkm).1
 have hr2:rightS kx.a kx.b kx.c 2 kx.l.length=true:=by
  obtain⟨g1,g2,g3,g4,g5,g6,g7,g8⟩:=Dg o5
  exact decide_eq_true ⟨g1,g2,g3,g4,g5,g6,.inr rfl,g8⟩
 have hH:=F2 (T:=T) hr2
 have hHb:=Lo (T:=T) (a:=kx.a) (b:=kx.b) (c:=kx.c) (s:=2) (l:=kx.l)
 obtain⟨h6,x6,hd⟩:=TM (n:=m+4) x5m.quiet.wf ((s5m.tab).same (h':=h5.marked.quiet) rfl) s.tok (a:=kx.a) (b:=kx.b) (c:=kx.c) (s:=2) (bsu.vs.vals.same (h':=h5.marked.quiet) rfl) o2 (by omega) (by omega)
 rcases hd with ⟨_,vh,k6,mkh⟩|⟨hrf,_⟩
 case inr=>rw[hr2]at hrf;cases hrf
 have q6:∀ e:Env,AB 65 e=pt A.tb→AB 67 e=B7 kx.a kx.b kx.c 2 kx.u→Am .free (AS 44 [AB 65,AB 67]) (call AD (m+7)) e h5.marked=.ok (.tuple ⟨[vh,.int .i64 0]⟩) (h5.marked.back h6):=fun e e1 e2=>by
  refine BQ ?_
  rw[Bb,AY,AY,A3,e1,e2];exact k6
 have y7:h5.Ext (h5.marked.back h6):=(Hp.Ext.refl x5.wf).marked.trans (.back x6)
 have mk7:Mk (h5.marked.back h6) h5.next vh (headL T kx.a kx.b kx.c 2 kx.l):=mkh.same rfl
 generalize h5.marked.back h6=h7 at q6 y7 mk7
 have x7:=x5.trans y7
 have s7:=s.ext W x7
 obtain⟨_,_,_,_,_,lp7,_⟩:=Bn (R5.ext x5.wf y7)
 rw[e6p]at lp7
 have k7:=Mu (m:=m+5) s7.row (p:=kx.p) (by omega)
 obtain⟨h8,dv,k8,x8,D8⟩:=J7 (m:=m+6) x7.wf s7.row (fun b hb=>by have:=hD b hb;have:=x7.next;omega) (sct:=kx.p * 3) (by omega) mk7 (by omega)
 rw[hH,show(List.range ((64+63) / 64)).map (fun j=>Deed.w (kx.p * 3+j) (Cd (headL T kx.a kx.b kx.c 2 kx.l) j))++[.f]=Fk kx.p (Cd (headL T kx.a kx.b kx.c 2 kx.l) 0)from rfl,O8 hH]at D8
 have x8':=x7.trans x8
 have s8:=s.ext W x8'
 obtain⟨vs,w1,w2,w3⟩:=D8.ends fun b hb=>by have:=hD b hb;have:=x7.next;omega
 obtain⟨h9,c9,arm9,k9,f9,d9,ea⟩:=RI (m:=m+2) x8'.wf s8.row s.nK s8.dk w1 w2 w3 (Tn hp3 hH hHb) (ha.le (by show 2≤_;omega)) (by show 2≤100;omega)
 have d9:Dk h9 A.bd A.bm A.bc A.n (Fv M kx.p (headL T kx.a kx.b kx.c 2 kx.l)) c9 [] arm9 false:=d9
 have s9:Sl h9 A T (Fv M kx.p (headL T kx.a kx.b kx.c 2 kx.l)) c9 arm9 ks fr lv fv bad false:=(s8.sc.fx x8'.wf f9).sl d9
 have a9:Bk arm9 k:=by rw[ea];exact Gu _ k arm (ha.le (by show 2+k≤_;omega))
 have nD11:¬ A.D h2.next:=fun h=>by have:=hD _ h;have:=x12.next;omega
 have R9:=f9.row x8'.wf ((R5.ext x5.wf y7).ext x7.wf x8) (Xw nD11)
 obtain⟨_,_,_,l39,_⟩:=A5 s9.row
 have hu:∀ k∈ks,oneCell k.u=true:=fun k hk=>(s9.ko k hk).1.vs.one.2.1
 obtain⟨h10,w10,k10,x10,ko10⟩:=RW (m:=m+6) f9.wf s9.ls hu (fun h=>by rw[h]at hjl;cases hjl) (by omega)
 have s10:=s9.ext f9.wf x10
 obtain⟨h11,st11,row11,n11,f11,_⟩:=HX x10.wf s10.row (off:=3) (show 3<7 by omega) s.ne.2.2.2.2 (v:=w10) ko10.lst.one.1 ko10.lst.one.2.1
 have row11:h11.Row A.bs 0 (slL A.bd A.tb w10 fv bad false):=row11
 have nbs:∀ b,¬ A.D b→b≠A.bs:=fun b hb h=>hb (.inl h)
 have hDn9:∀ b,A.D b→b<h9.next:=fun b hb=>by have:=hD b hb;have:=x8'.next;have:=f9.next;omega
 have ko11:h11.KO h9.next w10 ks:=ko10.keep fun b el L hb r=>f11.row x10.wf r (fun h=>by
  have:=(ko10.blk x10.wf hb).1
  have:=hDn9 A.bs (.inl rfl)
  omega)
 have s11:Sl h11 A T (Fv M kx.p (headL T kx.a kx.b kx.c 2 kx.l)) c9 arm9 ks fr w10 fv bad false:=s10.bsx x10.wf f11 row11 (by
   refine Hp.KW.ks ?_
   rcases ko11 with ⟨h1,h2⟩|⟨b,h1,h2,h3,_⟩
   ·exact .inl ⟨h1,h2⟩
   ·exact .inr ⟨b,h1,h2,fun h=>by have:=hDn9 b h;omega⟩) (fun x hx=>⟨(s10.ko x hx).1.keep fun b el L hb _ r=>f11.row x10.wf r (nbs b hb),(s10.ko x hx).2⟩) (s10.fs.keep fun b el L hb r=>f11.row x10.wf r (nbs b hb)) s10.le
 have R1111:=f11.row x10.wf (R9.ext f9.wf x10) (nbs _ nD11)
 have W11:=f11.wf
 have xm:=(Hp.Ext.refl W11).marked
 have s11m:=s11.ext W11 xm
 obtain⟨_,_,_,l3m,_⟩:=A5 s11m.row
 obtain⟨_,_,_,_,_,_,ld11,_⟩:=Bn (R1111.same (h':=h11.marked) rfl)
 rcases ko11 with ⟨_,hnil⟩|⟨bl,hw,Rl,hbk,hb256⟩
 ·rw[hnil]at hjl;cases hjl
 have ixl:idxSR 6 w10 (.int .i64 (j:Int)) h11.marked=.ok (.pointer (some ⟨bl,6 * j,none⟩)) h11.marked:=by
  rw[hw]
  have:=DX (h:=h11.marked) (n:=ks.length) (c:=ks.length) (es:=6) (b:=bl) (off:=0) (i:=j) (k:=.i64) hjl
  rwa [Nat.zero_add,Nat.mul_comm]at this
 have Rq:h11.marked.quiet.Row bl 84 (flK ks):=Rl.same rfl
 have hXu:oneCell X.u=true:=by rw[e6u];exact oc.2.1
 have hoo:6 * j+(AU X).length≤(flK ks).length:=by rw[CF];show 6 * j+6≤_;omega
 have stq:=Rq.storeR (n:=6) (off:=6 * j) (v:=ktV X) xm.wf.quiet hb256 rfl hoo (GL hXu)
 have wrq:=Rq.wr_self xm.wf.quiet hoo
 rw[N6 ks j X hjl]at wrq
 have fxq:=Fx.wr (S:=fun b=>b=bl) xm.wf.quiet Rq hoo rfl
 have stq:storeR 6 (.pointer (some ⟨bl,6 * j,none⟩)) (ktV X) h11.marked.quiet=.ok noRes (h11.marked.quiet.wr bl (6 * j) (AU X)):=stq
 generalize h11.marked.quiet.wr bl (6 * j) (AU X)=q at stq wrq fxq
 have q12:∀ (F:CallF) (e:Env),AB 97 e=.pointer (some ⟨bl,6 * j,none⟩)→AB 96 e=ktV X→Am .free (As 6 (AB 97) (AB 96)) F e h11.marked=.ok noRes (h11.marked.back q):=fun F e e1 e2=>BQ (by rw[AX,e1,e2];exact stq)
 have f12:Fx (fun b=>b=bl) h11 (h11.marked.back q):=((fxq.from (h:=h11.marked) rfl rfl).same (h2:=h11.marked.back q) rfl rfl).from (h:=h11) rfl rfl
 have Rl12:(h11.marked.back q).Row bl 84 (flK (ks.set j X)):=wrq.same rfl
 generalize h11.marked.back q=h12 at q12 f12 Rl12
 have nbl:¬ A.D bl:=fun h=>by have:=hDn9 bl h;omega
 have hsl:(ks.set j X).length=ks.length:=List.length_set
 have kp12:∀ b el L,b≠bl→h11.Row b el L→h12.Row b el L:=fun b el L hb r=>f12.row W11 r hb
 have nblb:∀ b el L,(el=0∨el=6∨el=4)→h11.Row b el L→b≠bl:=fun b el L he r=>Ds r Rl (by omega)
 have s12:Sl h12 A T (Fv M kx.p (headL T kx.a kx.b kx.c 2 kx.l)) c9 arm9 (ks.set j X) fr w10 fv bad false:=by
  refine⟨kp12 _ _ _ (nblb _ _ _ (.inl rfl) s11.row) s11.row,s11.dk.fr W11 f12 (nblb _ _ _ (.inl rfl) s11.dk.disk) (nblb _ _ _ (.inl rfl) s11.dk.med) (fun h=>(JD Rl s11.dk.map) h.symm),kp12 _ _ _ (nblb _ _ _ (.inl rfl) s11.tab) s11.tab,s.tok,Hp.KW.ks (.inr ⟨bl,by rw[hsl];exact hw,Rl12,nbl⟩),fun x hx=>?_,?_,s.ne,by rw[hsl];exact s11.le⟩
  ·have kp:=fun (x:Kt) (hx:x∈ks)=>(s11.ko x hx).1.keep (h':=h12) fun b el L hb he r=>kp12 b el L (nblb b el L (by omega) r) r
   rcases List.mem_or_eq_of_mem_set hx with h1|h1
   ·exact⟨kp x h1,(s11.ko x h1).2⟩
   ·rw[h1]
    have:=kp kx hkm
    refine⟨?_,?_,?_,.inr e6s,?_,?_⟩
    ·rw[e6u,e6l];exact this
    ·rw[e6l];exact o2
    ·rw[e6l];exact o3
    ·rw[e6a,e6b,e6c,e6s,e6l];exact hr2
    ·rw[e6p];exact o6
  ·rcases s11.fs with h1|⟨b,el,h1,h2,h3,h4⟩
   ·exact .inl h1
   ·exact .inr ⟨b,el,h1,kp12 _ _ _ (nblb b el _ (by omega) h2) h2,h3,h4⟩
 have mid:∃ e2,cmB (call AD (m+7)) e1 h5=cmS (call AD (m+7)) e2 h12∧AB 0 e2=pt A.bs∧AB 1 e2=.int .i64 kx.a∧AB 2 e2=.int .i64 kx.b∧AB 3 e2=.int .i64 kx.c∧AB 15 e2=nilS∧AB 16 e2=.int .i64 ((0:Nat):Int):=by
  have k7':call AD (m+7) 46 [pt A.bs,.int .i64 (kx.p:Int)] h7=.ok (.int .i64 ((kx.p * 3:Nat):Int)) h7:=k7
  have k8':call AD (m+7) 45 [pt A.bs,.int .i64 ((kx.p * 3:Nat):Int),vh] h7=.ok dv h8:=k8
  have k9':call AD (m+7) 47 [pt A.bs,dv] h8=.ok (.int .i64 0) h9:=k9
  have k10':call AD (m+7) 49 [lv] h9=.ok w10 h10:=k10
  rw[jM]
  unfold jN
  simp only[sT,Nat.reduceLT,Nat.reduceEqDiff,reduceIte,Ay,Au,t0,Aj,AJ,AN,Nat.zero_add,Nat.add_zero,AM,AP,l1m,Aq,Ao,t11,ld5,q6,BA,BL,BM,lp7,cA0,k7',k8',k9',AL,AK,c00,l39,k10',AX,st11,l3m,ld11,Az,t10,ixl,q12]
  exact⟨_,rfl,by simp[AG,t0,t1,t2,t3]⟩
 obtain⟨e2,r1,u0,u1,u2,u3,u15,u16⟩:=mid
 have fx12:Fx A.D h h12:=by
  have e1:Fx A.D h h8:=.of x8'
  have e2:Fx A.D h8 h9:=f9.mono fun b hb=>.inr hb
  have e3:Fx A.D h9 h10:=.of x10
  have e4:Fx A.D h10 h11:=f11.mono fun b hb=>.inl hb
  have e14:=((e1.trans e2).trans e3).trans e4
  refine⟨Nat.le_trans e14.next f12.next,fun i hi hs=>?_,f12.wf,fun L q1 q2 q3=>f12.low L (e14.low L q1 q2 q3) (Nat.le_trans q2 e14.next) fun b hb=>by have:=x8'.next;have:=f9.next;omega⟩
  rw[f12.get i (by have:=e14.next;omega) (fun h=>by have:=x8'.next;have:=f9.next;omega),e14.get i hi hs]
 exact⟨h12,c9,arm9,w10,e2,p1.trans r1,u0,u1,u2,u3,u15,u16,fx12,hkx ▸ s12,by rw[ea];exact Gu _ _ arm (ha.le (by show 2+k≤_;omega))⟩
end
end
noncomputable section
open Go
set_option maxRecDepth 100000
theorem ZG:Ki.k=.slice 5:=by kernel_rfl
theorem jK{n:Nat}{h:Hp}(W:h.Wf){u:Value}{xs:List Value}(V:h.Vals u xs)(ha:BO xs=true)(hl:xs.length≤1000000):
  ∃ h' v,call AD (n+1) 39 [u] h=.ok v h'∧h.Ext h'∧h'.Cl (fun b=>h.next≤b∧b<h'.next) 5 v xs:=by
 rcases V with ⟨rfl,rfl⟩|⟨b,off,c,el,L,h1,h2,h3,h4⟩
 ·have ne:∀ e:Env,AB 0 e=.slice none 0 0→oEq Ki.k false (AB 0) (kV (.slice none 0 0)) (call AD n) e h=.ok (.bool true) h:=fun e he=>Iz (t:=0) ZG he
  refine⟨h,nilS,?_,.refl W,.inl ⟨rfl,rfl⟩⟩
  rw[H5 rfl]
  unfold d39
  simp only[iN,Nat.reduceAdd,sT,Nat.reduceLT,Nat.reduceEqDiff,reduceIte,ne,lV0]
 ·have V:h.Vals u xs:=.inr ⟨b,off,c,el,L,h1,h2,h3,h4⟩
  have x1:=(Hp.Ext.refl W).pushRow 0 []
  have R:=Hp.Row.new W 0 []
  have es:=fun (e:Env) (t:List Value)=>Jg (F:=call AD n) (e:=e) (t:=t) W
  have n1:(h.pushRow 0 []).next=h.next+1:=rfl
  generalize h.pushRow 0 []=g at x1 R es n1
  have ne:∀ e:Env,AB 0 e=u→oEq Ki.k false (AB 0) (kV (.slice none 0 0)) (call AD n) e h=.ok (.bool false) h:=fun e he=>Iy (t:=0) ZG (he.trans h1)
  have V1:=V.ext W x1
  have big:=W.big
  rcases Nat.eq_zero_or_pos xs.length with hz|hz
  ·obtain rfl:xs=[]:=List.eq_nil_of_length_eq_zero hz
   have ap:DM 1 1 5 (.slice (some ⟨h.next,0,none⟩) 0 0) u g=.ok (.slice (some ⟨h.next,0,none⟩) 0 0) (g.wr h.next 0 []):=HB x1.wf big R (fun k=>V1.src rfl k) V1.lenV
   have R2:=R.wr_self x1.wf (off:=0) (vs:=[]) (Nat.le_refl _)
   refine⟨_,.slice (some ⟨h.next,0,none⟩) 0 0,?_,R.wr_ext x1 (Nat.le_refl _) (off:=0) (vs:=[]) (Nat.le_refl _),.inr ⟨h.next,0,rfl,R2,.inr ⟨rfl,rfl⟩,⟨Nat.le_refl _,?_⟩,big⟩⟩
   ·rw[H5 rfl]
    unfold d39
    simp only[iN,Nat.reduceAdd,sT,Nat.reduceLT,Nat.reduceEqDiff,reduceIte,ne,es,BE,ap,lV0]
   ·have:=R.wr_next (off:=0) (vs:=[]) (Nat.le_refl _)
    omega
  ·obtain⟨h2,a1,a2,a3,a4,a5⟩:=EI (eb:=1) (en:=5) x1 R (es:=1) (fun k=>V1.src rfl k) V1.lenV (by omega) hz ha (by omega)
   refine⟨h2,_,?_,a2,.inr ⟨g.next,5+1,rfl,a3,.inl rfl,⟨by omega,by omega⟩,by omega⟩⟩
   rw[H5 rfl]
   unfold d39
   simp only[iN,Nat.reduceAdd,sT,Nat.reduceLT,Nat.reduceEqDiff,reduceIte,ne,es,BE,a1,lV0]
theorem XW:eqS=BG (Ac 0 (Ax ebB)) eqE:=rfl
theorem RZ:d42=W6:=rfl
section
variable {F:CallF}{e:Env}{h h':Hp}{S:Nat→Prop}{A:At}{bad m k p:Nat}{ks:List Kt}{v lv fv:Value}{ov:Bool}
theorem M5(W:h.Wf){u v:Value}{a b:List Nat}(U:h.Vals u (a.map bv))(V:h.VE v (b.map bv))(hl:a.length≤900000):∃ h',call AD (m+1) 42 [u,v] h=.ok (.bool (decide (a=b))) h'∧h.Ext h':=by
 have Ul:=U.bl h
 have Vl:=V.bl h
 by_cases hab:a.length=b.length
 ·have c1:iNe (a.length:Int) (b.length:Int)=false:=by rw[Gy,hab];simp
  have pre:∃ e1,W6 (call AD m) (AQ e0 0 [u,v]) h=eqS (call AD m) e1 h∧AB 0 e1=u∧AB 1 e1=v∧AB 12 e1=.int .i64 (a.length:Int)∧AB 13 e1=.int .i64 ((0:Nat):Int):=by
   unfold W6
   simp only[iN,Nat.reduceAdd,sT,Nat.reduceLT,Nat.reduceEqDiff,reduceIte,Ae,Ul,Vl,AL,AK,c1]
   exact⟨_,rfl,by simp[AG]⟩
  obtain⟨e1,p1,s0,s1,s12,s13⟩:=pre
  have run:(∃ e' h',Ax ebB (call AD m) e1 h=.exit 0 e' h'∧h.Ext h'∧a=b)∨(∃ e' h',Ax ebB (call AD m) e1 h=.ret e' h'∧h.Ext h'∧a≠b∧AB 4 e'=.bool false):=by
   refine BZ (I:=fun i e' h'=>h.Ext h'∧AB 0 e'=u∧AB 1 e'=v∧AB 12 e'=.int .i64 (a.length:Int)∧AB 13 e'=.int .i64 (i:Int)∧i≤a.length∧(a=b↔a.drop i=b.drop i))
    (Q:=fun x=>(∃ e' h',x=.exit 0 e' h'∧h.Ext h'∧a=b)∨(∃ e' h',x=.ret e' h'∧h.Ext h'∧a≠b∧AB 4 e'=.bool false)) a.length (by omega) (fun i e' h' ⟨x',t0,t1,t12,t13,hi,hr⟩=>?_) ⟨.refl W,s0,s1,s12,s13,Nat.zero_le _,by simp⟩
   by_cases hlt:i<a.length
   ·have xm:=x'.marked
    obtain⟨p,g1,g2⟩:=IX (U.ext W xm) hlt
    obtain⟨q,g3,g4⟩:=IX ((V.ext W xm).vals (by rw[List.length_map];omega)) (i:=i) (by omega)
    rw[Fw hlt,Fw (l:=b) (by omega)]at hr
    generalize a.getD i 0=c at g2 hr
    generalize b.getD i 0=d at g4 hr
    have c1:=E8 hlt
    by_cases hcd:c=d
    ·left
     subst hcd
     have c2:iNe (c:Int) (c:Int)=false:=by rw[Gy];simp
     have a3:=CQ (i:=i) (h:=h'.marked) (by omega)
     have hrun:∃ e2,ebB (call AD m) e' h'=.norm e2 h'.marked∧AB 0 e2=u∧AB 1 e2=v∧AB 12 e2=.int .i64 (a.length:Int)∧AB 13 e2=.int .i64 ((i+1:Nat):Int):=by
      unfold ebB
      simp only[sT,Nat.reduceLT,Nat.reduceEqDiff,reduceIte,AL,AK,t13,t12,c1,Ay,Az,t0,g1,AM,g2,t1,g3,g4,c2,BK,a3]
      exact⟨_,rfl,by simp[AG,t0,t1,t12]⟩
     obtain⟨e2,r1,r2,r3,r4,r5⟩:=hrun
     refine⟨hlt,e2,h'.marked,r1,xm,r2,r3,r4,r5,hlt,hr.trans ?_⟩
     simp
    ·right
     have c2:iNe (c:Int) (d:Int)=true:=by rw[Gy];simp;omega
     have hrun:∃ e2,ebB (call AD m) e' h'=.ret e2 h'.marked∧AB 4 e2=.bool false:=by
      unfold ebB
      simp only[sT,Nat.reduceLT,Nat.reduceEqDiff,reduceIte,AL,AK,t13,t12,c1,Ay,Az,t0,g1,AM,g2,t1,g3,g4,c2]
      exact⟨_,rfl,by simp[AG]⟩
     obtain⟨e2,r1,r2⟩:=hrun
     rw[r1]
     refine⟨rfl,.inr ⟨e2,h'.marked,rfl,xm,fun h=>hcd ?_,r2⟩⟩
     have:=hr.1 h
     injection this
   ·right
    have c1:=DI (show a.length≤i by omega)
    have hrun:∃ e2,ebB (call AD m) e' h'=.exit 0 e2 h':=by
     unfold ebB
     simp only[sT,Nat.reduceLT,Nat.reduceEqDiff,reduceIte,AL,AK,t13,t12,c1]
     exact⟨_,rfl⟩
    obtain⟨e2,r1⟩:=hrun
    rw[r1]
    refine⟨rfl,.inl ⟨e2,h',rfl,x',hr.2 ?_⟩⟩
    rw[List.drop_of_length_le (by omega),List.drop_of_length_le (by omega)]
  rcases run with ⟨e2,h2,r1,x2,r2⟩|⟨e2,h2,r1,x2,r2,r3⟩
  ·refine⟨h2,?_,x2⟩
   rw[RR rfl,RZ,p1,XW,decide_eq_true r2]
   simp only[BH,Aw,r1,A1,BB]
   unfold eqE
   simp only[sT,Nat.reduceLT,Nat.reduceEqDiff,reduceIte,lV0]
  ·refine⟨h2,?_,x2⟩
   rw[RR rfl,RZ,p1,XW,decide_eq_false r2]
   simp only[BH,Aw,r1,B8,Co,lV0,r3]
 ·have c1:iNe (a.length:Int) (b.length:Int)=true:=by rw[Gy];simp;omega
  refine⟨h,?_,.refl W⟩
  rw[RR rfl,RZ,decide_eq_false (fun h=>hab (by rw[h]))]
  unfold W6
  simp only[iN,Nat.reduceAdd,sT,Nat.reduceLT,Nat.reduceEqDiff,reduceIte,Ae,Ul,Vl,AL,AK,c1,lV0]
theorem XX(W:h.Wf){u v:Value}{a b:List Nat}(U:h.Vals u (a.map bv))(V:h.Vals v (b.map bv))(hl:a.length≤900000):∃ h',call AD (m+1) 42 [u,v] h=.ok (.bool (decide (a=b))) h'∧h.Ext h':=M5 W U (.inl V) hl
theorem Ut{e:Env}{h h':Hp}{g:O}{n:Nat}{v:Value}(hv:Lz n (g e) h=.ok v h'):EG [.cN g n] e h=.ok v h:=by
 have h1:Er e h (.cN g n)=.ok v h':=hv
 show(match Er e h (.cN g n)with|.ok v _=>forceV v fun v=>In h [v]|.no=>.no)=_
 rw[h1]
 simp only[A8];rfl
theorem M6{e:Env}{h:Hp}{g g1:O}{n:Nat}{v:Value}(hv:Lz n (g e) h=.ok v h):EG [.cN g n,.t g1] e h=.ok (.tuple ⟨[v,g1 e]⟩) h:=by
 have h1:Er e h (.cN g n)=.ok v h:=hv
 show(match Er e h (.cN g n)with|.ok v _=>forceV v fun v=>forceV (g1 e) (fun x=>In h [v,x])|.no=>.no)=_
 rw[h1]
 simp only[A8];rfl
theorem Hp.Cl.bs0{h:Hp}{S:Nat→Prop}{v:Value}{xs:List Value}(o:h.Cl S 5 v xs):h.BS S v xs:=by
 rcases o with h1|⟨b,el,h1,h2,h3,h4,h5⟩
 ·exact .inl h1
 ·exact .inr ⟨b,0,_,el,xs,h1,Nat.le_refl _,h2,by omega,by rw[List.drop_zero,List.take_length],h4,h3.elim (fun h=>.inr h) (fun h=>.inl h.1)⟩
theorem Ts(W:h.Wf){x:Kt}(U:h.Vals x.u (x.l.map bv))(hl:x.l.length≤1000):∃ h' v',call AD (m+2) 65 [ktV x] h=.ok (B7 x.a x.b x.c x.s v') h'∧h.Ext h'∧oneCell v'=true∧h'.BS (fun b=>h.next≤b) v' (x.l.map bv):=by
 have bx:=fun (F:CallF) (e:Env) (he:AB 0 e=ktV x)=>G5 (F:=F) W he
 have x1:=(Hp.Ext.refl W).pushRow 0 (AU x)
 have R1:=Hp.Row.new W 0 (AU x)
 have n1:(h.pushRow 0 (AU x)).next=h.next+1:=rfl
 generalize h.pushRow 0 (AU x)=h1 at bx x1 R1 n1
 have al:=fun (F:CallF) (e:Env)=>Bd (F:=F) (e:=e) x1.wf (n:=5) (t:=CV)
 have Ra:=Hp.Row.alloc x1.wf EX (show(A0 0 0 0 0 nilS).length=5 from rfl)
 have y2:h1.Ext (h1.push (.cells CV 5 0)):=(Hp.Ext.refl x1.wf).push _
 have n2:(h1.push (.cells CV 5 0)).next=h1.next+1:=rfl
 generalize h1.push (.cells CV 5 0)=h2 at al Ra y2 n2
 have x2:=x1.trans y2
 have R2:=R1.ext x1.wf y2
 obtain⟨_,_,_,_,l4,_⟩:=Bn R2
 obtain⟨h3,v',k3,y3,c3⟩:=jK (n:=m) x2.wf (U.ext W x2) (C7 _) (by rw[List.length_map];omega)
 have onv:cellsOf v'=[v']∧oneCell v'=true:=⟨c3.vs.one.1,c3.vs.one.2.1⟩
 have R3:=R2.ext x2.wf y3
 have Ra3:=Ra.ext y2.wf y3
 have big:=W.big
 obtain⟨h4,st4,R4,n4,f4,e4⟩:=HX y3.wf R3 (off:=4) (show 4<6 by omega) big onv.1 onv.2
 have x3:=x2.trans y3
 have x4:=e4 h x3 (Nat.le_refl _)
 have R4:h4.Row h.next 0 (AU ⟨x.a,x.b,x.c,x.s,x.l,x.p,v'⟩):=R4
 obtain⟨_,_,_,_,_,_,_,ld⟩:=Bn R4
 have Ra4:=f4.row y3.wf Ra3 (by omega)
 obtain⟨st5,ld5,x5,R5,n5⟩:=IM W x4 (by omega) Ra4 rfl (a:=x.a) (b:=x.b) (c:=x.c) (s:=x.s) (u:=v') onv.2
 have f5:=Fx.wr (S:=fun b=>b=h1.next) f4.wf Ra4 (vs:=A0 x.a x.b x.c x.s v') (off:=0) (Nat.le_refl _) rfl
 generalize h4.wr h1.next 0 (A0 x.a x.b x.c x.s v')=h5 at st5 ld5 x5 R5 f5
 have vs5:h5.BS (fun b=>h.next≤b) v' (x.l.map bv):=(c3.bs0.keep fun b el L hb _ r=>f5.row f4.wf (f4.row y3.wf r (by omega)) (by omega)).mono fun b hb=>by omega
 refine⟨h5,v',?_,x5,onv.2,vs5⟩
 have k3:call AD (m+1) 39 [x.u] h2=.ok v' h3:=k3
 have hrun:∃ e2,d65 (call AD (m+1)) (AQ e0 0 [ktV x]) h=.ret e2 h5∧AB 2 e2=pt h1.next:=by
  unfold d65
  simp only[iN,Nat.reduceAdd,sT,Nat.reduceLT,Nat.reduceEqDiff,reduceIte,bx,al,AJ,AN,Nat.zero_add,Nat.add_zero,AM,AP,l4,cA0,k3,AX,st4,Aq,Ao,ld,st5]
  exact⟨_,rfl,by simp[AG]⟩
 obtain⟨e2,r1,r2⟩:=hrun
 rw[ii rfl,r1,BX,Ut (h':=h5) (v:=B7 x.a x.b x.c x.s v') (by rw[r2,Ao];exact ld5)]
theorem lG{g:O}{b:Nat}(hg:g e=pt b):oEq HM.k false g (kV (.pointer none)) F e h=.ok (.bool false) h:=JA eY hg
theorem bo(W:h.Wf)(R:h.Row A.bs 0 (slL A.bd A.tb lv fv bad ov))(K:h.KS S lv ks)(hk:∀ k∈ks,h.Vals k.u (k.l.map bv)∧k.l.length≤1000)(hl:ks.length≤1000)(a b:Int):
  ∃ h' v,call AD (m+5) 17 [pt A.bs,.int .i64 a,.int .i64 b] h=.ok (.tuple ⟨[v,.bool (ks.find? (FO a b)).isSome]⟩) h'∧h.Ext h'∧(cellsOf v).length=5∧BO (cellsOf v)=true∧∀ kx,ks.find? (FO a b)=some kx→∃ u,v=B7 kx.a kx.b kx.c kx.s u∧h'.Vals u (kx.l.map bv):=by
 have al:=fun (F:CallF) (e:Env)=>Bd (F:=F) (e:=e) W (n:=5) (t:=CV)
 have Ra:=Hp.Row.alloc W EX (show(A0 0 0 0 0 nilS).length=5 from rfl)
 have x1:h.Ext (h.push (.cells CV 5 0)):=(Hp.Ext.refl W).push _
 have n1:(h.push (.cells CV 5 0)).next=h.next+1:=rfl
 generalize h.push (.cells CV 5 0)=h1 at al Ra x1 n1
 obtain⟨h2,k2,y2⟩:=X2 (m:=m+1) x1.wf (R.ext W x1) (K.ext W x1) (by omega) a b
 have x2:=x1.trans y2
 have p1:∀ (F:CallF) (e:Env) (g:Hp),AB 0 e=pt A.bs→oEq HM.k false (AB 0) (kV (.pointer none)) F e g=.ok (.bool false) g:=fun F e g he=>lG he
 have fin:∀ (e2:Env) (g:Hp) (v:Value) (t:Bool),d17 (call AD (m+4)) (AQ e0 0 [pt A.bs,.int .i64 a,.int .i64 b]) h=.ret e2 g→AB 6 e2=pt h.next→AB 7 e2=.bool t→loadN 5 ⟨h.next,0,none⟩ g=.ok v g→call AD (m+5) 17 [pt A.bs,.int .i64 a,.int .i64 b] h=.ok (.tuple ⟨[v,.bool t]⟩) g:=fun e2 g v t r1 r2 r3 hv=>by
  rw[iE rfl,r1,BX,M6 (v:=v) (by rw[r2,Ao];exact hv),r3]
 rcases C9 (FO a b) ks 0 with ⟨e1,e2⟩|⟨j,kx,e1,e2,e3⟩
 ·rw[e2]at k2
  have c1:iLt (-1) 0=true:=Hw (by omega)
  obtain⟨st,ld,x3,_,_⟩:=IM W x2 (Nat.le_refl _) (Ra.ext x1.wf y2) rfl (a:=0) (b:=0) (c:=0) (s:=0) (u:=nilS) rfl
  generalize h2.wr h.next 0 (A0 0 0 0 0 nilS)=h3 at st ld x3
  have hrun:∃ e2,d17 (call AD (m+4)) (AQ e0 0 [pt A.bs,.int .i64 a,.int .i64 b]) h=.ret e2 h3∧AB 6 e2=pt h.next∧AB 7 e2=.bool false:=by
   unfold d17
   simp only[iN,Nat.reduceAdd,sT,Nat.reduceLT,Nat.reduceEqDiff,reduceIte,al,p1,cA0,k2,AL,AK,c1,C8,AX,st]
   exact⟨_,rfl,by simp[AG]⟩
  obtain⟨e2,r1,r2,r3⟩:=hrun
  rw[e1]
  exact⟨h3,_,fin e2 h3 _ false r1 r2 r3 ld,x3,rfl,rfl,fun kx hk=>by cases hk⟩
 ·rw[e3,Nat.zero_add]at k2
  have c1:iLt (j:Int) 0=false:=E5 (by omega)
  obtain⟨_,_,_,l3,_⟩:=A5 (R.ext W x2)
  obtain⟨bb,_,ix,ld6,_⟩:=(K.ext W x2).at e2
  obtain⟨U,hul⟩:=hk kx (List.mem_of_getElem? e2)
  obtain⟨h3,v',k3,y3,ov',vv'⟩:=Ts (m:=m+2) x2.wf (U.ext W x2) hul
  have x3:=x2.trans y3
  obtain⟨st,ld,x4,_,_⟩:=IM W x3 (Nat.le_refl _) ((Ra.ext x1.wf y2).ext x2.wf y3) rfl (a:=kx.a) (b:=kx.b) (c:=kx.c) (s:=kx.s) (u:=v') ov'
  have f4:=Fx.wr (S:=fun b=>b=h.next) x3.wf ((Ra.ext x1.wf y2).ext x2.wf y3) (vs:=A0 kx.a kx.b kx.c kx.s v') (off:=0) (Nat.le_refl _) rfl
  generalize h3.wr h.next 0 (A0 kx.a kx.b kx.c kx.s v')=h4 at st ld x4 f4
  have hrun:∃ e2,d17 (call AD (m+4)) (AQ e0 0 [pt A.bs,.int .i64 a,.int .i64 b]) h=.ret e2 h4∧AB 6 e2=pt h.next∧AB 7 e2=.bool true:=by
   unfold d17
   simp only[iN,Nat.reduceAdd,sT,Nat.reduceLT,Nat.reduceEqDiff,reduceIte,al,p1,cA0,k2,AL,AK,c1,Au,Aj,AJ,AN,Nat.zero_add,AM,AP,l3,Az,ix,Aq,Ao,ld6,k3,AX,st]
   exact⟨_,rfl,by simp[AG]⟩
  obtain⟨e2,r1,r2,r3⟩:=hrun
  rw[e1]
  refine⟨h4,_,fin e2 h4 _ true r1 r2 r3 ld,x4,rfl,?_,fun k hk=>⟨v',by rw[← Option.some.inj hk],by rw[← Option.some.inj hk];exact(vv'.keep fun b el L hb _ r=>f4.row x3.wf r (by have:=y2.next;omega)).vs.vals⟩⟩
  show(bif oneCell v' then true else false)=true
  rw[ov'];rfl
theorem bH(W:h.Wf)(R:h.Row A.bs 0 (slL A.bd A.tb lv fv bad ov))(K:h.KS S lv ks)(hk:∀ k∈ks,h.Vals k.u (k.l.map bv)∧k.l.length≤1000)(hl:ks.length≤1000)(a b c:Int):
  ∃ h' v,call AD (m+5) 18 [pt A.bs,.int .i64 a,.int .i64 b,.int .i64 c] h=.ok (.tuple ⟨[v,.bool (ks.find? (Bg a b c)).isSome]⟩) h'∧h.Ext h'∧(cellsOf v).length=5∧BO (cellsOf v)=true∧∀ kx,ks.find? (Bg a b c)=some kx→∃ u,v=B7 kx.a kx.b kx.c kx.s u∧h'.Vals u (kx.l.map bv):=by
 have al:=fun (F:CallF) (e:Env)=>Bd (F:=F) (e:=e) W (n:=5) (t:=CV)
 have Ra:=Hp.Row.alloc W EX (show(A0 0 0 0 0 nilS).length=5 from rfl)
 have x1:h.Ext (h.push (.cells CV 5 0)):=(Hp.Ext.refl W).push _
 have n1:(h.push (.cells CV 5 0)).next=h.next+1:=rfl
 generalize h.push (.cells CV 5 0)=h1 at al Ra x1 n1
 obtain⟨h2,k2,y2⟩:=FY (m:=m+1) x1.wf (R.ext W x1) (K.ext W x1) (by omega) a b c
 have x2:=x1.trans y2
 have p1:∀ (F:CallF) (e:Env) (g:Hp),AB 0 e=pt A.bs→oEq HM.k false (AB 0) (kV (.pointer none)) F e g=.ok (.bool false) g:=fun F e g he=>lG he
 have fin:∀ (e2:Env) (g:Hp) (v:Value) (t:Bool),d18 (call AD (m+4)) (AQ e0 0 [pt A.bs,.int .i64 a,.int .i64 b,.int .i64 c]) h=.ret e2 g→AB 8 e2=pt h.next→AB 9 e2=.bool t→loadN 5 ⟨h.next,0,none⟩ g=.ok v g→call AD (m+5) 18 [pt A.bs,.int .i64 a,.int .i64 b,.int .i64 c] h=.ok (.tuple ⟨[v,.bool t]⟩) g:=fun e2 g v t r1 r2 r3 hv=>by
  rw[iF rfl,r1,BX,M6 (v:=v) (by rw[r2,Ao];exact hv),r3]
 rcases C9 (Bg a b c) ks 0 with ⟨e1,e2⟩|⟨j,kx,e1,e2,e3⟩
 ·rw[e2]at k2
  have c1:iLt (-1) 0=true:=Hw (by omega)
  obtain⟨st,ld,x3,_,_⟩:=IM W x2 (Nat.le_refl _) (Ra.ext x1.wf y2) rfl (a:=0) (b:=0) (c:=0) (s:=0) (u:=nilS) rfl
  generalize h2.wr h.next 0 (A0 0 0 0 0 nilS)=h3 at st ld x3
  have hrun:∃ e2,d18 (call AD (m+4)) (AQ e0 0 [pt A.bs,.int .i64 a,.int .i64 b,.int .i64 c]) h=.ret e2 h3∧AB 8 e2=pt h.next∧AB 9 e2=.bool false:=by
   unfold d18
   simp only[iN,Nat.reduceAdd,sT,Nat.reduceLT,Nat.reduceEqDiff,reduceIte,al,p1,cA0,k2,AL,AK,c1,C8,AX,st]
   exact⟨_,rfl,by simp[AG]⟩
  obtain⟨e2,r1,r2,r3⟩:=hrun
  rw[e1]
  exact⟨h3,_,fin e2 h3 _ false r1 r2 r3 ld,x3,rfl,rfl,fun kx hk=>by cases hk⟩
 ·rw[e3,Nat.zero_add]at k2
  have c1:iLt (j:Int) 0=false:=E5 (by omega)
  obtain⟨_,_,_,l3,_⟩:=A5 (R.ext W x2)
  obtain⟨bb,_,ix,ld6,_⟩:=(K.ext W x2).at e2
  obtain⟨U,hul⟩:=hk kx (List.mem_of_getElem? e2)
  obtain⟨h3,v',k3,y3,ov',vv'⟩:=Ts (m:=m+2) x2.wf (U.ext W x2) hul
  have x3:=x2.trans y3
  obtain⟨st,ld,x4,_,_⟩:=IM W x3 (Nat.le_refl _) ((Ra.ext x1.wf y2).ext x2.wf y3) rfl (a:=kx.a) (b:=kx.b) (c:=kx.c) (s:=kx.s) (u:=v') ov'
  have f4:=Fx.wr (S:=fun b=>b=h.next) x3.wf ((Ra.ext x1.wf y2).ext x2.wf y3) (vs:=A0 kx.a kx.b kx.c kx.s v') (off:=0) (Nat.le_refl _) rfl
  generalize h3.wr h.next 0 (A0 kx.a kx.b kx.c kx.s v')=h4 at st ld x4 f4
  have hrun:∃ e2,d18 (call AD (m+4)) (AQ e0 0 [pt A.bs,.int .i64 a,.int .i64 b,.int .i64 c]) h=.ret e2 h4∧AB 8 e2=pt h.next∧AB 9 e2=.bool true:=by
   unfold d18
   simp only[iN,Nat.reduceAdd,sT,Nat.reduceLT,Nat.reduceEqDiff,reduceIte,al,p1,cA0,k2,AL,AK,c1,Au,Aj,AJ,AN,Nat.zero_add,AM,AP,l3,Az,ix,Aq,Ao,ld6,k3,AX,st]
   exact⟨_,rfl,by simp[AG]⟩
  obtain⟨e2,r1,r2,r3⟩:=hrun
  rw[e1]
  refine⟨h4,_,fin e2 h4 _ true r1 r2 r3 ld,x4,rfl,?_,fun k hk=>⟨v',by rw[← Option.some.inj hk],by rw[← Option.some.inj hk];exact(vv'.keep fun b el L hb _ r=>f4.row x3.wf r (by have:=y2.next;omega)).vs.vals⟩⟩
  show(bif oneCell v' then true else false)=true
  rw[ov'];rfl
end
end
noncomputable section
open Go
set_option maxRecDepth 100000
section
variable {F:CallF}{e:Env}{h h':Hp}{A:At}{T M:List Nat}{c0 bad m k p:Nat}{arm:Int}{ks:List Kt}{fr:List Nat}{lv fv:Value}{ov:Bool}
def IV(T M:List Nat)(k:Kt):Prop:=∃ ns,Gd T M k.p ns∧(at6 ns 1:Int)=k.a∧(at6 ns 2:Int)=k.b∧(at6 ns 3:Int)=k.c∧at6 ns 0=k.s∧dat M k.p (at6 ns 4)=k.l
theorem Wz:d15=Uo:=rfl
theorem Q1(W:h.Wf)(s:Sl h A T M c0 arm ks fr lv fv bad ov){j:Nat}{kx:Kt}(hj:ks[j]? =some kx){a b c:Int}(hf:E6 (Bg a b c) 0 ks=(j:Int))(habc:kx.a=a∧kx.b=b∧kx.c=c)(hp3:3 * kx.p+3≤A.n):
  ∃ h' r,call AD (m+6) 15 [pt A.bs,.int .i64 a,.int .i64 b,.int .i64 c] h=.ok (.bool r) h'∧h.Ext h'∧(r=true↔IV T M kx):=by
 obtain⟨rfl,rfl,rfl⟩:=habc
 have hkm:=List.mem_of_getElem? hj
 obtain⟨o1,o2,o3,o4,o5,o6⟩:=s.ko kx hkm
 have p1:∀ (F:CallF) (e:Env) (g:Hp),AB 0 e=pt A.bs→oEq HM.k false (AB 0) (kV (.pointer none)) F e g=.ok (.bool false) g:=fun F e g he=>lG he
 obtain⟨h1,k1,x1⟩:=FY (m:=m+2) W s.row s.ls.ks (by have:=s.le.1;omega) kx.a kx.b kx.c
 rw[hf]at k1
 have c1:iLt (j:Int) 0=false:=E5 (by omega)
 have s1:=s.ext W x1
 obtain⟨_,_,_,l3,_⟩:=A5 s1.row
 obtain⟨bb,_,ix,_,lde⟩:=s1.ls.ks.at hj
 have lp:=lde 5 (.int .i64 (kx.p:Int)) rfl
 obtain⟨h2,x2,LK⟩:=Tc (m:=m) x1.wf s1.row s1.tab s.tok s1.dk hp3
 have x12:=x1.trans x2
 have al:=fun (F:CallF) (e:Env)=>Bd (F:=F) (e:=e) x12.wf (n:=6) (t:=DL)
 have Ra:=Hp.Row.alloc x12.wf Gc (show(AU K0).length=6 from rfl)
 have y3:h2.Ext (h2.push (.cells DL 6 0)):=(Hp.Ext.refl x12.wf).push _
 have n3:(h2.push (.cells DL 6 0)).next=h2.next+1:=rfl
 generalize h2.push (.cells DL 6 0)=h3 at al Ra y3 n3
 have c00:iEq 0 0=true:=CN rfl
 rcases LK with ⟨ns,u,hH,hk,hu⟩|⟨hH,bd,hk,hbad⟩
 ·generalize hX:(⟨at6 ns 1,at6 ns 2,at6 ns 3,at6 ns 0,dat M kx.p (at6 ns 4),kx.p,u⟩:Kt)=X at hk
  have hXu:X.u=u:=by rw[← hX]
  obtain⟨st,_,y4,R10,n4⟩:=Kg x12.wf y3 (Nat.le_refl _) Ra rfl (k:=X) (by rw[hXu];exact hu.vs.one.2.1)
  generalize h3.wr h2.next 0 (AU X)=h4 at st y4 R10 n4
  have x4:=x12.trans y4
  have x4m:=x4.marked
  have s4:=s.ext W x4m
  obtain⟨m0,m1,m2,m3,m4,_⟩:=Bn (R10.same (h':=h4.marked) rfl)
  obtain⟨_,_,_,l34,_⟩:=A5 s4.row
  obtain⟨bb4,_,ix4,_,lde4⟩:=s4.ls.ks.at hj
  have ls4:=lde4 3 (.int .u8 (kx.s:Int)) rfl
  have lu4:=lde4 4 kx.u rfl
  have hns:∀ ns',Gd T M kx.p ns'→ns'=ns:=fun ns' h=>F7 h.1 hH.1
  have hXf:X.a=at6 ns 1∧X.b=at6 ns 2∧X.c=at6 ns 3∧X.s=at6 ns 0:=by rw[← hX];exact⟨rfl,rfl,rfl,rfl⟩
  obtain⟨f1,f2,f3,f4⟩:=hXf
  rw[f1]at m0
  rw[f2]at m1
  rw[f3]at m2
  rw[f4]at m3
  rw[hXu]at m4
  have pre:∃ e1,Uo (call AD (m+5)) (AQ e0 0 [pt A.bs,.int .i64 kx.a,.int .i64 kx.b,.int .i64 kx.c]) h=sdT (call AD (m+5)) e1 h4∧AB 0 e1=pt A.bs∧AB 1 e1=.int .i64 kx.a∧AB 2 e1=.int .i64 kx.b∧AB 3 e1=.int .i64 kx.c∧AB 9 e1=.int .i64 (j:Int)∧AB 10 e1=pt h2.next∧AB 11 e1=.bool true∧AB 13 e1=.int .i64 0:=by
   unfold Uo
   simp only[iN,Nat.reduceAdd,sT,Nat.reduceLT,Nat.reduceEqDiff,reduceIte,p1,cA0,k1,AL,AK,c1,Au,Aj,AJ,AN,Nat.zero_add,AM,AP,l3,Az,ix,lp,hk,BA,BL,BM,CZ,EE,al,AX,st]
   exact⟨_,rfl,by simp[AG]⟩
  obtain⟨e1,q1,t0,t1,t2,t3,t9,t10,t11,t13⟩:=pre
  have fin:∀ (e2:Env) (g:Hp) (t:Bool),sdT (call AD (m+5)) e1 h4=.ret e2 g→AB 8 e2=.bool t→call AD (m+6) 15 [pt A.bs,.int .i64 kx.a,.int .i64 kx.b,.int .i64 kx.c] h=.ok (.bool t) g:=fun e2 g t r1 r2=>by
   rw[WX rfl,Wz,q1,r1]
   simp only[lV0,r2]
  by_cases g1:(at6 ns 1:Int)=kx.a
  ·have d1:iEq (at6 ns 1:Int) kx.a=true:=CN g1
   by_cases g2:(at6 ns 2:Int)=kx.b
   ·have d2:iEq (at6 ns 2:Int) kx.b=true:=CN g2
    by_cases g3:(at6 ns 3:Int)=kx.c
    ·have d3:iEq (at6 ns 3:Int) kx.c=true:=CN g3
     by_cases g4:at6 ns 0=kx.s
     ·have d4:iEq (at6 ns 0:Int) (kx.s:Int)=true:=CN (by omega)
      have hlen:(dat M kx.p (at6 ns 4)).length≤900000:=by
       unfold dat
       rw[List.length_take]
       have:=hH.2.1
       omega
      obtain⟨h5,k5,x5⟩:=XX (m:=m+4) x4m.quiet.wf ((hu.vs.vals.ext x12.wf y4).same (h':=h4.marked.quiet) rfl) ((s4.ko kx hkm).1.vs.vals.same (h':=h4.marked.quiet) rfl) hlen
      have q5:∀ e:Env,AB 82 e=u→AB 91 e=kx.u→Am .free (AS 42 [AB 82,AB 91]) (call AD (m+5)) e h4.marked=.ok (.bool (decide (dat M kx.p (at6 ns 4)=kx.l))) (h4.marked.back h5):=fun e e1 e2=>by
       refine BQ ?_
       rw[Bb,AY,AY,A3,e1,e2];exact k5
      have hrun:∃ e2,sdT (call AD (m+5)) e1 h4=.ret e2 (h4.marked.back h5)∧AB 8 e2=.bool (decide (dat M kx.p (at6 ns 4)=kx.l)):=by
       unfold sdT
       simp only[sT,Nat.reduceLT,Nat.reduceEqDiff,reduceIte,gD,Ay,AL,AK,t13,c00,t11,t10,AJ,AN,Nat.zero_add,Nat.add_zero,AM,AP,m0,m1,m2,m3,m4,t1,t2,t3,d1,d2,d3,t0,Au,Aj,l34,t9,Az,ix4,ls4,d4,lu4,q5]
       exact⟨_,rfl,by simp[AG]⟩
      obtain⟨e2,r1,r2⟩:=hrun
      refine⟨_,_,fin e2 _ _ r1 r2,x4m.trans (.back x5),?_⟩
      rw[decide_eq_true_eq]
      constructor
      ·exact fun h=>⟨ns,hH,g1,g2,g3,g4,h⟩
      ·rintro⟨ns',a1,_,_,_,_,a6⟩
       rw[hns ns' a1]at a6;exact a6
     ·have d4:iEq (at6 ns 0:Int) (kx.s:Int)=false:=BW (by omega)
      have hrun:∃ e2,sdT (call AD (m+5)) e1 h4=.ret e2 h4.marked∧AB 8 e2=.bool false:=by
       unfold sdT
       simp only[sT,Nat.reduceLT,Nat.reduceEqDiff,reduceIte,gD,Ay,AL,AK,t13,c00,t11,t10,AJ,AN,Nat.zero_add,Nat.add_zero,AM,AP,m0,m1,m2,m3,m4,t1,t2,t3,d1,d2,d3,t0,Au,Aj,l34,t9,Az,ix4,ls4,d4]
       exact⟨_,rfl,by simp[AG]⟩
      obtain⟨e2,r1,r2⟩:=hrun
      refine⟨_,_,fin e2 _ _ r1 r2,x4m,⟨fun h=>(by cases h),?_⟩⟩
      rintro⟨ns',a1,_,_,_,a5,_⟩
      rw[hns ns' a1]at a5
      exact absurd a5 g4
    ·have d3:iEq (at6 ns 3:Int) kx.c=false:=BW g3
     have hrun:∃ e2,sdT (call AD (m+5)) e1 h4=.ret e2 h4.marked∧AB 8 e2=.bool false:=by
      unfold sdT
      simp only[sT,Nat.reduceLT,Nat.reduceEqDiff,reduceIte,gD,Ay,AL,AK,t13,c00,t11,t10,AJ,AN,Nat.zero_add,Nat.add_zero,AM,AP,m0,m1,m2,t1,t2,t3,d1,d2,d3]
      exact⟨_,rfl,by simp[AG]⟩
     obtain⟨e2,r1,r2⟩:=hrun
     refine⟨_,_,fin e2 _ _ r1 r2,x4m,⟨fun h=>(by cases h),?_⟩⟩
     rintro⟨ns',a1,_,_,a4,_,_⟩
     rw[hns ns' a1]at a4
     exact absurd a4 g3
   ·have d2:iEq (at6 ns 2:Int) kx.b=false:=BW g2
    have hrun:∃ e2,sdT (call AD (m+5)) e1 h4=.ret e2 h4.marked∧AB 8 e2=.bool false:=by
     unfold sdT
     simp only[sT,Nat.reduceLT,Nat.reduceEqDiff,reduceIte,gD,Ay,AL,AK,t13,c00,t11,t10,AJ,AN,Nat.zero_add,Nat.add_zero,AM,AP,m0,m1,t1,t2,d1,d2]
     exact⟨_,rfl,by simp[AG]⟩
    obtain⟨e2,r1,r2⟩:=hrun
    refine⟨_,_,fin e2 _ _ r1 r2,x4m,⟨fun h=>(by cases h),?_⟩⟩
    rintro⟨ns',a1,_,a3,_⟩
    rw[hns ns' a1]at a3
    exact absurd a3 g2
  ·have d1:iEq (at6 ns 1:Int) kx.a=false:=BW g1
   have hrun:∃ e2,sdT (call AD (m+5)) e1 h4=.ret e2 h4.marked∧AB 8 e2=.bool false:=by
    unfold sdT
    simp only[sT,Nat.reduceLT,Nat.reduceEqDiff,reduceIte,gD,Ay,AL,AK,t13,c00,t11,t10,AJ,AN,Nat.zero_add,Nat.add_zero,AM,AP,m0,t1,d1]
    exact⟨_,rfl,by simp[AG]⟩
   obtain⟨e2,r1,r2⟩:=hrun
   refine⟨_,_,fin e2 _ _ r1 r2,x4m,⟨fun h=>(by cases h),?_⟩⟩
   rintro⟨ns',a1,a2,_⟩
   rw[hns ns' a1]at a2
   exact absurd a2 g1
 ·obtain⟨st,_,y4,R10,n4⟩:=Kg x12.wf y3 (Nat.le_refl _) Ra rfl (k:=K0) rfl
  generalize h3.wr h2.next 0 (AU K0)=h4 at st y4 R10 n4
  have x4m:=(x12.trans y4).marked
  have hrun:∃ e2,Uo (call AD (m+5)) (AQ e0 0 [pt A.bs,.int .i64 kx.a,.int .i64 kx.b,.int .i64 kx.c]) h=.ret e2 h4.marked∧AB 8 e2=.bool false:=by
   unfold Uo sdT
   simp only[iN,Nat.reduceAdd,sT,Nat.reduceLT,Nat.reduceEqDiff,reduceIte,gD,p1,cA0,k1,AL,AK,c1,Au,Aj,AJ,AN,Nat.zero_add,AM,AP,l3,Az,ix,lp,hk,BA,BL,BM,CZ,EE,al,AX,st,Ay,c00]
   exact⟨_,rfl,by simp[AG]⟩
  obtain⟨e2,r1,r2⟩:=hrun
  refine⟨h4.marked,false,?_,x4m,⟨fun h=>(by cases h),fun⟨ns',a1,_⟩=>absurd ⟨ns',a1⟩ hH⟩⟩
  rw[WX rfl,Wz,r1]
  simp only[lV0,r2]
def Jc(k:Kt):List Value:=A0 k.a k.b k.c k.s k.u
def flS(L:List Kt):List Value:=L.flatMap Jc
theorem bC:∀ L:List Kt,(flS L).length=L.length * 5
 |[]=>rfl
 |k::l=>by
  show(Jc k++flS l).length=_
  rw[List.length_append,bC l,List.length_cons]
  show 5+l.length * 5=_
  omega
end
end
noncomputable section
open Go
set_option maxRecDepth 100000
def Eg(ks:List Kt)(n:Nat)(a b c:Int)(l:List Nat):Option Int:=
 if rightS a b c 1 l.length=false∨100<l.length then some 2
 else match ks.find? (Bg a b c)with
  |some k=>if k.l=l then some 0 else some 60
  |none=>if Bx a b c ks=true then some 61 else if n=0 then some 62 else none
section
variable {F:CallF}{e:Env}{h h':Hp}{A:At}{T M:List Nat}{c0 bad m k p:Nat}{arm:Int}{ks:List Kt}{fr:List Nat}{lv fv:Value}
theorem Yo(W:h.Wf)(s:Sl h A T M c0 arm ks fr lv fv bad false){a b c:Int}{l:List Nat}{u:Value}(V:h.VE u (l.map bv))(hl:l.length≤1000){z:Int}(hz:Eg ks fr.length a b c l=some z):
  ∃ h',call AD (m+8) 11 [pt A.bs,.int .i64 a,.int .i64 b,.int .i64 c,u] h=.ok (.int .i64 z) h'∧h.Ext h':=by
 have hkl:=s.le.1
 have c00:iNe 0 0=false:=Cm rfl
 have k0:=Me (m:=m+6) s.row
 obtain⟨h1,vc,k1,x1,mk1⟩:=My (n:=m+6) W V (by omega)
 have oc:=mk1.one
 have bl:=fun (F:CallF) (e:Env) (e1:AB 1 e=.int .i64 a) (e2:AB 2 e=.int .i64 b) (e3:AB 3 e=.int .i64 c) (e4:AB 28 e=vc)=>O5 (F:=F) (h:=h1) (g1:=AB 1) (g2:=AB 2) (g3:=AB 3) (g5:=AB 28) e1 e2 e3 e4 oc.1 oc.2.2
 have al:=fun (F:CallF) (e:Env)=>Bd (F:=F) (e:=e) x1.wf (n:=5) (t:=CV)
 have Ra:=Hp.Row.alloc x1.wf EX (show(A0 0 0 0 0 nilS).length=5 from rfl)
 have y2:h1.Ext (h1.push (.cells CV 5 0)):=(Hp.Ext.refl x1.wf).push _
 generalize h1.push (.cells CV 5 0)=h2 at al Ra y2
 obtain⟨st,_,y3,R12,n3⟩:=IM x1.wf y2 (Nat.le_refl _) Ra rfl (a:=a) (b:=b) (c:=c) (s:=1) (u:=vc) oc.2.1
 generalize h2.wr h1.next 0 (A0 a b c 1 vc)=h3 at st y3 R12 n3
 have x3:=x1.trans y3
 obtain⟨_,_,_,_,_,ld12⟩:=B4 R12
 have lnc:∀ g,lenSR vc g=.ok (.int .i64 (l.length:Int)) g:=fun g=>mk1.vals.bl g
 have k4:=JC (n:=m+6) x3.wf (a:=a) (b:=b) (c:=c) (s:=1) (u:=vc) lnc
 have y4:=(Hp.Ext.refl x3.wf).pushRow 0 (A0 a b c 1 vc)
 generalize h3.pushRow 0 (A0 a b c 1 vc)=h4 at k4 y4
 have x4:=x3.trans y4
 have lnu:∀ g:Hp,lenSR u g=.ok (.int .i64 (l.length:Int)) g:=fun g=>V.bl g
 obtain⟨_,_,l2,_⟩:=A5 (s.row.ext W x4)
 have s4:=s.ext W x4
 unfold Eg at hz
 by_cases hr:rightS a b c 1 l.length=false
 ·rw[if_pos (.inl hr)]at hz
  cases hz
  rw[hr]at k4
  refine⟨h4,?_,x4⟩
  rw[H4 rfl,H9]
  unfold Mg
  simp only[iN,Nat.reduceAdd,sT,Nat.reduceLT,Nat.reduceEqDiff,reduceIte,gD,cA0,k0,AL,AK,c00,k1,bl,al,AX,st,Aq,Ao,ld12,k4,Bt,Br,Bool.not_false,lV0]
 ·have hr':rightS a b c 1 l.length=true:=by
   cases hq:rightS a b c 1 l.length
   ·exact absurd hq hr
   ·rfl
  rw[hr']at k4
  by_cases h100:100<l.length
  ·rw[if_pos (.inr h100)]at hz
   cases hz
   have c1:iGt (l.length:Int) 100=true:=E4 (by omega)
   refine⟨h4,?_,x4⟩
   rw[H4 rfl,H9]
   unfold Mg
   simp only[iN,Nat.reduceAdd,sT,Nat.reduceLT,Nat.reduceEqDiff,reduceIte,gD,cA0,k0,AL,AK,c00,k1,bl,al,AX,st,Aq,Ao,ld12,k4,Bt,Br,Bool.not_true,Ae,lnu,Au,Aj,AJ,AN,Nat.zero_add,AM,AP,l2,c1,lV0]
  ·rw[if_neg (by
    rintro (h|h)
    ·exact hr h
    ·exact h100 h)]at hz
   have c1:iGt (l.length:Int) 100=false:=Ee (by omega)
   obtain⟨h5,k5,x5⟩:=FY (m:=m+4) x4.wf s4.row s4.ls.ks (by omega) a b c
   have x45:=x4.trans x5
   have s5:=s.ext W x45
   rcases C9 (Bg a b c) ks 0 with ⟨e1,e2⟩|⟨j,kx,e1,e2,e3⟩
   ·rw[e2]at k5
    rw[e1]at hz
    simp only at hz
    have c2:iGe (-1) 0=false:=E3 (by omega)
    obtain⟨h6,k6,x6⟩:=GB (m:=m+3) x45.wf s5.row s5.ls.ks (by omega) a b c
    have x46:=x45.trans x6
    have s6:=s.ext W x46
    cases hst:Bx a b c ks with
    |true=>
     rw[hst]at k6 hz
     cases hz
     refine⟨h6,?_,x46⟩
     rw[H4 rfl,H9]
     unfold Mg
     simp only[iN,Nat.reduceAdd,sT,Nat.reduceLT,Nat.reduceEqDiff,reduceIte,gD,cA0,k0,AL,AK,c00,k1,bl,al,AX,st,Aq,Ao,ld12,k4,Bt,Br,Bool.not_true,Ae,lnu,Au,Aj,AJ,AN,Nat.zero_add,AM,AP,l2,c1,k5,c2,k6,BH,Aw,B8,Co,lV0]
    |false=>
     rw[hst]at k6 hz
     rw[if_neg (by decide)]at hz
     by_cases hf:fr.length=0
     ·rw[if_pos hf]at hz
      cases hz
      obtain⟨_,_,_,_,l4,_⟩:=A5 s6.row
      have lnf:=s6.fs.vals.len
      have hil:(ints .i64 (fr.map Int.ofNat)).length=fr.length:=by unfold ints;rw[List.length_map,List.length_map]
      rw[hil,hf]at lnf
      have c3:iEq ((0:Nat):Int) 0=true:=CN rfl
      refine⟨h6,?_,x46⟩
      rw[H4 rfl,H9]
      unfold Mg
      simp only[iN,Nat.reduceAdd,sT,Nat.reduceLT,Nat.reduceEqDiff,reduceIte,gD,cA0,k0,AL,AK,c00,k1,bl,al,AX,st,Aq,Ao,ld12,k4,Bt,Br,Bool.not_true,Ae,lnu,Au,Aj,AJ,AN,Nat.zero_add,AM,AP,l2,c1,k5,c2,k6,l4,lnf,c3,BH,Aw,B8,Co,lV0]
     ·rw[if_neg hf]at hz;cases hz
   ·rw[e3,Nat.zero_add]at k5
    rw[e1]at hz
    simp only at hz
    have c2:iGe (j:Int) 0=true:=Gw (by omega)
    obtain⟨_,_,_,l3,_⟩:=A5 s5.row
    obtain⟨bb,_,ix,_,lde⟩:=s5.ls.ks.at e2
    have lu:=lde 4 kx.u rfl
    have hkm:=List.mem_of_getElem? e2
    obtain⟨h6,k6,x6⟩:=M5 (m:=m+6) x45.wf ((s5.ko kx hkm).1.vs.vals) (V.ext W x45) (by have:=(s5.ko kx hkm).2.2.1;omega)
    have k6:call AD (m+7) 42 [kx.u,u] h5=.ok (.bool (decide (kx.l=l))) h6:=k6
    refine⟨h6,?_,x45.trans x6⟩
    by_cases hkl:kx.l=l
    ·rw[if_pos hkl]at hz
     cases hz
     rw[decide_eq_true hkl]at k6
     rw[H4 rfl,H9]
     unfold Mg
     simp only[iN,Nat.reduceAdd,sT,Nat.reduceLT,Nat.reduceEqDiff,reduceIte,gD,cA0,k0,AL,AK,c00,k1,bl,al,AX,st,Aq,Ao,ld12,k4,Bt,Br,Bool.not_true,Ae,lnu,Au,Aj,AJ,AN,Nat.zero_add,AM,AP,l2,c1,k5,c2,l3,Az,ix,lu,Nat.add_zero,k6,lV0]
    ·rw[if_neg hkl]at hz
     cases hz
     rw[decide_eq_false hkl]at k6
     rw[H4 rfl,H9]
     unfold Mg
     simp only[iN,Nat.reduceAdd,sT,Nat.reduceLT,Nat.reduceEqDiff,reduceIte,gD,cA0,k0,AL,AK,c00,k1,bl,al,AX,st,Aq,Ao,ld12,k4,Bt,Br,Bool.not_true,Ae,lnu,Au,Aj,AJ,AN,Nat.zero_add,AM,AP,l2,c1,k5,c2,l3,Az,ix,lu,Nat.add_zero,k6,lV0]
theorem MP(W:h.Wf)(s:Sl h A T M c0 arm ks fr lv fv bad false){a b c:Int}{l:List Nat}{u:Value}(V:h.VE u (l.map bv))(hb:∀ x∈l,x<256)(hl:l.length≤1000)(hkl:ks.length≤10)(ha:Bk arm (k+10)):
  (∃ z h',Eg ks fr.length a b c l=some z∧call AD (m+8) 11 [pt A.bs,.int .i64 a,.int .i64 b,.int .i64 c,u] h=.ok (.int .i64 z) h'∧h.Ext h')∨
  (Eg ks fr.length a b c l=none∧∃ p fr2 h' c1 arm' lv' fv' k',fr=p::fr2∧call AD (m+8) 11 [pt A.bs,.int .i64 a,.int .i64 b,.int .i64 c,u] h=.ok (.int .i64 0) h'∧Fx A.D h h'∧
   Sl h' A T (C2 T M p l (headL T a b c 1 l)) c1 arm' (DS (ks++[k'])) fr2 lv' fv' bad false∧k'.core=⟨a,b,c,1,l,p⟩∧Bk arm' k):=by
 cases hz:Eg ks fr.length a b c l with
 |some z=>
  obtain⟨h',k1,x1⟩:=Yo (m:=m) W s V hl hz
  exact .inl ⟨z,h',rfl,k1,x1⟩
 |none=>
  right
  unfold Eg at hz
  split at hz
  ·cases hz
  rename_i hn
  have hr:rightS a b c 1 l.length=true:=by
   cases hq:rightS a b c 1 l.length
   ·exact absurd (.inl hq) hn
   ·rfl
  have h100:l.length≤100:=Nat.le_of_not_lt fun h=>hn (.inr h)
  split at hz
  ·split at hz<;>cases hz
  rename_i hfd
  split at hz
  ·cases hz
  rename_i hst
  split at hz
  ·cases hz
  rename_i hf0
  cases fr with
  |nil=>exact absurd rfl hf0
  |cons p fr2=>
   have hany:ks.any (Bg a b c)=false:=by
    rw[List.any_eq_false]
    intro x hx
    exact List.find?_eq_none.1 hfd x hx
   have hst':Bx a b c ks=false:=by
    cases hq:Bx a b c ks
    ·rfl
    ·exact absurd hq hst
   obtain⟨h',c1,arm',lv',fv',k',q1,q2,q3,q4,q5⟩:=Yp (m:=m) W s V hb h100 hr hany hst' hkl ha
   exact⟨rfl,p,fr2,h',c1,arm',lv',fv',k',rfl,q1,q2,q3,q4,q5⟩
end
end
noncomputable section
open Go
set_option maxRecDepth 100000
theorem i7{n:Nat}{args:List Value}{h:Hp}(hl:Nat.ble (A9 args) 160=true):call AD (Nat.succ n) 82 args h=A2 [] (d82 (call AD n) (AQ e0 0 args) h):=by
 have hb:AD.get 82=some b82:=by kernel_rfl
 rw[Ai hb]
 have hd:b82=⟨[],d82⟩:=by kernel_rfl
 rw[hd,AW hl]
theorem Zx{n:Nat}{args:List Value}{h:Hp}(hl:Nat.ble (A9 args) 160=true):call AD (Nat.succ n) 108 args h=A2 [] (aE (call AD n) (AQ e0 0 args) h):=by
 have hb:AD.get 108=some UY:=by kernel_rfl
 rw[Ai hb]
 have hd:UY=⟨[],aE⟩:=by kernel_rfl
 rw[hd,AW hl]
theorem Zz{n:Nat}{args:List Value}{h:Hp}(hl:Nat.ble (A9 args) 160=true):call AD (Nat.succ n) 119 args h=A2 [] (aJ (call AD n) (AQ e0 0 args) h):=by
 have hb:AD.get 119=some Ud:=by kernel_rfl
 rw[Ai hb]
 have hd:Ud=⟨[],aJ⟩:=by kernel_rfl
 rw[hd,AW hl]
theorem Z0{n:Nat}{args:List Value}{h:Hp}(hl:Nat.ble (A9 args) 160=true):call AD (Nat.succ n) 125 args h=A2 [.t (AB 4)] (aL (call AD n) (AQ e0 0 args) h):=by
 have hb:AD.get 125=some Ue:=by kernel_rfl
 rw[Ai hb]
 have hd:Ue=⟨[.t (AB 4)],aL⟩:=by kernel_rfl
 rw[hd,AW hl]
end
noncomputable section
open Go
set_option maxRecDepth 100000
def OG(x:Nat):List Nat→List Nat
 |[]=>[x]
 |y::r=>if x<y then y::OG x r else x::y::r
def Mi(A:List Nat)(x:Nat):List Nat:=(OG x A.reverse).reverse
def Y8:List Nat→List Nat→List Nat
 |A,[]=>A
 |A,x::B=>Y8 (Mi A x) B
def EB(l:List Nat):List Nat:=Y8 (l.take 1) (l.drop 1)
theorem Jq(x y:Nat)(r:List Nat):OG x (y::r)=if x<y then y::OG x r else x::y::r:=rfl
theorem NR(x:Nat):∀ l:List Nat,(OG x l).Perm (x::l)
 |[]=>.refl _
 |y::r=>by
  rw[Jq]
  split
  ·exact((NR x r).cons y).trans (.swap x y r)
  ·exact .refl _
theorem NM(A:List Nat)(x:Nat):(Mi A x).Perm (x::A):=by
 unfold Mi
 exact(List.reverse_perm _).trans ((NR x _).trans ((List.reverse_perm A).cons x))
theorem Nk:∀ (B A:List Nat),(Y8 A B).Perm (A++B)
 |[],A=>by
  rw[List.append_nil];exact .refl _
 |x::B,A=>by
  show(Y8 (Mi A x) B).Perm _
  exact(Nk B _).trans (((NM A x).append_right B).trans List.perm_middle.symm)
theorem GY(l:List Nat):(EB l).Perm l:=by
 unfold EB
 have:=Nk (l.drop 1) (l.take 1)
 rwa [List.take_append_drop]at this
theorem NQ{x:Nat}:∀ {R Q:List Nat},(∀ y∈R,x<y)→OG x (R++Q)=R++OG x Q
 |[],Q,_=>rfl
 |y::R,Q,h=>by
  rw[List.cons_append,Jq,if_pos (h y List.mem_cons_self),NQ fun z hz=>h z (List.mem_cons_of_mem _ hz)]
  rfl
theorem TU{x:Nat}{P Q:List Nat}(hQ:∀ y∈Q,x<y)(hP:P=[]∨∃ P' y,P=P'++[y]∧¬ x<y):Mi (P++Q) x=P++x::Q:=by
 unfold Mi
 rw[List.reverse_append,NQ fun y hy=>hQ y (List.mem_reverse.1 hy)]
 have e:OG x P.reverse=x::P.reverse:=by
  rcases hP with rfl|⟨P',y,rfl,hy⟩
  ·rfl
  ·rw[List.reverse_append]
   show OG x (y::P'.reverse)=_
   rw[Jq,if_neg hy];rfl
 rw[e,List.reverse_append,List.reverse_cons,List.reverse_reverse,List.reverse_reverse,List.append_assoc];rfl
def iv(l:List Nat):List Value:=ints .i64 (l.map Int.ofNat)
theorem Dr(l:List Nat):(iv l).length=l.length:=by unfold iv ints;rw[List.length_map,List.length_map]
theorem n8{l:List Nat}{j x:Nat}(h:l[j]? =some x):(iv l)[j]? =some (.int .i64 (x:Int)):=by
 unfold iv ints
 rw[List.getElem?_map,List.getElem?_map,h];rfl
theorem dC{L:List Value}{j:Nat}{v:Value}(hj:j<L.length):over L j [v]=L.set j v:=by
 unfold over
 rw[List.set_eq_take_append_cons_drop,if_pos hj,List.append_assoc];rfl
theorem kK{l:List Nat}{j x:Nat}:(iv l).set j (.int .i64 (x:Int))=iv (l.set j x):=by
 unfold iv ints
 rw[List.map_set,List.map_set];rfl
section
variable {F:CallF}{e:Env}{h h':Hp}{S:Nat→Prop}{bl el n c m:Nat}{l:List Nat}{Z:List Value}
theorem Kq(R:h.Row bl el (iv l++Z)){j x:Nat}(hj:l[j]? =some x):load1 ⟨bl,j,none⟩ h=.ok (.int .i64 (x:Int)) h:=by
 have hl:=(List.getElem?_eq_some_iff.1 hj).1
 rw[R.load1 (off:=j) (by rw[List.length_append,Dr];omega),List.getD_eq_getElem?_getD,List.getElem?_append_left (by rw[Dr];exact hl),n8 hj];rfl
theorem Lu{j:Nat}(hj:j<n):idxSR 1 (.slice (some ⟨bl,0,none⟩) n c) (.int .i64 (j:Int)) h=.ok (.pointer (some ⟨bl,j,none⟩)) h:=by
 have:=DX (h:=h) (n:=n) (c:=c) (es:=1) (b:=bl) (off:=0) (i:=j) (k:=.i64) hj
 rwa [Nat.zero_add,Nat.mul_one]at this
theorem Xm(W:h.Wf)(R:h.Row bl el (iv l++Z))(h256:256≤bl){j:Nat}(hj:j<l.length)(x:Nat):
  ∃ h',(∀ (F:CallF) (e:Env) (g g':O),g e=.pointer (some ⟨bl,j,none⟩)→g' e=.int .i64 (x:Int)→Am .free (As 1 g g') F e h=.ok noRes h')∧Fx (fun b=>b=bl) h h'∧h'.Row bl el (iv (l.set j x)++Z)∧h'.next=h.next∧h'.mark=h.mark:=by
 have Rq:h.quiet.Row bl el (iv l++Z):=R.same rfl
 have hoo1:j+[Value.int .i64 (x:Int)].length≤(iv l).length:=by rw[Dr];exact hj
 have hoo:j+[Value.int .i64 (x:Int)].length≤(iv l++Z).length:=by rw[List.length_append];omega
 have st:=Rq.storeR (n:=1) (off:=j) (v:=.int .i64 (x:Int)) W.quiet h256 rfl (by rw[DO];exact hoo) rfl
 rw[DO]at st
 have wr:=Rq.wr_self W.quiet hoo
 rw[Nc hoo1,dC (by rw[Dr];exact hj),kK]at wr
 have fx:=Fx.wr (S:=fun b=>b=bl) W.quiet Rq hoo rfl
 have wn:=Rq.wr_next hoo
 generalize h.quiet.wr bl j [Value.int .i64 (x:Int)]=q at st wr fx wn
 exact⟨h.back q,fun F e g g' e1 e2=>BQ (by rw[AX,e1,e2];exact st),(fx.from (h:=h) rfl rfl).same rfl rfl,wr.same rfl,wn,rfl⟩
theorem bX{x y:Nat}:call AD (m+2) 125 [.int .i64 (x:Int),.int .i64 (y:Int)] h=.ok (.bool (decide (x<y))) h:=by
 have n1:∀ z:Int,call AD (m+1) 107 [.int .i64 z] h=.ok (.bool false) h:=fun z=>by
  have c1:iNe z z=false:=Cm rfl
  rw[St rfl]
  unfold Ww
  simp only[iN,Nat.reduceAdd,sT,Nat.reduceLT,Nat.reduceEqDiff,reduceIte,AL,AK,c1,lV0]
 have c2:iLt (x:Int) (y:Int)=decide (x<y):=by
  rw[Cr]
  by_cases hxy:x<y
  ·rw[decide_eq_true hxy,decide_eq_true (by omega)]
  ·rw[decide_eq_false hxy,decide_eq_false (by omega)]
 rw[Z0 rfl]
 unfold aL
 simp only[iN,Nat.reduceAdd,sT,Nat.reduceLT,Nat.reduceEqDiff,reduceIte,gD,cA0,n1,AL,AK,c2,lV0]
theorem SD:nnB=Xz:=rfl
theorem X0:noB=bn:=rfl
theorem aK:aJ=Wy:=rfl
theorem SZ{i:Nat}{g:Hp}(hi:i≤1000000):Fl Int.sub .i64 (.int .i64 ((i+1:Nat):Int)) (.int .i64 1) g=.ok (.int .i64 (i:Int)) g:=by
 have:Int.sub ((i+1:Nat):Int) 1=(i:Int):=by
  show((i+1:Nat):Int) - 1=_
  omega
 rw[CT,this,Ba (by omega)]
theorem ZB(W:h.Wf){P R:List Nat}{x y:Nat}(hl0:l=P++y::x::R)(Rw:h.Row bl el (iv l++Z))(h256:256≤bl)(hn:n=l.length)(hl:l.length≤100000)
  (s0:AB 0 e=.slice (some ⟨bl,0,none⟩) n c)(s7:AB 7 e=.int .i64 ((P.length+1:Nat):Int)):
  ∃ e' h',nwB F e h=.norm e' h'∧Fx (fun b=>b=bl) h h'∧h'.Row bl el (iv (P++x::y::R)++Z)∧∀ j,j=0∨j=1∨j=2∨j=6∨j=7→AB j e'=AB j e:=by
 have lk:l.length=P.length+1+1+R.length:=by rw[hl0,List.length_append,List.length_cons,List.length_cons];omega
 have Rm:h.marked.Row bl el (iv l++Z):=Rw.same rfl
 have ld:=Kq Rm (j:=P.length+1) (x:=x) (by rw[hl0];exact I3)
 have ldy:=Kq Rm (j:=P.length) (x:=y) (by rw[hl0];exact Fd)
 have ix:=fun g:Hp=>Lu (h:=g) (bl:=bl) (n:=n) (c:=c) (j:=P.length+1) (by omega)
 have iy:=fun g:Hp=>Lu (h:=g) (bl:=bl) (n:=n) (c:=c) (j:=P.length) (by omega)
 have a1:=fun g:Hp=>SZ (g:=g) (i:=P.length) (by omega)
 obtain⟨h1,q1,f1,R1,n1,mk1⟩:=Xm (j:=P.length+1) W.marked Rm h256 (by omega) y
 have e1:l.set (P.length+1) y=P++y::y::R:=by
  rw[hl0,show P++y::x::R=(P++[y])++x::R by simp,show P.length+1=(P++[y]).length by simp,JH];simp
 rw[e1]at R1
 obtain⟨h2,q2,f2,R2,n2,mk2⟩:=Xm (j:=P.length) f1.wf R1 h256 (by rw[List.length_append];simp) x
 rw[JH]at R2
 have fm:Fx (fun b=>b=bl) h h1:=f1.from (h:=h) rfl rfl
 have q1':∀ (F:CallF) (e:Env),AB 47 e=.pointer (some ⟨bl,P.length+1,none⟩)→AB 42 e=.int .i64 (y:Int)→Am .free (As 1 (AB 47) (AB 42)) F e h.marked=.ok noRes h1:=fun F e a b=>q1 F e _ _ a b
 have q2':∀ (F:CallF) (e:Env),AB 48 e=.pointer (some ⟨bl,P.length,none⟩)→AB 46 e=.int .i64 (x:Int)→Am .free (As 1 (AB 48) (AB 46)) F e h1=.ok noRes h2:=fun F e a b=>q2 F e _ _ a b
 have hrun:∃ e',nwB F e h=.norm e' h2∧∀ j,j=0∨j=1∨j=2∨j=6∨j=7→AB j e'=AB j e:=by
  unfold nwB
  simp only[sT,Nat.reduceLT,Nat.reduceEqDiff,reduceIte,Ay,Bs,s7,a1,Az,s0,iy,AM,AP,ldy,ix,ld,q1',q2']
  refine⟨_,rfl,fun j hj=>?_⟩
  rcases hj with rfl|rfl|rfl|rfl|rfl<;>simp only[AG,Nat.reduceLT,Nat.reduceEqDiff,reduceIte]
 obtain⟨e',r1,r2⟩:=hrun
 exact⟨e',h2,r1,fm.trans f2,R2,r2⟩
theorem Uy(W:h.Wf){A B:List Nat}{x:Nat}(Rw:h.Row bl el (iv (A++x::B)++Z))(h256:256≤bl)(hn:n=(A++x::B).length)(hl:n≤1000)
  (s0:AB 0 e=.slice (some ⟨bl,0,none⟩) n c)(s1:AB 1 e=.int .i64 0)(s7:AB 7 e=.int .i64 (A.length:Int)):
  ∃ e' h',Ax nnB (call AD (m+3)) e h=.exit 2 e' h'∧Fx (fun b=>b=bl) h h'∧h'.Row bl el (iv (Mi A x++B)++Z)∧∀ j,j=0∨j=1∨j=2∨j=6→AB j e'=AB j e:=by
 have hln:(A++x::B).length=A.length+1+B.length:=by rw[List.length_append,List.length_cons];omega
 refine BZ (I:=fun i e' g=>∃ P Q,A=P++Q∧P.length+i=A.length∧Fx (fun b=>b=bl) h g∧g.Row bl el (iv (P++x::(Q++B))++Z)∧(∀ y∈Q,x<y)∧AB 7 e'=.int .i64 (P.length:Int)∧∀ j,j=0∨j=1∨j=2∨j=6→AB j e'=AB j e)
  (Q:=fun r=>∃ e' h',r=.exit 2 e' h'∧Fx (fun b=>b=bl) h h'∧h'.Row bl el (iv (Mi A x++B)++Z)∧∀ j,j=0∨j=1∨j=2∨j=6→AB j e'=AB j e) (A.length+1) (by omega) (fun i e' g ⟨P,Q,hA,hP,fx,R,hQ,t7,ts⟩=>?_) ⟨A,[],by rw[List.append_nil],rfl,.refl W,Rw,fun y hy=>(by cases hy),s7,fun _ _=>rfl⟩
 have W':=fx.wf
 have t0:=(ts 0 (by omega)).trans s0
 have t1:=(ts 1 (by omega)).trans s1
 rcases UE P with rfl|⟨P',y,rfl⟩
 ·right
  have c1:iGt ((([]:List Nat).length:Nat):Int) 0=false:=Ee (by decide)
  have hrun:∃ e2,nnB (call AD (m+3)) e' g=.exit 2 e2 g.marked∧∀ j,j=0∨j=1∨j=2∨j=6→AB j e2=AB j e':=by
   rw[SD]
   unfold Xz
   simp only[sT,Nat.reduceLT,Nat.reduceEqDiff,reduceIte,gD,Ay,AL,AK,t7,t1,c1]
   refine⟨_,rfl,fun j hj=>?_⟩
   rcases hj with rfl|rfl|rfl|rfl<;>simp only[AG,Nat.reduceLT,Nat.reduceEqDiff,reduceIte]
  obtain⟨e2,r1,r2⟩:=hrun
  rw[r1]
  refine⟨rfl,e2,_,rfl,fx.same rfl rfl,?_,fun j hj=>(r2 j hj).trans (ts j hj)⟩
  have:=TU (x:=x) (P:=[]) (Q:=Q) hQ (.inl rfl)
  rw[hA,this]
  have e5:([]++x::Q)++B=[]++x::(Q++B):=rfl
  rw[e5]
  exact R.same rfl
 ·have lP:(P'++[y]).length=P'.length+1:=by simp
  rw[lP]at hP t7
  have lA:A.length=P'.length+1+Q.length:=by rw[hA,List.length_append,lP]
  have eR:(P'++[y])++x::(Q++B)=P'++y::x::(Q++B):=by simp
  rw[eR]at R
  have lL:(P'++y::x::(Q++B)).length=n:=by
   rw[hn,hln,lA]
   simp only[List.length_append,List.length_cons];omega
  have Rm:g.marked.Row bl el (iv (P'++y::x::(Q++B))++Z):=R.same rfl
  have ld:=Kq Rm (j:=P'.length+1) (x:=x) I3
  have ldy:=Kq Rm (j:=P'.length) (x:=y) Fd
  have ix:=fun g:Hp=>Lu (h:=g) (bl:=bl) (n:=n) (c:=c) (j:=P'.length+1) (by omega)
  have iy:=fun g:Hp=>Lu (h:=g) (bl:=bl) (n:=n) (c:=c) (j:=P'.length) (by omega)
  have c1:iGt ((P'.length+1:Nat):Int) 0=true:=E4 (by omega)
  have a1:=fun g:Hp=>SZ (g:=g) (i:=P'.length) (by omega)
  have k2:=bX (m:=m+1) (h:=g.marked.quiet) (x:=x) (y:=y)
  have q2:∀ e:Env,AB 23 e=.int .i64 (x:Int)→AB 28 e=.int .i64 (y:Int)→Am .free (AS 125 [AB 23,AB 28]) (call AD (m+3)) e g.marked=.ok (.bool (decide (x<y))) (g.marked.back g.marked.quiet):=fun e e1 e2=>by
   refine BQ ?_
   rw[Bb,AY,AY,A3,e1,e2];exact k2
  have y2:g.Ext (g.marked.back g.marked.quiet):=(Hp.Ext.refl W').marked.trans (.back (.refl W'.marked.quiet))
  generalize g.marked.back g.marked.quiet=h3 at q2 y2
  have R3:=R.ext W' y2
  by_cases hc:x<y
  ·left
   rw[decide_eq_true hc]at q2
   have sw:∀ e2:Env,AB 0 e2=.slice (some ⟨bl,0,none⟩) n c→AB 7 e2=.int .i64 ((P'.length+1:Nat):Int)→∃ e3 h4,nwB (call AD (m+3)) e2 h3=.norm e3 h4∧Fx (fun b=>b=bl) h3 h4∧h4.Row bl el (iv (P'++x::y::(Q++B))++Z)∧∀ j,j=0∨j=1∨j=2∨j=6∨j=7→AB j e3=AB j e2:=fun e2 a b=>ZB y2.wf rfl R3 h256 lL.symm (by omega) a b
   have hrun:∃ e3 h4,nnB (call AD (m+3)) e' g=.norm e3 h4∧Fx (fun b=>b=bl) h3 h4∧h4.Row bl el (iv (P'++x::y::(Q++B))++Z)∧AB 7 e3=.int .i64 (P'.length:Int)∧∀ j,j=0∨j=1∨j=2∨j=6→AB j e3=AB j e':=by
    rw[SD]
    unfold Xz
    simp only[sT,Nat.reduceLT,Nat.reduceEqDiff,reduceIte,gD,Ay,AL,AK,t7,t1,c1,t0,Az,ix,AM,AP,ld,Bs,a1,iy,ldy,q2,BH,Aw]
    obtain⟨e3,h4,r1,f4,R4,r2⟩:=sw (Env.set 30 (.bool true) (Env.set 29 (.bool true) (Env.set 28 (.int .i64 (y:Int)) (Env.set 27 (.pointer (some ⟨bl,P'.length,none⟩)) (Env.set 26 (.int .i64 (P'.length:Int)) (Env.set 25 (.int .i64 ((P'.length+1:Nat):Int)) (Env.set 24 (.slice (some ⟨bl,0,none⟩) n c) (Env.set 23 (.int .i64 (x:Int)) (Env.set 22 (.pointer (some ⟨bl,P'.length+1,none⟩)) (Env.set 21 (.int .i64 ((P'.length+1:Nat):Int)) (Env.set 20 (.slice (some ⟨bl,0,none⟩) n c) (Env.set 18 (.bool true) e')))))))))))) (by simp[AG,t0]) (by simp[AG,t7])
    have u7:AB 7 e3=.int .i64 ((P'.length+1:Nat):Int):=(r2 7 (by omega)).trans (by simp[AG,t7])
    rw[r1]
    simp only[DE,BB,sT,Nat.reduceLT,Nat.reduceEqDiff,reduceIte,Bs,u7,a1]
    refine⟨_,_,rfl,f4,R4,by simp[AG],fun j hj=>?_⟩
    have:=r2 j (by omega)
    rcases hj with rfl|rfl|rfl|rfl<;>simp only[AG,Nat.reduceLT,Nat.reduceEqDiff,reduceIte]at this ⊢<;>exact this
   obtain⟨e3,h4,r1,f4,R4,r7,r2⟩:=hrun
   refine⟨by omega,e3,h4,r1,P',y::Q,by rw[hA];simp,by omega,(fx.trans (.of y2)).trans f4,R4,fun z hz=>?_,r7,fun j hj=>(r2 j hj).trans (ts j hj)⟩
   rcases List.mem_cons.1 hz with rfl|hz
   ·exact hc
   ·exact hQ z hz
  ·right
   rw[decide_eq_false hc]at q2
   have hrun:∃ e3,nnB (call AD (m+3)) e' g=.exit 2 e3 h3∧∀ j,j=0∨j=1∨j=2∨j=6→AB j e3=AB j e':=by
    rw[SD]
    unfold Xz
    simp only[sT,Nat.reduceLT,Nat.reduceEqDiff,reduceIte,gD,Ay,AL,AK,t7,t1,c1,t0,Az,ix,AM,AP,ld,Bs,a1,iy,ldy,q2]
    refine⟨_,rfl,fun j hj=>?_⟩
    rcases hj with rfl|rfl|rfl|rfl<;>simp only[AG,Nat.reduceLT,Nat.reduceEqDiff,reduceIte]
   obtain⟨e3,r1,r2⟩:=hrun
   rw[r1]
   refine⟨rfl,e3,h3,rfl,fx.trans (.of y2),?_,fun j hj=>(r2 j hj).trans (ts j hj)⟩
   rw[hA,TU hQ (.inr ⟨P',y,rfl,hc⟩),List.append_assoc,List.append_assoc]
   exact R3
theorem Va(W:h.Wf){l:List Nat}(Rw:h.Row bl el (iv l++Z))(h256:256≤bl)(hn:n=l.length)(hl:n≤1000):
  ∃ h',call AD (m+4) 119 [.slice (some ⟨bl,0,none⟩) n c,.int .i64 0,.int .i64 (n:Int)] h=.ok noRes h'∧Fx (fun b=>b=bl) h h'∧h'.Row bl el (iv (EB l)++Z):=by
 have run:∀ e1:Env,AB 0 e1=.slice (some ⟨bl,0,none⟩) n c→AB 1 e1=.int .i64 0→AB 2 e1=.int .i64 (n:Int)→AB 6 e1=.int .i64 ((1:Nat):Int)→∃ e' h',Ax noB (call AD (m+3)) e1 h=.exit 0 e' h'∧Fx (fun b=>b=bl) h h'∧h'.Row bl el (iv (EB l)++Z):=fun e1 s0 s1 s2 s6=>by
  refine BZ (I:=fun i e' g=>∃ A B,A.length+B.length=l.length∧(A.length=i+1∨(B=[]∧A.length≤i+1))∧Y8 A B=EB l∧Fx (fun b=>b=bl) h g∧g.Row bl el (iv (A++B)++Z)∧AB 0 e'=.slice (some ⟨bl,0,none⟩) n c∧AB 1 e'=.int .i64 0∧AB 2 e'=.int .i64 (n:Int)∧AB 6 e'=.int .i64 ((i+1:Nat):Int))
   (Q:=fun x=>∃ e' h',x=.exit 0 e' h'∧Fx (fun b=>b=bl) h h'∧h'.Row bl el (iv (EB l)++Z)) n (by omega) (fun i e' g ⟨A,B,hAB,hAi,hsr,fx,R,t0,t1,t2,t6⟩=>?_) ⟨l.take 1,l.drop 1,by rw[List.length_take,List.length_drop];omega,?_,rfl,.refl W,by rw[List.take_append_drop];exact Rw,s0,s1,s2,s6⟩
  ·have W':=fx.wf
   cases B with
   |nil=>
    right
    have hA:A.length=n:=by simp only[List.length_nil]at hAB;omega
    have c1:iLt ((i+1:Nat):Int) (n:Int)=false:=DI (by omega)
    have hrun:∃ e3,noB (call AD (m+3)) e' g=.exit 0 e3 g:=by
     rw[X0]
     unfold bn
     simp only[sT,Nat.reduceLT,Nat.reduceEqDiff,reduceIte,AL,AK,t6,t2,c1]
     exact⟨_,rfl⟩
    obtain⟨e3,r1⟩:=hrun
    rw[r1]
    refine⟨rfl,e3,g,rfl,fx,?_⟩
    rw[← hsr]
    rw[List.append_nil]at R
    exact R
   |cons x B=>
    left
    rw[List.length_cons]at hAB
    have hA:A.length=i+1:=by
     rcases hAi with h1|⟨h1,_⟩
     ·exact h1
     ·cases h1
    have c1:iLt ((i+1:Nat):Int) (n:Int)=true:=E8 (by omega)
    obtain⟨e2,h2,i1,f2,R2,i2⟩:=Uy (m:=m) (e:=Env.set 7 (.int .i64 ((i+1:Nat):Int)) (Env.set 12 (.bool true) e')) W' R h256 (by rw[List.length_append,List.length_cons];omega) hl (by simp only[AG,Nat.reduceLT,Nat.reduceEqDiff,reduceIte];exact t0) (by simp only[AG,Nat.reduceLT,Nat.reduceEqDiff,reduceIte];exact t1) (by simp only[AG,Nat.reduceLT,Nat.reduceEqDiff,reduceIte,hA])
    have g0:=i2 0 (by omega)
    have g1:=i2 1 (by omega)
    have g2:=i2 2 (by omega)
    have g6:=i2 6 (by omega)
    simp only[AG,Nat.reduceLT,Nat.reduceEqDiff,reduceIte,t0]at g0
    simp only[AG,Nat.reduceLT,Nat.reduceEqDiff,reduceIte,t1]at g1
    simp only[AG,Nat.reduceLT,Nat.reduceEqDiff,reduceIte,t2]at g2
    simp only[AG,Nat.reduceLT,Nat.reduceEqDiff,reduceIte,t6]at g6
    have a3:FK .i64 (.int .i64 ((i+1:Nat):Int)) (.int .i64 1) h2=.ok (.int .i64 ((i+1+1:Nat):Int)) h2:=CQ (by omega)
    have hrun:∃ e3,noB (call AD (m+3)) e' g=.norm e3 h2∧AB 0 e3=.slice (some ⟨bl,0,none⟩) n c∧AB 1 e3=.int .i64 0∧AB 2 e3=.int .i64 (n:Int)∧AB 6 e3=.int .i64 ((i+1+1:Nat):Int):=by
     rw[X0]
     unfold bn
     simp only[sT,Nat.reduceLT,Nat.reduceEqDiff,reduceIte,AL,AK,t6,t2,c1,i1,g6,BK,a3]
     exact⟨_,rfl,by simp only[AG,Nat.reduceLT,Nat.reduceEqDiff,reduceIte];exact g0,by simp only[AG,Nat.reduceLT,Nat.reduceEqDiff,reduceIte];exact g1,by simp only[AG,Nat.reduceLT,Nat.reduceEqDiff,reduceIte];exact g2,by simp[AG]⟩
    obtain⟨e3,r1,r2,r3,r4,r5⟩:=hrun
    have il:(Mi A x).length=A.length+1:=(NM A x).length_eq
    exact⟨by omega,e3,h2,r1,Mi A x,B,by omega,.inl (by omega),hsr,fx.trans f2,R2,r2,r3,r4,r5⟩
  ·cases l with
   |nil=>exact .inr ⟨rfl,Nat.zero_le _⟩
   |cons k l=>exact .inl rfl
 have a1:FK .i64 (.int .i64 0) (.int .i64 1) h=.ok (.int .i64 ((1:Nat):Int)) h:=CQ (i:=0) (by omega)
 obtain⟨e2,h2,r1,x2⟩:=run (Env.set 6 (.int .i64 ((1:Nat):Int)) (Env.set 9 (.int .i64 ((1:Nat):Int)) (AQ e0 0 [.slice (some ⟨bl,0,none⟩) n c,.int .i64 0,.int .i64 (n:Int)]))) (by simp only[iN,Nat.reduceAdd,AG,Nat.reduceLT,Nat.reduceEqDiff,reduceIte]) (by simp only[iN,Nat.reduceAdd,AG,Nat.reduceLT,Nat.reduceEqDiff,reduceIte]) (by simp only[iN,Nat.reduceAdd,AG,Nat.reduceLT,Nat.reduceEqDiff,reduceIte]) (by simp[AG])
 simp only[iN,Nat.reduceAdd]at r1
 refine⟨h2,?_,x2⟩
 rw[Zz rfl,aK]
 unfold Wy
 simp only[iN,Nat.reduceAdd,sT,Nat.reduceLT,Nat.reduceEqDiff,reduceIte,BK,a1,r1,EK,Do]
theorem aF:aE=Wx:=rfl
theorem kU:npB=kW:=rfl
theorem Y6(W:h.Wf){l:List Nat}(Rw:h.Row bl el (iv l++Z))(h256:256≤bl)(hn:n=l.length)(hl:n≤12):
  ∃ h',call AD (m+6) 82 [.slice (some ⟨bl,0,none⟩) n c] h=.ok noRes h'∧Fx (fun b=>b=bl) h h'∧h'.Row bl el (iv (EB l)++Z):=by
 obtain⟨h2,k2,x2,R2⟩:=Va (m:=m) (c:=c) W Rw h256 hn (by omega)
 obtain⟨k,kb⟩:=Nw (m:=m+3) (h:=h) (n:=n) (by omega)
 have cv:DR .u64 (.int .i64 (n:Int)) h=.ok (.int .u64 (n:Int)) h:=by rw[Ck,D7 (by omega)]
 have a1:Fl Int.sub .i64 (.int .i64 (n:Int)) (.int .i64 0) h=.ok (.int .i64 (n:Int)) h:=by
  have:Int.sub (n:Int) 0=(n:Int):=Int.sub_zero _
  rw[CT,this,Ba (by omega)]
 have c1:iLe (n:Int) 12=true:=KF (by omega)
 have pd:call AD (m+5) 108 [.slice (some ⟨bl,0,none⟩) n c,.int .i64 0,.int .i64 (n:Int),.int .i64 (k:Int)] h=.ok noRes h2:=by
  have hb:∃ e2,npB (call AD (m+4)) (Env.set 9 (.bool true) (Env.set 8 (.bool true) (AQ e0 0 [.slice (some ⟨bl,0,none⟩) n c,.int .i64 0,.int .i64 (n:Int),.int .i64 (k:Int)]))) h=.ret e2 h2:=by
   rw[kU]
   unfold kW
   simp only[iN,Nat.reduceAdd,sT,Nat.reduceLT,Nat.reduceEqDiff,reduceIte,Bs,a1,AL,AK,c1,cA0,k2]
   exact⟨_,rfl⟩
  obtain⟨e2,r1⟩:=hb
  have r1:=L2 r1
  simp only[iN,Nat.reduceAdd]at r1
  rw[Zx rfl,aF]
  unfold Wx
  simp only[iN,Nat.reduceAdd,sT,Nat.reduceLT,Nat.reduceEqDiff,reduceIte,r1,BX,Do]
 refine⟨h2,?_,x2,R2⟩
 rw[i7 rfl]
 unfold d82
 simp only[iN,Nat.reduceAdd,sT,Nat.reduceLT,Nat.reduceEqDiff,reduceIte,Ae,Dt,CJ,cv,cA0,kb,pd,EK,Do]
end
end
end Go.Proofs.YtedbmmfebjfibaaGreat

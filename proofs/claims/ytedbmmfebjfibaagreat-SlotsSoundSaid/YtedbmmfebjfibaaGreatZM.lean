/-
  Part ZM of what Lawso stands on: printed by program, names and spaces cut.
-/
import Derived.Test.YtedbmmfebjfibaaGreatZL
set_option linter.unusedVariables false
set_option linter.unusedSimpArgs false
namespace Go.Proofs.YtedbmmfebjfibaaGreat
noncomputable section
open Go
set_option maxRecDepth 100000
abbrev f86:Value:=.func (.func 86) ⟨[]⟩ ⟨[]⟩
theorem S4{n:Nat}{h:Hp}{c:Nat}:call AG (n+1) 86 [.int .u8 (c:Int)] h=.ok (.bool (iNe (c:Int) 0)) h:=by
 rw[ed rfl]
 unfold d86
 simp only[AJ,AK,Nat.succ_eq_add_one,Nat.zero_add,Nat.reduceAdd,sT,Nat.reduceLT,Nat.reduceEqDiff,if_true,if_false,reduceIte,AS,AQ,AP,Aa]
theorem Vh{n:Nat}{h:Hp}{u:Value}{l:List Nat}(V:h.Vals u (l.map bv))(hl:l.length≤900000){e:Env}(s0:AB 0 e=u)(s1:AB 1 e=f86)(s7:AB 7 e=.int .i64 (l.length:Int))(s8:AB 8 e=.int .i64 ((0:Nat):Int)):
  (∃ e',A1 ifB (call AG (n+1)) e h=.exit 0 e' h∧∀ x∈l,x=0)∨(∃ e' i,A1 ifB (call AG (n+1)) e h=.ret e' h∧AB 4 e'=.int .i64 ((i:Nat):Int)∧∃ x∈l,x≠0):=by
 refine Bz (I:=fun i e' h'=>h'=h∧AB 0 e'=u∧AB 1 e'=f86∧AB 7 e'=.int .i64 (l.length:Int)∧AB 8 e'=.int .i64 (i:Int)∧i≤l.length∧((∀ x∈l,x=0)↔∀ x∈l.drop i,x=0))
  (Q:=fun x=>(∃ e',x=.exit 0 e' h∧∀ x∈l,x=0)∨(∃ e' i,x=.ret e' h∧AB 4 e'=.int .i64 ((i:Nat):Int)∧∃ x∈l,x≠0)) l.length (by omega) (fun i e' h' ⟨hh,t0,t1,t7,t8,hi,hr⟩=>?_) ⟨rfl,s0,s1,s7,s8,Nat.zero_le _,by simp⟩
 subst hh
 by_cases hlt:i<l.length
 ·obtain⟨a,g1,g2⟩:=IP V hlt
  have hmem:l.getD i 0∈l:=by
   rw[List.getD_eq_getElem?_getD,List.getElem?_eq_getElem hlt];exact List.getElem_mem hlt
  rw[F0 hlt]at hr
  generalize l.getD i 0=c at g2 hr hmem
  have c1:=E8 hlt
  have k1:=S4 (n:=n) (h:=h') (c:=c)
  by_cases hc:c=0
  ·left
   subst hc
   have k1:call AG (n+1) 86 [.int .u8 ((0:Nat):Int)] h'=.ok (.bool false) h':=k1
   have a3:=C1 (i:=i) (h:=h') (by omega)
   have hrun:∃ e2,ifB (call AG (n+1)) e' h'=.norm e2 h'∧AB 0 e2=u∧AB 1 e2=f86∧AB 7 e2=.int .i64 (l.length:Int)∧AB 8 e2=.int .i64 ((i+1:Nat):Int):=by
    unfold ifB
    simp only[sT,Nat.reduceLT,Nat.reduceEqDiff,if_true,if_false,reduceIte,AS,AQ,t8,t7,c1,Bb,t0,g1,AV,g2,Ci,t1,CU,AN,AX,List.nil_append,List.append_nil,k1,BZ,a3]
    exact⟨_,rfl,by simp only[AE,Nat.reduceLT,Nat.reduceEqDiff,if_true,if_false,reduceIte];exact t0,by simp only[AE,Nat.reduceLT,Nat.reduceEqDiff,if_true,if_false,reduceIte];exact t1,by simp only[AE,Nat.reduceLT,Nat.reduceEqDiff,if_true,if_false,reduceIte];exact t7,by simp[AE]⟩
   obtain⟨e2,q1,q2,q3,q4,q5⟩:=hrun
   refine⟨hlt,e2,h',q1,rfl,q2,q3,q4,q5,hlt,hr.trans ?_⟩
   simp
  ·right
   have c2:iNe (c:Int) 0=true:=by rw[G3];simpa using hc
   rw[c2]at k1
   have hrun:∃ e2,ifB (call AG (n+1)) e' h'=.ret e2 h'∧AB 4 e2=.int .i64 (i:Int):=by
    unfold ifB
    simp only[sT,Nat.reduceLT,Nat.reduceEqDiff,if_true,if_false,reduceIte,AS,AQ,t8,t7,c1,Bb,t0,g1,AV,g2,Ci,t1,CU,AN,AX,List.nil_append,List.append_nil,k1]
    exact⟨_,rfl,by simp[AE]⟩
   obtain⟨e2,q1,q2⟩:=hrun
   rw[q1]
   exact⟨rfl,.inr ⟨e2,i,rfl,q2,c,hmem,hc⟩⟩
 ·right
  have c1:=DU (show l.length≤i by omega)
  have hrun:∃ e2,ifB (call AG (n+1)) e' h'=.exit 0 e2 h':=by
   unfold ifB
   simp only[sT,Nat.reduceLT,Nat.reduceEqDiff,if_true,if_false,reduceIte,AS,AQ,t8,t7,c1]
   exact⟨_,rfl⟩
  obtain⟨e2,q1⟩:=hrun
  rw[q1]
  refine⟨rfl,.inl ⟨e2,rfl,hr.2 ?_⟩⟩
  rw[List.drop_of_length_le (by omega)]
  intro x hx;cases hx
theorem QQ{n:Nat}{h:Hp}{u:Value}{l:List Nat}(V:h.Vals u (l.map bv))(hl:l.length≤900000):∃ r:Bool,call AG (n+3) 85 [u,f86] h=.ok (.bool r) h∧(r=true↔∃ x∈l,x≠0):=by
 have Vl:=V.bl h
 have pre:∃ e1,MR (call AG (n+1)) (AZ e0 0 [u,f86]) h=ifS (call AG (n+1)) e1 h∧AB 0 e1=u∧AB 1 e1=f86∧AB 7 e1=.int .i64 (l.length:Int)∧AB 8 e1=.int .i64 ((0:Nat):Int):=by
  unfold MR
  simp only[AJ,AK,Nat.succ_eq_add_one,Nat.zero_add,Nat.reduceAdd,sT,Nat.reduceLT,Nat.reduceEqDiff,if_true,if_false,reduceIte,Ay,Vl]
  exact⟨_,rfl,by simp[AE],by simp[AE],by simp[AE],by simp only[AE,Nat.reduceLT,Nat.reduceEqDiff,if_true,if_false,reduceIte];rfl⟩
 obtain⟨e1,p1,p2,p3,p4,p5⟩:=pre
 rcases Vh (n:=n) V hl p2 p3 p4 p5 with ⟨e2,q1,q2⟩|⟨e2,i,q1,q2,q3⟩
 ·have k1:call AG (n+2) 109 [u,f86] h=.ok (.int .i64 (-1)) h:=by
   rw[KC rfl,KD,p1,NP]
   simp only[BU,A3,q1,A9,BH]
   unfold ifE
   simp only[sT,Nat.reduceLT,Nat.reduceEqDiff,if_true,if_false,reduceIte,AP,Aa]
  refine⟨false,?_,by simp;exact q2⟩
  have c1:iGe (-1) 0=false:=FZ (by omega)
  rw[NE rfl]
  unfold d85
  simp only[AJ,AK,Nat.succ_eq_add_one,Nat.zero_add,Nat.reduceAdd,sT,Nat.reduceLT,Nat.reduceEqDiff,if_true,if_false,reduceIte,Ab,AN,AX,k1,AS,AQ,c1,AP,Aa]
 ·have k1:call AG (n+2) 109 [u,f86] h=.ok (.int .i64 (i:Int)) h:=by
   rw[KC rfl,KD,p1,NP]
   simp only[BU,A3,q1,CY,DD,AP,Aa,q2]
  refine⟨true,?_,by simp only[true_iff];exact q3⟩
  have c1:iGe (i:Int) 0=true:=Jr (by omega)
  rw[NE rfl]
  unfold d85
  simp only[AJ,AK,Nat.succ_eq_add_one,Nat.zero_add,Nat.reduceAdd,sT,Nat.reduceLT,Nat.reduceEqDiff,if_true,if_false,reduceIte,Ab,AN,AX,k1,AS,AQ,c1,AP,Aa]
def K0:Kt:=⟨0,0,0,0,[],0,.slice none 0 0⟩
theorem Xf:ED.zero=Al K0:=by kernel_rfl
theorem Ge:B6 .mt 0 (Al K0)=some DA:=by kernel_rfl
section
variable {F:CallF}{e:Env}{h g:Hp}{A:At}{T M:List Nat}{c0 bad m:Nat}{arm:Int}{lv fv:Value}{ov:Bool}
theorem EI{h:Hp}{t u v w:Value}{l:List Value}:F1 3 (.tuple ⟨t::u::v::w::l⟩) h=.ok w h:=rfl
theorem JH:Bj ED.zero [] F e h=.ok (ktV K0) h:=by
 rw[EO,CV,Xf];rfl
theorem RR{a b c:Int}{s p:Nat}{u:Value}{l:List Nat}{g1 g2:O}(h1:g1 e=CI a b c s u)(h2:g2 e=.int .i64 (p:Int)):Bj ED.zero [(0,5,g1),(5,1,g2)] F e h=.ok (ktV ⟨a,b,c,s,l,p,u⟩) h:=by
 rw[EO,Xf,BC (hk:=by rw[h1];rfl),h1,BC (hk:=by rw[h2];rfl),h2,
  if_pos (show(cellsOf (CI a b c s u)).length=5 from rfl),if_pos (show 0+5≤(Al K0).length by show 5≤6;omega),if_pos (show(cellsOf (.int .i64 (p:Int))).length=1 from rfl),if_pos (show 5+1≤(over (Al K0) 0 (cellsOf (CI a b c s u))).length by show 6≤6;omega),CV]
 rfl
theorem J7(W0:h.Wf)(x:h.Ext g){r:Nat}(hr:h.next≤r){L:List Value}(R:g.Row r 0 L)(hL:L.length=6){k:Kt}(hu:A6 k.u=true):
  storeR 6 (pt r) (ktV k) g=.ok noRes (g.wr r 0 (Al k))∧loadN 6 ⟨r,0,none⟩ (g.wr r 0 (Al k))=.ok (ktV k) (g.wr r 0 (Al k))∧h.Ext (g.wr r 0 (Al k))∧(g.wr r 0 (Al k)).Row r 0 (Al k)∧(g.wr r 0 (Al k)).next=g.next:=by
 have h256:256≤r:=by have:=W0.big;omega
 have ho:0+(Al k).length≤L.length:=by rw[hL];show 0+6≤6;omega
 have h1:Bg (Al k)=true:=by
  show(bif A6 k.u then true else false)=true
  rw[hu];rfl
 have st:=R.storeR (n:=6) (off:=0) x.wf h256 (v:=ktV k) rfl ho h1
 have wr:=R.wr_self x.wf ho
 rw[HI (show L.length=(Al k).length from hL)]at wr
 exact⟨st,wr.loadN (off:=0) (n:=6) (by show 0+6≤6;omega),R.wr_ext x hr ho,wr,R.wr_next ho⟩
def Em(T M:List Nat)(p:Nat)(ns:List Nat):Prop:=H3 T (sec M (3 * p)) ns∧at6 ns 4≤100∧BX T (dat M p (at6 ns 4))=at6 ns 5
def lkC:C:=(AF (AC 61) (AO 88 [(AB 0),(AB 1),(AB 12)])
(AF (AC 62) (AU 0 (AB 61))
(AF (AC 63) (AU 1 (AB 61))
(AF (AC 64) (AH 4 (AB 11))
(cDo (Ae 1 (AB 64) (AB 62))
(AF (AC 9) (AD (AB 63))
(AF (AC 66) (Ad iNe .i64 (AB 9) (kV (.int .i64 0)))
(AW (AB 66)
(AF (AC 67) (Bj ED.zero [])
(cDo (Ae 6 (AB 4) (AB 67))
(AF (AC 5) (AD (kV (.bool false)))
(AF (AC 6) (AD (kV (.bool false)))
(AF (AC 7) (AD (AB 9))
Aj)))))
(Bm (AF (AC 70) (BJ (AB 0))
(AF (AC 71) (AH 1 (AB 70))
(AF (AC 72) (AL (AB 71))
(AF (AC 73) (AH 4 (AB 11))
(AF (AC 74) (AL (AB 73))
(AF (AC 75) (Ak .free (AO 71 [(AB 72),(AB 74)]))
(AF (AC 77) (Ad iNe .u32 (AB 75) (AB 13))
(AW (AB 77)
(AF (AC 78) (Bj ED.zero [])
(cDo (Ae 6 (AB 4) (AB 78))
(AF (AC 5) (AD (kV (.bool false)))
(AF (AC 6) (AD (kV (.bool true)))
(AF (AC 7) (AD (kV (.int .i64 0)))
Aj)))))
(AF (AC 79) (BE 5 (AB 11))
(AF (AC 81) (Bj ED.zero [(0,5,(AB 79)),(5,1,(AB 1))])
(cDo (Ae 6 (AB 4) (AB 81))
(AF (AC 5) (AD (kV (.bool true)))
(AF (AC 6) (AD (kV (.bool false)))
(AF (AC 7) (AD (kV (.int .i64 0)))
Aj)))))))))))))))))))))))
def Vt:C:=(AF (AC 45) (CP (AB 14))
(cG (AB 45) false (AC 47) (AD (AB 12))
(cG (AB 45) false (AC 48) (AD (AB 0))
(cG (AB 45) false (AC 49) (BJ (AB 48))
(cG (AB 45) false (AC 50) (AH 2 (AB 49))
(cG (AB 45) false (AC 51) (AL (AB 50))
(cG (AB 45) false (AC 52) (Ad iGt .i64 (AB 47) (AB 51))
(AF (AC 53) (Am (AB 45) (kV (.bool true)) (AB 52))
(AW (AB 53)
(AF (AC 54) (Bj ED.zero [])
(AF (AC 56) (CP (AB 10))
(cDo (Ae 6 (AB 4) (AB 54))
(AF (AC 5) (AD (kV (.bool false)))
(AF (AC 6) (AD (AB 56))
(AF (AC 7) (AD (kV (.int .i64 0)))
Aj))))))
lkC)))))))))
theorem NX:lkB=Vt:=rfl
theorem fU:d55=TG:=rfl
theorem nP{e:Env}{h:Hp}{r4:Nat}{v:Value}{a b:Bool}{c:Int}(s4:AB 4 e=pt r4)(s5:AB 5 e=.bool a)(s6:AB 6 e=.bool b)(s7:AB 7 e=.int .i64 c)(hv:loadN 6 ⟨r4,0,none⟩ h=.ok v h):BB [.cN (AB 4) 6,.t (AB 5),.t (AB 6),.t (AB 7)] (.ret e h)=.ok (.tuple ⟨[v,.bool a,.bool b,.int .i64 c]⟩) h:=by
 rw[AP,JQ (v:=v) (by rw[s4,BF];exact hv),s5,s6,s7]
def bQ(T M:List Nat)(p:Nat)(h h':Hp)(r:R):Prop:=
 (∃ ns u,Em T M p ns∧r=.ok (.tuple ⟨[ktV ⟨at6 ns 1,at6 ns 2,at6 ns 3,at6 ns 0,dat M p (at6 ns 4),p,u⟩,.bool true,.bool false,.int .i64 0]⟩) h'∧h'.BS (fun b=>h.next≤b) u ((dat M p (at6 ns 4)).map bv))∨
 ((¬ ∃ ns,Em T M p ns)∧∃ bad:Bool,r=.ok (.tuple ⟨[ktV K0,.bool false,.bool bad,.int .i64 0]⟩) h'∧(bad=true↔(∃ x∈sec M (3 * p),x≠0)∨∃ ns,H3 T (sec M (3 * p)) ns∧at6 ns 4≤100))
theorem GD{T l a b:List Nat}(h1:H3 T l a)(h2:H3 T l b):a=b:=by
 obtain⟨x,q,a1,a2,a3,_⟩:=h1
 obtain⟨y,r,b1,b2,b3,_⟩:=h2
 rw[a1]at b1
 cases b1
 rw[a3]at b3
 cases b3;rfl
theorem PY{T l ns:List Nat}(h:H3 T l ns):Zv ns:=by
 obtain⟨_,_,_,_,_,h4,_⟩:=h
 exact Zw.1 h4
theorem SO(W:h.Wf){bs bd bm bc tb n:Nat}(R:h.Row bs 0 (slL bd tb lv fv bad ov))(Rt:h.Row tb 0 (T.map wv))(hT:TblOk T)(d:Dk h bd bm bc n M c0 [] arm false){p:Nat}(hp:3 * p+3≤n):
  ∃ h',h.Ext h'∧bQ T M p h h' (call AG (m+5) 55 [pt bs,.int .i64 (p:Int)] h):=by
 have hn:=d.n1
 have al:=fun (F:CallF) (e:Env)=>Bt (F:=F) (e:=e) W (n:=6) (t:=DA)
 have R4:=Hp.Row.alloc W Ge (show(Al K0).length=6 from rfl)
 have x1:h.Ext (h.push (.cells DA 6 0)):=(Hp.Ext.refl W).push _
 have n1:(h.push (.cells DA 6 0)).next=h.next+1:=rfl
 generalize h.push (.cells DA 6 0)=h1 at al R4 x1 n1
 have xm:=x1.marked
 have Rm:=R.ext W xm
 have old:∀ (off:Nat) (kk:C) (F:CallF) (e:Env),Ja (.pointer (some ⟨bs,off,none⟩)) kk F e h1.marked=kk F e h1.marked:=fun off kk F e=>D7 (by
  show bs<h1.next
  have:=R.lt W
  omega)
 obtain⟨l0,_⟩:=BN Rm
 have k1:=MN (m:=m+2) (Rm.same (h':=h1.marked.quiet) rfl) (p:=p) (by omega)
 have q1:∀ e:Env,AB 0 e=pt bs→AB 1 e=.int .i64 (p:Int)→Ak .weak (AO 46 [AB 0,AB 1]) (call AG (m+4)) e h1.marked=.ok (.int .i64 ((p * 3:Nat):Int)) (h1.marked.back h1.marked.quiet):=fun e e1 e2=>by
  refine HL x1.wf.marked ?_ (Nat.le_refl _)
  rw[Ab,AN,AN,AX,e1,e2];exact k1
 have y2:h1.Ext (h1.marked.back h1.marked.quiet):=Hp.Ext.back2 (Hp.Ext.refl x1.wf).marked (Hp.Ext.refl x1.wf).marked.quiet
 have n2:(h1.marked.back h1.marked.quiet).next=h1.next:=rfl
 generalize h1.marked.back h1.marked.quiet=h2 at q1 y2 n2
 have x2:=x1.trans y2
 obtain⟨h3,v,k2,y3,mk,n3,_⟩:=Sj (m:=m+1) x2.quiet.wf ((d.ext W x2).same (h':=h2.quiet) rfl) (i:=p * 3) (by omega)
 have q2:∀ e:Env,AB 19 e=pt bd→AB 22 e=.int .i64 ((p * 3:Nat):Int)→Ak .free (AO 84 [AB 19,AB 22]) (call AG (m+4)) e h2=.ok (.tuple ⟨[v,.int .i64 0]⟩) (h2.back h3):=fun e e1 e2=>by
  refine Bq ?_
  rw[Ab,AN,AN,AX,e1,e2];exact k2
 have y4:h2.Ext (h2.back h3):=.back y3
 have mk4:Mk (h2.back h3) h2.quiet.next v (sec M (p * 3)):=mk.same rfl
 generalize h2.back h3=h4 at q2 y4 mk4
 rw[Nat.mul_comm p 3]at mk4
 have x4:=x2.trans y4
 have c0':iNe 0 0=false:=Db rfl
 have hsl:(sec M (3 * p)).length=64:=EZ d.len (by omega)
 have hsb:=gu d.byt (3 * p)
 obtain⟨r,k3,hr⟩:=QQ (n:=m+1) mk4.vals (by omega)
 obtain⟨_,l1,_⟩:=BN (R.ext W x4)
 obtain⟨h5,y5,hpar⟩:=Wr (n:=m) x4.wf (Rt.ext W x4) hT mk4.vals mk4.cap hsb (by omega)
 have x5:=x4.trans y5
 have al2:=fun (F:CallF) (e:Env)=>Bt (F:=F) (e:=e) x5.wf (n:=5) (t:=CN)
 have R11:=Hp.Row.alloc x5.wf Fo (show(A0 0 0 0 0 nilS).length=5 from rfl)
 have y6:h5.Ext (h5.push (.cells CN 5 0)):=(Hp.Ext.refl x5.wf).push _
 have n6:(h5.push (.cells CN 5 0)).next=h5.next+1:=rfl
 generalize h5.push (.cells CN 5 0)=h6 at al2 R11 y6 n6
 have x6:=x5.trans y6
 have hn5:=x5.next
 have hn15:h.next+1≤h5.next:=by
  have:=((y2.trans y4).trans y5).next
  omega
 have pre:∀ (a b c:Int) (s many sum:Nat) (ok:Bool),call AG (m+4) 87 [pt tb,v] h4=.ok (.tuple ⟨[CI a b c s nilS,.int .i64 (many:Int),.int .u32 (sum:Int),.bool ok]⟩) h5→
   ∃ e1 h7,TG (call AG (m+4)) (AZ e0 0 [pt bs,.int .i64 (p:Int)]) h=lkB (call AG (m+4)) e1 h7∧h.Ext h7∧h7.Row h5.next 0 (A0 a b c s nilS)∧h7.Row h.next 0 (Al K0)∧h5.next<h7.next∧AB 0 e1=pt bs∧AB 1 e1=.int .i64 (p:Int)∧AB 4 e1=pt h.next∧AB 10 e1=.bool (!r)∧AB 11 e1=pt h5.next∧AB 12 e1=.int .i64 (many:Int)∧AB 13 e1=.int .u32 (sum:Int)∧AB 14 e1=.bool ok:=fun a b c s many sum ok hk=>by
  obtain⟨st,_,x7,R7,n7⟩:=J6 x5.wf y6 (Nat.le_refl _) R11 rfl (a:=a) (b:=b) (c:=c) (s:=s) (u:=nilS) rfl
  have R4':(h6.wr h5.next 0 (A0 a b c s nilS)).Row h.next 0 (Al K0):=((R4.ext x1.wf ((y2.trans y4).trans y5)).ext x5.wf x7)
  generalize h6.wr h5.next 0 (A0 a b c s nilS)=h7 at st x7 R7 n7 R4'
  have hrun:∃ e1,TG (call AG (m+4)) (AZ e0 0 [pt bs,.int .i64 (p:Int)]) h=lkB (call AG (m+4)) e1 h7∧AB 0 e1=pt bs∧AB 1 e1=.int .i64 (p:Int)∧AB 4 e1=pt h.next∧AB 10 e1=.bool (!r)∧AB 11 e1=pt h5.next∧AB 12 e1=.int .i64 (many:Int)∧AB 13 e1=.int .u32 (sum:Int)∧AB 14 e1=.bool ok:=by
   unfold TG
   simp only[AJ,AK,Nat.succ_eq_add_one,Nat.zero_add,Nat.reduceAdd,sT,Nat.reduceLT,Nat.reduceEqDiff,if_true,if_false,reduceIte,al,BD,A4,Az,AM,AY,Nat.zero_add,EW,old,DY,AV,Ac,l0,q1,q2,BM,BV,Ba,Cj,EI,AS,AQ,c0',Ab,AN,AX,k3,CG,CF,l1,hk,al2,Av,st]
   exact⟨_,rfl,by simp[AE],by simp[AE],by simp[AE],by simp[AE],by simp[AE],by simp[AE],by simp[AE],by simp[AE]⟩
  obtain⟨e1,q⟩:=hrun
  exact⟨e1,h7,q.1,x5.trans x7,R7,R4',by omega,q.2⟩
 have res:∀ (hx g:Hp) (e1 e2:Env) (a b:Bool) (v:Value),TG (call AG (m+4)) (AZ e0 0 [pt bs,.int .i64 (p:Int)]) h=lkB (call AG (m+4)) e1 hx→lkB (call AG (m+4)) e1 hx=.ret e2 g→AB 4 e2=pt h.next→AB 5 e2=.bool a→AB 6 e2=.bool b→AB 7 e2=.int .i64 0→loadN 6 ⟨h.next,0,none⟩ g=.ok v g→
   call AG (m+5) 55 [pt bs,.int .i64 (p:Int)] h=.ok (.tuple ⟨[v,.bool a,.bool b,.int .i64 0]⟩) g:=fun hx g e1 e2 a b v i1 i2 t4 t5 t6 t7 hv=>by
  rw[eC rfl,fU,i1,i2]
  exact nP t4 t5 t6 t7 hv
 have K0u:A6 K0.u=true:=rfl
 rcases hpar with ⟨ns,hP,hk⟩|⟨hP,hk⟩
 ·have hnum:=PY hP
  obtain⟨e1,h7,p1,x7,R7,R47,hlt7,s0,s1,s4,s10,s11,s12,s13,s14⟩:=pre _ _ _ _ (at6 ns 4) (at6 ns 5) true hk
  obtain⟨_,_,l2,_⟩:=BN (R.ext W x7)
  by_cases hmany:at6 ns 4≤100
  ·have c1:iGt (at6 ns 4:Int) 100=false:=Gk (by omega)
   obtain⟨h8,u,k4,y8,vs8⟩:=Uo (m:=m) x7.wf (R.ext W x7) (d.ext W x7) (p:=p) (k:=at6 ns 4) hp (by omega)
   have x8:=x7.trans y8
   have R8:=R7.ext x7.wf y8
   have u1:=vs8.vs.one
   have ho4:4+(cellsOf u).length≤(A0 (at6 ns 1) (at6 ns 2) (at6 ns 3) (at6 ns 0) nilS).length:=by rw[u1.1];show 4+1≤5;omega
   have h256:256≤h5.next:=by have:=W.big;omega
   have st8:storeR 1 (.pointer (some ⟨h5.next,4,none⟩)) u h8=.ok noRes (h8.wr h5.next 4 (cellsOf u)):=R8.storeR (n:=1) (off:=4) x8.wf h256 (by rw[u1.1];rfl) ho4 (by
    rw[u1.1]
    show(bif A6 u then true else false)=true
    rw[u1.2.1];rfl)
   have R9:=R8.wr_self x8.wf ho4
   have x9:=R8.wr_ext x8 (by omega) ho4
   have n9:=R8.wr_next ho4
   have R49:=R8.wr_other x8.wf ho4 (R47.ext x7.wf y8) (by omega)
   have hkeep:∀ b el L,b≠h5.next→h8.Row b el L→(h8.wr h5.next 4 (cellsOf u)).Row b el L:=fun b el L hb r=>R8.wr_other x8.wf ho4 r hb
   have hov:over (A0 (at6 ns 1) (at6 ns 2) (at6 ns 3) (at6 ns 0) nilS) 4 (cellsOf u)=A0 (at6 ns 1) (at6 ns 2) (at6 ns 3) (at6 ns 0) u:=by rw[u1.1];rfl
   rw[hov]at R9
   have vs9:(h8.wr h5.next 4 (cellsOf u)).BS (fun b=>h7.next≤b) u ((dat M p (at6 ns 4)).map bv):=vs8.keep fun b el L hb _ r=>hkeep b el L (by omega) r
   generalize h8.wr h5.next 4 (cellsOf u)=h9 at st8 R9 x9 n9 R49 vs9
   have x9m:=x9.marked
   have R9m:h9.marked.Row h5.next 0 (A0 (at6 ns 1) (at6 ns 2) (at6 ns 3) (at6 ns 0) u):=R9.same rfl
   obtain⟨_,_,_,_,lu,_⟩:=Ca R9m
   obtain⟨_,l1',_⟩:=BN (R.ext W x9m)
   have hdl:(dat M p (at6 ns 4)).length=at6 ns 4:=IZ d.len (by omega)
   obtain⟨hq,k5,hq2⟩:=RH (n:=m+3) (h:=h9.marked.quiet) ((Rt.ext W x9).same rfl) hT (vs9.vs.vals.same (h':=h9.marked.quiet) rfl) (VM d.byt p _) (by omega)
   have yq:h9.marked.quiet.Ext hq:=by
    rcases hq2 with rfl|rfl
    ·exact Hp.Ext.refl x9m.quiet.wf
    ·exact(Hp.Ext.refl x9m.quiet.wf).marked
   have nq:hq.next=h9.next:=by rcases hq2 with rfl|rfl<;>rfl
   have q5:∀ e:Env,AB 72 e=pt tb→AB 74 e=u→Ak .free (AO 71 [AB 72,AB 74]) (call AG (m+4)) e h9.marked=.ok (.int .u32 ((BX T (dat M p (at6 ns 4)):Nat):Int)) (h9.marked.back hq):=fun e e1 e2=>by
    refine Bq ?_
    rw[Ab,AN,AN,AX,e1,e2];exact k5
   have y10:h9.marked.Ext (h9.marked.back hq):=.back yq
   have n10:(h9.marked.back hq).next=h9.next:=nq
   generalize h9.marked.back hq=h10 at q5 y10 n10
   have x10:=x9m.trans y10
   have R10:=R9m.ext x9m.wf y10
   have R410:h10.Row h.next 0 (Al K0):=(R49.same (h':=h9.marked) rfl).ext x9m.wf y10
   have vs10:h10.BS (fun b=>h7.next≤b) u ((dat M p (at6 ns 4)).map bv):=(vs9.same (h':=h9.marked) rfl).ext x9m.wf y10
   obtain⟨_,_,_,_,_,ln⟩:=Ca R10
   have hslot0:at6 ns 0≤2:=hnum.1
   by_cases hsum:BX T (dat M p (at6 ns 4))=at6 ns 5
   ·have c2:iNe ((BX T (dat M p (at6 ns 4)):Nat):Int) ((at6 ns 5:Nat):Int)=false:=Db (by rw[hsum])
    have bd1:∀ (F:CallF) (e:Env),AB 79 e=CI (at6 ns 1) (at6 ns 2) (at6 ns 3) (at6 ns 0) u→AB 1 e=.int .i64 (p:Int)→Bj ED.zero [(0,5,AB 79),(5,1,AB 1)] F e h10=.ok (ktV ⟨at6 ns 1,at6 ns 2,at6 ns 3,at6 ns 0,dat M p (at6 ns 4),p,u⟩) h10:=fun F e e1 e2=>RR e1 e2
    obtain⟨w1,w2,w3,w4,w5⟩:=J7 W x10 (Nat.le_refl _) R410 rfl (k:=⟨at6 ns 1,at6 ns 2,at6 ns 3,at6 ns 0,dat M p (at6 ns 4),p,u⟩) u1.2.1
    have hk11:∀ b el L,b≠h.next→h10.Row b el L→(h10.wr h.next 0 (Al ⟨at6 ns 1,at6 ns 2,at6 ns 3,at6 ns 0,dat M p (at6 ns 4),p,u⟩)).Row b el L:=fun b el L hb r=>R410.wr_other x10.wf (by show 0+6≤6;omega) r hb
    have vs11:(h10.wr h.next 0 (Al ⟨at6 ns 1,at6 ns 2,at6 ns 3,at6 ns 0,dat M p (at6 ns 4),p,u⟩)).BS (fun b=>h7.next≤b) u ((dat M p (at6 ns 4)).map bv):=vs10.keep fun b el L hb _ r=>hk11 b el L (by have:=x7.next;omega) r
    generalize h10.wr h.next 0 (Al ⟨at6 ns 1,at6 ns 2,at6 ns 3,at6 ns 0,dat M p (at6 ns 4),p,u⟩)=h11 at w1 w2 w3 w4 w5 vs11
    have hrun:∃ e2,lkB (call AG (m+4)) e1 h7=.ret e2 h11∧AB 4 e2=pt h.next∧AB 5 e2=.bool true∧AB 6 e2=.bool false∧AB 7 e2=.int .i64 0:=by
     rw[NX]
     unfold Vt lkC
     simp only[sT,Nat.reduceLT,Nat.reduceEqDiff,if_true,if_false,reduceIte,gD,CG,CF,s14,Bool.not_true,s12,s0,A4,Az,AM,AY,Nat.zero_add,AV,Ac,l2,AS,AQ,c1,Ab,AN,AX,s1,k4,BM,BV,Ba,s11,Av,st8,c0',BD,l1',lu,q5,s13,c2,BP,BF,ln,bd1,s4,w1]
     exact⟨_,rfl,by simp only[AE,Nat.reduceLT,Nat.reduceEqDiff,if_true,if_false,reduceIte];exact s4,by simp[AE],by simp[AE],by simp[AE]⟩
    obtain⟨e2,i2,t4,t5,t6,t7⟩:=hrun
    exact⟨h11,w3,.inl ⟨ns,u,⟨hP,hmany,hsum⟩,res h7 h11 e1 e2 true false _ p1 i2 t4 t5 t6 t7 w2,vs11.mono fun b hb=>Nat.le_trans x7.next hb⟩⟩
   ·have c2:iNe ((BX T (dat M p (at6 ns 4)):Nat):Int) ((at6 ns 5:Nat):Int)=true:=Me (by omega)
    obtain⟨w1,w2,w3,w4,w5⟩:=J7 W x10 (Nat.le_refl _) R410 rfl (k:=K0) K0u
    generalize h10.wr h.next 0 (Al K0)=h11 at w1 w2 w3 w4 w5
    have hrun:∃ e2,lkB (call AG (m+4)) e1 h7=.ret e2 h11∧AB 4 e2=pt h.next∧AB 5 e2=.bool false∧AB 6 e2=.bool true∧AB 7 e2=.int .i64 0:=by
     rw[NX]
     unfold Vt lkC
     simp only[sT,Nat.reduceLT,Nat.reduceEqDiff,if_true,if_false,reduceIte,gD,CG,CF,s14,Bool.not_true,s12,s0,A4,Az,AM,AY,Nat.zero_add,AV,Ac,l2,AS,AQ,c1,Ab,AN,AX,s1,k4,BM,BV,Ba,s11,Av,st8,c0',BD,l1',lu,q5,s13,c2,JH,s4,w1]
     exact⟨_,rfl,by simp only[AE,Nat.reduceLT,Nat.reduceEqDiff,if_true,if_false,reduceIte];exact s4,by simp[AE],by simp[AE],by simp[AE]⟩
    obtain⟨e2,i2,t4,t5,t6,t7⟩:=hrun
    refine⟨h11,w3,.inr ⟨?_,true,res h7 h11 e1 e2 false true _ p1 i2 t4 t5 t6 t7 w2,⟨fun _=>.inr ⟨ns,hP,hmany⟩,fun _=>rfl⟩⟩⟩
    rintro⟨ns',a1,a2,a3⟩
    obtain rfl:=GD hP a1
    exact hsum a3
  ·have c1:iGt (at6 ns 4:Int) 100=true:=Hz (by omega)
   obtain⟨w1,w2,w3,w4,w5⟩:=J7 W x7 (Nat.le_refl _) R47 rfl (k:=K0) K0u
   generalize h7.wr h.next 0 (Al K0)=h11 at w1 w2 w3 w4 w5
   have hrun:∃ e2,lkB (call AG (m+4)) e1 h7=.ret e2 h11∧AB 4 e2=pt h.next∧AB 5 e2=.bool false∧AB 6 e2=.bool r∧AB 7 e2=.int .i64 0:=by
    rw[NX]
    unfold Vt
    simp only[sT,Nat.reduceLT,Nat.reduceEqDiff,if_true,if_false,reduceIte,gD,CG,CF,s14,Bool.not_true,s12,s0,A4,Az,AM,AY,Nat.zero_add,AV,Ac,l2,AS,AQ,c1,JH,s10,Bool.not_not,s4,Av,w1]
    exact⟨_,rfl,by simp only[AE,Nat.reduceLT,Nat.reduceEqDiff,if_true,if_false,reduceIte];exact s4,by simp[AE],by simp[AE],by simp[AE]⟩
   obtain⟨e2,i2,t4,t5,t6,t7⟩:=hrun
   refine⟨h11,w3,.inr ⟨?_,r,res h7 h11 e1 e2 false r _ p1 i2 t4 t5 t6 t7 w2,hr.trans ⟨.inl,?_⟩⟩⟩
   ·rintro⟨ns',a1,a2,a3⟩
    obtain rfl:=GD hP a1
    exact hmany a2
   ·rintro (h1|⟨ns',a1,a2⟩)
    ·exact h1
    ·obtain rfl:=GD hP a1
     exact absurd a2 hmany
 ·obtain⟨e1,h7,p1,x7,R7,R47,hlt7,s0,s1,s4,s10,s11,s12,s13,s14⟩:=pre 0 0 0 0 0 0 false hk
  obtain⟨w1,w2,w3,w4,w5⟩:=J7 W x7 (Nat.le_refl _) R47 rfl (k:=K0) K0u
  generalize h7.wr h.next 0 (Al K0)=h11 at w1 w2 w3 w4 w5
  have hrun:∃ e2,lkB (call AG (m+4)) e1 h7=.ret e2 h11∧AB 4 e2=pt h.next∧AB 5 e2=.bool false∧AB 6 e2=.bool r∧AB 7 e2=.int .i64 0:=by
   rw[NX]
   unfold Vt
   simp only[sT,Nat.reduceLT,Nat.reduceEqDiff,if_true,if_false,reduceIte,gD,CG,CF,s14,Bool.not_false,JH,s10,Bool.not_not,s4,Av,w1]
   exact⟨_,rfl,by simp only[AE,Nat.reduceLT,Nat.reduceEqDiff,if_true,if_false,reduceIte];exact s4,by simp[AE],by simp[AE],by simp[AE]⟩
  obtain⟨e2,i2,t4,t5,t6,t7⟩:=hrun
  refine⟨h11,w3,.inr ⟨fun⟨ns',a1,_⟩=>hP ⟨ns',a1⟩,r,res h7 h11 e1 e2 false r _ p1 i2 t4 t5 t6 t7 w2,hr.trans ⟨.inl,?_⟩⟩⟩
  rintro (h1|⟨ns',a1,_⟩)
  ·exact h1
  ·exact absurd ⟨ns',a1⟩ hP
end
end
noncomputable section
open Go
set_option maxRecDepth 100000
theorem Hg{h:Hp}{b b' el el':Nat}{L L':List Value}(r:h.Row b el L)(r':h.Row b' el' L')(he:el≠el'):b≠b':=fun hb=>by
 subst hb
 obtain⟨_,e1,_⟩:=r
 obtain⟨_,e2,_⟩:=r'
 rw[e1]at e2
 injection e2 with _ _ e3
 exact he e3
def Hp.Cl(h:Hp)(S:Nat→Prop)(en:Nat)(v:Value)(xs:List Value):Prop:=(v=nilS∧xs=[])∨∃ b el,v=.slice (some ⟨b,0,none⟩) xs.length xs.length∧h.Row b el xs∧(el=en+1∨el=0∧xs=[])∧S b∧256≤b
section
variable {F:CallF}{e:Env}{h h0 h':Hp}{S S':Nat→Prop}{en:Nat}{v u:Value}{xs ys:List Value}
theorem Hp.Cl.vs(o:h.Cl S en v xs):h.VS S v xs:=by
 rcases o with h1|⟨b,el,h1,h2,h3,h4,h5⟩
 ·exact .inl h1
 ·exact .inr ⟨b,0,_,el,xs,h1,Nat.le_refl _,h2,by omega,by rw[List.drop_zero,List.take_length],h4⟩
theorem Hp.Cl.keep(o:h.Cl S en v xs)(hk:∀ b el L,S b→h.Row b el L→h'.Row b el L):h'.Cl S en v xs:=by
 rcases o with h1|⟨b,el,h1,h2,h3,h4,h5⟩
 ·exact .inl h1
 ·exact .inr ⟨b,el,h1,hk _ _ _ h4 h2,h3,h4,h5⟩
theorem Hp.Cl.ext(o:h.Cl S en v xs)(W:h.Wf)(x:h.Ext h'):h'.Cl S en v xs:=o.keep fun _ _ _ _ r=>r.ext W x
theorem Hp.Cl.same(o:h.Cl S en v xs)(hb:h'.bl=h.bl):h'.Cl S en v xs:=o.keep fun _ _ _ _ r=>r.same hb
theorem Hp.Cl.mono(o:h.Cl S en v xs)(hs:∀ b,S b→S' b):h.Cl S' en v xs:=by
 rcases o with h1|⟨b,el,h1,h2,h3,h4,h5⟩
 ·exact .inl h1
 ·exact .inr ⟨b,el,h1,h2,h3,hs _ h4,h5⟩
theorem Hb{es eb b n:Nat}{cs:List Value}(x0:h0.Ext h)(r:h.Row b 0 [])(hs:∀ k:List Value→R,BQ h es u n k=k cs)(hlv:lenV u=.ok n)(hlen:cs.length=n * es)(hn:0<n)(ha:Bg cs=true)(hm:(n+1) * (eb+1)≤1099511627776):
  ∃ h',Eb es eb en (.slice (some ⟨b,0,none⟩) 0 0) u h=.ok (.slice (some ⟨h.next,0,none⟩) n n) h'∧h0.Ext h'∧h'.Row h.next (en+1) cs∧h'.next=h.next+1∧h.Ext h'∧h'.mark=h.mark∧h'.low=h.low∧h'.high=h.high:=by
 have W:=x0.wf
 obtain⟨cc,hcc,hl⟩:=r.rowOf
 obtain⟨t,h2,h3⟩:=Dq cs cc [] 0 hl (.inr rfl)
 have h3:t.Is cs:=by simpa using h3
 refine⟨h.push (.cells t cs.length (en+1)),?_,x0.push _,⟨t,by rw[W.push_get,if_pos rfl],h3⟩,rfl,(Hp.Ext.refl W).push _,rfl,rfl,rfl⟩
 unfold Eb Dg
 simp only[hlv,hs,Ao,Nat.add_eq,Nat.zero_add]
 have e1:Nat.ble n 0=false:=by
  cases e:Nat.ble n 0
  ·rfl
  ·have:=Aq.1 e;omega
 have e2:Nat.ble (Nat.mul (Nat.succ n) (Nat.succ eb)) Ip=true:=Aq.2 (Hi hm)
 rw[e1]
 simp only[e2,cond_true,ha]
 unfold Gj
 have hcc:rowOf h b=.ok cc 0 0:=hcc
 have e3:Nat.beq 0 (Nat.mul 0 es)=true:=Au.2 (Nat.zero_mul es).symm
 simp only[hcc,e3,h2]
 unfold Ee
 simp only[hcc,BW,Nat.add_eq,Nat.zero_add]
 unfold CO
 rw[Ao,Cr W];rfl
theorem PB{es eb b:Nat}(W:h.Wf)(h256:256≤b)(r:h.Row b 0 [])(hs:∀ k:List Value→R,BQ h es u 0 k=k [])(hlv:lenV u=.ok 0):
  Eb es eb en (.slice (some ⟨b,0,none⟩) 0 0) u h=.ok (.slice (some ⟨b,0,none⟩) 0 0) (h.wr b 0 []):=by
 unfold Eb Dg
 simp only[hlv,hs,Ao,Nat.add_eq]
 have e1:Nat.ble 0 0=true:=rfl
 have e0:0+0=0:=rfl
 simp only[e0,e1]
 have e2:Fp ⟨b,0,none⟩ (Nat.mul 0 es)=⟨b,0,none⟩:=by
  rw[show Nat.mul 0 es=0 from Nat.zero_mul es];rfl
 rw[e2,r.store W h256 (by simp) rfl]
theorem Hp.Row.srcE{es b el off n c sl:Nat}{l:List Value}(r:h.Row b el l)(ho:off+n * es≤l.length){k:List Value→R}:BQ h es (.slice (some ⟨b,off,none⟩) sl c) n k=k ((l.drop off).take (n * es)):=by
 obtain⟨cc,hc,hl⟩:=r.rowOf
 unfold BQ
 simp only[hc]
 have e:Nat.mul n es=n * es:=rfl
 rw[e]
 simp only[Nat.add_eq]
 rw[Aq.2 ho]
 simp only[cond_true,FY,List.append_nil,Is.rowL hl off _ ho]
theorem Na{t el:Nat}{k:TK}{g:O}{a:Addr}{n c:Nat}(hk:k=.slice el)(hg:g e=.slice (some a) n c):oEq k false g (kV (.slice none 0 0)) F e h=.ok (.bool false) h:=by
 subst hk
 show(match eqV (.slice el) (g e) (.slice none 0 0)with|some r=>okB (false != r) h|none=>.no)=_
 rw[hg]
 exact Ft
theorem Nb{t el:Nat}{k:TK}{g:O}(hk:k=.slice el)(hg:g e=.slice none 0 0):oEq k false g (kV (.slice none 0 0)) F e h=.ok (.bool true) h:=by
 subst hk
 show(match eqV (.slice el) (g e) (.slice none 0 0)with|some r=>okB (false != r) h|none=>.no)=_
 rw[hg]
 exact Ft
theorem Qb{t:List Value}(W:h.Wf):Af 0 (BG t 0) [] F e h=.ok (.slice (some ⟨h.next,0,none⟩) 0 0) (h.pushRow 0 []):=by
 have:BG t 0=[]:=rfl
 rw[this,Ck,CV,DH W];rfl
end
section
variable {h0 h:Hp}{u:Value}{es eb en:Nat}{cs vs:List Value}
theorem NZ(x0:h0.Ext h)(hs:∀ k:List Value→R,BQ h es u 1 k=k vs)(hlv:lenV u=.ok 1)(hv:vs.length=es)(ha:Bg vs=true)(hm:2 * (eb+1)≤70368744177664):
  ∃ h',Eb es eb en nilS u h=.ok (.slice (some ⟨h.next,0,none⟩) 1 1) h'∧h0.Ext h'∧h'.Row h.next (en+1) vs∧h'.next=h.next+1∧(h'.mark=h.mark∧h'.low=h.low∧h'.high=h.high)∧h.Ext h':=by
 have W:=x0.wf
 obtain⟨t1,t2⟩:=HH vs
 refine⟨h.push (.cells (ofL vs) vs.length (en+1)),?_,x0.push _,⟨ofL vs,by rw[W.push_get,if_pos rfl],t2⟩,rfl,⟨rfl,rfl,rfl⟩,(Hp.Ext.refl W).push _⟩
 unfold Eb Dg
 simp only[hlv,hs,Ao,Nat.add_eq,Nat.zero_add]
 have e1:Nat.ble 1 0=false:=rfl
 have e2:Nat.ble (Nat.mul (Nat.succ 1) (Nat.succ eb)) Ip=true:=Aq.2 hm
 simp only[e1,e2,cond_true,ha]
 unfold Gj BQ Il
 simp only[List.nil_append,t1]
 unfold Ee
 simp only[BW]
 unfold CO
 rw[Ao,Cr W];rfl
theorem LH{n b:Nat}(x0:h0.Ext h)(hs:∀ k:List Value→R,BQ h es u 1 k=k vs)(hlv:lenV u=.ok 1)(hv:vs.length=es)(hes:0<es)(ha:Bg vs=true)(r:h.Row b (en+1) cs)(hlen:cs.length=n * es)(hb:h0.next≤b)(hb2:256≤b)(hm:(n+2) * (eb+1)≤70368744177664):
  ∃ h',Eb es eb en (.slice (some ⟨b,0,none⟩) n n) u h=.ok (.slice (some ⟨h.next,0,none⟩) (n+1) (n+1)) h'∧h0.Ext h'∧h'.Row h.next (en+1) (cs++vs)∧h'.next=h.next+1∧(h'.mark=h.mark∧h'.low=CC h.low b∧h'.high=Cq h.high b)∧∀ b' el L,b'≠b→h.Row b' el L→h'.Row b' el L:=by
 have W:=x0.wf
 obtain⟨cc,hcc,hl⟩:=r.rowOf
 obtain⟨t,h2,h3⟩:=Dq vs cc cs cs.length hl (.inr rfl)
 have h3:t.Is (cs++vs):=by
  have e:cs.drop (cs.length+vs.length)=[]:=List.drop_of_length_le (by omega)
  rw[e]at h3
  simpa using h3
 have hlen2:(cs++vs).length=cs.length+vs.length:=List.length_append
 have hlt:=r.lt W
 have W1:(h.put b .dead).Wf:=W.put hlt _
 have x2:h0.Ext (h.put b .dead):=x0.put hb hlt _
 refine⟨(h.put b .dead).push (.cells t (cs.length+vs.length) (en+1)),?_,x2.push _,⟨t,by
  have:=W1.push_get (.cells t (cs.length+vs.length) (en+1)) h.next
  rw[this,if_pos (show h.next=(h.put b .dead).next from rfl),hlen2],h3⟩,rfl,⟨rfl,rfl,rfl⟩,fun b' el' L' hne r'=>?_⟩
 ·unfold Eb Dg
  simp only[hlv,hs,Ao,Nat.add_eq]
  have e1:Nat.ble (n+1) n=false:=by
   cases e:Nat.ble (n+1) n
   ·rfl
   ·have:=Aq.1 e;omega
  have e2:Nat.ble (Nat.mul (Nat.succ (n+1)) (Nat.succ eb)) Ip=true:=Aq.2 hm
  rw[e1]
  simp only[e2,cond_true,ha]
  unfold Gj
  have e3:Nat.beq cs.length (Nat.mul n es)=true:=Au.2 hlen
  simp only[hcc,e3,h2]
  unfold Ee
  have e4:Jl 0 n es cs.length=true:=by
   unfold Jl
   cases n with
   |zero=>rfl
   |succ m=>exact Au.2 (by show 0+(m+1) * es=cs.length;omega)
  simp only[hcc,BW,Nat.add_eq,Nat.beq_refl,cond_true,e4]
  rw[Dp W hb2 hlt]
  unfold CO
  rw[Ao,Cr W1];rfl
 ·have hb':b'<h.next:=r'.lt W
  obtain⟨c',hc',hl'⟩:=r'
  refine⟨c',?_,hl'⟩
  rw[W1.push_get,if_neg (by show b'≠h.next;omega),W.put_get hlt,if_neg hne,hc']
end
theorem OA{g:Hp}{a lo hi:Nat}(h1:a≤lo)(h2:hi≤a):J3 (.ok a) g lo hi=true:=by
 show(bif Nat.ble a lo then Nat.ble hi a else false)=true
 rw[Aq.2 h1,Aq.2 h2];rfl
theorem U7{h0 h:Hp}{S:Nat→Prop}{eb en:Nat}{v w:Value}{xs:List Value}{bw:Nat}(x0:h0.Ext h)(o:h.Cl S en v xs)(hS:∀ b,S b→h0.next≤b)(rw_:h.Row bw 0 [w])(hw:A6 w=true)(hl:xs.length≤1000000)(he:eb≤1000):
  ∃ h' b',Eb 1 eb en v (.slice (some ⟨bw,0,none⟩) 1 1) h=.ok (.slice (some ⟨b',0,none⟩) (xs.length+1) (xs.length+1)) h'∧h0.Ext h'∧h'.Row b' (en+1) (xs++[w])∧b'=h.next∧h'.next=h.next+1∧h'.mark=h.mark∧(∀ b el L,¬ S b→h.Row b el L→h'.Row b el L)∧(∀ b el L,el≠en+1→h.Row b el L→h'.Row b el L)∧
   (h.low=h.next→h.high=0→∀ g:Hp,g.next=h.next→J3 (blkOf v) g h'.low h'.high=true):=by
 have hs:∀ k,BQ h 1 (.slice (some ⟨bw,0,none⟩) 1 1) 1 k=k [w]:=fun k=>rw_.srcE (es:=1) (off:=0) (n:=1) (by show 0+1 * 1≤1;omega)
 have ha:Bg [w]=true:=by
  show(bif A6 w then true else false)=true
  rw[hw];rfl
 have hm:(xs.length+2) * (eb+1)≤70368744177664:=by
  have:(xs.length+2) * (eb+1)≤1000002 * 1001:=Nat.mul_le_mul (by omega) (by omega)
  omega
 rcases o with ⟨rfl,rfl⟩|⟨b,el,rfl,r,hel,hb,h256⟩
 ·obtain⟨h5,a1,a2,a3,a4,⟨a5,a7,a8⟩,a6⟩:=NZ (eb:=eb) (en:=en) x0 hs rfl rfl ha (by have:=hm;simp only[List.length_nil]at this;omega)
  exact⟨h5,h.next,a1,a2,a3,rfl,a4,a5,fun b el L _ r=>r.ext x0.wf a6,fun b el L _ r=>r.ext x0.wf a6,fun hlo hhi g hg=>by
   show Nat.ble g.next h5.low=true
   rw[a7,hlo,hg];exact Aq.2 (Nat.le_refl _)⟩
 ·have hlt:=r.lt x0.wf
  rcases hel with rfl|⟨rfl,rfl⟩
  ·obtain⟨h5,a1,a2,a3,a4,⟨a5,a7,a8⟩,a6⟩:=LH (eb:=eb) (en:=en) (n:=xs.length) x0 hs rfl rfl (by omega) ha r (Nat.mul_one _).symm (hS b hb) h256 hm
   refine⟨h5,h.next,a1,a2,a3,rfl,a4,a5,fun b' el L hne r'=>a6 _ _ _ (fun e=>hne (e ▸ hb)) r',fun b' el L h2 r'=>a6 _ _ _ (Hg r' r h2) r',fun hlo hhi g hg=>?_⟩
   have e1:h5.low=b:=by rw[a7,hlo,BK];omega
   have e2:h5.high=b:=by rw[a8,hhi,B8];omega
   rw[e1,e2]
   exact OA (Nat.le_refl _) (Nat.le_refl _)
  ·obtain⟨h5,a1,a2,a3,a4,a6,a5,a7,a8⟩:=Hb (eb:=eb) (en:=en) (n:=1) x0 r hs rfl rfl (by omega) ha (by have:=hm;simp only[List.length_nil]at this;omega)
   refine⟨h5,h.next,a1,a2,a3,rfl,a4,a5,fun b' el L _ r'=>r'.ext x0.wf a6,fun b' el L _ r'=>r'.ext x0.wf a6,fun hlo hhi g hg=>?_⟩
   rw[a7,a8,hlo,hhi]
   show J3 (.ok b) g h.next 0=true
   exact OA (by omega) (Nat.zero_le _)
theorem RO{h h':Hp}{F:CallF}{e:Env}{x y:O}{eb en:Nat}{v u w:Value}(hx:x e=v)(hy:y e=u)(ha:Eb 1 eb en v u h.quiet=.ok w h')(hk:J3 (blkOf v) h h'.low h'.high=true):IE x (A8 1 eb en x y) F e h=.ok w (h.back h'):=by
 show(match A8 1 eb en x y F e h.quiet with|.ok v h'=>bif J3 (blkOf (x e)) h h'.low h'.high then Dt h v h' else .no|.no=>.no)=_
 rw[Bn,hx,hy,ha]
 show(bif J3 (blkOf v) h h'.low h'.high then Dt h w h' else .no)=_
 rw[hk]
 show Dt h w h'=_
 unfold Dt
 simp only[Ao];rfl
inductive Deed where
 |w (i:Nat) (l:List Nat)
 |f
def Bl:List Nat:=List.replicate 64 0
def Hw(h:Hp)(A:At)(S:Nat→Prop)(v:Value):Deed→Prop
 |.w i l=>(∃ r3 r10 r9 u,v=.func (.func 74) ⟨[]⟩ ⟨[pt r3,pt r10,pt r9]⟩∧h.Row r3 0 [pt A.bs]∧h.Row r10 0 [.int .i64 (i:Int)]∧h.Row r9 0 [u]∧h.BS S u (l.map bv)∧S r3∧S r10∧S r9)∨
  (∃ r2 r7 p,v=.func (.func 83) ⟨[]⟩ ⟨[pt r2,pt r7]⟩∧h.Row r2 0 [pt A.bs]∧h.Row r7 0 [.int .i64 ((p:Nat):Int)]∧i=p * 3∧p≤65536∧l=Bl∧S r2∧S r7)
 |.f=>v=.func (.func 76) ⟨[pt A.bd]⟩ ⟨[]⟩
theorem Hp.BS.keep2{h h':Hp}{S S':Nat→Prop}{v:Value}{xs:List Value}(o:h.BS S v xs)(hk:∀ b el L,S b→(el=0∨el=6)→h.Row b el L→h'.Row b el L∧S' b):h'.BS S' v xs:=by
 rcases o with h1|⟨b,off,c,el,L,h1,h2,h3,h4,h5,h6,h7⟩
 ·exact .inl h1
 ·exact .inr ⟨b,off,c,el,L,h1,h2,(hk _ _ _ h6 h7 h3).1,h4,h5,(hk _ _ _ h6 h7 h3).2,h7⟩
theorem Hw.keep2{h h':Hp}{A:At}{S S':Nat→Prop}{v:Value}{d:Deed}(o:Hw h A S v d)(hr:∀ b el L,S b→(el=0∨el=6)→h.Row b el L→h'.Row b el L∧S' b):Hw h' A S' v d:=by
 cases d with
 |f=>exact o
 |w i l=>
  have hr0:=fun b L hs r=>hr b 0 L hs (.inl rfl) r
  rcases o with ⟨r3,r10,r9,u,h1,h2,h3,h4,h5,h6,h7,h8⟩|⟨r2,r7,p,h1,h2,h3,h4,h5,h6,h7,h8⟩
  ·exact .inl ⟨r3,r10,r9,u,h1,(hr0 _ _ h6 h2).1,(hr0 _ _ h7 h3).1,(hr0 _ _ h8 h4).1,h5.keep2 hr,(hr0 _ _ h6 h2).2,(hr0 _ _ h7 h3).2,(hr0 _ _ h8 h4).2⟩
  ·exact .inr ⟨r2,r7,p,h1,(hr0 _ _ h7 h2).1,(hr0 _ _ h8 h3).1,h4,h5,h6,(hr0 _ _ h7 h2).2,(hr0 _ _ h8 h3).2⟩
theorem VO{h:Hp}{A:At}{S:Nat→Prop}{v:Value}{d:Deed}(o:Hw h A S v d):A6 v=true:=by
 cases d with
 |f=>have o:v=_:=o;rw[o];rfl
 |w i l=>rcases o with ⟨r3,r10,r9,u,h1,_⟩|⟨r2,r7,p,h1,_⟩<;>rw[h1]<;>rfl
abbrev JA(h:Hp)(A:At)(v:Value)(d:Deed):Prop:=Hw h A (fun b=>¬ A.D b) v d
def Fg(n:Nat):List (Nat×List Nat)→List Deed→Prop
 |_,[]=>True
 |cs,.w i l::ds=>(∀ x∈cs,x.1≠i)∧i<n∧l.length=64∧(∀ x∈l,x<256)∧Fg n (cs++[(i,l)]) ds
 |cs,.f::ds=>cs≠[]∧cs.length≤60∧Fg n [] ds
def GZ:List Nat→List (Nat×List Nat)→List Deed→List Nat×List (Nat×List Nat)
 |M,cs,[]=>(M,cs)
 |M,cs,.w i l::ds=>GZ M (cs++[(i,l)]) ds
 |M,cs,.f::ds=>GZ (Fb M cs) [] ds
structure Sc (h:Hp)(A:At)(T:List Nat)(ks:List Kt)(fr:List Nat)(lv fv:Value)(bad:Nat)(ov:Bool):Prop where
 row:h.Row A.bs 0 (slL A.bd A.tb lv fv bad ov)
 tab:h.Row A.tb 0 (T.map wv)
 tok:TblOk T
 ls:h.KW (fun b=>¬ A.D b) lv ks
 ko:∀ k∈ks,KtOk h (fun b=>¬ A.D b) k
 fs:h.WI (fun b=>¬ A.D b) fv (ints .i64 (fr.map Int.ofNat))
 ne:A.bs≠A.bd∧A.bs≠A.bm∧A.bs≠A.bc∧¬ A.D A.tb∧256≤A.bs
 le:ks.length≤1000∧fr.length≤1000∧bad≤1000∧∀ p∈fr,3 * p+3≤A.n
section
variable {F:CallF}{e:Env}{h h':Hp}{A:At}{T M:List Nat}{c0 bad m:Nat}{arm:Int}{ks:List Kt}{fr:List Nat}{lv fv:Value}{ov:Bool}
theorem Sl.sc(s:Sl h A T M c0 arm ks fr lv fv bad ov):Sc h A T ks fr lv fv bad ov:=⟨s.row,s.tab,s.tok,s.ls,s.ko,s.fs,s.ne,s.le⟩
theorem Sc.sl(s:Sc h A T ks fr lv fv bad ov)(d:Dk h A.bd A.bm A.bc A.n M c0 [] arm false):Sl h A T M c0 arm ks fr lv fv bad ov:=⟨s.row,d,s.tab,s.tok,s.ls,s.ko,s.fs,s.ne,s.le⟩
theorem Sc.keep(s:Sc h A T ks fr lv fv bad ov)(hr:∀ b el L,b≠A.bd→b≠A.bm→b≠A.bc→h.Row b el L→h'.Row b el L):Sc h' A T ks fr lv fv bad ov:=by
 have nd:∀ b,¬ A.D b→b≠A.bd∧b≠A.bm∧b≠A.bc:=fun b hb=>⟨fun e=>hb (.inr (.inl e)),fun e=>hb (.inr (.inr (.inl e))),fun e=>hb (.inr (.inr (.inr e)))⟩
 have ht:=nd _ s.ne.2.2.2.1
 exact⟨hr _ _ _ s.ne.1 s.ne.2.1 s.ne.2.2.1 s.row,hr _ _ _ ht.1 ht.2.1 ht.2.2 s.tab,s.tok,s.ls.keep fun b _ _ hb r=>hr _ _ _ (nd b hb).1 (nd b hb).2.1 (nd b hb).2.2 r,fun k hk=>⟨(s.ko k hk).1.keep fun b _ _ hb _ r=>hr _ _ _ (nd b hb).1 (nd b hb).2.1 (nd b hb).2.2 r,(s.ko k hk).2⟩,s.fs.keep fun b _ _ hb r=>hr _ _ _ (nd b hb).1 (nd b hb).2.1 (nd b hb).2.2 r,s.ne,s.le⟩
abbrev At.K(A:At):Nat→Prop:=fun b=>b=A.bd∨b=A.bm∨b=A.bc
theorem Sc.fx(s:Sc h A T ks fr lv fv bad ov)(W:h.Wf)(x:Fx A.K h h'):Sc h' A T ks fr lv fv bad ov:=s.keep fun b el L h1 h2 h3 r=>x.row W r (by rintro (h|h|h)<;>contradiction)
theorem Sc.same(s:Sc h A T ks fr lv fv bad ov)(hb:h'.bl=h.bl):Sc h' A T ks fr lv fv bad ov:=s.keep fun _ _ _ _ _ _ r=>r.same hb
theorem Sc.ext(s:Sc h A T ks fr lv fv bad ov)(W:h.Wf)(x:h.Ext h'):Sc h' A T ks fr lv fv bad ov:=s.keep fun _ _ _ _ _ _ r=>r.ext W x
theorem JA.keep{v:Value}{d:Deed}(o:JA h A v d)(hbs:True)(hr:∀ b el L,¬ A.D b→h.Row b el L→h'.Row b el L):JA h' A v d:=o.keep2 fun b el L hb _ r=>⟨hr b el L hb r,hb⟩
theorem V6{b:Nat}(h:¬ A.D b):¬ A.K b:=fun h1=>h (.inr h1)
theorem Yf(W:h.Wf)(R:h.Row A.bs 0 (slL A.bd A.tb lv fv bad ov))(hne:¬ A.K A.bs){cs:List (Nat×List Nat)}(d:Dk h A.bd A.bm A.bc A.n M c0 cs arm false){k:Nat}(ha:CT arm (k+1)){v:Value}{i:Nat}{l:List Nat}(o:JA h A v (.w i l))(hi:i<A.n)(hc:∀ x∈cs,x.1≠i∧x.1<A.n)(hl:l.length=64):
  ∃ h',Ki (call AG (m+4)) v [] h=.ok (.int .i64 0) h'∧Fx A.K h h'∧Dk h' A.bd A.bm A.bc A.n M c0 (cs++[(i,l)]) (Fq arm) false:=by
 rcases o with ⟨r3,r10,r9,u,rfl,h2,h3,h4,h5,h6,h7,h8⟩|⟨r2,r7,p,rfl,h2,h3,rfl,h5,rfl,h7,h8⟩
 ·obtain⟨l0,_⟩:=BN (R.same (h':=h.marked) rfl)
  have m3:load1 ⟨r3,0,none⟩ h.marked=.ok (pt A.bs) h.marked:=(h2.same (h':=h.marked) rfl).load1 (off:=0) (by show 0<1;omega)
  have m10:load1 ⟨r10,0,none⟩ h.marked=.ok (.int .i64 (i:Int)) h.marked:=(h3.same (h':=h.marked) rfl).load1 (off:=0) (by show 0<1;omega)
  have m9:load1 ⟨r9,0,none⟩ h.marked=.ok u h.marked:=(h4.same (h':=h.marked) rfl).load1 (off:=0) (by show 0<1;omega)
  obtain⟨h1,k1,f1,d1⟩:=QJ (m:=m) W.marked.quiet (d.same (h':=h.marked.quiet) rfl) ha hi hc ((h5.vs.same (h':=h.marked.quiet) rfl).mono fun b hb e=>hb (.inr (.inl e))) hl
  have q1:∀ e:Env,AB 7 e=pt A.bd→AB 8 e=.int .i64 (i:Int)→AB 9 e=u→Ak .free (AO 75 [AB 7,AB 8,AB 9]) (call AG (m+3)) e h.marked=.ok (.int .i64 0) (h.marked.back h1):=fun e e1 e2 e3=>by
   refine Bq ?_
   rw[Ab,AN,AN,AN,AX,e1,e2,e3];exact k1
  refine⟨h.marked.back h1,?_,((f1.mono (T:=A.K) fun b hb=>hb.elim .inl fun h=>.inr (.inr h)).from (h:=h.marked) rfl rfl).same (h2:=h.marked.back h1) rfl rfl |>.from (h:=h) rfl rfl,d1.same rfl⟩
  rw[CU]
  show call AG (m+3+1) 74 [pt r3,pt r10,pt r9] h=_
  rw[eS rfl]
  unfold d74
  simp only[AJ,AK,Nat.succ_eq_add_one,Nat.zero_add,Nat.reduceAdd,sT,Nat.reduceLT,Nat.reduceEqDiff,if_true,if_false,reduceIte,BD,AV,Ac,m3,A4,Az,AM,AY,Nat.zero_add,l0,m10,m9,q1,AP,Aa]
 ·have m2:load1 ⟨r2,0,none⟩ h.marked=.ok (pt A.bs) h.marked:=(h2.same (h':=h.marked) rfl).load1 (off:=0) (by show 0<1;omega)
  have m7:load1 ⟨r7,0,none⟩ h.marked=.ok (.int .i64 (p:Int)) h.marked:=(h3.same (h':=h.marked) rfl).load1 (off:=0) (by show 0<1;omega)
  obtain⟨l0,_⟩:=BN (R.same (h':=h.marked) rfl)
  have o1:∀ (off:Nat) (kk:C) (F:CallF) (e:Env),Ja (.pointer (some ⟨r2,off,none⟩)) kk F e h.marked=kk F e h.marked:=fun off kk F e=>D7 (h2.lt W)
  have o2:∀ (off:Nat) (kk:C) (F:CallF) (e:Env),Ja (.pointer (some ⟨A.bs,off,none⟩)) kk F e h.marked=kk F e h.marked:=fun off kk F e=>D7 (R.lt W)
  have k1:=MN (m:=m+1) (R.same (h':=h.marked.quiet) rfl) (p:=p) h5
  have q1:∀ e:Env,AB 7 e=pt A.bs→AB 8 e=.int .i64 (p:Int)→Ak .weak (AO 46 [AB 7,AB 8]) (call AG (m+3)) e h.marked=.ok (.int .i64 ((p * 3:Nat):Int)) (h.marked.back h.marked.quiet):=fun e e1 e2=>by
   refine HL W.marked ?_ (Nat.le_refl _)
   rw[Ab,AN,AN,AX,e1,e2];exact k1
  have y2:h.Ext (h.marked.back h.marked.quiet):=Hp.Ext.back2 (Hp.Ext.refl W).marked (Hp.Ext.refl W).marked.quiet
  have n2:(h.marked.back h.marked.quiet).next=h.next:=rfl
  have b2:(h.marked.back h.marked.quiet).bl=h.bl:=rfl
  have mk2:(h.marked.back h.marked.quiet).mark=h.next:=rfl
  generalize h.marked.back h.marked.quiet=h2' at q1 y2 n2 b2 mk2
  have qm:∀ (F:CallF) (e:Env),Ak .strong (GB 1 ty5.zero (kV (.int .i64 64)) (kV (.int .i64 64))) F e h2'=.ok (.slice (some ⟨h2'.next,0,none⟩) 64 64) (h2'.back (h2'.quiet.pushRow 0 (Bl.map bv))):=fun F e=>by
   have:=Nh (F:=F) (e:=e) y2.quiet.wf (x:=kV (.int .i64 64)) (y:=kV (.int .i64 64)) (N:=64) rfl rfl (by omega)
   have hz:List.replicate 64 0=Bl:=rfl
   exact DQ this ((Hp.Ext.refl y2.quiet.wf).pushRow _ _) (by omega)
  have y3:h2'.Ext (h2'.back (h2'.quiet.pushRow 0 (Bl.map bv))):=.back ((Hp.Ext.refl y2.wf.quiet).pushRow _ _)
  have R3:(h2'.back (h2'.quiet.pushRow 0 (Bl.map bv))).Row h2'.next 0 (Bl.map bv):=(Hp.Row.new y2.wf.quiet 0 (Bl.map bv)).same rfl
  have n3:(h2'.back (h2'.quiet.pushRow 0 (Bl.map bv))).next=h2'.next+1:=rfl
  generalize h2'.back (h2'.quiet.pushRow 0 (Bl.map bv))=h3' at qm y3 R3 n3
  have x3:=y2.trans y3
  have hbd:=(d.lt W).1
  have hz64:Bl.length=64:=rfl
  obtain⟨h4,k4,f4,d4⟩:=QJ (m:=m) x3.wf.quiet ((d.ext W x3).same (h':=h3'.quiet) rfl) ha hi hc (u:=.slice (some ⟨h2'.next,0,none⟩) 64 64) (l:=Bl) (.inr ⟨h2'.next,0,64,0,_,rfl,Nat.le_refl _,R3.same rfl,Nat.le_refl _,rfl,by omega⟩) rfl
  have q4:∀ e:Env,AB 6 e=pt A.bd→AB 9 e=.int .i64 ((p * 3:Nat):Int)→AB 10 e=.slice (some ⟨h2'.next,0,none⟩) 64 64→Ak .free (AO 75 [AB 6,AB 9,AB 10]) (call AG (m+3)) e h3'=.ok (.int .i64 0) (h3'.back h4):=fun e e1 e2 e3=>by
   refine Bq ?_
   rw[Ab,AN,AN,AN,AX,e1,e2,e3];exact k4
  refine⟨h3'.back h4,?_,(Fx.of (S:=A.K) x3).trans (((f4.mono (T:=A.K) fun b hb=>hb.elim .inl fun h=>.inr (.inr h)).from (h:=h3') rfl rfl).same (h2:=h3'.back h4) rfl rfl),d4.same rfl⟩
  rw[CU]
  show call AG (m+3+1) 83 [pt r2,pt r7] h=_
  rw[eY rfl]
  unfold d83
  simp only[AJ,AK,Nat.succ_eq_add_one,Nat.zero_add,Nat.reduceAdd,sT,Nat.reduceLT,Nat.reduceEqDiff,if_true,if_false,reduceIte,BD,EW,o1,o2,DY,AV,Ac,m2,A4,Az,AM,AY,Nat.zero_add,l0,m7,q1,qm,q4,AP,Aa]
def alB:C:=(AF (AC 11) (Ad iLt .i64 (AB 10) (AB 9))
(AW (AB 11)
(A5 (Ah 1 (AF (AC 12) (Bp 1 (AB 8) (AB 10))
(AF (AC 13) (AL (AB 12))
(AF (AC 6) (AD (AB 13))
(AF (AC 15) (B0 (AB 6) [])
(AF (AC 7) (AD (AB 15))
(AF (AC 17) (Ad iNe .i64 (AB 7) (kV (.int .i64 0)))
(AW (AB 17)
(AF (AC 19) (BJ (AB 0))
(AF (AC 20) (AH 6 (AB 19))
(cDo (Ae 1 (AB 20) (kV (.bool true)))
(AF (AC 4) (AD (AB 7))
Aj))))
Ai))))))))
(AF (AC 22) (Bh .i64 (Ax .i64) (AB 10) (kV (.int .i64 1)))
(AF (AC 10) (AD (AB 22))
Ai)))
(Bc 0)))
def alE:C:=AF (AC 4) (AD (kV (.int .i64 0))) Aj
theorem bS:alS=A5 (Ah 0 (A1 alB)) alE:=rfl
theorem fT:d47=YW:=rfl
theorem QN(W:h.Wf)(R:h.Row A.bs 0 (slL A.bd A.tb lv fv bad ov))(hne:¬ A.K A.bs)(d:Dk h A.bd A.bm A.bc A.n M c0 [] arm false){ds:List Deed}{vs:List Value}{dv:Value}(V:h.VS (fun b=>¬ A.D b) dv vs)(hlen:vs.length=ds.length)(hd:∀ (i:Nat) (v:Value) (x:Deed),vs[i]? =some v→ds[i]? =some x→JA h A v x)(hok:Fg A.n [] ds)(ha:CT arm ds.length)(h100:ds.length≤100):
  ∃ h' c1 arm',call AG (m+5) 47 [pt A.bs,dv] h=.ok (.int .i64 0) h'∧Fx A.K h h'∧Dk h' A.bd A.bm A.bc A.n (GZ M [] ds).1 c1 (GZ M [] ds).2 arm' false∧arm'=(List.range ds.length).foldl (fun a _=>Fq a) arm:=by
 have Vl:=V.vals.len
 have pre:∃ e1,YW (call AG (m+4)) (AZ e0 0 [pt A.bs,dv]) h=alS (call AG (m+4)) e1 h∧AB 0 e1=pt A.bs∧AB 8 e1=dv∧AB 9 e1=.int .i64 (vs.length:Int)∧AB 10 e1=.int .i64 ((0:Nat):Int):=by
  unfold YW
  simp only[AJ,AK,Nat.succ_eq_add_one,Nat.zero_add,Nat.reduceAdd,sT,Nat.reduceLT,Nat.reduceEqDiff,if_true,if_false,reduceIte,Ay,Vl]
  exact⟨_,rfl,by simp[AE],by simp[AE],by simp[AE],by simp only[AE,Nat.reduceLT,Nat.reduceEqDiff,if_true,if_false,reduceIte];rfl⟩
 obtain⟨e1,p1,s0,s8,s9,s10⟩:=pre
 have run:∃ e' h' c1 arm',A1 alB (call AG (m+4)) e1 h=.exit 0 e' h'∧Fx A.K h h'∧Dk h' A.bd A.bm A.bc A.n (GZ M [] ds).1 c1 (GZ M [] ds).2 arm' false∧arm'=(List.range ds.length).foldl (fun a _=>Fq a) arm:=by
  refine Bz (I:=fun i e' h'=>∃ (M':List Nat) (cs':List (Nat×List Nat)) (c1:Nat) (arm':Int),Fx A.K h h'∧Dk h' A.bd A.bm A.bc A.n M' c1 cs' arm' false∧arm'=(List.range i).foldl (fun a _=>Fq a) arm∧CT arm' (ds.length - i)∧Fg A.n cs' (ds.drop i)∧GZ M [] ds=GZ M' cs' (ds.drop i)∧KeyU cs'∧SecOk A.n cs'∧i≤ds.length∧AB 0 e'=pt A.bs∧AB 8 e'=dv∧AB 9 e'=.int .i64 (vs.length:Int)∧AB 10 e'=.int .i64 (i:Int))
   (Q:=fun x=>∃ e' h' c1 arm',x=.exit 0 e' h'∧Fx A.K h h'∧Dk h' A.bd A.bm A.bc A.n (GZ M [] ds).1 c1 (GZ M [] ds).2 arm' false∧arm'=(List.range ds.length).foldl (fun a _=>Fq a) arm) ds.length (by omega) (fun i e' h' ⟨M',cs',c1,arm',x',d',ea,ha',ok',er,hK,hS,hi,t0,t8,t9,t10⟩=>?_)
   ⟨M,[],c0,arm,.refl W,d,rfl,by rw[Nat.sub_zero];exact ha,by rw[List.drop_zero];exact hok,by rw[List.drop_zero],fun i j y z h=>(by cases h),fun y hy=>(by cases hy),Nat.zero_le _,s0,s8,s9,s10⟩
  by_cases hlt:i<ds.length
  ·left
   have hiv:i<vs.length:=by omega
   have c1':iLt (i:Int) (vs.length:Int)=true:=E8 hiv
   have V':=V.fx W x' fun b hb=>V6 hb
   obtain⟨a,g1,g2⟩:=V'.vals.at hiv
   have hv:vs[i]? =some (vs.getD i noRes):=by rw[List.getD_eq_getElem?_getD,List.getElem?_eq_getElem hiv];rfl
   have hx:ds[i]? =some (ds[i]'hlt):=List.getElem?_eq_getElem hlt
   have dI:=(hd i _ _ hv hx).keep (h':=h') trivial fun b el L hb r=>x'.row W r (V6 hb)
   generalize vs.getD i noRes=v at g2 dI
   have hdrop:ds.drop i=ds[i]'hlt::ds.drop (i+1):=List.drop_eq_getElem_cons hlt
   rw[hdrop]at ok' er
   generalize ds[i]'hlt=x at dI ok' er
   have hk:ds.length - i=(ds.length - (i+1))+1:=by omega
   rw[hk]at ha'
   have R':=x'.row W R hne
   have step:∃ h2 M2 cs2 c2,Ki (call AG (m+4)) v [] h'=.ok (.int .i64 0) h2∧Fx A.K h' h2∧Dk h2 A.bd A.bm A.bc A.n M2 c2 cs2 (Fq arm') false∧Fg A.n cs2 (ds.drop (i+1))∧GZ M [] ds=GZ M2 cs2 (ds.drop (i+1))∧KeyU cs2∧SecOk A.n cs2:=by
    cases x with
    |w j l=>
     obtain⟨o1,o2,o3,o4,o5⟩:=ok'
     obtain⟨h2,k2,f2,d2⟩:=Yf (m:=m) x'.wf R' hne d' ha' dI o2 (fun y hy=>⟨o1 y hy,(hS y hy).1⟩) o3
     refine⟨h2,M',cs'++[(j,l)],c1,k2,f2,d2,o5,er,fun p q y z hp hq he=>?_,fun y hy=>?_⟩
     ·rcases Nat.lt_or_ge p cs'.length with hp1|hp1<;>rcases Nat.lt_or_ge q cs'.length with hq1|hq1
      ·rw[List.getElem?_append_left hp1]at hp
       rw[List.getElem?_append_left hq1]at hq
       exact hK p q y z hp hq he
      ·rw[List.getElem?_append_left hp1]at hp
       have hzm:=List.mem_of_getElem? hq
       rw[List.getElem?_append_right hq1]at hq
       have hz:=List.mem_of_getElem? hq
       rw[List.mem_singleton.1 hz]at he
       exact absurd he (o1 y (List.mem_of_getElem? hp))
      ·rw[List.getElem?_append_left hq1]at hq
       rw[List.getElem?_append_right hp1]at hp
       have hz:=List.mem_of_getElem? hp
       rw[List.mem_singleton.1 hz]at he
       exact absurd he.symm (o1 z (List.mem_of_getElem? hq))
      ·have h1:=(List.getElem?_eq_some_iff.1 hp).1
       have h2:=(List.getElem?_eq_some_iff.1 hq).1
       rw[List.length_append,List.length_singleton]at h1 h2
       omega
     ·rcases List.mem_append.1 hy with hy|hy
      ·exact hS y hy
      ·rw[List.mem_singleton.1 hy];exact⟨o2,o3,o4⟩
    |f=>
     obtain⟨o1,o2,o3⟩:=ok'
     obtain⟨h2,k2,f2,d2⟩:=VZ (m:=m+1) x'.wf d' ha' hK hS o1 o2
     have dI:v=.func (.func 76) ⟨[pt A.bd]⟩ ⟨[]⟩:=dI
     exact⟨h2,Fb M' cs',[],_,by rw[dI,CU];exact k2,f2,d2,o3,er,fun i j y z h=>(by cases h),fun y hy=>by cases hy⟩
   obtain⟨h2,M2,cs2,c2,k2,f2,d2,ok2,er2,hK2,hS2⟩:=step
   have c0':iNe 0 0=false:=Db rfl
   have a3:=C1 (i:=i) (h:=h2) (by omega)
   have hrun:∃ e2,alB (call AG (m+4)) e' h'=.norm e2 h2∧AB 0 e2=pt A.bs∧AB 8 e2=dv∧AB 9 e2=.int .i64 (vs.length:Int)∧AB 10 e2=.int .i64 ((i+1:Nat):Int):=by
    unfold alB
    simp only[sT,Nat.reduceLT,Nat.reduceEqDiff,if_true,if_false,reduceIte,AS,AQ,t10,t9,c1',Bb,t8,g1,AV,g2,Ci,AX,k2,c0',BZ,a3]
    exact⟨_,rfl,by simp only[AE,Nat.reduceLT,Nat.reduceEqDiff,if_true,if_false,reduceIte];exact t0,by simp only[AE,Nat.reduceLT,Nat.reduceEqDiff,if_true,if_false,reduceIte];exact t8,by simp only[AE,Nat.reduceLT,Nat.reduceEqDiff,if_true,if_false,reduceIte];exact t9,by simp[AE]⟩
   obtain⟨e2,r1,r2,r3,r4,r5⟩:=hrun
   exact⟨hlt,e2,h2,r1,M2,cs2,c2,Fq arm',x'.trans f2,d2,by rw[List.range_succ,List.foldl_append,← ea];rfl,ha'.one.1,ok2,er2,hK2,hS2,by omega,r2,r3,r4,r5⟩
  ·right
   have hie:i=ds.length:=by omega
   have c1':iLt (i:Int) (vs.length:Int)=false:=DU (by omega)
   have hrun:∃ e2,alB (call AG (m+4)) e' h'=.exit 0 e2 h':=by
    unfold alB
    simp only[sT,Nat.reduceLT,Nat.reduceEqDiff,if_true,if_false,reduceIte,AS,AQ,t10,t9,c1']
    exact⟨_,rfl⟩
   obtain⟨e2,r1⟩:=hrun
   rw[r1]
   rw[hie,List.drop_length]at er
   have er:GZ M [] ds=(M',cs'):=er
   rw[er]
   exact⟨rfl,e2,h',c1,arm',rfl,x',d',by rw[ea,hie]⟩
 obtain⟨e2,h2,c1,arm',r1,r2,r3,r4⟩:=run
 refine⟨h2,c1,arm',?_,r2,r3,r4⟩
 rw[d7 rfl,fT,p1,bS]
 simp only[BU,A3,r1,A9,BH]
 unfold alE
 simp only[sT,Nat.reduceLT,Nat.reduceEqDiff,if_true,if_false,reduceIte,AP,Aa]
end
end
noncomputable section
open Go
set_option maxRecDepth 100000
def Co(l:List Nat)(j:Nat):List Nat:=(l.drop (64 * j)).take 64++List.replicate (64 - ((l.drop (64 * j)).take 64).length) 0
theorem Cg(l:List Nat)(j:Nat):(Co l j).length=64:=by
 unfold Co
 rw[List.length_append,List.length_replicate,List.length_take];omega
theorem K3{l:List Nat}(h:∀ x∈l,x<256)(j:Nat):∀ x∈Co l j,x<256:=fun x hx=>by
 rcases List.mem_append.1 hx with hx|hx
 ·exact h x (List.mem_of_mem_drop (List.mem_of_mem_take hx))
 ·rw[List.eq_of_mem_replicate hx];decide
section
variable {F:CallF}{e:Env}{h h':Hp}{A:At}{T M:List Nat}{c0 bad m:Nat}{arm:Int}{ks:List Kt}{fr:List Nat}{lv fv:Value}{ov:Bool}
theorem Hp.Vals.srcN{v:Value}{l:List Value}(b:h.Vals v l){n:Nat}(hn:n≤l.length)(k:List Value→R):BQ h 1 v n k=k (l.take n):=by
 rcases b with ⟨h1,h2⟩|⟨b,off,c,el,L,h1,h2,h3,h4⟩
 ·subst h1;subst h2
  obtain rfl:n=0:=by simpa using hn
  rfl
 ·rw[h1,h2.src (by omega),← h4,List.take_take,Nat.min_eq_left hn]
theorem U9(W:h.Wf){x y:O}{r:Nat}{w:Value}{l:List Nat}(h256:256≤r)(hx:x e=.slice (some ⟨r,0,none⟩) 64 64)(hy:y e=w)(V:h.Vals w (l.map bv))(R:h.Row r 0 (Bl.map bv)):
  ∃ v',HE 1 x y F e h=.ok v' (h.wr r 0 ((l.take 64).map bv))∧over (Bl.map bv) 0 ((l.take 64).map bv)=(Co l 0).map bv:=by
 have hz:(Bl.map bv).length=64:=rfl
 have hn:CC l.length 64≤(l.map bv).length:=by rw[List.length_map,BK];omega
 have ht:(l.map bv).take (CC l.length 64)=(l.take 64).map bv:=by
  rw[← List.map_take,BK]
  congr 1
  rcases Nat.le_total l.length 64 with h1|h1
  ·rw[Nat.min_eq_left h1,List.take_length,List.take_of_length_le h1]
  ·rw[Nat.min_eq_right h1]
 refine⟨.int .i64 (CC l.length 64:Nat),?_,?_⟩
 ·show OK 1 (x e) (y e) h=_
  rw[hx,hy]
  unfold OK
  have lv:=V.lenV
  rw[List.length_map]at lv
  simp only[lv,Ao,V.srcN hn,ht]
  rw[R.store W h256 (by rw[hz,List.length_map,List.length_take];omega) (DE _)];rfl
 ·unfold over Co
  rw[List.take_zero,List.nil_append,Nat.zero_add,List.map_append,Nat.mul_zero,List.drop_zero,List.length_map,← List.map_drop]
  congr 2
  show List.drop _ (List.replicate 64 0)=_
  rw[List.drop_replicate]
theorem aY:B6 .mt 0 [.slice none 0 0]=some iT:=by kernel_rfl
theorem MD:B6 .mt 0 [.int .i64 0]=some zt3:=by kernel_rfl
theorem Fy(W:h.Wf){t:VT}{z v:Value}(ht:B6 .mt 0 [z]=some t)(h1:cellsOf v=[v])(ho:A6 v=true):
  ∃ h',(∀ (F:CallF) (e:Env),A2 1 t F e h=.ok (pt h.next) (h.push (.cells t 1 0)))∧storeR 1 (pt h.next) v (h.push (.cells t 1 0))=.ok noRes h'∧h.Ext h'∧h'.Row h.next 0 [v]∧h'.next=h.next+1∧h'.mark=h.mark:=by
 have R:=Hp.Row.alloc W ht (show [z].length=1 from rfl)
 have x:h.Ext (h.push (.cells t 1 0)):=(Hp.Ext.refl W).push _
 have hoo:0+(cellsOf v).length≤[z].length:=by rw[h1];exact Nat.le_refl _
 have st:=R.storeR (n:=1) (off:=0) x.wf W.big (v:=v) (by rw[h1];rfl) hoo (by
  rw[h1]
  show(bif A6 v then true else false)=true
  rw[ho];rfl)
 have wr:=R.wr_self x.wf hoo
 rw[HI (by rw[h1];rfl),h1]at wr
 rw[h1]at st
 have hoo':0+[v].length≤[z].length:=Nat.le_refl _
 obtain⟨_,_,ew,_⟩:=R.wr_is hoo'
 exact⟨_,fun F e=>Bt W,st,R.wr_ext x (Nat.le_refl _) hoo',wr,R.wr_next hoo',by rw[ew];rfl⟩
theorem iQ:BG J9.zero 1=[.nilFunc]:=by kernel_rfl
theorem Ik(W:h.Wf){g:O}{f:Nat}{a b:List Value}(hg:g e=.func (.func f) ⟨a⟩ ⟨b⟩):Af 1 (BG J9.zero 1) [(0,1,g)] F e h=.ok (.slice (some ⟨h.next,0,none⟩) 1 1) (h.pushRow 0 [.func (.func f) ⟨a⟩ ⟨b⟩]):=by
 rw[iQ];exact Hr W hg rfl rfl
theorem jy{i:Nat}(hi:i≤1000000):OP .i64 (.int .i64 ((64 * i:Nat):Int)) (.int .i64 64) h=.ok (.int .i64 (i:Int)) h:=by
 have:((64 * i:Nat):Int).tdiv 64=(i:Int):=by
  show Int.ofNat ((64 * i) / 64)=_
  rw[Nat.mul_div_cancel_left _ (by decide)];rfl
 rw[Ib (by omega),this,Br (by omega)]
def wrB:C:=(AF (AC 13) (BR (AB 2))
(AF (AC 14) (Ad iLt .i64 (AB 8) (AB 13))
(AW (AB 14)
(A5 (Ah 1 (AF (AC 17) (GB 1 ty5.zero (kV (.int .i64 64)) (kV (.int .i64 64)))
(AF (AC 9) (A2 1 iT)
(cDo (Ae 1 (AB 9) (AB 17))
(Bm (AF (AC 18) (AL (AB 9))
(AF (AC 21) (Dj 5 1 (AB 2) (some (AB 8)) none none)
(AF (AC 22) (Ak .free (HE 1 (AB 18) (AB 21)))
(AF (AC 25) (HF .i64 (AB 8) (kV (.int .i64 64)))
(AF (AC 26) (Bh .i64 (Ax .i64) (AB 1) (AB 25))
(AF (AC 10) (A2 1 zt3)
(cDo (Ae 1 (AB 10) (AB 26))
(AF (AC 28) (Cx (.func 74) [] [(AB 3),(AB 10),(AB 9)])
(AF (AC 29) (Af 1 (BG J9.zero 1) [(0,1,(AB 28))])
(AF (AC 30) (A8 1 8 75 (AB 7) (AB 29))
(AF (AC 7) (AD (AB 30))
Ai))))))))))))))))
(AF (AC 16) (Bh .i64 (Ax .i64) (AB 8) (kV (.int .i64 64)))
(AF (AC 8) (AD (AB 16))
Ai)))
(Bc 0))))
def wrE:C:=(AF (AC 32) (AL (AB 3))
(AF (AC 33) (BJ (AB 32))
(AF (AC 34) (AH 0 (AB 33))
(AF (AC 35) (AL (AB 34))
(AF (AC 36) (Cx (.func 76) [(AB 35)] [])
(AF (AC 37) (Af 1 (BG J9.zero 1) [(0,1,(AB 36))])
(AF (AC 38) (A8 1 8 75 (AB 7) (AB 37))
(AF (AC 6) (AD (AB 38))
Aj))))))))
theorem iM:wrS=A5 (Ah 0 (A1 wrB)) wrE:=rfl
theorem fR:d45=YV:=rfl
def CJ(h:Hp)(A:At)(k:Nat)(v:Value)(ds:List Deed):Prop:=∃ vs,h.Own k 75 v vs∧vs.length=ds.length∧∀ (i:Nat) (w:Value) (x:Deed),vs[i]? =some w→ds[i]? =some x→Hw h A (fun b=>¬ A.D b∧¬ blkV v b) w x
theorem ZG{b k:Nat}(hD:∀ b,A.D b→b<k)(hb:k≤b):¬ A.D b:=fun h=>by have:=hD b h;omega
theorem CJ.ext{k:Nat}{v:Value}{ds:List Deed}(o:CJ h A k v ds)(W:h.Wf)(x:h.Ext h'):CJ h' A k v ds:=by
 obtain⟨vs,a,b,c⟩:=o
 exact⟨vs,a.ext W x,b,fun i w y h1 h2=>(c i w y h1 h2).keep2 fun b el L hb _ r=>⟨r.ext W x,hb⟩⟩
theorem CJ.same{k:Nat}{v:Value}{ds:List Deed}(o:CJ h A k v ds)(hb:h'.bl=h.bl):CJ h' A k v ds:=by
 obtain⟨vs,a,b,c⟩:=o
 exact⟨vs,a.same hb,b,fun i w y h1 h2=>(c i w y h1 h2).keep2 fun b el L hb' _ r=>⟨r.same hb,hb'⟩⟩
theorem CJ.snoc{h0:Hp}{k:Nat}{v w:Value}{ds:List Deed}{f:Nat}{a b:List Value}(x0:h0.Ext h)(hk:h0.next≤k)(hk2:k≤h.next)(o:CJ h A k v ds)(hw:w=.func (.func f) ⟨a⟩ ⟨b⟩){d:Deed}(hd:Hw h A (fun b=>¬ A.D b∧¬ blkV v b) w d)(hl:ds.length≤1000):
  ∃ h' v',Eb 1 8 75 v (.slice (some ⟨h.next,0,none⟩) 1 1) (h.pushRow 0 [w])=.ok v' h'∧h0.Ext h'∧CJ h' A k v' (ds++[d])∧h.next≤h'.next∧(∀ b el L,¬ blkV v b→h.Row b el L→h'.Row b el L):=by
 obtain⟨vs,o1,o2,o3⟩:=o
 have W:=x0.wf
 have x1:=x0.pushRow 0 [w]
 have y1:=(Hp.Ext.refl W).pushRow 0 [w]
 have on:A6 w=true:=by rw[hw];rfl
 obtain⟨h',v',a1,a2,a3,a4,a5⟩:=GV (eb:=8) (en:=75) (k:=k) (u:=.slice (some ⟨h.next,0,none⟩) 1 1) (ys:=[w]) x1 hk (Nat.le_succ_of_le hk2) (o1.ext W y1) (PU W) (by simp) (by
  show(bif A6 w then true else false)=true
  rw[on];rfl) (by simp only[List.length_singleton];omega)
 have kp:∀ b el L,¬ A.D b∧¬ blkV v b→(el=0∨el=6)→h.Row b el L→h'.Row b el L∧(¬ A.D b∧¬ blkV v' b):=fun b el L hb _ r=>by
  have:=a5 b el L hb.2 (r.ext W y1)
  exact⟨this.1,hb.1,this.2⟩
 refine⟨h',v',a1,a2,⟨vs++[w],a3,by rw[List.length_append,List.length_append,o2];rfl,fun i z y h1 h2=>?_⟩,by have:h'.next=h.next+1+1:=a4;omega,fun b el L hb r=>(a5 b el L hb (r.ext W y1)).1⟩
 rcases Nat.lt_or_ge i vs.length with hi|hi
 ·rw[List.getElem?_append_left hi]at h1
  rw[List.getElem?_append_left (by omega)]at h2
  exact(o3 i z y h1 h2).keep2 kp
 ·rw[List.getElem?_append_right hi]at h1
  rw[List.getElem?_append_right (by omega)]at h2
  have e1:=List.mem_singleton.1 (List.mem_of_getElem? h1)
  have e2:=List.mem_singleton.1 (List.mem_of_getElem? h2)
  rw[e1,e2]
  exact hd.keep2 kp
theorem CJ.app{h0:Hp}{k k2:Nat}{v v2:Value}{ds ds2:List Deed}(x0:h0.Ext h)(hk:h0.next≤k)(hk2:k≤h.next)(o:CJ h A k v ds)(o2:CJ h A k2 v2 ds2)(hne:0<ds2.length)(hl:ds.length+ds2.length≤1000):
  ∃ h' v',Eb 1 8 75 v v2 h=.ok v' h'∧h0.Ext h'∧CJ h' A k v' (ds++ds2)∧h.next≤h'.next∧(∀ b el L,(el=0∨el=6)→h.Row b el L→h'.Row b el L):=by
 obtain⟨vs,o1,o2',o3⟩:=o
 obtain⟨ws,p1,p2,p3⟩:=o2
 have W:=x0.wf
 have on:∀ w∈ws,A6 w=true:=fun w hw=>by
  obtain⟨i,hi⟩:=List.mem_iff_getElem?.1 hw
  have hil:=(List.getElem?_eq_some_iff.1 hi).1
  exact VO (p3 i w _ hi (List.getElem?_eq_getElem (by omega)))
 obtain⟨h',v',a1,a2,a3,a4,a5⟩:=GV (eb:=8) (en:=75) (k:=k) (u:=v2) (ys:=ws) x0 hk hk2 o1 p1.vals (by omega) (Sd on) (by omega)
 have nbv:∀ b el L,(el=0∨el=6)→h.Row b el L→¬ blkV v b:=fun b el L he r ⟨off,nn,c,e1⟩=>by
  rcases o1 with ⟨h1,h2⟩|⟨b',h1,h2,h3,h4⟩
  ·rw[h1]at e1;cases e1
  ·rw[h1]at e1
   injection e1 with e1 _ _
   injection e1 with e1
   injection e1 with e1 _ _
   rw[e1]at h2
   exact Hg r h2 (by omega) rfl
 have kp:∀ b el L,¬ A.D b→(el=0∨el=6)→h.Row b el L→h'.Row b el L∧(¬ A.D b∧¬ blkV v' b):=fun b el L hb he r=>by
  have:=a5 b el L (nbv b el L he r) r
  exact⟨this.1,hb,this.2⟩
 refine⟨h',v',a1,a2,⟨vs++ws,a3,by rw[List.length_append,List.length_append,o2',p2],fun i z y h1 h2=>?_⟩,by omega,fun b el L he r=>(a5 b el L (nbv b el L he r) r).1⟩
 rcases Nat.lt_or_ge i vs.length with hi|hi
 ·rw[List.getElem?_append_left hi]at h1
  rw[List.getElem?_append_left (by omega)]at h2
  exact(o3 i z y h1 h2).keep2 fun b el L hb he r=>kp b el L hb.1 he r
 ·rw[List.getElem?_append_right hi]at h1
  rw[List.getElem?_append_right (by omega),← o2']at h2
  exact(p3 _ z y h1 h2).keep2 fun b el L hb he r=>kp b el L hb.1 he r
theorem CJ.ends{k:Nat}{v:Value}{ds:List Deed}(o:CJ h A k v ds)(hD:∀ b,A.D b→b<k):∃ vs,h.VS (fun b=>¬ A.D b) v vs∧vs.length=ds.length∧∀ (i:Nat) (w:Value) (x:Deed),vs[i]? =some w→ds[i]? =some x→JA h A w x:=by
 obtain⟨vs,o1,o2,o3⟩:=o
 refine⟨vs,?_,o2,fun i w x h1 h2=>(o3 i w x h1 h2).keep2 fun b el L hb _ r=>⟨r,hb.1⟩⟩
 rcases o1 with ⟨h1,h2⟩|⟨b,h1,h2,h3,h4⟩
 ·exact .inl ⟨h1,h2⟩
 ·exact .inr ⟨b,0,_,_,vs,h1,Nat.le_refl _,h2,by omega,by rw[List.drop_zero,List.take_length],ZG hD h3⟩
theorem Ji(W:h.Wf)(R:h.Row A.bs 0 (slL A.bd A.tb lv fv bad ov))(hD:∀ b,A.D b→b<h.next){sct:Nat}(hs:sct≤100000){u:Value}{l:List Nat}{ku:Nat}(U:Mk h ku u l)(hl:l.length≤6400):
  ∃ h' v,call AG (m+1) 45 [pt A.bs,.int .i64 (sct:Int),u] h=.ok v h'∧h.Ext h'∧CJ h' A h.next v ((List.range ((l.length+63) / 64)).map (fun j=>Deed.w (sct+j) (Co l j))++[.f]):=by
 have bx:=fun (F:CallF) (e:Env) (he:AB 0 e=pt A.bs)=>(show DL (AB 0) F e h=.ok (pt h.next) (h.pushRow 0 [pt A.bs])by rw[Fe,he,FR W];rfl)
 have x1:=(Hp.Ext.refl W).pushRow 0 [pt A.bs]
 have R3:=Hp.Row.new W 0 [pt A.bs]
 have n1:(h.pushRow 0 [pt A.bs]).next=h.next+1:=rfl
 generalize h.pushRow 0 [pt A.bs]=h1 at bx x1 R3 n1
 have nD3:¬ A.D h.next:=ZG hD (Nat.le_refl _)
 have pre:∃ e1,YV (call AG m) (AZ e0 0 [pt A.bs,.int .i64 (sct:Int),u]) h=wrS (call AG m) e1 h1∧AB 1 e1=.int .i64 (sct:Int)∧AB 2 e1=u∧AB 3 e1=pt h.next∧AB 7 e1=.slice none 0 0∧AB 8 e1=.int .i64 ((64 * 0:Nat):Int):=by
  unfold YV
  simp only[AJ,AK,Nat.succ_eq_add_one,Nat.zero_add,Nat.reduceAdd,sT,Nat.reduceLT,Nat.reduceEqDiff,if_true,if_false,reduceIte,bx]
  exact⟨_,rfl,by simp[AE],by simp[AE],by simp[AE],by simp[AE],by simp only[AE,Nat.reduceLT,Nat.reduceEqDiff,if_true,if_false,reduceIte];rfl⟩
 obtain⟨e1,p1,s1,s2,s3,s7,s8⟩:=pre
 have run:∃ e' h' v,A1 wrB (call AG m) e1 h1=.exit 0 e' h'∧h.Ext h'∧CJ h' A h1.next v ((List.range ((l.length+63) / 64)).map fun j=>Deed.w (sct+j) (Co l j))∧h'.Row h.next 0 [pt A.bs]∧h1.next≤h'.next∧AB 3 e'=pt h.next∧AB 7 e'=v:=by
  refine Bz (I:=fun i e' h'=>∃ v,h.Ext h'∧CJ h' A h1.next v ((List.range i).map fun j=>Deed.w (sct+j) (Co l j))∧h'.Row h.next 0 [pt A.bs]∧h1.next≤h'.next∧i≤(l.length+63) / 64∧AB 1 e'=.int .i64 (sct:Int)∧AB 2 e'=u∧AB 3 e'=pt h.next∧AB 7 e'=v∧AB 8 e'=.int .i64 ((64 * i:Nat):Int))
   (Q:=fun x=>∃ e' h' v,x=.exit 0 e' h'∧h.Ext h'∧CJ h' A h1.next v ((List.range ((l.length+63) / 64)).map fun j=>Deed.w (sct+j) (Co l j))∧h'.Row h.next 0 [pt A.bs]∧h1.next≤h'.next∧AB 3 e'=pt h.next∧AB 7 e'=v) ((l.length+63) / 64) (by omega) (fun i e' h' ⟨v,x',dv,R',hn',hi,t1,t2,t3,t7,t8⟩=>?_)
   ⟨_,x1,⟨[],.inl ⟨rfl,rfl⟩,rfl,fun i w x h=>by cases h⟩,R3,Nat.le_refl _,Nat.zero_le _,s1,s2,s3,s7,s8⟩
  have Ul:=U.vals.bl h'
  have W':=x'.wf
  by_cases hlt:64 * i<l.length
  ·left
   have c1:iLt ((64 * i:Nat):Int) (l.length:Int)=true:=E8 hlt
   have mk:∀ (F:CallF) (e:Env),GB 1 ty5.zero (kV (.int .i64 64)) (kV (.int .i64 64)) F e h'=.ok (.slice (some ⟨h'.next,0,none⟩) 64 64) (h'.pushRow 0 (Bl.map bv)):=fun F e=>Nh (F:=F) (e:=e) W' (x:=kV (.int .i64 64)) (y:=kV (.int .i64 64)) (N:=64) rfl rfl (by omega)
   have y2:=(Hp.Ext.refl W').pushRow 0 (Bl.map bv)
   have Rz:=Hp.Row.new W' 0 (Bl.map bv)
   have n2:(h'.pushRow 0 (Bl.map bv)).next=h'.next+1:=rfl
   generalize h'.pushRow 0 (Bl.map bv)=h2 at mk y2 Rz n2
   obtain⟨h3,al,st,y3,R9,n3,_⟩:=Fy y2.wf aY (v:=.slice (some ⟨h'.next,0,none⟩) 64 64) rfl rfl
   have y23:=y2.trans y3
   have Rz3:=Rz.ext y2.wf y3
   have x3:=x'.trans y23
   have R9m:h3.marked.Row h2.next 0 [.slice (some ⟨h'.next,0,none⟩) 64 64]:=R9.same rfl
   have l9:load1 ⟨h2.next,0,none⟩ h3.marked=.ok (.slice (some ⟨h'.next,0,none⟩) 64 64) h3.marked:=R9m.load1 (off:=0) (by show 0<1;omega)
   obtain⟨w,ct,Vw⟩:=OM (((U.ext W x3).same (h':=h3.marked) rfl)) (m:=64 * i) (by omega)
   have hb256:=W'.big
   have cpy:∃ h4,(∀ (F:CallF) (e:Env),AB 18 e=.slice (some ⟨h'.next,0,none⟩) 64 64→AB 21 e=w→∃ vv,Ak .free (HE 1 (AB 18) (AB 21)) F e h3.marked=.ok vv h4)∧h'.Ext h4∧h4.Row h'.next 0 ((Co (l.drop (64 * i)) 0).map bv)∧h4.Row h2.next 0 [.slice (some ⟨h'.next,0,none⟩) 64 64]∧h3.next≤h4.next:=by
    have Rq:h3.marked.quiet.Row h'.next 0 (Bl.map bv):=Rz3.same rfl
    have hle:0+(((l.drop (64 * i)).take 64).map bv).length≤(Bl.map bv).length:=by
     rw[List.length_map,List.length_take]
     show _≤64
     omega
    have key:=fun (F:CallF) (e:Env) (a1:AB 18 e=.slice (some ⟨h'.next,0,none⟩) 64 64) (a2:AB 21 e=w)=>U9 (F:=F) (e:=e) (h:=h3.marked.quiet) y23.wf.marked.quiet hb256 a1 a2 (Vw.same (h':=h3.marked.quiet) rfl) Rq
    have wr:=Rq.wr_self y23.wf.marked.quiet hle
    have wx:=Rq.wr_ext (h0:=h') (y23.marked.quiet) (Nat.le_refl _) hle
    have wo:=Rq.wr_other y23.wf.marked.quiet hle (R9.same (h':=h3.marked.quiet) rfl) (by omega)
    have wn:=Rq.wr_next hle
    have ho:over (Bl.map bv) 0 (((l.drop (64 * i)).take 64).map bv)=(Co (l.drop (64 * i)) 0).map bv:=by
     have hk:=U9 (F:=call AG m) (e:=Env.set 18 (.slice (some ⟨h'.next,0,none⟩) 64 64) (Env.set 21 w e0)) (h:=h3.marked.quiet) (x:=AB 18) (y:=AB 21) y23.wf.marked.quiet hb256 (by simp[AE]) (by simp[AE]) (Vw.same (h':=h3.marked.quiet) rfl) Rq
     obtain⟨_,_,h2⟩:=hk
     exact h2
    rw[ho]at wr
    generalize h3.marked.quiet.wr h'.next 0 (((l.drop (64 * i)).take 64).map bv)=g at key wr wx wo wn
    refine⟨h3.marked.back g,fun F e a1 a2=>?_,Hp.Ext.back2 y23.marked wx,wr.same rfl,wo.same rfl,by show _≤g.next;rw[wn];exact Nat.le_refl _⟩
    obtain⟨vv,k1,_⟩:=key F e a1 a2
    exact⟨vv,Bq k1⟩
   obtain⟨h4,cp,y4,Rc,R94,n4⟩:=cpy
   have x4:=x'.trans y4
   have dv4:=jy (h:=h4) (i:=i) (by omega)
   have ad:=Kf (h:=h4) (a:=sct) (b:=i) (by omega)
   obtain⟨h5,al5,st5,y5,R10,n5,_⟩:=Fy y4.wf MD (v:=.int .i64 ((sct+i:Nat):Int)) rfl rfl
   have y45:=y4.trans y5
   have x5:=x'.trans y45
   have dv5:=(dv.ext W' y45)
   have hbk:∀ b,h'.next≤b→¬ blkV v b:=fun b hb hv=>by
    obtain⟨vs,o1,_⟩:=dv
    rcases o1 with ⟨h1,_⟩|⟨b',h1,h2,_⟩
    ·rw[h1]at hv;exact Gr hv
    ·have:=h2.lt W'
     rw[h1]at hv
     obtain⟨o,nn,c,hc⟩:=hv
     injection hc with hc _ _
     injection hc with hc
     injection hc with hc _ _
     omega
   have hx1:=x1.next
   have nDb:∀ b,h.next≤b→¬ A.D b:=fun b hb=>ZG hD hb
   have hb3:¬ blkV v h.next:=fun hv=>by
    obtain⟨vs,o1,_⟩:=dv
    rcases o1 with ⟨h1',_⟩|⟨b',h1',h2',h3',_⟩
    ·rw[h1']at hv;exact Gr hv
    ·rw[h1']at hv
     obtain⟨o,nn,c,hc⟩:=hv
     injection hc with hc _ _
     injection hc with hc
     injection hc with hc _ _
     omega
   have R3':=R'.ext W' y45
   have ds:Hw h5 A (fun b=>¬ A.D b∧¬ blkV v b) (.func (.func 74) ⟨[]⟩ ⟨[pt h.next,pt h4.next,pt h2.next]⟩) (.w (sct+i) (Co l i)):=by
    refine .inl ⟨h.next,h4.next,h2.next,.slice (some ⟨h'.next,0,none⟩) 64 64,rfl,R3',R10,R94.ext y4.wf y5,.inr ⟨h'.next,0,64,0,_,by rw[List.length_map,Cg],by rw[List.length_map,Cg];exact Nat.le_refl _,Rc.ext y4.wf y5,?_,?_,⟨nDb _ (by omega),hbk _ (Nat.le_refl _)⟩,.inl rfl⟩,⟨nDb _ (Nat.le_refl _),hb3⟩,⟨nDb _ (by omega),hbk _ (by omega)⟩,⟨nDb _ (by omega),hbk _ (by omega)⟩⟩
    ·rw[List.length_map,List.length_map,Cg,Cg];exact Nat.le_refl _
    ·have:Co (l.drop (64 * i)) 0=Co l i:=by unfold Co;rw[Nat.mul_zero,List.drop_zero]
     rw[this,List.drop_zero,List.take_length]
   obtain⟨h6,v6,k6,x6,dv6,n6,kp6⟩:=dv5.snoc (f:=74) x5 (Nat.le_trans hx1 (Nat.le_refl _)) (by omega) rfl ds (by rw[List.length_map,List.length_range];omega)
   have er:(List.range (i+1)).map (fun j=>Deed.w (sct+j) (Co l j))=(List.range i).map (fun j=>Deed.w (sct+j) (Co l j))++[Deed.w (sct+i) (Co l i)]:=by rw[List.range_succ,List.map_append];rfl
   rw[← er]at dv6
   have fs:=fun (F:CallF) (e:Env) (a:AB 28 e=.func (.func 74) ⟨[]⟩ ⟨[pt h.next,pt h4.next,pt h2.next]⟩)=>Ik (F:=F) (e:=e) x5.wf a
   have a3:Gn .i64 (.int .i64 ((64 * i:Nat):Int)) (.int .i64 64) h6=.ok (.int .i64 ((64 * (i+1):Nat):Int)) h6:=by
    have:=Kf (h:=h6) (a:=64 * i) (b:=64) (by omega)
    rw[show 64 * i+64=64 * (i+1)by omega]at this
    exact this
   have hrun:∃ e2,wrB (call AG m) e' h'=.norm e2 h6∧AB 1 e2=.int .i64 (sct:Int)∧AB 2 e2=u∧AB 3 e2=pt h.next∧AB 7 e2=v6∧AB 8 e2=.int .i64 ((64 * (i+1):Nat):Int):=by
    obtain⟨vv,cp⟩:=cp (call AG m) (Env.set 21 w (Env.set 18 (.slice (some ⟨h'.next,0,none⟩) 64 64) (Env.set 9 (pt h2.next) (Env.set 17 (.slice (some ⟨h'.next,0,none⟩) 64 64) (Env.set 14 (.bool true) (Env.set 13 (.int .i64 (l.length:Int)) e')))))) (by simp[AE]) (by simp[AE])
    unfold wrB
    simp only[sT,Nat.reduceLT,Nat.reduceEqDiff,if_true,if_false,reduceIte,Ay,t2,Ul,AS,AQ,t8,c1,mk,al,Av,st,BD,AV,Ac,l9]
    rw[ct _ _ _ _ (by simp only[AE,Nat.reduceLT,Nat.reduceEqDiff,if_true,if_false,reduceIte];exact t2) (by simp only[AE,Nat.reduceLT,Nat.reduceEqDiff,if_true,if_false,reduceIte];exact t8)]
    simp only[sT,Nat.reduceLT,Nat.reduceEqDiff,if_true,if_false,reduceIte,cp,GR,t8,dv4,BZ,t1,ad,al5,Av,st5,Dc,AN,AX,t3,fs,Bn,t7,k6,a3]
    exact⟨_,rfl,by simp only[AE,Nat.reduceLT,Nat.reduceEqDiff,if_true,if_false,reduceIte];exact t1,by simp only[AE,Nat.reduceLT,Nat.reduceEqDiff,if_true,if_false,reduceIte];exact t2,by simp only[AE,Nat.reduceLT,Nat.reduceEqDiff,if_true,if_false,reduceIte];exact t3,by simp[AE],by simp[AE]⟩
   obtain⟨e2,r1,r2,r3,r4,r5,r6⟩:=hrun
   exact⟨by omega,e2,h6,r1,v6,x6,dv6,kp6 _ _ _ hb3 R3',by omega,by omega,r2,r3,r4,r5,r6⟩
  ·right
   have hie:i=(l.length+63) / 64:=by omega
   have c1:iLt ((64 * i:Nat):Int) (l.length:Int)=false:=DU (by omega)
   have hrun:∃ e2,wrB (call AG m) e' h'=.exit 0 e2 h'∧AB 3 e2=pt h.next∧AB 7 e2=v:=by
    unfold wrB
    simp only[sT,Nat.reduceLT,Nat.reduceEqDiff,if_true,if_false,reduceIte,Ay,t2,Ul,AS,AQ,t8,c1]
    exact⟨_,rfl,by simp only[AE,Nat.reduceLT,Nat.reduceEqDiff,if_true,if_false,reduceIte];exact t3,by simp only[AE,Nat.reduceLT,Nat.reduceEqDiff,if_true,if_false,reduceIte];exact t7⟩
   obtain⟨e2,r1,r2,r3⟩:=hrun
   rw[r1]
   exact⟨rfl,e2,h',v,rfl,x',by rw[← hie];exact dv,R',hn',r2,r3⟩
 obtain⟨e2,h2,v2,r1,x2,dv2,R2,n2,t3,t7⟩:=run
 have l3:load1 ⟨h.next,0,none⟩ h2=.ok (pt A.bs) h2:=R2.load1 (off:=0) (by show 0<1;omega)
 obtain⟨l0,_⟩:=BN (R.ext W x2)
 obtain⟨h6,v6,k6,x6,dv6,n6,_⟩:=dv2.snoc (f:=76) (d:=.f) x2 x1.next n2 (w:=.func (.func 76) ⟨[pt A.bd]⟩ ⟨[]⟩) rfl rfl (by rw[List.length_map,List.length_range];omega)
 have fs:=fun (F:CallF) (e:Env) (a:AB 36 e=.func (.func 76) ⟨[pt A.bd]⟩ ⟨[]⟩)=>Ik (F:=F) (e:=e) x2.wf a
 refine⟨h6,v6,?_,x6,?_⟩
 ·rw[dz rfl,fR,p1,iM]
  simp only[BU,A3,r1,A9,BH]
  unfold wrE
  simp only[sT,Nat.reduceLT,Nat.reduceEqDiff,if_true,if_false,reduceIte,AV,Ac,t3,l3,A4,Az,AM,AY,Nat.zero_add,l0,Dc,AN,AX,fs,Bn,t7,k6,AP,Aa]
 ·obtain⟨vs,a,b,c⟩:=dv6
  exact⟨vs,a.le x1.next,b,c⟩
end
end
noncomputable section
open Go
set_option maxRecDepth 100000
section
variable {F:CallF}{e:Env}{h h':Hp}{A:At}{T M:List Nat}{c0 bad m:Nat}{arm:Int}{ks:List Kt}{fr:List Nat}{lv fv:Value}{ov:Bool}
theorem Gz:∀ (n k:Nat) (a:Int),CT a (n+k)→CT ((List.range n).foldl (fun a _=>Fq a) a) k
 |0,k,a,h=>by rw[Nat.zero_add]at h;exact h
 |n+1,k,a,h=>by
  rw[List.range_succ,List.foldl_append]
  have h1:=Gz n (k+1) a (by rw[show n+(k+1)=n+1+k by omega];exact h)
  exact h1.one.1
theorem YD{x y:O}{K:C}{v:Value}{b r:Nat}(hx:x e=v)(hv:v=.slice none 0 0∨∃ o n c,v=.slice (some ⟨b,o,none⟩) n c)(hy:y e=pt r)(hr:v=.slice none 0 0∨r≠b):Ce x [y] K F e h=K F e h:=by
 unfold Ce
 rw[hx]
 rcases hv with rfl|⟨o,n,c,rfl⟩
 ·rfl
 ·rcases hr with hr|hr
  ·cases hr
  ·show(bif DN b e [y]then K F e h else .no)=_
   have:DN b e [y]=true:=by
    unfold DN
    rw[hy]
    show(bif Nat.beq r b then false else DN b e [])=true
    have n1:Nat.beq r b=false:=by
     cases e:Nat.beq r b
     ·rfl
     ·exact absurd (Au.1 e) hr
    rw[n1];rfl
   rw[this];rfl
theorem CJ.atB{h0:Hp}{k bw:Nat}{v w:Value}{ds:List Deed}{f:Nat}{a b:List Value}(x0:h0.Ext h)(hk:h0.next≤k)(hk2:k≤h.next)(o:CJ h A k v ds)(hw:w=.func (.func f) ⟨a⟩ ⟨b⟩)(Rw:h.Row bw 0 [w]){d:Deed}(hd:Hw h A (fun b=>¬ A.D b∧¬ blkV v b) w d)(hl:ds.length≤1000):
  ∃ h' v',(∀ (F:CallF) (e:Env) (x y:O),x e=v→y e=.slice (some ⟨bw,0,none⟩) 1 1→IE x (A8 1 8 75 x y) F e h=.ok v' h')∧h0.Ext h'∧CJ h' A k v' (ds++[d])∧h.next≤h'.next:=by
 obtain⟨vs,o1,o2,o3⟩:=o
 have W:=x0.wf
 have on:A6 w=true:=by rw[hw];rfl
 have cl:h.quiet.Cl (blkV v) 75 v vs:=by
  rcases o1 with ⟨h1,h2⟩|⟨b,h1,h2,h3,h4⟩
  ·exact .inl ⟨h1,h2⟩
  ·exact .inr ⟨b,76,h1,h2.same rfl,.inl rfl,⟨0,_,_,h1⟩,h4⟩
 have kb:∀ b,blkV v b→h0.next≤b:=fun b hb=>by
  obtain⟨off,n,c,e1⟩:=hb
  rcases o1 with ⟨h1,h2⟩|⟨b',h1,h2,h3,h4⟩
  ·rw[h1]at e1;cases e1
  ·rw[h1]at e1
   injection e1 with e1 _ _
   injection e1 with e1
   injection e1 with e1 _ _
   omega
 obtain⟨h5,b5,a1,a2,a3,a4,a5,a6,a7,a8,a9⟩:=U7 (eb:=8) (en:=75) x0.quiet cl kb (Rw.same (h':=h.quiet) rfl) on (by rw[o2];omega) (by omega)
 have hvb:¬ blkV (.slice (some ⟨b5,0,none⟩) (vs.length+1) (vs.length+1)) b5→False:=fun h=>h ⟨0,_,_,rfl⟩
 have a4:b5=h.next:=a4
 have kp:∀ b el L,¬ A.D b∧¬ blkV v b→(el=0∨el=6)→h.Row b el L→(h.back h5).Row b el L∧(¬ A.D b∧¬ blkV (.slice (some ⟨b5,0,none⟩) (vs.length+1) (vs.length+1)) b):=fun b el L hb _ r=>⟨(a7 b el L hb.2 (r.same rfl)).same rfl,hb.1,KB (by have:=r.lt W;omega)⟩
 have a5:h5.next=h.next+1:=a5
 have h256:=W.big
 refine⟨h.back h5,.slice (some ⟨b5,0,none⟩) (vs.length+1) (vs.length+1),fun F e x y hx hy=>RO hx hy a1 (a9 rfl rfl h rfl),x0.back2 a2,⟨vs++[w],.inr ⟨b5,by rw[List.length_append];rfl,a3.same rfl,?_,by omega⟩,by rw[List.length_append,List.length_append,o2];rfl,fun i z y h1 h2=>?_⟩,by show h.next≤h5.next;omega⟩
 ·omega
 ·rcases Nat.lt_or_ge i vs.length with hi|hi
  ·rw[List.getElem?_append_left hi]at h1
   rw[List.getElem?_append_left (by omega)]at h2
   exact(o3 i z y h1 h2).keep2 kp
  ·rw[List.getElem?_append_right hi]at h1
   rw[List.getElem?_append_right (by omega)]at h2
   have e1:=List.mem_singleton.1 (List.mem_of_getElem? h1)
   have e2:=List.mem_singleton.1 (List.mem_of_getElem? h2)
   rw[e1,e2]
   exact hd.keep2 kp
def skB:C:=(AF (AC 14) (Ad iLt .i64 (AB 13) (AB 12))
(AW (AB 14)
(A5 (Ah 1 (AF (AC 15) (Bp 1 (AB 11) (AB 13))
(AF (AC 16) (AL (AB 15))
(AF (AC 7) (A2 1 zt3)
(cDo (Ae 1 (AB 7) (AB 16))
(AF (AC 18) (Cx (.func 83) [] [(AB 2),(AB 7)])
(AF (AC 19) (Af 1 (BG J9.zero 1) [(0,1,(AB 18))])
(AF (AC 20) (A8 1 8 75 (AB 5) (AB 19))
(AF (AC 5) (AD (AB 20))
Ai)))))))))
(AF (AC 21) (Bh .i64 (Ax .i64) (AB 13) (kV (.int .i64 1)))
(AF (AC 13) (AD (AB 21))
Ai)))
(Bc 0)))
def skE:C:=(Bm (AF (AC 22) (AL (AB 2))
(AF (AC 24) (AL (AB 2))
(AF (AC 25) (BJ (AB 24))
(AF (AC 26) (AH 0 (AB 25))
(AF (AC 27) (AL (AB 26))
(AF (AC 28) (Cx (.func 76) [(AB 27)] [])
(AF (AC 29) (Ak .strong (Af 1 (BG J9.zero 1) [(0,1,(AB 28))]))
(Ce (AB 5) [(AB 2)]
(AF (AC 30) (IE (AB 5) (A8 1 8 75 (AB 5) (AB 29)))
(AF (AC 31) (Ak .free (AO 47 [(AB 22),(AB 30)]))
(AF (AC 4) (AD (AB 31))
Aj))))))))))))
theorem gx:skS=A5 (Ah 0 (A1 skB)) skE:=rfl
theorem VH:d53=VI:=rfl
def hJ(M:List Nat)(ps:List Nat):List Nat:=Fb M (ps.map fun p=>(p * 3,Bl))
theorem Pu:∀ (ps:List Nat) (M:List Nat) (cs:List (Nat×List Nat)),GZ M cs (ps.map (fun p=>Deed.w (p * 3) Bl)++[.f])=(Fb M (cs++ps.map fun p=>(p * 3,Bl)),[])
 |[],M,cs=>by rw[List.map_nil,List.map_nil,List.append_nil];rfl
 |p::ps,M,cs=>by
  show GZ M (cs++[(p * 3,Bl)]) (ps.map (fun p=>Deed.w (p * 3) Bl)++[.f])=_
  rw[Pu ps,List.append_assoc];rfl
theorem Wg{n:Nat}:∀ (ps:List Nat) (cs:List (Nat×List Nat)),(cs≠[]∨ps≠[])→cs.length+ps.length≤60→(∀ p∈ps,3 * p+3≤n∧∀ x∈cs,x.1≠p * 3)→ps.Nodup→Fg n cs (ps.map (fun p=>Deed.w (p * 3) Bl)++[.f])
 |[],cs,h0,hl,_,_=>⟨h0.elim (fun h=>h) fun h=>absurd rfl h,by simpa using hl,trivial⟩
 |p::ps,cs,h0,hl,hp,hn=>by
  obtain⟨p1,p2⟩:=hp p List.mem_cons_self
  rw[List.length_cons]at hl
  refine⟨p2,by omega,rfl,fun x hx=>by rw[List.eq_of_mem_replicate hx];decide,Wg ps _ (.inl (by simp)) (by rw[List.length_append];simp only[List.length_singleton];omega) (fun q hq=>⟨(hp q (List.mem_cons_of_mem _ hq)).1,fun x hx=>?_⟩) (List.nodup_cons.1 hn).2⟩
  rcases List.mem_append.1 hx with hx|hx
  ·exact(hp q (List.mem_cons_of_mem _ hq)).2 x hx
  ·rw[List.mem_singleton.1 hx]
   show p * 3≠q * 3
   intro he
   have:p=q:=by omega
   exact(List.nodup_cons.1 hn).1 (this ▸ hq)
theorem Sl.D_lt(s:Sl h A T M c0 arm ks fr lv fv bad ov)(W:h.Wf):∀ b,A.D b→b<h.next:=fun b hb=>by
 obtain⟨h1,h2,h3⟩:=s.dk.lt W
 rcases hb with rfl|rfl|rfl|rfl
 ·exact s.row.lt W
 ·exact h1
 ·exact h2
 ·exact h3
theorem Sl.nK(s:Sl h A T M c0 arm ks fr lv fv bad ov):¬ A.K A.bs:=by
 obtain⟨h1,h2,h3,_⟩:=s.ne
 rintro (h|h|h)<;>contradiction
theorem M4(W:h.Wf)(s:Sl h A T M c0 arm ks fr lv fv bad ov){ps:List Nat}{pv:Value}(V:h.Vals pv (ints .i64 (ps.map Int.ofNat)))(hp:∀ p∈ps,3 * p+3≤A.n)(hnd:ps.Nodup)(hl:ps.length≤50){k:Nat}(ha:CT arm (ps.length+1+k)):
  ∃ h' c1 arm',call AG (m+6) 53 [pt A.bs,pv] h=.ok (.int .i64 0) h'∧Fx A.K h h'∧Sl h' A T (hJ M ps) c1 arm' ks fr lv fv bad ov∧CT arm' k:=by
 have ln:∀ g:Hp,Fc pv g=.ok (.int .i64 (ps.length:Int)) g:=fun g=>by
  have:=V.shape
  obtain⟨a,c,rfl⟩:=this
  rw[show(ints .i64 (ps.map Int.ofNat)).length=ps.length by simp[ints]];rfl
 have bx:=fun (F:CallF) (e:Env) (he:AB 0 e=pt A.bs)=>(show DL (AB 0) F e h=.ok (pt h.next) (h.pushRow 0 [pt A.bs])by rw[Fe,he,FR W];rfl)
 have x1:=(Hp.Ext.refl W).pushRow 0 [pt A.bs]
 have R2:=Hp.Row.new W 0 [pt A.bs]
 have n1:(h.pushRow 0 [pt A.bs]).next=h.next+1:=rfl
 generalize h.pushRow 0 [pt A.bs]=h1 at bx x1 R2 n1
 have hD:=s.D_lt W
 have hDn:A.n≤65536:=s.dk.n1.2
 by_cases h0:ps=[]
 ·subst h0
  have c1:iEq ((([]:List Nat).length:Nat):Int) 0=true:=C4 rfl
  refine⟨h1,c0,arm,?_,.of x1,s.ext W x1,ha.le (by omega)⟩
  rw[Uz rfl,VH]
  unfold VI
  simp only[AJ,AK,Nat.succ_eq_add_one,Nat.zero_add,Nat.reduceAdd,sT,Nat.reduceLT,Nat.reduceEqDiff,if_true,if_false,reduceIte,bx,Ay,ln,AS,AQ,c1,AP,Aa]
 have hpos:0<ps.length:=by
  cases ps with
  |nil=>exact absurd rfl h0
  |cons _ _=>exact Nat.succ_pos _
 have c1:iEq (ps.length:Int) 0=false:=Cz (by omega)
 have pre:∃ e1,VI (call AG (m+5)) (AZ e0 0 [pt A.bs,pv]) h=skS (call AG (m+5)) e1 h1∧AB 2 e1=pt h.next∧AB 5 e1=.slice none 0 0∧AB 11 e1=pv∧AB 12 e1=.int .i64 (ps.length:Int)∧AB 13 e1=.int .i64 ((0:Nat):Int):=by
  unfold VI
  simp only[AJ,AK,Nat.succ_eq_add_one,Nat.zero_add,Nat.reduceAdd,sT,Nat.reduceLT,Nat.reduceEqDiff,if_true,if_false,reduceIte,bx,Ay,ln,AS,AQ,c1]
  exact⟨_,rfl,by simp[AE],by simp[AE],by simp[AE],by simp[AE],by simp only[AE,Nat.reduceLT,Nat.reduceEqDiff,if_true,if_false,reduceIte];rfl⟩
 obtain⟨e1,p1,s2,s5,s11,s12,s13⟩:=pre
 have run:∃ e' h' v,A1 skB (call AG (m+5)) e1 h1=.exit 0 e' h'∧h.Ext h'∧CJ h' A h1.next v (ps.map fun p=>Deed.w (p * 3) Bl)∧h'.Row h.next 0 [pt A.bs]∧h1.next≤h'.next∧AB 2 e'=pt h.next∧AB 5 e'=v:=by
  refine Bz (I:=fun i e' h'=>∃ v,h.Ext h'∧CJ h' A h1.next v ((ps.take i).map fun p=>Deed.w (p * 3) Bl)∧h'.Row h.next 0 [pt A.bs]∧h1.next≤h'.next∧i≤ps.length∧AB 2 e'=pt h.next∧AB 5 e'=v∧AB 11 e'=pv∧AB 12 e'=.int .i64 (ps.length:Int)∧AB 13 e'=.int .i64 (i:Int))
   (Q:=fun x=>∃ e' h' v,x=.exit 0 e' h'∧h.Ext h'∧CJ h' A h1.next v (ps.map fun p=>Deed.w (p * 3) Bl)∧h'.Row h.next 0 [pt A.bs]∧h1.next≤h'.next∧AB 2 e'=pt h.next∧AB 5 e'=v) ps.length (by omega) (fun i e' h' ⟨v,x',dv,R',hn',hi,t2,t5,t11,t12,t13⟩=>?_)
   ⟨_,x1,⟨[],.inl ⟨rfl,rfl⟩,rfl,fun i w x h=>by cases h⟩,R2,Nat.le_refl _,Nat.zero_le _,s2,s5,s11,s12,s13⟩
  have W':=x'.wf
  by_cases hlt:i<ps.length
  ·left
   have c1:=E8 hlt
   obtain⟨p,hpi⟩:∃ p,ps[i]? =some p:=⟨_,List.getElem?_eq_getElem hlt⟩
   have hpm:=List.mem_of_getElem? hpi
   obtain⟨a,g1,g2⟩:=(V.ext W x').at (i:=i) (by simp[ints];exact hlt)
   have g2:Gl (.pointer (some a)) h'=.ok (.int .i64 (p:Int)) h':=by
    rw[g2]
    have:(ints .i64 (ps.map Int.ofNat)).getD i noRes=.int .i64 (p:Int):=by
     rw[List.getD_eq_getElem?_getD]
     simp[ints,hpi]
    rw[this]
   obtain⟨h2,al,st,y2,R7,n2,_⟩:=Fy W' MD (v:=.int .i64 (p:Int)) rfl rfl
   have x2:=x'.trans y2
   have nDb:∀ b,h.next≤b→¬ A.D b:=fun b hb=>ZG hD hb
   have hvb:∀ b,blkV v b→h1.next≤b∧b<h'.next:=fun b hb=>by
    obtain⟨vs,o1,_⟩:=dv
    obtain⟨o,nn,c,hc⟩:=hb
    rcases o1 with ⟨h1',_⟩|⟨b',h1',h2',h3',_⟩
    ·rw[h1']at hc;cases hc
    ·rw[h1']at hc
     have:=h2'.lt W'
     injection hc with hc _ _
     injection hc with hc
     injection hc with hc _ _
     omega
   have ds:Hw h2 A (fun b=>¬ A.D b∧¬ blkV v b) (.func (.func 83) ⟨[]⟩ ⟨[pt h.next,pt h'.next]⟩) (.w (p * 3) Bl):=.inr ⟨h.next,h'.next,p,rfl,R'.ext W' y2,R7,rfl,by have:=hp p hpm;omega,rfl,⟨nDb _ (Nat.le_refl _),fun hb=>by have:=hvb _ hb;omega⟩,⟨nDb _ (by have:=x'.next;omega),fun hb=>by have:=hvb _ hb;omega⟩⟩
   obtain⟨h3,v3,k3,x3,dv3,n3,kp3⟩:=(dv.ext W' y2).snoc (f:=83) x2 x1.next (by omega) rfl ds (by rw[List.length_map,List.length_take];omega)
   have er:(ps.take (i+1)).map (fun p=>Deed.w (p * 3) Bl)=(ps.take i).map (fun p=>Deed.w (p * 3) Bl)++[Deed.w (p * 3) Bl]:=by
    rw[List.take_add_one,hpi,List.map_append];rfl
   rw[← er]at dv3
   have fs:=fun (F:CallF) (e:Env) (a:AB 18 e=.func (.func 83) ⟨[]⟩ ⟨[pt h.next,pt h'.next]⟩)=>Ik (F:=F) (e:=e) x2.wf a
   have a3:=C1 (i:=i) (h:=h3) (by omega)
   have hrun:∃ e2,skB (call AG (m+5)) e' h'=.norm e2 h3∧AB 2 e2=pt h.next∧AB 5 e2=v3∧AB 11 e2=pv∧AB 12 e2=.int .i64 (ps.length:Int)∧AB 13 e2=.int .i64 ((i+1:Nat):Int):=by
    unfold skB
    simp only[sT,Nat.reduceLT,Nat.reduceEqDiff,if_true,if_false,reduceIte,AS,AQ,t13,t12,c1,Bb,t11,g1,AV,g2,al,Av,st,Dc,AN,AX,t2,fs,Bn,t5,k3,BZ,a3]
    exact⟨_,rfl,by simp only[AE,Nat.reduceLT,Nat.reduceEqDiff,if_true,if_false,reduceIte];exact t2,by simp[AE],by simp only[AE,Nat.reduceLT,Nat.reduceEqDiff,if_true,if_false,reduceIte];exact t11,by simp only[AE,Nat.reduceLT,Nat.reduceEqDiff,if_true,if_false,reduceIte];exact t12,by simp[AE]⟩
   obtain⟨e2,r1,r2,r3,r4,r5,r6⟩:=hrun
   exact⟨hlt,e2,h3,r1,v3,x3,dv3,kp3 _ _ _ (fun hb=>by have:=hvb _ hb;omega) (R'.ext W' y2),by omega,by omega,r2,r3,r4,r5,r6⟩
  ·right
   have c1:=DU (show ps.length≤i by omega)
   have hrun:∃ e2,skB (call AG (m+5)) e' h'=.exit 0 e2 h'∧AB 2 e2=pt h.next∧AB 5 e2=v:=by
    unfold skB
    simp only[sT,Nat.reduceLT,Nat.reduceEqDiff,if_true,if_false,reduceIte,AS,AQ,t13,t12,c1]
    exact⟨_,rfl,by simp only[AE,Nat.reduceLT,Nat.reduceEqDiff,if_true,if_false,reduceIte];exact t2,by simp only[AE,Nat.reduceLT,Nat.reduceEqDiff,if_true,if_false,reduceIte];exact t5⟩
   obtain⟨e2,r1,r2,r3⟩:=hrun
   rw[r1]
   rw[List.take_of_length_le (by omega)]at dv
   exact⟨rfl,e2,h',v,rfl,x',dv,R',hn',r2,r3⟩
 obtain⟨e2,h2,v2,r1,x2,dv2,R2',n2,t2,t5⟩:=run
 have x2m:=x2.marked
 have R2m:h2.marked.Row h.next 0 [pt A.bs]:=R2'.same rfl
 have l2:load1 ⟨h.next,0,none⟩ h2.marked=.ok (pt A.bs) h2.marked:=R2m.load1 (off:=0) (by show 0<1;omega)
 obtain⟨l0,_⟩:=BN (s.row.ext W x2m)
 have qs:∀ (F:CallF) (e:Env),AB 28 e=.func (.func 76) ⟨[pt A.bd]⟩ ⟨[]⟩→Ak .strong (Af 1 (BG J9.zero 1) [(0,1,AB 28)]) F e h2.marked=.ok (.slice (some ⟨h2.next,0,none⟩) 1 1) (h2.marked.back (h2.marked.quiet.pushRow 0 [.func (.func 76) ⟨[pt A.bd]⟩ ⟨[]⟩])):=fun F e he=>DQ (Ik x2m.wf.quiet he) ((Hp.Ext.refl x2m.wf.quiet).pushRow _ _) (Nat.le_refl _)
 have y3:h2.Ext (h2.marked.back (h2.marked.quiet.pushRow 0 [.func (.func 76) ⟨[pt A.bd]⟩ ⟨[]⟩])):=Hp.Ext.back2 (Hp.Ext.refl x2.wf).marked ((Hp.Ext.refl x2.wf).marked.quiet.pushRow _ _)
 have Rw:(h2.marked.back (h2.marked.quiet.pushRow 0 [.func (.func 76) ⟨[pt A.bd]⟩ ⟨[]⟩])).Row h2.next 0 [.func (.func 76) ⟨[pt A.bd]⟩ ⟨[]⟩]:=(Hp.Row.new x2m.wf.quiet 0 [.func (.func 76) ⟨[pt A.bd]⟩ ⟨[]⟩]).same rfl
 generalize h2.marked.back (h2.marked.quiet.pushRow 0 [.func (.func 76) ⟨[pt A.bd]⟩ ⟨[]⟩])=h3 at qs y3 Rw
 have x3:=x2.trans y3
 obtain⟨h4,v4,k4,x4,dv4,n4⟩:=(dv2.ext x2.wf y3).atB (f:=76) (d:=.f) x3 x1.next (Nat.le_trans n2 y3.next) rfl Rw rfl (by rw[List.length_map];omega)
 have ck:∀ (K:C) (F:CallF) (e:Env),AB 5 e=v2→AB 2 e=pt h.next→Ce (AB 5) [AB 2] K F e h3=K F e h3:=fun K F e a1 a2=>by
  obtain⟨vs,o1,_⟩:=dv2
  rcases o1 with ⟨h1',_⟩|⟨b',h1',h2',h3',_⟩
  ·exact YD (b:=0) a1 (.inl h1') a2 (.inl h1')
  ·exact YD (b:=b') a1 (.inr ⟨_,_,_,h1'⟩) a2 (.inr (by omega))
 have s4:=s.ext W x4
 obtain⟨vs,w1,w2,w3⟩:=dv4.ends fun b hb=>by have:=hD b hb;have:=x1.next;omega
 obtain⟨h5,c5,arm5,k5,f5,d5,ea⟩:=QN (m:=m) x4.wf.quiet (s4.row.same (h':=h4.quiet) rfl) s.nK (s4.dk.same (h':=h4.quiet) rfl) (w1.same (h':=h4.quiet) rfl) w2 (fun i v x a b=>(w3 i v x a b).keep2 fun b el L hb _ r=>⟨r.same rfl,hb⟩) (Wg ps [] (.inr h0) (by simp only[List.length_nil];omega) (fun p hq=>⟨hp p hq,fun x hx=>by cases hx⟩) hnd)
  (by rw[List.length_append,List.length_map];exact ha.le (by show ps.length+1≤_;omega)) (by rw[List.length_append,List.length_map];show ps.length+1≤_;omega)
 rw[Pu]at d5
 have q5:∀ e:Env,AB 22 e=pt A.bs→AB 30 e=v4→Ak .free (AO 47 [AB 22,AB 30]) (call AG (m+5)) e h4=.ok (.int .i64 0) (h4.back h5):=fun e a1 a2=>by
  refine Bq ?_
  rw[Ab,AN,AN,AX,a1,a2];exact k5
 have f5':Fx A.K h4 (h4.back h5):=(f5.from (h:=h4) rfl rfl).same rfl rfl
 refine⟨h4.back h5,c5,arm5,?_,(Fx.of x4).trans f5',((s4.sc.fx x4.wf f5').sl (d5.same rfl)),?_⟩
 ·rw[Uz rfl,VH,p1,gx]
  simp only[BU,A3,r1,A9,BH]
  unfold skE
  simp only[sT,Nat.reduceLT,Nat.reduceEqDiff,if_true,if_false,reduceIte,BD,AV,Ac,t2,l2,A4,Az,AM,AY,Nat.zero_add,l0,Dc,AN,AX,qs]
  rw[ck _ _ _ (by simp only[AE,Nat.reduceLT,Nat.reduceEqDiff,if_true,if_false,reduceIte];exact t5) (by simp only[AE,Nat.reduceLT,Nat.reduceEqDiff,if_true,if_false,reduceIte];exact t2)]
  simp only[sT,Nat.reduceLT,Nat.reduceEqDiff,if_true,if_false,reduceIte]
  rw[k4 _ _ _ _ (by simp only[AE,Nat.reduceLT,Nat.reduceEqDiff,if_true,if_false,reduceIte];exact t5) (by simp[AE])]
  simp only[sT,Nat.reduceLT,Nat.reduceEqDiff,if_true,if_false,reduceIte,q5,AP,Aa]
 ·rw[ea,List.length_append,List.length_map]
  exact Gz _ k arm ha
end
end
end Go.Proofs.YtedbmmfebjfibaaGreat

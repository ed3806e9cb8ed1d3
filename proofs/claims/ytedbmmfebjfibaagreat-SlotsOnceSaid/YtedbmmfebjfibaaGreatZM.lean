/-
  Part ZM of what Lawsn stands on: printed by program, names and spaces cut.
-/
import Derived.Test.YtedbmmfebjfibaaGreatZL
set_option linter.unusedVariables false
set_option linter.unusedSimpArgs false
namespace Go.Proofs.YtedbmmfebjfibaaGreat
noncomputable section
open Go
set_option maxRecDepth 100000
abbrev f86:Value:=.func (.func 86) ⟨[]⟩ ⟨[]⟩
theorem Ub{n:Nat}{h:Hp}{c:Nat}:call AF (n+1) 86 [.int .u8 (c:Int)] h=.ok (.bool (iNe (c:Int) 0)) h:=by
 rw[iw rfl]
 unfold d86
 simp only[iN,Nat.reduceAdd,sT,Nat.reduceLT,Nat.reduceEqDiff,reduceIte,AO,AN,lV0]
theorem XS{n:Nat}{h:Hp}{u:Value}{l:List Nat}(V:h.Vals u (l.map bv))(hl:l.length≤900000){e:Env}(s0:AB 0 e=u)(s1:AB 1 e=f86)(s7:AB 7 e=.int .i64 (l.length:Int))(s8:AB 8 e=.int .i64 ((0:Nat):Int)):
  (∃ e',Az ifB (call AF (n+1)) e h=.exit 0 e' h∧∀ x∈l,x=0)∨(∃ e' i,Az ifB (call AF (n+1)) e h=.ret e' h∧AB 4 e'=.int .i64 ((i:Nat):Int)∧∃ x∈l,x≠0):=by
 refine Be (I:=fun i e' h'=>h'=h∧AB 0 e'=u∧AB 1 e'=f86∧AB 7 e'=.int .i64 (l.length:Int)∧AB 8 e'=.int .i64 (i:Int)∧i≤l.length∧((∀ x∈l,x=0)↔∀ x∈l.drop i,x=0))
  (Q:=fun x=>(∃ e',x=.exit 0 e' h∧∀ x∈l,x=0)∨(∃ e' i,x=.ret e' h∧AB 4 e'=.int .i64 ((i:Nat):Int)∧∃ x∈l,x≠0)) l.length (by omega) (fun i e' h' ⟨hh,t0,t1,t7,t8,hi,hr⟩=>?_) ⟨rfl,s0,s1,s7,s8,Nat.zero_le _,by simp⟩
 subst hh
 by_cases hlt:i<l.length
 ·obtain⟨a,g1,g2⟩:=IE V hlt
  have hmem:l.getD i 0∈l:=by
   rw[List.getD_eq_getElem?_getD,List.getElem?_eq_getElem hlt];exact List.getElem_mem hlt
  rw[Fg hlt]at hr
  generalize l.getD i 0=c at g2 hr hmem
  have c1:=Eo hlt
  have k1:=Ub (n:=n) (h:=h') (c:=c)
  by_cases hc:c=0
  ·left
   subst hc
   have k1:call AF (n+1) 86 [.int .u8 ((0:Nat):Int)] h'=.ok (.bool false) h':=k1
   have a3:=CR (i:=i) (h:=h') (by omega)
   have hrun:∃ e2,ifB (call AF (n+1)) e' h'=.norm e2 h'∧AB 0 e2=u∧AB 1 e2=f86∧AB 7 e2=.int .i64 (l.length:Int)∧AB 8 e2=.int .i64 ((i+1:Nat):Int):=by
    unfold ifB
    simp only[sT,Nat.reduceLT,Nat.reduceEqDiff,reduceIte,AO,AN,t8,t7,c1,A8,t0,g1,AP,g2,Cj,t1,Ch,Ah,A7,List.nil_append,List.append_nil,k1,BR,a3]
    exact⟨_,rfl,by simp[AH,t0,t1,t7]⟩
   obtain⟨e2,q1,q2,q3,q4,q5⟩:=hrun
   refine⟨hlt,e2,h',q1,rfl,q2,q3,q4,q5,hlt,hr.trans ?_⟩
   simp
  ·right
   have c2:iNe (c:Int) 0=true:=by rw[Gi];simpa using hc
   rw[c2]at k1
   have hrun:∃ e2,ifB (call AF (n+1)) e' h'=.ret e2 h'∧AB 4 e2=.int .i64 (i:Int):=by
    unfold ifB
    simp only[sT,Nat.reduceLT,Nat.reduceEqDiff,reduceIte,AO,AN,t8,t7,c1,A8,t0,g1,AP,g2,Cj,t1,Ch,Ah,A7,List.nil_append,List.append_nil,k1]
    exact⟨_,rfl,by simp[AH]⟩
   obtain⟨e2,q1,q2⟩:=hrun
   rw[q1]
   exact⟨rfl,.inr ⟨e2,i,rfl,q2,c,hmem,hc⟩⟩
 ·right
  have c1:=DD (show l.length≤i by omega)
  have hrun:∃ e2,ifB (call AF (n+1)) e' h'=.exit 0 e2 h':=by
   unfold ifB
   simp only[sT,Nat.reduceLT,Nat.reduceEqDiff,reduceIte,AO,AN,t8,t7,c1]
   exact⟨_,rfl⟩
  obtain⟨e2,q1⟩:=hrun
  rw[q1]
  refine⟨rfl,.inl ⟨e2,rfl,hr.2 ?_⟩⟩
  rw[List.drop_of_length_le (by omega)]
  intro x hx;cases hx
theorem Q3{n:Nat}{h:Hp}{u:Value}{l:List Nat}(V:h.Vals u (l.map bv))(hl:l.length≤900000):∃ r:Bool,call AF (n+3) 85 [u,f86] h=.ok (.bool r) h∧(r=true↔∃ x∈l,x≠0):=by
 have Vl:=V.bl h
 have pre:∃ e1,Me (call AF (n+1)) (AV e0 0 [u,f86]) h=ifS (call AF (n+1)) e1 h∧AB 0 e1=u∧AB 1 e1=f86∧AB 7 e1=.int .i64 (l.length:Int)∧AB 8 e1=.int .i64 ((0:Nat):Int):=by
  unfold Me
  simp only[iN,Nat.reduceAdd,sT,Nat.reduceLT,Nat.reduceEqDiff,reduceIte,Am,Vl]
  exact⟨_,rfl,by simp[AH]⟩
 obtain⟨e1,p1,p2,p3,p4,p5⟩:=pre
 rcases XS (n:=n) V hl p2 p3 p4 p5 with ⟨e2,q1,q2⟩|⟨e2,i,q1,q2,q3⟩
 ·have k1:call AF (n+2) 109 [u,f86] h=.ok (.int .i64 (-1)) h:=by
   rw[KJ rfl,KK,p1,Nr]
   simp only[BP,A1,q1,A5,BJ]
   unfold ifE
   simp only[sT,Nat.reduceLT,Nat.reduceEqDiff,reduceIte,lV0]
  refine⟨false,?_,by simp;exact q2⟩
  have c1:iGe (-1) 0=false:=Ez (by omega)
  rw[Nc rfl]
  unfold d85
  simp only[iN,Nat.reduceAdd,sT,Nat.reduceLT,Nat.reduceEqDiff,reduceIte,cA0,k1,AO,AN,c1,lV0]
 ·have k1:call AF (n+2) 109 [u,f86] h=.ok (.int .i64 (i:Int)) h:=by
   rw[KJ rfl,KK,p1,Nr]
   simp only[BP,A1,q1,CB,Co,lV0,q2]
  refine⟨true,?_,by simp only[true_iff];exact q3⟩
  have c1:iGe (i:Int) 0=true:=Gg (by omega)
  rw[Nc rfl]
  unfold d85
  simp only[iN,Nat.reduceAdd,sT,Nat.reduceLT,Nat.reduceEqDiff,reduceIte,cA0,k1,AO,AN,c1,lV0]
def K0:Kt:=⟨0,0,0,0,[],0,.slice none 0 0⟩
theorem ZQ:De.zero=Ab K0:=by kernel_rfl
theorem GO:B3 .mt 0 (Ab K0)=some C5:=by kernel_rfl
section
variable {F:CallF}{e:Env}{h g:Hp}{T M:List Nat}{c0 bad m:Nat}{arm:Int}{lv fv:Value}{ov:Bool}
theorem F7{h:Hp}{t u v w:Value}{l:List Value}:Fh 3 (.tuple ⟨t::u::v::w::l⟩) h=.ok w h:=rfl
theorem JE:Bm De.zero [] F e h=.ok (ktV K0) h:=by
 rw[EH,CP,ZQ];rfl
theorem Sn{a b c:Int}{s p:Nat}{u:Value}{l:List Nat}{g1 g2:O}(h1:g1 e=B1 a b c s u)(h2:g2 e=.int .i64 (p:Int)):Bm De.zero [(0,5,g1),(5,1,g2)] F e h=.ok (ktV ⟨a,b,c,s,l,p,u⟩) h:=by
 rw[EH,ZQ,BE (hk:=by rw[h1];rfl),h1,BE (hk:=by rw[h2];rfl),h2,
  if_pos (show(cellsOf (B1 a b c s u)).length=5 from rfl),if_pos (show 0+5≤(Ab K0).length by show 5≤6;omega),if_pos (show(cellsOf (.int .i64 (p:Int))).length=1 from rfl),if_pos (show 5+1≤(over (Ab K0) 0 (cellsOf (B1 a b c s u))).length by show 6≤6;omega),CP]
 rfl
theorem L8(W0:h.Wf)(x:h.Ext g){r:Nat}(hr:h.next≤r){L:List Value}(R:g.Row r 0 L)(hL:L.length=6){k:Kt}(hu:A0 k.u=true):
  storeR 6 (pt r) (ktV k) g=.ok noRes (g.wr r 0 (Ab k))∧loadN 6 ⟨r,0,none⟩ (g.wr r 0 (Ab k))=.ok (ktV k) (g.wr r 0 (Ab k))∧h.Ext (g.wr r 0 (Ab k))∧(g.wr r 0 (Ab k)).Row r 0 (Ab k)∧(g.wr r 0 (Ab k)).next=g.next:=by
 have h256:256≤r:=by have:=W0.big;omega
 have ho:0+(Ab k).length≤L.length:=by rw[hL];show 0+6≤6;omega
 have h1:Bh (Ab k)=true:=by
  show(bif A0 k.u then true else false)=true
  rw[hu];rfl
 have st:=R.storeR (n:=6) (off:=0) x.wf h256 (v:=ktV k) rfl ho h1
 have wr:=R.wr_self x.wf ho
 rw[H5 (show L.length=(Ab k).length from hL)]at wr
 exact⟨st,wr.loadN (off:=0) (n:=6) (by show 0+6≤6;omega),R.wr_ext x hr ho,wr,R.wr_next ho⟩
def Jn(T M:List Nat)(p:Nat)(ns:List Nat):Prop:=Kk T (sec M (3 * p)) ns∧at6 ns 4≤100∧Ct T (dat M p (at6 ns 4))=at6 ns 5
def lkC:C:=(AE (AC 61) (AM 88 [(AB 0),(AB 1),(AB 12)])
(AE (AC 62) (Aa 0 (AB 61))
(AE (AC 63) (Aa 1 (AB 61))
(AE (AC 64) (AG 4 (AB 11))
(cDo (Af 1 (AB 64) (AB 62))
(AE (AC 9) (AD (AB 63))
(AE (AC 66) (AW iNe .i64 (AB 9) (kV (.int .i64 0)))
(AS (AB 66)
(AE (AC 67) (Bm De.zero [])
(cDo (Af 6 (AB 4) (AB 67))
(AE (AC 5) (AD (kV (.bool false)))
(AE (AC 6) (AD (kV (.bool false)))
(AE (AC 7) (AD (AB 9))
Ad)))))
(BW (AE (AC 70) (BM (AB 0))
(AE (AC 71) (AG 1 (AB 70))
(AE (AC 72) (AK (AB 71))
(AE (AC 73) (AG 4 (AB 11))
(AE (AC 74) (AK (AB 73))
(AE (AC 75) (Ac .free (AM 71 [(AB 72),(AB 74)]))
(AE (AC 77) (AW iNe .u32 (AB 75) (AB 13))
(AS (AB 77)
(AE (AC 78) (Bm De.zero [])
(cDo (Af 6 (AB 4) (AB 78))
(AE (AC 5) (AD (kV (.bool false)))
(AE (AC 6) (AD (kV (.bool true)))
(AE (AC 7) (AD (kV (.int .i64 0)))
Ad)))))
(AE (AC 79) (Ax 5 (AB 11))
(AE (AC 81) (Bm De.zero [(0,5,(AB 79)),(5,1,(AB 1))])
(cDo (Af 6 (AB 4) (AB 81))
(AE (AC 5) (AD (kV (.bool true)))
(AE (AC 6) (AD (kV (.bool false)))
(AE (AC 7) (AD (kV (.int .i64 0)))
Ad)))))))))))))))))))))))
def Xi:C:=(AE (AC 45) (CI (AB 14))
(cG (AB 45) false (AC 47) (AD (AB 12))
(cG (AB 45) false (AC 48) (AD (AB 0))
(cG (AB 45) false (AC 49) (BM (AB 48))
(cG (AB 45) false (AC 50) (AG 2 (AB 49))
(cG (AB 45) false (AC 51) (AK (AB 50))
(cG (AB 45) false (AC 52) (AW iGt .i64 (AB 47) (AB 51))
(AE (AC 53) (Aj (AB 45) (kV (.bool true)) (AB 52))
(AS (AB 53)
(AE (AC 54) (Bm De.zero [])
(AE (AC 56) (CI (AB 10))
(cDo (Af 6 (AB 4) (AB 54))
(AE (AC 5) (AD (kV (.bool false)))
(AE (AC 6) (AD (AB 56))
(AE (AC 7) (AD (kV (.int .i64 0)))
Ad))))))
lkC)))))))))
theorem N3:lkB=Xi:=rfl
theorem jU:d55=Uk:=rfl
theorem qx{e:Env}{h:Hp}{r4:Nat}{v:Value}{a b:Bool}{c:Int}(s4:AB 4 e=pt r4)(s5:AB 5 e=.bool a)(s6:AB 6 e=.bool b)(s7:AB 7 e=.int .i64 c)(hv:loadN 6 ⟨r4,0,none⟩ h=.ok v h):A4 [.cN (AB 4) 6,.t (AB 5),.t (AB 6),.t (AB 7)] (.ret e h)=.ok (.tuple ⟨[v,.bool a,.bool b,.int .i64 c]⟩) h:=by
 rw[Bp,JT (v:=v) (by rw[s4,Av];exact hv),s5,s6,s7]
def eW(T M:List Nat)(p:Nat)(h h':Hp)(r:R):Prop:=
 (∃ ns u,Jn T M p ns∧r=.ok (.tuple ⟨[ktV ⟨at6 ns 1,at6 ns 2,at6 ns 3,at6 ns 0,dat M p (at6 ns 4),p,u⟩,.bool true,.bool false,.int .i64 0]⟩) h'∧h'.BS (fun b=>h.next≤b) u ((dat M p (at6 ns 4)).map bv))∨
 ((¬ ∃ ns,Jn T M p ns)∧∃ bad:Bool,r=.ok (.tuple ⟨[ktV K0,.bool false,.bool bad,.int .i64 0]⟩) h'∧(bad=true↔(∃ x∈sec M (3 * p),x≠0)∨∃ ns,Kk T (sec M (3 * p)) ns∧at6 ns 4≤100))
theorem HU{T l a b:List Nat}(h1:Kk T l a)(h2:Kk T l b):a=b:=by
 obtain⟨x,q,a1,a2,a3,_⟩:=h1
 obtain⟨y,r,b1,b2,b3,_⟩:=h2
 rw[a1]at b1
 cases b1
 rw[a3]at b3
 cases b3;rfl
theorem QH{T l ns:List Nat}(h:Kk T l ns):ci ns:=by
 obtain⟨_,_,_,_,_,h4,_⟩:=h
 exact cj.1 h4
theorem bQ(W:h.Wf){bs bd bm bc tb n:Nat}(R:h.Row bs 0 (slL bd tb lv fv bad ov))(Rt:h.Row tb 0 (T.map wv))(hT:TblOk T)(d:Dk h bd bm bc n M c0 [] arm false){p:Nat}(hp:3 * p+3≤n):
  ∃ h',h.Ext h'∧eW T M p h h' (call AF (m+5) 55 [pt bs,.int .i64 (p:Int)] h):=by
 have hn:=d.n1
 have al:=fun (F:CallF) (e:Env)=>B7 (F:=F) (e:=e) W (n:=6) (t:=C5)
 have R4:=Hp.Row.alloc W GO (show(Ab K0).length=6 from rfl)
 have x1:h.Ext (h.push (.cells C5 6 0)):=(Hp.Ext.refl W).push _
 have n1:(h.push (.cells C5 6 0)).next=h.next+1:=rfl
 generalize h.push (.cells C5 6 0)=h1 at al R4 x1 n1
 have xm:=x1.marked
 have Rm:=R.ext W xm
 have old:∀ (off:Nat) (kk:C) (F:CallF) (e:Env),Jf (.pointer (some ⟨bs,off,none⟩)) kk F e h1.marked=kk F e h1.marked:=fun off kk F e=>Dw (by
  show bs<h1.next
  have:=R.lt W
  omega)
 obtain⟨l0,_⟩:=BC Rm
 have k1:=MX (m:=m+2) (Rm.same (h':=h1.marked.quiet) rfl) (p:=p) (by omega)
 have q1:∀ e:Env,AB 0 e=pt bs→AB 1 e=.int .i64 (p:Int)→Ac .weak (AM 46 [AB 0,AB 1]) (call AF (m+4)) e h1.marked=.ok (.int .i64 ((p * 3:Nat):Int)) (h1.marked.back h1.marked.quiet):=fun e e1 e2=>by
  refine G1 x1.wf.marked ?_ (Nat.le_refl _)
  rw[Bk,Ah,Ah,A7,e1,e2];exact k1
 have y2:h1.Ext (h1.marked.back h1.marked.quiet):=Hp.Ext.back2 (Hp.Ext.refl x1.wf).marked (Hp.Ext.refl x1.wf).marked.quiet
 have n2:(h1.marked.back h1.marked.quiet).next=h1.next:=rfl
 generalize h1.marked.back h1.marked.quiet=h2 at q1 y2 n2
 have x2:=x1.trans y2
 obtain⟨h3,v,k2,y3,mk,n3,_⟩:=Ts (m:=m+1) x2.quiet.wf ((d.ext W x2).same (h':=h2.quiet) rfl) (i:=p * 3) (by omega)
 have q2:∀ e:Env,AB 19 e=pt bd→AB 22 e=.int .i64 ((p * 3:Nat):Int)→Ac .free (AM 84 [AB 19,AB 22]) (call AF (m+4)) e h2=.ok (.tuple ⟨[v,.int .i64 0]⟩) (h2.back h3):=fun e e1 e2=>by
  refine Bb ?_
  rw[Bk,Ah,Ah,A7,e1,e2];exact k2
 have y4:h2.Ext (h2.back h3):=.back y3
 have mk4:Mk (h2.back h3) h2.quiet.next v (sec M (p * 3)):=mk.same rfl
 generalize h2.back h3=h4 at q2 y4 mk4
 rw[Nat.mul_comm p 3]at mk4
 have x4:=x2.trans y4
 have c0':iNe 0 0=false:=CT rfl
 have hsl:(sec M (3 * p)).length=64:=Ka d.len (by omega)
 have hsb:=km d.byt (3 * p)
 obtain⟨r,k3,hr⟩:=Q3 (n:=m+1) mk4.vals (by omega)
 obtain⟨_,l1,_⟩:=BC (R.ext W x4)
 obtain⟨h5,y5,hpar⟩:=YZ (n:=m) x4.wf (Rt.ext W x4) hT mk4.vals mk4.cap hsb (by omega)
 have x5:=x4.trans y5
 have al2:=fun (F:CallF) (e:Env)=>B7 (F:=F) (e:=e) x5.wf (n:=5) (t:=DU)
 have R11:=Hp.Row.alloc x5.wf HZ (show(A3 0 0 0 0 nilS).length=5 from rfl)
 have y6:h5.Ext (h5.push (.cells DU 5 0)):=(Hp.Ext.refl x5.wf).push _
 have n6:(h5.push (.cells DU 5 0)).next=h5.next+1:=rfl
 generalize h5.push (.cells DU 5 0)=h6 at al2 R11 y6 n6
 have x6:=x5.trans y6
 have hn5:=x5.next
 have hn15:h.next+1≤h5.next:=by
  have:=((y2.trans y4).trans y5).next
  omega
 have pre:∀ (a b c:Int) (s many sum:Nat) (ok:Bool),call AF (m+4) 87 [pt tb,v] h4=.ok (.tuple ⟨[B1 a b c s nilS,.int .i64 (many:Int),.int .u32 (sum:Int),.bool ok]⟩) h5→
   ∃ e1 h7,Uk (call AF (m+4)) (AV e0 0 [pt bs,.int .i64 (p:Int)]) h=lkB (call AF (m+4)) e1 h7∧h.Ext h7∧h7.Row h5.next 0 (A3 a b c s nilS)∧h7.Row h.next 0 (Ab K0)∧h5.next<h7.next∧AB 0 e1=pt bs∧AB 1 e1=.int .i64 (p:Int)∧AB 4 e1=pt h.next∧AB 10 e1=.bool (!r)∧AB 11 e1=pt h5.next∧AB 12 e1=.int .i64 (many:Int)∧AB 13 e1=.int .u32 (sum:Int)∧AB 14 e1=.bool ok:=fun a b c s many sum ok hk=>by
  obtain⟨st,_,x7,R7,n7⟩:=OO x5.wf y6 (Nat.le_refl _) R11 rfl (a:=a) (b:=b) (c:=c) (s:=s) (u:=nilS) rfl
  have R4':(h6.wr h5.next 0 (A3 a b c s nilS)).Row h.next 0 (Ab K0):=((R4.ext x1.wf ((y2.trans y4).trans y5)).ext x5.wf x7)
  generalize h6.wr h5.next 0 (A3 a b c s nilS)=h7 at st x7 R7 n7 R4'
  have hrun:∃ e1,Uk (call AF (m+4)) (AV e0 0 [pt bs,.int .i64 (p:Int)]) h=lkB (call AF (m+4)) e1 h7∧AB 0 e1=pt bs∧AB 1 e1=.int .i64 (p:Int)∧AB 4 e1=pt h.next∧AB 10 e1=.bool (!r)∧AB 11 e1=pt h5.next∧AB 12 e1=.int .i64 (many:Int)∧AB 13 e1=.int .u32 (sum:Int)∧AB 14 e1=.bool ok:=by
   unfold Uk
   simp only[iN,Nat.reduceAdd,sT,Nat.reduceLT,Nat.reduceEqDiff,reduceIte,al,BA,Ay,Aq,AJ,AQ,Nat.zero_add,EP,old,DV,AP,AU,l0,q1,q2,BV,Bj,Bo,C1,F7,AO,AN,c0',cA0,k3,Bt,Br,l1,hk,al2,Ao,st]
   exact⟨_,rfl,by simp[AH]⟩
  obtain⟨e1,q⟩:=hrun
  exact⟨e1,h7,q.1,x5.trans x7,R7,R4',by omega,q.2⟩
 have res:∀ (hx g:Hp) (e1 e2:Env) (a b:Bool) (v:Value),Uk (call AF (m+4)) (AV e0 0 [pt bs,.int .i64 (p:Int)]) h=lkB (call AF (m+4)) e1 hx→lkB (call AF (m+4)) e1 hx=.ret e2 g→AB 4 e2=pt h.next→AB 5 e2=.bool a→AB 6 e2=.bool b→AB 7 e2=.int .i64 0→loadN 6 ⟨h.next,0,none⟩ g=.ok v g→
   call AF (m+5) 55 [pt bs,.int .i64 (p:Int)] h=.ok (.tuple ⟨[v,.bool a,.bool b,.int .i64 0]⟩) g:=fun hx g e1 e2 a b v i1 i2 t4 t5 t6 t7 hv=>by
  rw[iO rfl,jU,i1,i2]
  exact qx t4 t5 t6 t7 hv
 have K0u:A0 K0.u=true:=rfl
 rcases hpar with ⟨ns,hP,hk⟩|⟨hP,hk⟩
 ·have hnum:=QH hP
  obtain⟨e1,h7,p1,x7,R7,R47,hlt7,s0,s1,s4,s10,s11,s12,s13,s14⟩:=pre _ _ _ _ (at6 ns 4) (at6 ns 5) true hk
  obtain⟨_,_,l2,_⟩:=BC (R.ext W x7)
  by_cases hmany:at6 ns 4≤100
  ·have c1:iGt (at6 ns 4:Int) 100=false:=Ei (by omega)
   obtain⟨h8,u,k4,y8,vs8⟩:=WS (m:=m) x7.wf (R.ext W x7) (d.ext W x7) (p:=p) (k:=at6 ns 4) hp (by omega)
   have x8:=x7.trans y8
   have R8:=R7.ext x7.wf y8
   have u1:=vs8.vs.one
   have ho4:4+(cellsOf u).length≤(A3 (at6 ns 1) (at6 ns 2) (at6 ns 3) (at6 ns 0) nilS).length:=by rw[u1.1];show 4+1≤5;omega
   have h256:256≤h5.next:=by have:=W.big;omega
   have st8:storeR 1 (.pointer (some ⟨h5.next,4,none⟩)) u h8=.ok noRes (h8.wr h5.next 4 (cellsOf u)):=R8.storeR (n:=1) (off:=4) x8.wf h256 (by rw[u1.1];rfl) ho4 (by
    rw[u1.1]
    show(bif A0 u then true else false)=true
    rw[u1.2.1];rfl)
   have R9:=R8.wr_self x8.wf ho4
   have x9:=R8.wr_ext x8 (by omega) ho4
   have n9:=R8.wr_next ho4
   have R49:=R8.wr_other x8.wf ho4 (R47.ext x7.wf y8) (by omega)
   have hkeep:∀ b el L,b≠h5.next→h8.Row b el L→(h8.wr h5.next 4 (cellsOf u)).Row b el L:=fun b el L hb r=>R8.wr_other x8.wf ho4 r hb
   have hov:over (A3 (at6 ns 1) (at6 ns 2) (at6 ns 3) (at6 ns 0) nilS) 4 (cellsOf u)=A3 (at6 ns 1) (at6 ns 2) (at6 ns 3) (at6 ns 0) u:=by rw[u1.1];rfl
   rw[hov]at R9
   have vs9:(h8.wr h5.next 4 (cellsOf u)).BS (fun b=>h7.next≤b) u ((dat M p (at6 ns 4)).map bv):=vs8.keep fun b el L hb _ r=>hkeep b el L (by omega) r
   generalize h8.wr h5.next 4 (cellsOf u)=h9 at st8 R9 x9 n9 R49 vs9
   have x9m:=x9.marked
   have R9m:h9.marked.Row h5.next 0 (A3 (at6 ns 1) (at6 ns 2) (at6 ns 3) (at6 ns 0) u):=R9.same rfl
   obtain⟨_,_,_,_,lu,_⟩:=B9 R9m
   obtain⟨_,l1',_⟩:=BC (R.ext W x9m)
   have hdl:(dat M p (at6 ns 4)).length=at6 ns 4:=IK d.len (by omega)
   obtain⟨hq,k5,hq2⟩:=SV (n:=m+3) (h:=h9.marked.quiet) ((Rt.ext W x9).same rfl) hT (vs9.vs.vals.same (h':=h9.marked.quiet) rfl) (W9 d.byt p _) (by omega)
   have yq:h9.marked.quiet.Ext hq:=by
    rcases hq2 with rfl|rfl
    ·exact Hp.Ext.refl x9m.quiet.wf
    ·exact(Hp.Ext.refl x9m.quiet.wf).marked
   have nq:hq.next=h9.next:=by rcases hq2 with rfl|rfl<;>rfl
   have q5:∀ e:Env,AB 72 e=pt tb→AB 74 e=u→Ac .free (AM 71 [AB 72,AB 74]) (call AF (m+4)) e h9.marked=.ok (.int .u32 ((Ct T (dat M p (at6 ns 4)):Nat):Int)) (h9.marked.back hq):=fun e e1 e2=>by
    refine Bb ?_
    rw[Bk,Ah,Ah,A7,e1,e2];exact k5
   have y10:h9.marked.Ext (h9.marked.back hq):=.back yq
   have n10:(h9.marked.back hq).next=h9.next:=nq
   generalize h9.marked.back hq=h10 at q5 y10 n10
   have x10:=x9m.trans y10
   have R10:=R9m.ext x9m.wf y10
   have R410:h10.Row h.next 0 (Ab K0):=(R49.same (h':=h9.marked) rfl).ext x9m.wf y10
   have vs10:h10.BS (fun b=>h7.next≤b) u ((dat M p (at6 ns 4)).map bv):=(vs9.same (h':=h9.marked) rfl).ext x9m.wf y10
   obtain⟨_,_,_,_,_,ln⟩:=B9 R10
   have hslot0:at6 ns 0≤2:=hnum.1
   by_cases hsum:Ct T (dat M p (at6 ns 4))=at6 ns 5
   ·have c2:iNe ((Ct T (dat M p (at6 ns 4)):Nat):Int) ((at6 ns 5:Nat):Int)=false:=CT (by rw[hsum])
    have bd1:∀ (F:CallF) (e:Env),AB 79 e=B1 (at6 ns 1) (at6 ns 2) (at6 ns 3) (at6 ns 0) u→AB 1 e=.int .i64 (p:Int)→Bm De.zero [(0,5,AB 79),(5,1,AB 1)] F e h10=.ok (ktV ⟨at6 ns 1,at6 ns 2,at6 ns 3,at6 ns 0,dat M p (at6 ns 4),p,u⟩) h10:=fun F e e1 e2=>Sn e1 e2
    obtain⟨w1,w2,w3,w4,w5⟩:=L8 W x10 (Nat.le_refl _) R410 rfl (k:=⟨at6 ns 1,at6 ns 2,at6 ns 3,at6 ns 0,dat M p (at6 ns 4),p,u⟩) u1.2.1
    have hk11:∀ b el L,b≠h.next→h10.Row b el L→(h10.wr h.next 0 (Ab ⟨at6 ns 1,at6 ns 2,at6 ns 3,at6 ns 0,dat M p (at6 ns 4),p,u⟩)).Row b el L:=fun b el L hb r=>R410.wr_other x10.wf (by show 0+6≤6;omega) r hb
    have vs11:(h10.wr h.next 0 (Ab ⟨at6 ns 1,at6 ns 2,at6 ns 3,at6 ns 0,dat M p (at6 ns 4),p,u⟩)).BS (fun b=>h7.next≤b) u ((dat M p (at6 ns 4)).map bv):=vs10.keep fun b el L hb _ r=>hk11 b el L (by have:=x7.next;omega) r
    generalize h10.wr h.next 0 (Ab ⟨at6 ns 1,at6 ns 2,at6 ns 3,at6 ns 0,dat M p (at6 ns 4),p,u⟩)=h11 at w1 w2 w3 w4 w5 vs11
    have hrun:∃ e2,lkB (call AF (m+4)) e1 h7=.ret e2 h11∧AB 4 e2=pt h.next∧AB 5 e2=.bool true∧AB 6 e2=.bool false∧AB 7 e2=.int .i64 0:=by
     rw[N3]
     unfold Xi lkC
     simp only[sT,Nat.reduceLT,Nat.reduceEqDiff,reduceIte,gD,Bt,Br,s14,Bool.not_true,s12,s0,Ay,Aq,AJ,AQ,Nat.zero_add,AP,AU,l2,AO,AN,c1,cA0,s1,k4,BV,Bj,Bo,s11,Ao,st8,c0',BA,l1',lu,q5,s13,c2,Aw,Av,ln,bd1,s4,w1]
     exact⟨_,rfl,by simp[AH,s4]⟩
    obtain⟨e2,i2,t4,t5,t6,t7⟩:=hrun
    exact⟨h11,w3,.inl ⟨ns,u,⟨hP,hmany,hsum⟩,res h7 h11 e1 e2 true false _ p1 i2 t4 t5 t6 t7 w2,vs11.mono fun b hb=>Nat.le_trans x7.next hb⟩⟩
   ·have c2:iNe ((Ct T (dat M p (at6 ns 4)):Nat):Int) ((at6 ns 5:Nat):Int)=true:=Mu (by omega)
    obtain⟨w1,w2,w3,w4,w5⟩:=L8 W x10 (Nat.le_refl _) R410 rfl (k:=K0) K0u
    generalize h10.wr h.next 0 (Ab K0)=h11 at w1 w2 w3 w4 w5
    have hrun:∃ e2,lkB (call AF (m+4)) e1 h7=.ret e2 h11∧AB 4 e2=pt h.next∧AB 5 e2=.bool false∧AB 6 e2=.bool true∧AB 7 e2=.int .i64 0:=by
     rw[N3]
     unfold Xi lkC
     simp only[sT,Nat.reduceLT,Nat.reduceEqDiff,reduceIte,gD,Bt,Br,s14,Bool.not_true,s12,s0,Ay,Aq,AJ,AQ,Nat.zero_add,AP,AU,l2,AO,AN,c1,cA0,s1,k4,BV,Bj,Bo,s11,Ao,st8,c0',BA,l1',lu,q5,s13,c2,JE,s4,w1]
     exact⟨_,rfl,by simp[AH,s4]⟩
    obtain⟨e2,i2,t4,t5,t6,t7⟩:=hrun
    refine⟨h11,w3,.inr ⟨?_,true,res h7 h11 e1 e2 false true _ p1 i2 t4 t5 t6 t7 w2,⟨fun _=>.inr ⟨ns,hP,hmany⟩,fun _=>rfl⟩⟩⟩
    rintro⟨ns',a1,a2,a3⟩
    obtain rfl:=HU hP a1
    exact hsum a3
  ·have c1:iGt (at6 ns 4:Int) 100=true:=Fl (by omega)
   obtain⟨w1,w2,w3,w4,w5⟩:=L8 W x7 (Nat.le_refl _) R47 rfl (k:=K0) K0u
   generalize h7.wr h.next 0 (Ab K0)=h11 at w1 w2 w3 w4 w5
   have hrun:∃ e2,lkB (call AF (m+4)) e1 h7=.ret e2 h11∧AB 4 e2=pt h.next∧AB 5 e2=.bool false∧AB 6 e2=.bool r∧AB 7 e2=.int .i64 0:=by
    rw[N3]
    unfold Xi
    simp only[sT,Nat.reduceLT,Nat.reduceEqDiff,reduceIte,gD,Bt,Br,s14,Bool.not_true,s12,s0,Ay,Aq,AJ,AQ,Nat.zero_add,AP,AU,l2,AO,AN,c1,JE,s10,Bool.not_not,s4,Ao,w1]
    exact⟨_,rfl,by simp[AH,s4]⟩
   obtain⟨e2,i2,t4,t5,t6,t7⟩:=hrun
   refine⟨h11,w3,.inr ⟨?_,r,res h7 h11 e1 e2 false r _ p1 i2 t4 t5 t6 t7 w2,hr.trans ⟨.inl,?_⟩⟩⟩
   ·rintro⟨ns',a1,a2,a3⟩
    obtain rfl:=HU hP a1
    exact hmany a2
   ·rintro (h1|⟨ns',a1,a2⟩)
    ·exact h1
    ·obtain rfl:=HU hP a1
     exact absurd a2 hmany
 ·obtain⟨e1,h7,p1,x7,R7,R47,hlt7,s0,s1,s4,s10,s11,s12,s13,s14⟩:=pre 0 0 0 0 0 0 false hk
  obtain⟨w1,w2,w3,w4,w5⟩:=L8 W x7 (Nat.le_refl _) R47 rfl (k:=K0) K0u
  generalize h7.wr h.next 0 (Ab K0)=h11 at w1 w2 w3 w4 w5
  have hrun:∃ e2,lkB (call AF (m+4)) e1 h7=.ret e2 h11∧AB 4 e2=pt h.next∧AB 5 e2=.bool false∧AB 6 e2=.bool r∧AB 7 e2=.int .i64 0:=by
   rw[N3]
   unfold Xi
   simp only[sT,Nat.reduceLT,Nat.reduceEqDiff,reduceIte,gD,Bt,Br,s14,Bool.not_false,JE,s10,Bool.not_not,s4,Ao,w1]
   exact⟨_,rfl,by simp[AH,s4]⟩
  obtain⟨e2,i2,t4,t5,t6,t7⟩:=hrun
  refine⟨h11,w3,.inr ⟨fun⟨ns',a1,_⟩=>hP ⟨ns',a1⟩,r,res h7 h11 e1 e2 false r _ p1 i2 t4 t5 t6 t7 w2,hr.trans ⟨.inl,?_⟩⟩⟩
  rintro (h1|⟨ns',a1,_⟩)
  ·exact h1
  ·exact absurd ⟨ns',a1⟩ hP
end
end
noncomputable section
open Go
set_option maxRecDepth 100000
theorem ES{h:Hp}{b b' el el':Nat}{L L':List Value}(r:h.Row b el L)(r':h.Row b' el' L')(he:el≠el'):b≠b':=fun hb=>by
 subst hb
 obtain⟨_,e1,_⟩:=r
 obtain⟨_,e2,_⟩:=r'
 rw[e1]at e2
 injection e2 with _ _ e3
 exact he e3
def Hp.Cl(h:Hp)(S:Nat→Prop)(en:Nat)(v:Value)(xs:List Value):Prop:=(v=nilS∧xs=[])∨∃ b el,v=.slice (some ⟨b,0,none⟩) xs.length xs.length∧h.Row b el xs∧(el=en+1∨el=0∧xs=[])∧S b∧256≤b
section
variable {F:CallF}{e:Env}{h h0 h':Hp}{S:Nat→Prop}{en:Nat}{v u:Value}{xs:List Value}
theorem Hp.Cl.vs(o:h.Cl S en v xs):h.VS S v xs:=by
 rcases o with h1|⟨b,el,h1,h2,h3,h4,h5⟩
 ·exact .inl h1
 ·exact .inr ⟨b,0,_,el,xs,h1,Nat.le_refl _,h2,by omega,by rw[List.drop_zero,List.take_length],h4⟩
theorem ED{es eb b n:Nat}{cs:List Value}(x0:h0.Ext h)(r:h.Row b 0 [])(hs:∀ k:List Value→R,BN h es u n k=k cs)(hlv:lenV u=.ok n)(hlen:cs.length=n * es)(hn:0<n)(ha:Bh cs=true)(hm:(n+1) * (eb+1)≤1099511627776):
  ∃ h',DF es eb en (.slice (some ⟨b,0,none⟩) 0 0) u h=.ok (.slice (some ⟨h.next,0,none⟩) n n) h'∧h0.Ext h'∧h'.Row h.next (en+1) cs∧h'.next=h.next+1∧h.Ext h'∧h'.mark=h.mark∧h'.low=h.low∧h'.high=h.high:=by
 have W:=x0.wf
 obtain⟨cc,hcc,hl⟩:=r.rowOf
 obtain⟨t,h2,h3⟩:=Dj cs cc [] 0 hl (.inr rfl)
 have h3:t.Is cs:=by simpa using h3
 refine⟨h.push (.cells t cs.length (en+1)),?_,x0.push _,⟨t,by rw[W.push_get,if_pos rfl],h3⟩,rfl,(Hp.Ext.refl W).push _,rfl,rfl,rfl⟩
 unfold DF DM
 simp only[hlv,hs,Ai,Nat.add_eq,Nat.zero_add]
 have e1:Nat.ble n 0=false:=by
  cases e:Nat.ble n 0
  ·rfl
  ·have:=Al.1 e;omega
 have e2:Nat.ble (Nat.mul (Nat.succ n) (Nat.succ eb)) Ic=true:=Al.2 (HN hm)
 rw[e1]
 simp only[e2,cond_true,ha]
 unfold GS
 have hcc:rowOf h b=.ok cc 0 0:=hcc
 have e3:Nat.beq 0 (Nat.mul 0 es)=true:=Ap.2 (Nat.zero_mul es).symm
 simp only[hcc,e3,h2]
 unfold EZ
 simp only[hcc,BQ,Nat.add_eq,Nat.zero_add]
 unfold CE
 rw[Ai,Ci W];rfl
theorem Gt{es eb b:Nat}(W:h.Wf)(h256:256≤b)(r:h.Row b 0 [])(hs:∀ k:List Value→R,BN h es u 0 k=k [])(hlv:lenV u=.ok 0):
  DF es eb en (.slice (some ⟨b,0,none⟩) 0 0) u h=.ok (.slice (some ⟨b,0,none⟩) 0 0) (h.wr b 0 []):=by
 unfold DF DM
 simp only[hlv,hs,Ai,Nat.add_eq]
 have e1:Nat.ble 0 0=true:=rfl
 have e0:0+0=0:=rfl
 simp only[e0,e1]
 have e2:Eg ⟨b,0,none⟩ (Nat.mul 0 es)=⟨b,0,none⟩:=by
  rw[show Nat.mul 0 es=0 from Nat.zero_mul es];rfl
 rw[e2,r.store W h256 (by simp) rfl]
theorem Hp.Row.srcE{es b el off n c sl:Nat}{l:List Value}(r:h.Row b el l)(ho:off+n * es≤l.length){k:List Value→R}:BN h es (.slice (some ⟨b,off,none⟩) sl c) n k=k ((l.drop off).take (n * es)):=by
 obtain⟨cc,hc,hl⟩:=r.rowOf
 unfold BN
 simp only[hc]
 have e:Nat.mul n es=n * es:=rfl
 rw[e]
 simp only[Nat.add_eq]
 rw[Al.2 ho]
 simp only[cond_true,FP,List.append_nil,Is.rowL hl off _ ho]
theorem Id{t el:Nat}{k:TK}{g:O}{a:Addr}{n c:Nat}(hk:k=.slice el)(hg:g e=.slice (some a) n c):oEq k false g (kV (.slice none 0 0)) F e h=.ok (.bool false) h:=by
 subst hk
 show(match eqV (.slice el) (g e) (.slice none 0 0)with|some r=>okB (false != r) h|none=>.no)=_
 rw[hg]
 exact E5
theorem Ie{t el:Nat}{k:TK}{g:O}(hk:k=.slice el)(hg:g e=.slice none 0 0):oEq k false g (kV (.slice none 0 0)) F e h=.ok (.bool true) h:=by
 subst hk
 show(match eqV (.slice el) (g e) (.slice none 0 0)with|some r=>okB (false != r) h|none=>.no)=_
 rw[hg]
 exact E5
theorem JO{t:List Value}(W:h.Wf):AZ 0 (BI t 0) [] F e h=.ok (.slice (some ⟨h.next,0,none⟩) 0 0) (h.pushRow 0 []):=by
 have:BI t 0=[]:=rfl
 rw[this,Ca,CP,DA W];rfl
end
section
variable {h0 h:Hp}{u:Value}{es eb en:Nat}{cs vs:List Value}
theorem N7(x0:h0.Ext h)(hs:∀ k:List Value→R,BN h es u 1 k=k vs)(hlv:lenV u=.ok 1)(hv:vs.length=es)(ha:Bh vs=true)(hm:2 * (eb+1)≤70368744177664):
  ∃ h',DF es eb en nilS u h=.ok (.slice (some ⟨h.next,0,none⟩) 1 1) h'∧h0.Ext h'∧h'.Row h.next (en+1) vs∧h'.next=h.next+1∧(h'.mark=h.mark∧h'.low=h.low∧h'.high=h.high)∧h.Ext h':=by
 have W:=x0.wf
 obtain⟨t1,t2⟩:=Gx vs
 refine⟨h.push (.cells (ofL vs) vs.length (en+1)),?_,x0.push _,⟨ofL vs,by rw[W.push_get,if_pos rfl],t2⟩,rfl,⟨rfl,rfl,rfl⟩,(Hp.Ext.refl W).push _⟩
 unfold DF DM
 simp only[hlv,hs,Ai,Nat.add_eq,Nat.zero_add]
 have e1:Nat.ble 1 0=false:=rfl
 have e2:Nat.ble (Nat.mul (Nat.succ 1) (Nat.succ eb)) Ic=true:=Al.2 hm
 simp only[e1,e2,cond_true,ha]
 unfold GS BN IW
 simp only[List.nil_append,t1]
 unfold EZ
 simp only[BQ]
 unfold CE
 rw[Ai,Ci W];rfl
theorem LT{n b:Nat}(x0:h0.Ext h)(hs:∀ k:List Value→R,BN h es u 1 k=k vs)(hlv:lenV u=.ok 1)(hv:vs.length=es)(hes:0<es)(ha:Bh vs=true)(r:h.Row b (en+1) cs)(hlen:cs.length=n * es)(hb:h0.next≤b)(hb2:256≤b)(hm:(n+2) * (eb+1)≤70368744177664):
  ∃ h',DF es eb en (.slice (some ⟨b,0,none⟩) n n) u h=.ok (.slice (some ⟨h.next,0,none⟩) (n+1) (n+1)) h'∧h0.Ext h'∧h'.Row h.next (en+1) (cs++vs)∧h'.next=h.next+1∧(h'.mark=h.mark∧h'.low=B6 h.low b∧h'.high=Ce h.high b)∧∀ b' el L,b'≠b→h.Row b' el L→h'.Row b' el L:=by
 have W:=x0.wf
 obtain⟨cc,hcc,hl⟩:=r.rowOf
 obtain⟨t,h2,h3⟩:=Dj vs cc cs cs.length hl (.inr rfl)
 have h3:t.Is (cs++vs):=by
  have e:cs.drop (cs.length+vs.length)=[]:=List.drop_of_length_le (by omega)
  rw[e]at h3
  simpa using h3
 have hlen2:(cs++vs).length=cs.length+vs.length:=List.length_append
 have hlt:=r.lt W
 have W1:(h.put b .dead).Wf:=W.put hlt _
 have x2:h0.Ext (h.put b .dead):=x0.put hb hlt _
 refine⟨(h.put b .dead).push (.cells t (cs.length+vs.length) (en+1)),?_,x2.push _,⟨t,by
  have:=W1.push_get (.cells t (cs.length+vs.length) (en+1)) h.next
  rw[this,if_pos (show h.next=(h.put b .dead).next from rfl),hlen2],h3⟩,rfl,⟨rfl,rfl,rfl⟩,fun b' el' L' hne r'=>?_⟩
 ·unfold DF DM
  simp only[hlv,hs,Ai,Nat.add_eq]
  have e1:Nat.ble (n+1) n=false:=by
   cases e:Nat.ble (n+1) n
   ·rfl
   ·have:=Al.1 e;omega
  have e2:Nat.ble (Nat.mul (Nat.succ (n+1)) (Nat.succ eb)) Ic=true:=Al.2 hm
  rw[e1]
  simp only[e2,cond_true,ha]
  unfold GS
  have e3:Nat.beq cs.length (Nat.mul n es)=true:=Ap.2 hlen
  simp only[hcc,e3,h2]
  unfold EZ
  have e4:Jq 0 n es cs.length=true:=by
   unfold Jq
   cases n with
   |zero=>rfl
   |succ m=>exact Ap.2 (by show 0+(m+1) * es=cs.length;omega)
  simp only[hcc,BQ,Nat.add_eq,Nat.beq_refl,cond_true,e4]
  rw[Di W hb2 hlt]
  unfold CE
  rw[Ai,Ci W1];rfl
 ·have hb':b'<h.next:=r'.lt W
  obtain⟨c',hc',hl'⟩:=r'
  refine⟨c',?_,hl'⟩
  rw[W1.push_get,if_neg (by show b'≠h.next;omega),W.put_get hlt,if_neg hne,hc']
end
theorem Oi{g:Hp}{a lo hi:Nat}(h1:a≤lo)(h2:hi≤a):KB (.ok a) g lo hi=true:=by
 show(bif Nat.ble a lo then Nat.ble hi a else false)=true
 rw[Al.2 h1,Al.2 h2];rfl
theorem Wj{h0 h:Hp}{S:Nat→Prop}{eb en:Nat}{v w:Value}{xs:List Value}{bw:Nat}(x0:h0.Ext h)(o:h.Cl S en v xs)(hS:∀ b,S b→h0.next≤b)(rw_:h.Row bw 0 [w])(hw:A0 w=true)(hl:xs.length≤1000000)(he:eb≤1000):
  ∃ h' b',DF 1 eb en v (.slice (some ⟨bw,0,none⟩) 1 1) h=.ok (.slice (some ⟨b',0,none⟩) (xs.length+1) (xs.length+1)) h'∧h0.Ext h'∧h'.Row b' (en+1) (xs++[w])∧b'=h.next∧h'.next=h.next+1∧h'.mark=h.mark∧(∀ b el L,¬ S b→h.Row b el L→h'.Row b el L)∧(∀ b el L,el≠en+1→h.Row b el L→h'.Row b el L)∧
   (h.low=h.next→h.high=0→∀ g:Hp,g.next=h.next→KB (blkOf v) g h'.low h'.high=true):=by
 have hs:∀ k,BN h 1 (.slice (some ⟨bw,0,none⟩) 1 1) 1 k=k [w]:=fun k=>rw_.srcE (es:=1) (off:=0) (n:=1) (by show 0+1 * 1≤1;omega)
 have ha:Bh [w]=true:=by
  show(bif A0 w then true else false)=true
  rw[hw];rfl
 have hm:(xs.length+2) * (eb+1)≤70368744177664:=by
  have:(xs.length+2) * (eb+1)≤1000002 * 1001:=Nat.mul_le_mul (by omega) (by omega)
  omega
 rcases o with ⟨rfl,rfl⟩|⟨b,el,rfl,r,hel,hb,h256⟩
 ·obtain⟨h5,a1,a2,a3,a4,⟨a5,a7,a8⟩,a6⟩:=N7 (eb:=eb) (en:=en) x0 hs rfl rfl ha (by have:=hm;simp only[List.length_nil]at this;omega)
  exact⟨h5,h.next,a1,a2,a3,rfl,a4,a5,fun b el L _ r=>r.ext x0.wf a6,fun b el L _ r=>r.ext x0.wf a6,fun hlo hhi g hg=>by
   show Nat.ble g.next h5.low=true
   rw[a7,hlo,hg];exact Al.2 (Nat.le_refl _)⟩
 ·have hlt:=r.lt x0.wf
  rcases hel with rfl|⟨rfl,rfl⟩
  ·obtain⟨h5,a1,a2,a3,a4,⟨a5,a7,a8⟩,a6⟩:=LT (eb:=eb) (en:=en) (n:=xs.length) x0 hs rfl rfl (by omega) ha r (Nat.mul_one _).symm (hS b hb) h256 hm
   refine⟨h5,h.next,a1,a2,a3,rfl,a4,a5,fun b' el L hne r'=>a6 _ _ _ (fun e=>hne (e ▸ hb)) r',fun b' el L h2 r'=>a6 _ _ _ (ES r' r h2) r',fun hlo hhi g hg=>?_⟩
   have e1:h5.low=b:=by rw[a7,hlo,BO];omega
   have e2:h5.high=b:=by rw[a8,hhi,B2];omega
   rw[e1,e2]
   exact Oi (Nat.le_refl _) (Nat.le_refl _)
  ·obtain⟨h5,a1,a2,a3,a4,a6,a5,a7,a8⟩:=ED (eb:=eb) (en:=en) (n:=1) x0 r hs rfl rfl (by omega) ha (by have:=hm;simp only[List.length_nil]at this;omega)
   refine⟨h5,h.next,a1,a2,a3,rfl,a4,a5,fun b' el L _ r'=>r'.ext x0.wf a6,fun b' el L _ r'=>r'.ext x0.wf a6,fun hlo hhi g hg=>?_⟩
   rw[a7,a8,hlo,hhi]
   show KB (.ok b) g h.next 0=true
   exact Oi (by omega) (Nat.zero_le _)
theorem Si{h h':Hp}{F:CallF}{e:Env}{x y:O}{eb en:Nat}{v u w:Value}(hx:x e=v)(hy:y e=u)(ha:DF 1 eb en v u h.quiet=.ok w h')(hk:KB (blkOf v) h h'.low h'.high=true):Hz x (A9 1 eb en x y) F e h=.ok w (h.back h'):=by
 show(match A9 1 eb en x y F e h.quiet with|.ok v h'=>bif KB (blkOf (x e)) h h'.low h'.high then Dn h v h' else .no|.no=>.no)=_
 rw[BL,hx,hy,ha]
 show(bif KB (blkOf v) h h'.low h'.high then Dn h w h' else .no)=_
 rw[hk]
 show Dn h w h'=_
 unfold Dn
 simp only[Ai];rfl
inductive Deed where
 |w (i:Nat) (l:List Nat)
 |f
def Bi:List Nat:=List.replicate 64 0
def Ha(h:Hp)(A:At)(S:Nat→Prop)(v:Value):Deed→Prop
 |.w i l=>(∃ r3 r10 r9 u,v=.func (.func 74) ⟨[]⟩ ⟨[pt r3,pt r10,pt r9]⟩∧h.Row r3 0 [pt A.bs]∧h.Row r10 0 [.int .i64 (i:Int)]∧h.Row r9 0 [u]∧h.BS S u (l.map bv)∧S r3∧S r10∧S r9)∨
  (∃ r2 r7 p,v=.func (.func 83) ⟨[]⟩ ⟨[pt r2,pt r7]⟩∧h.Row r2 0 [pt A.bs]∧h.Row r7 0 [.int .i64 ((p:Nat):Int)]∧i=p * 3∧p≤65536∧l=Bi∧S r2∧S r7)
 |.f=>v=.func (.func 76) ⟨[pt A.bd]⟩ ⟨[]⟩
theorem Hp.BS.keep2{h h':Hp}{S S':Nat→Prop}{v:Value}{xs:List Value}(o:h.BS S v xs)(hk:∀ b el L,S b→(el=0∨el=6)→h.Row b el L→h'.Row b el L∧S' b):h'.BS S' v xs:=by
 rcases o with h1|⟨b,off,c,el,L,h1,h2,h3,h4,h5,h6,h7⟩
 ·exact .inl h1
 ·exact .inr ⟨b,off,c,el,L,h1,h2,(hk _ _ _ h6 h7 h3).1,h4,h5,(hk _ _ _ h6 h7 h3).2,h7⟩
theorem Ha.keep2{h h':Hp}{A:At}{S S':Nat→Prop}{v:Value}{d:Deed}(o:Ha h A S v d)(hr:∀ b el L,S b→(el=0∨el=6)→h.Row b el L→h'.Row b el L∧S' b):Ha h' A S' v d:=by
 cases d with
 |f=>exact o
 |w i l=>
  have hr0:=fun b L hs r=>hr b 0 L hs (.inl rfl) r
  rcases o with ⟨r3,r10,r9,u,h1,h2,h3,h4,h5,h6,h7,h8⟩|⟨r2,r7,p,h1,h2,h3,h4,h5,h6,h7,h8⟩
  ·exact .inl ⟨r3,r10,r9,u,h1,(hr0 _ _ h6 h2).1,(hr0 _ _ h7 h3).1,(hr0 _ _ h8 h4).1,h5.keep2 hr,(hr0 _ _ h6 h2).2,(hr0 _ _ h7 h3).2,(hr0 _ _ h8 h4).2⟩
  ·exact .inr ⟨r2,r7,p,h1,(hr0 _ _ h7 h2).1,(hr0 _ _ h8 h3).1,h4,h5,h6,(hr0 _ _ h7 h2).2,(hr0 _ _ h8 h3).2⟩
theorem XB{h:Hp}{A:At}{S:Nat→Prop}{v:Value}{d:Deed}(o:Ha h A S v d):A0 v=true:=by
 cases d with
 |f=>have o:v=_:=o;rw[o];rfl
 |w i l=>rcases o with ⟨r3,r10,r9,u,h1,_⟩|⟨r2,r7,p,h1,_⟩<;>rw[h1]<;>rfl
abbrev I7(h:Hp)(A:At)(v:Value)(d:Deed):Prop:=Ha h A (fun b=>¬ A.D b) v d
def Eq(n:Nat):List (Nat×List Nat)→List Deed→Prop
 |_,[]=>True
 |cs,.w i l::ds=>(∀ x∈cs,x.1≠i)∧i<n∧l.length=64∧(∀ x∈l,x<256)∧Eq n (cs++[(i,l)]) ds
 |cs,.f::ds=>cs≠[]∧cs.length≤60∧Eq n [] ds
def Fv:List Nat→List (Nat×List Nat)→List Deed→List Nat×List (Nat×List Nat)
 |M,cs,[]=>(M,cs)
 |M,cs,.w i l::ds=>Fv M (cs++[(i,l)]) ds
 |M,cs,.f::ds=>Fv (FQ M cs) [] ds
structure Sc (h:Hp)(A:At)(T:List Nat)(ks:List Kt)(fr:List Nat)(lv fv:Value)(bad:Nat)(ov:Bool):Prop where
 row:h.Row A.bs 0 (slL A.bd A.tb lv fv bad ov)
 tab:h.Row A.tb 0 (T.map wv)
 tok:TblOk T
 ls:h.KS (fun b=>¬ A.D b) lv ks
 ko:∀ k∈ks,KtOk h (fun b=>¬ A.D b) k
 fs:h.WI (fun b=>¬ A.D b) fv (ints .i64 (fr.map Int.ofNat))
 ne:A.bs≠A.bd∧A.bs≠A.bm∧A.bs≠A.bc∧¬ A.D A.tb∧256≤A.bs
 le:ks.length≤1000∧fr.length≤1000∧bad≤1000∧∀ p∈fr,3 * p+3≤A.n
section
variable {F:CallF}{e:Env}{h h':Hp}{A:At}{T M:List Nat}{c0 bad m:Nat}{arm:Int}{ks:List Kt}{fr:List Nat}{lv fv:Value}{ov:Bool}
theorem Sl.sc(s:Sl h A T M c0 arm ks fr lv fv bad ov):Sc h A T ks fr lv fv bad ov:=⟨s.row,s.tab,s.tok,s.ls,s.ko,s.fs,s.ne,s.le⟩
theorem Sc.sl(s:Sc h A T ks fr lv fv bad ov)(d:Dk h A.bd A.bm A.bc A.n M c0 [] arm false):Sl h A T M c0 arm ks fr lv fv bad ov:=⟨s.row,d,s.tab,s.tok,s.ls,s.ko,s.fs,s.ne,s.le⟩
theorem Sc.keep(s:Sc h A T ks fr lv fv bad ov)(hr:∀ b el L,b≠A.bd→b≠A.bm→b≠A.bc→h.Row b el L→h'.Row b el L):Sc h' A T ks fr lv fv bad ov:=by
 have nd:∀ b,¬ A.D b→b≠A.bd∧b≠A.bm∧b≠A.bc:=fun b hb=>⟨fun e=>hb (.inr (.inl e)),fun e=>hb (.inr (.inr (.inl e))),fun e=>hb (.inr (.inr (.inr e)))⟩
 have ht:=nd _ s.ne.2.2.2.1
 exact⟨hr _ _ _ s.ne.1 s.ne.2.1 s.ne.2.2.1 s.row,hr _ _ _ ht.1 ht.2.1 ht.2.2 s.tab,s.tok,s.ls.keep fun b _ _ hb r=>hr _ _ _ (nd b hb).1 (nd b hb).2.1 (nd b hb).2.2 r,fun k hk=>⟨(s.ko k hk).1.keep fun b _ _ hb _ r=>hr _ _ _ (nd b hb).1 (nd b hb).2.1 (nd b hb).2.2 r,(s.ko k hk).2⟩,s.fs.keep fun b _ _ hb r=>hr _ _ _ (nd b hb).1 (nd b hb).2.1 (nd b hb).2.2 r,s.ne,s.le⟩
abbrev At.K(A:At):Nat→Prop:=fun b=>b=A.bd∨b=A.bm∨b=A.bc
theorem Sc.fx(s:Sc h A T ks fr lv fv bad ov)(W:h.Wf)(x:Fx A.K h h'):Sc h' A T ks fr lv fv bad ov:=s.keep fun b el L h1 h2 h3 r=>x.row W r (by rintro (h|h|h)<;>contradiction)
theorem I7.keep{v:Value}{d:Deed}(o:I7 h A v d)(hbs:True)(hr:∀ b el L,¬ A.D b→h.Row b el L→h'.Row b el L):I7 h' A v d:=o.keep2 fun b el L hb _ r=>⟨hr b el L hb r,hb⟩
theorem Xo{b:Nat}(h:¬ A.D b):¬ A.K b:=fun h1=>h (.inr h1)
theorem aS(W:h.Wf)(R:h.Row A.bs 0 (slL A.bd A.tb lv fv bad ov))(hne:¬ A.K A.bs){cs:List (Nat×List Nat)}(d:Dk h A.bd A.bm A.bc A.n M c0 cs arm false){k:Nat}(ha:Bu arm (k+1)){v:Value}{i:Nat}{l:List Nat}(o:I7 h A v (.w i l))(hi:i<A.n)(hc:∀ x∈cs,x.1≠i∧x.1<A.n)(hl:l.length=64):
  ∃ h',Kn (call AF (m+4)) v [] h=.ok (.int .i64 0) h'∧Fx A.K h h'∧Dk h' A.bd A.bm A.bc A.n M c0 (cs++[(i,l)]) (FZ arm) false:=by
 rcases o with ⟨r3,r10,r9,u,rfl,h2,h3,h4,h5,h6,h7,h8⟩|⟨r2,r7,p,rfl,h2,h3,rfl,h5,rfl,h7,h8⟩
 ·obtain⟨l0,_⟩:=BC (R.same (h':=h.marked) rfl)
  have m3:load1 ⟨r3,0,none⟩ h.marked=.ok (pt A.bs) h.marked:=(h2.same (h':=h.marked) rfl).load1 (off:=0) (by show 0<1;omega)
  have m10:load1 ⟨r10,0,none⟩ h.marked=.ok (.int .i64 (i:Int)) h.marked:=(h3.same (h':=h.marked) rfl).load1 (off:=0) (by show 0<1;omega)
  have m9:load1 ⟨r9,0,none⟩ h.marked=.ok u h.marked:=(h4.same (h':=h.marked) rfl).load1 (off:=0) (by show 0<1;omega)
  obtain⟨h1,k1,f1,d1⟩:=Qy (m:=m) W.marked.quiet (d.same (h':=h.marked.quiet) rfl) ha hi hc ((h5.vs.same (h':=h.marked.quiet) rfl).mono fun b hb e=>hb (.inr (.inl e))) hl
  have q1:∀ e:Env,AB 7 e=pt A.bd→AB 8 e=.int .i64 (i:Int)→AB 9 e=u→Ac .free (AM 75 [AB 7,AB 8,AB 9]) (call AF (m+3)) e h.marked=.ok (.int .i64 0) (h.marked.back h1):=fun e e1 e2 e3=>by
   refine Bb ?_
   rw[Bk,Ah,Ah,Ah,A7,e1,e2,e3];exact k1
  refine⟨h.marked.back h1,?_,((f1.mono (T:=A.K) fun b hb=>hb.elim .inl fun h=>.inr (.inr h)).from (h:=h.marked) rfl rfl).same (h2:=h.marked.back h1) rfl rfl |>.from (h:=h) rfl rfl,d1.same rfl⟩
  rw[Ch]
  show call AF (m+3+1) 74 [pt r3,pt r10,pt r9] h=_
  rw[ii rfl]
  unfold d74
  simp only[iN,Nat.reduceAdd,sT,Nat.reduceLT,Nat.reduceEqDiff,reduceIte,BA,AP,AU,m3,Ay,Aq,AJ,AQ,Nat.zero_add,l0,m10,m9,q1,lV0]
 ·have m2:load1 ⟨r2,0,none⟩ h.marked=.ok (pt A.bs) h.marked:=(h2.same (h':=h.marked) rfl).load1 (off:=0) (by show 0<1;omega)
  have m7:load1 ⟨r7,0,none⟩ h.marked=.ok (.int .i64 (p:Int)) h.marked:=(h3.same (h':=h.marked) rfl).load1 (off:=0) (by show 0<1;omega)
  obtain⟨l0,_⟩:=BC (R.same (h':=h.marked) rfl)
  have o1:∀ (off:Nat) (kk:C) (F:CallF) (e:Env),Jf (.pointer (some ⟨r2,off,none⟩)) kk F e h.marked=kk F e h.marked:=fun off kk F e=>Dw (h2.lt W)
  have o2:∀ (off:Nat) (kk:C) (F:CallF) (e:Env),Jf (.pointer (some ⟨A.bs,off,none⟩)) kk F e h.marked=kk F e h.marked:=fun off kk F e=>Dw (R.lt W)
  have k1:=MX (m:=m+1) (R.same (h':=h.marked.quiet) rfl) (p:=p) h5
  have q1:∀ e:Env,AB 7 e=pt A.bs→AB 8 e=.int .i64 (p:Int)→Ac .weak (AM 46 [AB 7,AB 8]) (call AF (m+3)) e h.marked=.ok (.int .i64 ((p * 3:Nat):Int)) (h.marked.back h.marked.quiet):=fun e e1 e2=>by
   refine G1 W.marked ?_ (Nat.le_refl _)
   rw[Bk,Ah,Ah,A7,e1,e2];exact k1
  have y2:h.Ext (h.marked.back h.marked.quiet):=Hp.Ext.back2 (Hp.Ext.refl W).marked (Hp.Ext.refl W).marked.quiet
  have n2:(h.marked.back h.marked.quiet).next=h.next:=rfl
  have b2:(h.marked.back h.marked.quiet).bl=h.bl:=rfl
  have mk2:(h.marked.back h.marked.quiet).mark=h.next:=rfl
  generalize h.marked.back h.marked.quiet=h2' at q1 y2 n2 b2 mk2
  have qm:∀ (F:CallF) (e:Env),Ac .strong (Fs 1 ty5.zero (kV (.int .i64 64)) (kV (.int .i64 64))) F e h2'=.ok (.slice (some ⟨h2'.next,0,none⟩) 64 64) (h2'.back (h2'.quiet.pushRow 0 (Bi.map bv))):=fun F e=>by
   have:=OA (F:=F) (e:=e) y2.quiet.wf (x:=kV (.int .i64 64)) (y:=kV (.int .i64 64)) (N:=64) rfl rfl (by omega)
   have hz:List.replicate 64 0=Bi:=rfl
   exact DK this ((Hp.Ext.refl y2.quiet.wf).pushRow _ _) (by omega)
  have y3:h2'.Ext (h2'.back (h2'.quiet.pushRow 0 (Bi.map bv))):=.back ((Hp.Ext.refl y2.wf.quiet).pushRow _ _)
  have R3:(h2'.back (h2'.quiet.pushRow 0 (Bi.map bv))).Row h2'.next 0 (Bi.map bv):=(Hp.Row.new y2.wf.quiet 0 (Bi.map bv)).same rfl
  have n3:(h2'.back (h2'.quiet.pushRow 0 (Bi.map bv))).next=h2'.next+1:=rfl
  generalize h2'.back (h2'.quiet.pushRow 0 (Bi.map bv))=h3' at qm y3 R3 n3
  have x3:=y2.trans y3
  have hbd:=(d.lt W).1
  have hz64:Bi.length=64:=rfl
  obtain⟨h4,k4,f4,d4⟩:=Qy (m:=m) x3.wf.quiet ((d.ext W x3).same (h':=h3'.quiet) rfl) ha hi hc (u:=.slice (some ⟨h2'.next,0,none⟩) 64 64) (l:=Bi) (.inr ⟨h2'.next,0,64,0,_,rfl,Nat.le_refl _,R3.same rfl,Nat.le_refl _,rfl,by omega⟩) rfl
  have q4:∀ e:Env,AB 6 e=pt A.bd→AB 9 e=.int .i64 ((p * 3:Nat):Int)→AB 10 e=.slice (some ⟨h2'.next,0,none⟩) 64 64→Ac .free (AM 75 [AB 6,AB 9,AB 10]) (call AF (m+3)) e h3'=.ok (.int .i64 0) (h3'.back h4):=fun e e1 e2 e3=>by
   refine Bb ?_
   rw[Bk,Ah,Ah,Ah,A7,e1,e2,e3];exact k4
  refine⟨h3'.back h4,?_,(Fx.of (S:=A.K) x3).trans (((f4.mono (T:=A.K) fun b hb=>hb.elim .inl fun h=>.inr (.inr h)).from (h:=h3') rfl rfl).same (h2:=h3'.back h4) rfl rfl),d4.same rfl⟩
  rw[Ch]
  show call AF (m+3+1) 83 [pt r2,pt r7] h=_
  rw[ir rfl]
  unfold d83
  simp only[iN,Nat.reduceAdd,sT,Nat.reduceLT,Nat.reduceEqDiff,reduceIte,BA,EP,o1,o2,DV,AP,AU,m2,Ay,Aq,AJ,AQ,Nat.zero_add,l0,m7,q1,qm,q4,lV0]
def alB:C:=(AE (AC 11) (AW iLt .i64 (AB 10) (AB 9))
(AS (AB 11)
(A2 (AY 1 (AE (AC 12) (BF 1 (AB 8) (AB 10))
(AE (AC 13) (AK (AB 12))
(AE (AC 6) (AD (AB 13))
(AE (AC 15) (Cf (AB 6) [])
(AE (AC 7) (AD (AB 15))
(AE (AC 17) (AW iNe .i64 (AB 7) (kV (.int .i64 0)))
(AS (AB 17)
(AE (AC 19) (BM (AB 0))
(AE (AC 20) (AG 6 (AB 19))
(cDo (Af 1 (AB 20) (kV (.bool true)))
(AE (AC 4) (AD (AB 7))
Ad))))
AX))))))))
(AE (AC 22) (BZ .i64 (Ar .i64) (AB 10) (kV (.int .i64 1)))
(AE (AC 10) (AD (AB 22))
AX)))
(BK 0)))
def alE:C:=AE (AC 4) (AD (kV (.int .i64 0))) Ad
theorem ed:alS=A2 (AY 0 (Az alB)) alE:=rfl
theorem jT:d47=aH:=rfl
theorem Q1(W:h.Wf)(R:h.Row A.bs 0 (slL A.bd A.tb lv fv bad ov))(hne:¬ A.K A.bs)(d:Dk h A.bd A.bm A.bc A.n M c0 [] arm false){ds:List Deed}{vs:List Value}{dv:Value}(V:h.VS (fun b=>¬ A.D b) dv vs)(hlen:vs.length=ds.length)(hd:∀ (i:Nat) (v:Value) (x:Deed),vs[i]? =some v→ds[i]? =some x→I7 h A v x)(hok:Eq A.n [] ds)(ha:Bu arm ds.length)(h100:ds.length≤100):
  ∃ h' c1 arm',call AF (m+5) 47 [pt A.bs,dv] h=.ok (.int .i64 0) h'∧Fx A.K h h'∧Dk h' A.bd A.bm A.bc A.n (Fv M [] ds).1 c1 (Fv M [] ds).2 arm' false∧arm'=(List.range ds.length).foldl (fun a _=>FZ a) arm:=by
 have Vl:=V.vals.len
 have pre:∃ e1,aH (call AF (m+4)) (AV e0 0 [pt A.bs,dv]) h=alS (call AF (m+4)) e1 h∧AB 0 e1=pt A.bs∧AB 8 e1=dv∧AB 9 e1=.int .i64 (vs.length:Int)∧AB 10 e1=.int .i64 ((0:Nat):Int):=by
  unfold aH
  simp only[iN,Nat.reduceAdd,sT,Nat.reduceLT,Nat.reduceEqDiff,reduceIte,Am,Vl]
  exact⟨_,rfl,by simp[AH]⟩
 obtain⟨e1,p1,s0,s8,s9,s10⟩:=pre
 have run:∃ e' h' c1 arm',Az alB (call AF (m+4)) e1 h=.exit 0 e' h'∧Fx A.K h h'∧Dk h' A.bd A.bm A.bc A.n (Fv M [] ds).1 c1 (Fv M [] ds).2 arm' false∧arm'=(List.range ds.length).foldl (fun a _=>FZ a) arm:=by
  refine Be (I:=fun i e' h'=>∃ (M':List Nat) (cs':List (Nat×List Nat)) (c1:Nat) (arm':Int),Fx A.K h h'∧Dk h' A.bd A.bm A.bc A.n M' c1 cs' arm' false∧arm'=(List.range i).foldl (fun a _=>FZ a) arm∧Bu arm' (ds.length - i)∧Eq A.n cs' (ds.drop i)∧Fv M [] ds=Fv M' cs' (ds.drop i)∧KeyU cs'∧SecOk A.n cs'∧i≤ds.length∧AB 0 e'=pt A.bs∧AB 8 e'=dv∧AB 9 e'=.int .i64 (vs.length:Int)∧AB 10 e'=.int .i64 (i:Int))
   (Q:=fun x=>∃ e' h' c1 arm',x=.exit 0 e' h'∧Fx A.K h h'∧Dk h' A.bd A.bm A.bc A.n (Fv M [] ds).1 c1 (Fv M [] ds).2 arm' false∧arm'=(List.range ds.length).foldl (fun a _=>FZ a) arm) ds.length (by omega) (fun i e' h' ⟨M',cs',c1,arm',x',d',ea,ha',ok',er,hK,hS,hi,t0,t8,t9,t10⟩=>?_)
   ⟨M,[],c0,arm,.refl W,d,rfl,by rw[Nat.sub_zero];exact ha,by rw[List.drop_zero];exact hok,by rw[List.drop_zero],fun i j y z h=>(by cases h),fun y hy=>(by cases hy),Nat.zero_le _,s0,s8,s9,s10⟩
  by_cases hlt:i<ds.length
  ·left
   have hiv:i<vs.length:=by omega
   have c1':iLt (i:Int) (vs.length:Int)=true:=Eo hiv
   have V':=V.fx W x' fun b hb=>Xo hb
   obtain⟨a,g1,g2⟩:=V'.vals.at hiv
   have hv:vs[i]? =some (vs.getD i noRes):=by rw[List.getD_eq_getElem?_getD,List.getElem?_eq_getElem hiv];rfl
   have hx:ds[i]? =some (ds[i]'hlt):=List.getElem?_eq_getElem hlt
   have dI:=(hd i _ _ hv hx).keep (h':=h') trivial fun b el L hb r=>x'.row W r (Xo hb)
   generalize vs.getD i noRes=v at g2 dI
   have hdrop:ds.drop i=ds[i]'hlt::ds.drop (i+1):=List.drop_eq_getElem_cons hlt
   rw[hdrop]at ok' er
   generalize ds[i]'hlt=x at dI ok' er
   have hk:ds.length - i=(ds.length - (i+1))+1:=by omega
   rw[hk]at ha'
   have R':=x'.row W R hne
   have step:∃ h2 M2 cs2 c2,Kn (call AF (m+4)) v [] h'=.ok (.int .i64 0) h2∧Fx A.K h' h2∧Dk h2 A.bd A.bm A.bc A.n M2 c2 cs2 (FZ arm') false∧Eq A.n cs2 (ds.drop (i+1))∧Fv M [] ds=Fv M2 cs2 (ds.drop (i+1))∧KeyU cs2∧SecOk A.n cs2:=by
    cases x with
    |w j l=>
     obtain⟨o1,o2,o3,o4,o5⟩:=ok'
     obtain⟨h2,k2,f2,d2⟩:=aS (m:=m) x'.wf R' hne d' ha' dI o2 (fun y hy=>⟨o1 y hy,(hS y hy).1⟩) o3
     refine⟨h2,M',cs'++[(j,l)],c1,k2,f2,d2,o5,er,fun p q y z hp hq he=>?_,fun y hy=>?_⟩
     ·rcases Nat.lt_or_ge p cs'.length with hp1|hp1<;>rcases Nat.lt_or_ge q cs'.length with hq1|hq1
      ·rw[List.getElem?_append_left hp1]at hp
       rw[List.getElem?_append_left hq1]at hq
       exact hK p q y z hp hq he
      ·rw[List.getElem?_append_left hp1]at hp
       have hzm:=List.mem_of_getElem? hq
       rw[List.getElem?_append_right hq1]at hq
       have hz:=List.mem_of_getElem? hq
       rw[List.mem_singleton.1 hz]at he
       exact absurd he (o1 y (List.mem_of_getElem? hp))
      ·rw[List.getElem?_append_left hq1]at hq
       rw[List.getElem?_append_right hp1]at hp
       have hz:=List.mem_of_getElem? hp
       rw[List.mem_singleton.1 hz]at he
       exact absurd he.symm (o1 z (List.mem_of_getElem? hq))
      ·have h1:=(List.getElem?_eq_some_iff.1 hp).1
       have h2:=(List.getElem?_eq_some_iff.1 hq).1
       rw[List.length_append,List.length_singleton]at h1 h2
       omega
     ·rcases List.mem_append.1 hy with hy|hy
      ·exact hS y hy
      ·rw[List.mem_singleton.1 hy];exact⟨o2,o3,o4⟩
    |f=>
     obtain⟨o1,o2,o3⟩:=ok'
     obtain⟨h2,k2,f2,d2⟩:=XM (m:=m+1) x'.wf d' ha' hK hS o1 o2
     have dI:v=.func (.func 76) ⟨[pt A.bd]⟩ ⟨[]⟩:=dI
     exact⟨h2,FQ M' cs',[],_,by rw[dI,Ch];exact k2,f2,d2,o3,er,fun i j y z h=>(by cases h),fun y hy=>by cases hy⟩
   obtain⟨h2,M2,cs2,c2,k2,f2,d2,ok2,er2,hK2,hS2⟩:=step
   have c0':iNe 0 0=false:=CT rfl
   have a3:=CR (i:=i) (h:=h2) (by omega)
   have hrun:∃ e2,alB (call AF (m+4)) e' h'=.norm e2 h2∧AB 0 e2=pt A.bs∧AB 8 e2=dv∧AB 9 e2=.int .i64 (vs.length:Int)∧AB 10 e2=.int .i64 ((i+1:Nat):Int):=by
    unfold alB
    simp only[sT,Nat.reduceLT,Nat.reduceEqDiff,reduceIte,AO,AN,t10,t9,c1',A8,t8,g1,AP,g2,Cj,A7,k2,c0',BR,a3]
    exact⟨_,rfl,by simp[AH,t0,t8,t9]⟩
   obtain⟨e2,r1,r2,r3,r4,r5⟩:=hrun
   exact⟨hlt,e2,h2,r1,M2,cs2,c2,FZ arm',x'.trans f2,d2,by rw[List.range_succ,List.foldl_append,← ea];rfl,ha'.one.1,ok2,er2,hK2,hS2,by omega,r2,r3,r4,r5⟩
  ·right
   have hie:i=ds.length:=by omega
   have c1':iLt (i:Int) (vs.length:Int)=false:=DD (by omega)
   have hrun:∃ e2,alB (call AF (m+4)) e' h'=.exit 0 e2 h':=by
    unfold alB
    simp only[sT,Nat.reduceLT,Nat.reduceEqDiff,reduceIte,AO,AN,t10,t9,c1']
    exact⟨_,rfl⟩
   obtain⟨e2,r1⟩:=hrun
   rw[r1]
   rw[hie,List.drop_length]at er
   have er:Fv M [] ds=(M',cs'):=er
   rw[er]
   exact⟨rfl,e2,h',c1,arm',rfl,x',d',by rw[ea,hie]⟩
 obtain⟨e2,h2,c1,arm',r1,r2,r3,r4⟩:=run
 refine⟨h2,c1,arm',?_,r2,r3,r4⟩
 rw[iJ rfl,jT,p1,ed]
 simp only[BP,A1,r1,A5,BJ]
 unfold alE
 simp only[sT,Nat.reduceLT,Nat.reduceEqDiff,reduceIte,lV0]
end
end
noncomputable section
open Go
set_option maxRecDepth 100000
def C6(l:List Nat)(j:Nat):List Nat:=(l.drop (64 * j)).take 64++List.replicate (64 - ((l.drop (64 * j)).take 64).length) 0
theorem D9(l:List Nat)(j:Nat):(C6 l j).length=64:=by
 unfold C6
 rw[List.length_append,List.length_replicate,List.length_take];omega
theorem K7{l:List Nat}(h:∀ x∈l,x<256)(j:Nat):∀ x∈C6 l j,x<256:=fun x hx=>by
 rcases List.mem_append.1 hx with hx|hx
 ·exact h x (List.mem_of_mem_drop (List.mem_of_mem_take hx))
 ·rw[List.eq_of_mem_replicate hx];decide
section
variable {F:CallF}{e:Env}{h h':Hp}{A:At}{bad m:Nat}{lv fv:Value}{ov:Bool}
theorem Hp.Vals.srcN{v:Value}{l:List Value}(b:h.Vals v l){n:Nat}(hn:n≤l.length)(k:List Value→R):BN h 1 v n k=k (l.take n):=by
 rcases b with ⟨h1,h2⟩|⟨b,off,c,el,L,h1,h2,h3,h4⟩
 ·subst h1;subst h2
  obtain rfl:n=0:=by simpa using hn
  rfl
 ·rw[h1,h2.src (by omega),← h4,List.take_take,Nat.min_eq_left hn]
theorem Wo(W:h.Wf){x y:O}{r:Nat}{w:Value}{l:List Nat}(h256:256≤r)(hx:x e=.slice (some ⟨r,0,none⟩) 64 64)(hy:y e=w)(V:h.Vals w (l.map bv))(R:h.Row r 0 (Bi.map bv)):
  ∃ v',Gu 1 x y F e h=.ok v' (h.wr r 0 ((l.take 64).map bv))∧over (Bi.map bv) 0 ((l.take 64).map bv)=(C6 l 0).map bv:=by
 have hz:(Bi.map bv).length=64:=rfl
 have hn:B6 l.length 64≤(l.map bv).length:=by rw[List.length_map,BO];omega
 have ht:(l.map bv).take (B6 l.length 64)=(l.take 64).map bv:=by
  rw[← List.map_take,BO]
  congr 1
  rcases Nat.le_total l.length 64 with h1|h1
  ·rw[Nat.min_eq_left h1,List.take_length,List.take_of_length_le h1]
  ·rw[Nat.min_eq_right h1]
 refine⟨.int .i64 (B6 l.length 64:Nat),?_,?_⟩
 ·show Ov 1 (x e) (y e) h=_
  rw[hx,hy]
  unfold Ov
  have lv:=V.lenV
  rw[List.length_map]at lv
  simp only[lv,Ai,V.srcN hn,ht]
  rw[R.store W h256 (by rw[hz,List.length_map,List.length_take];omega) (C9 _)];rfl
 ·unfold over C6
  rw[List.take_zero,List.nil_append,Nat.zero_add,List.map_append,Nat.mul_zero,List.drop_zero,List.length_map,← List.map_drop]
  congr 2
  show List.drop _ (List.replicate 64 0)=_
  rw[List.drop_replicate]
theorem dy:B3 .mt 0 [.slice none 0 0]=some lW:=by kernel_rfl
theorem ZV:B3 .mt 0 [.int .i64 0]=some zt3:=by kernel_rfl
theorem II(W:h.Wf){t:VT}{z v:Value}(ht:B3 .mt 0 [z]=some t)(h1:cellsOf v=[v])(ho:A0 v=true):
  ∃ h',(∀ (F:CallF) (e:Env),Bl 1 t F e h=.ok (pt h.next) (h.push (.cells t 1 0)))∧storeR 1 (pt h.next) v (h.push (.cells t 1 0))=.ok noRes h'∧h.Ext h'∧h'.Row h.next 0 [v]∧h'.next=h.next+1∧h'.mark=h.mark:=by
 have R:=Hp.Row.alloc W ht (show [z].length=1 from rfl)
 have x:h.Ext (h.push (.cells t 1 0)):=(Hp.Ext.refl W).push _
 have hoo:0+(cellsOf v).length≤[z].length:=by rw[h1];exact Nat.le_refl _
 have st:=R.storeR (n:=1) (off:=0) x.wf W.big (v:=v) (by rw[h1];rfl) hoo (by
  rw[h1]
  show(bif A0 v then true else false)=true
  rw[ho];rfl)
 have wr:=R.wr_self x.wf hoo
 rw[H5 (by rw[h1];rfl),h1]at wr
 rw[h1]at st
 have hoo':0+[v].length≤[z].length:=Nat.le_refl _
 obtain⟨_,_,ew,_⟩:=R.wr_is hoo'
 exact⟨_,fun F e=>B7 W,st,R.wr_ext x (Nat.le_refl _) hoo',wr,R.wr_next hoo',by rw[ew];rfl⟩
theorem lT:BI KF.zero 1=[.nilFunc]:=by kernel_rfl
theorem IV(W:h.Wf){g:O}{f:Nat}{a b:List Value}(hg:g e=.func (.func f) ⟨a⟩ ⟨b⟩):AZ 1 (BI KF.zero 1) [(0,1,g)] F e h=.ok (.slice (some ⟨h.next,0,none⟩) 1 1) (h.pushRow 0 [.func (.func f) ⟨a⟩ ⟨b⟩]):=by
 rw[lT];exact HT W hg rfl rfl
theorem ng{i:Nat}(hi:i≤1000000):RI .i64 (.int .i64 ((64 * i:Nat):Int)) (.int .i64 64) h=.ok (.int .i64 (i:Int)) h:=by
 have:((64 * i:Nat):Int).tdiv 64=(i:Int):=by
  show Int.ofNat ((64 * i) / 64)=_
  rw[Nat.mul_div_cancel_left _ (by decide)];rfl
 rw[KL (by omega),this,Bg (by omega)]
def wrB:C:=(AE (AC 13) (BD (AB 2))
(AE (AC 14) (AW iLt .i64 (AB 8) (AB 13))
(AS (AB 14)
(A2 (AY 1 (AE (AC 17) (Fs 1 ty5.zero (kV (.int .i64 64)) (kV (.int .i64 64)))
(AE (AC 9) (Bl 1 lW)
(cDo (Af 1 (AB 9) (AB 17))
(BW (AE (AC 18) (AK (AB 9))
(AE (AC 21) (DE 5 1 (AB 2) (some (AB 8)) none none)
(AE (AC 22) (Ac .free (Gu 1 (AB 18) (AB 21)))
(AE (AC 25) (Gv .i64 (AB 8) (kV (.int .i64 64)))
(AE (AC 26) (BZ .i64 (Ar .i64) (AB 1) (AB 25))
(AE (AC 10) (Bl 1 zt3)
(cDo (Af 1 (AB 10) (AB 26))
(AE (AC 28) (C8 (.func 74) [] [(AB 3),(AB 10),(AB 9)])
(AE (AC 29) (AZ 1 (BI KF.zero 1) [(0,1,(AB 28))])
(AE (AC 30) (A9 1 8 75 (AB 7) (AB 29))
(AE (AC 7) (AD (AB 30))
AX))))))))))))))))
(AE (AC 16) (BZ .i64 (Ar .i64) (AB 8) (kV (.int .i64 64)))
(AE (AC 8) (AD (AB 16))
AX)))
(BK 0))))
def wrE:C:=(AE (AC 32) (AK (AB 3))
(AE (AC 33) (BM (AB 32))
(AE (AC 34) (AG 0 (AB 33))
(AE (AC 35) (AK (AB 34))
(AE (AC 36) (C8 (.func 76) [(AB 35)] [])
(AE (AC 37) (AZ 1 (BI KF.zero 1) [(0,1,(AB 36))])
(AE (AC 38) (A9 1 8 75 (AB 7) (AB 37))
(AE (AC 6) (AD (AB 38))
Ad))))))))
theorem lN:wrS=A2 (AY 0 (Az wrB)) wrE:=rfl
theorem jS:d45=aG:=rfl
def CD(h:Hp)(A:At)(k:Nat)(v:Value)(ds:List Deed):Prop:=∃ vs,h.Own k 75 v vs∧vs.length=ds.length∧∀ (i:Nat) (w:Value) (x:Deed),vs[i]? =some w→ds[i]? =some x→Ha h A (fun b=>¬ A.D b∧¬ blkV v b) w x
theorem bZ{b k:Nat}(hD:∀ b,A.D b→b<k)(hb:k≤b):¬ A.D b:=fun h=>by have:=hD b h;omega
theorem CD.ext{k:Nat}{v:Value}{ds:List Deed}(o:CD h A k v ds)(W:h.Wf)(x:h.Ext h'):CD h' A k v ds:=by
 obtain⟨vs,a,b,c⟩:=o
 exact⟨vs,a.ext W x,b,fun i w y h1 h2=>(c i w y h1 h2).keep2 fun b el L hb _ r=>⟨r.ext W x,hb⟩⟩
theorem CD.same{k:Nat}{v:Value}{ds:List Deed}(o:CD h A k v ds)(hb:h'.bl=h.bl):CD h' A k v ds:=by
 obtain⟨vs,a,b,c⟩:=o
 exact⟨vs,a.same hb,b,fun i w y h1 h2=>(c i w y h1 h2).keep2 fun b el L hb' _ r=>⟨r.same hb,hb'⟩⟩
theorem CD.snoc{h0:Hp}{k:Nat}{v w:Value}{ds:List Deed}{f:Nat}{a b:List Value}(x0:h0.Ext h)(hk:h0.next≤k)(hk2:k≤h.next)(o:CD h A k v ds)(hw:w=.func (.func f) ⟨a⟩ ⟨b⟩){d:Deed}(hd:Ha h A (fun b=>¬ A.D b∧¬ blkV v b) w d)(hl:ds.length≤1000):
  ∃ h' v',DF 1 8 75 v (.slice (some ⟨h.next,0,none⟩) 1 1) (h.pushRow 0 [w])=.ok v' h'∧h0.Ext h'∧CD h' A k v' (ds++[d])∧h.next≤h'.next∧(∀ b el L,¬ blkV v b→h.Row b el L→h'.Row b el L):=by
 obtain⟨vs,o1,o2,o3⟩:=o
 have W:=x0.wf
 have x1:=x0.pushRow 0 [w]
 have y1:=(Hp.Ext.refl W).pushRow 0 [w]
 have on:A0 w=true:=by rw[hw];rfl
 obtain⟨h',v',a1,a2,a3,a4,a5⟩:=EL (eb:=8) (en:=75) (k:=k) (u:=.slice (some ⟨h.next,0,none⟩) 1 1) (ys:=[w]) x1 hk (Nat.le_succ_of_le hk2) (o1.ext W y1) (QD W) (by simp) (by
  show(bif A0 w then true else false)=true
  rw[on];rfl) (by simp only[List.length_singleton];omega)
 have kp:∀ b el L,¬ A.D b∧¬ blkV v b→(el=0∨el=6)→h.Row b el L→h'.Row b el L∧(¬ A.D b∧¬ blkV v' b):=fun b el L hb _ r=>by
  have:=a5 b el L hb.2 (r.ext W y1)
  exact⟨this.1,hb.1,this.2⟩
 refine⟨h',v',a1,a2,⟨vs++[w],a3,by rw[List.length_append,List.length_append,o2];rfl,fun i z y h1 h2=>?_⟩,by have:h'.next=h.next+1+1:=a4;omega,fun b el L hb r=>(a5 b el L hb (r.ext W y1)).1⟩
 rcases Nat.lt_or_ge i vs.length with hi|hi
 ·rw[List.getElem?_append_left hi]at h1
  rw[List.getElem?_append_left (by omega)]at h2
  exact(o3 i z y h1 h2).keep2 kp
 ·rw[List.getElem?_append_right hi]at h1
  rw[List.getElem?_append_right (by omega)]at h2
  have e1:=List.mem_singleton.1 (List.mem_of_getElem? h1)
  have e2:=List.mem_singleton.1 (List.mem_of_getElem? h2)
  rw[e1,e2]
  exact hd.keep2 kp
theorem CD.app{h0:Hp}{k k2:Nat}{v v2:Value}{ds ds2:List Deed}(x0:h0.Ext h)(hk:h0.next≤k)(hk2:k≤h.next)(o:CD h A k v ds)(o2:CD h A k2 v2 ds2)(hne:0<ds2.length)(hl:ds.length+ds2.length≤1000):
  ∃ h' v',DF 1 8 75 v v2 h=.ok v' h'∧h0.Ext h'∧CD h' A k v' (ds++ds2)∧h.next≤h'.next∧(∀ b el L,(el=0∨el=6)→h.Row b el L→h'.Row b el L):=by
 obtain⟨vs,o1,o2',o3⟩:=o
 obtain⟨ws,p1,p2,p3⟩:=o2
 have W:=x0.wf
 have on:∀ w∈ws,A0 w=true:=fun w hw=>by
  obtain⟨i,hi⟩:=List.mem_iff_getElem?.1 hw
  have hil:=(List.getElem?_eq_some_iff.1 hi).1
  exact XB (p3 i w _ hi (List.getElem?_eq_getElem (by omega)))
 obtain⟨h',v',a1,a2,a3,a4,a5⟩:=EL (eb:=8) (en:=75) (k:=k) (u:=v2) (ys:=ws) x0 hk hk2 o1 p1.vals (by omega) (OJ on) (by omega)
 have nbv:∀ b el L,(el=0∨el=6)→h.Row b el L→¬ blkV v b:=fun b el L he r ⟨off,nn,c,e1⟩=>by
  rcases o1 with ⟨h1,h2⟩|⟨b',h1,h2,h3,h4⟩
  ·rw[h1]at e1;cases e1
  ·rw[h1]at e1
   injection e1 with e1 _ _
   injection e1 with e1
   injection e1 with e1 _ _
   rw[e1]at h2
   exact ES r h2 (by omega) rfl
 have kp:∀ b el L,¬ A.D b→(el=0∨el=6)→h.Row b el L→h'.Row b el L∧(¬ A.D b∧¬ blkV v' b):=fun b el L hb he r=>by
  have:=a5 b el L (nbv b el L he r) r
  exact⟨this.1,hb,this.2⟩
 refine⟨h',v',a1,a2,⟨vs++ws,a3,by rw[List.length_append,List.length_append,o2',p2],fun i z y h1 h2=>?_⟩,by omega,fun b el L he r=>(a5 b el L (nbv b el L he r) r).1⟩
 rcases Nat.lt_or_ge i vs.length with hi|hi
 ·rw[List.getElem?_append_left hi]at h1
  rw[List.getElem?_append_left (by omega)]at h2
  exact(o3 i z y h1 h2).keep2 fun b el L hb he r=>kp b el L hb.1 he r
 ·rw[List.getElem?_append_right hi]at h1
  rw[List.getElem?_append_right (by omega),← o2']at h2
  exact(p3 _ z y h1 h2).keep2 fun b el L hb he r=>kp b el L hb.1 he r
theorem CD.ends{k:Nat}{v:Value}{ds:List Deed}(o:CD h A k v ds)(hD:∀ b,A.D b→b<k):∃ vs,h.VS (fun b=>¬ A.D b) v vs∧vs.length=ds.length∧∀ (i:Nat) (w:Value) (x:Deed),vs[i]? =some w→ds[i]? =some x→I7 h A w x:=by
 obtain⟨vs,o1,o2,o3⟩:=o
 refine⟨vs,?_,o2,fun i w x h1 h2=>(o3 i w x h1 h2).keep2 fun b el L hb _ r=>⟨r,hb.1⟩⟩
 rcases o1 with ⟨h1,h2⟩|⟨b,h1,h2,h3,h4⟩
 ·exact .inl ⟨h1,h2⟩
 ·exact .inr ⟨b,0,_,_,vs,h1,Nat.le_refl _,h2,by omega,by rw[List.drop_zero,List.take_length],bZ hD h3⟩
theorem Jm(W:h.Wf)(R:h.Row A.bs 0 (slL A.bd A.tb lv fv bad ov))(hD:∀ b,A.D b→b<h.next){sct:Nat}(hs:sct≤100000){u:Value}{l:List Nat}{ku:Nat}(U:Mk h ku u l)(hl:l.length≤6400):
  ∃ h' v,call AF (m+1) 45 [pt A.bs,.int .i64 (sct:Int),u] h=.ok v h'∧h.Ext h'∧CD h' A h.next v ((List.range ((l.length+63) / 64)).map (fun j=>Deed.w (sct+j) (C6 l j))++[.f]):=by
 have bx:=fun (F:CallF) (e:Env) (he:AB 0 e=pt A.bs)=>(show Cv (AB 0) F e h=.ok (pt h.next) (h.pushRow 0 [pt A.bs])by rw[ET,he,EN W];rfl)
 have x1:=(Hp.Ext.refl W).pushRow 0 [pt A.bs]
 have R3:=Hp.Row.new W 0 [pt A.bs]
 have n1:(h.pushRow 0 [pt A.bs]).next=h.next+1:=rfl
 generalize h.pushRow 0 [pt A.bs]=h1 at bx x1 R3 n1
 have nD3:¬ A.D h.next:=bZ hD (Nat.le_refl _)
 have pre:∃ e1,aG (call AF m) (AV e0 0 [pt A.bs,.int .i64 (sct:Int),u]) h=wrS (call AF m) e1 h1∧AB 1 e1=.int .i64 (sct:Int)∧AB 2 e1=u∧AB 3 e1=pt h.next∧AB 7 e1=.slice none 0 0∧AB 8 e1=.int .i64 ((64 * 0:Nat):Int):=by
  unfold aG
  simp only[iN,Nat.reduceAdd,sT,Nat.reduceLT,Nat.reduceEqDiff,reduceIte,bx]
  exact⟨_,rfl,by simp[AH]⟩
 obtain⟨e1,p1,s1,s2,s3,s7,s8⟩:=pre
 have run:∃ e' h' v,Az wrB (call AF m) e1 h1=.exit 0 e' h'∧h.Ext h'∧CD h' A h1.next v ((List.range ((l.length+63) / 64)).map fun j=>Deed.w (sct+j) (C6 l j))∧h'.Row h.next 0 [pt A.bs]∧h1.next≤h'.next∧AB 3 e'=pt h.next∧AB 7 e'=v:=by
  refine Be (I:=fun i e' h'=>∃ v,h.Ext h'∧CD h' A h1.next v ((List.range i).map fun j=>Deed.w (sct+j) (C6 l j))∧h'.Row h.next 0 [pt A.bs]∧h1.next≤h'.next∧i≤(l.length+63) / 64∧AB 1 e'=.int .i64 (sct:Int)∧AB 2 e'=u∧AB 3 e'=pt h.next∧AB 7 e'=v∧AB 8 e'=.int .i64 ((64 * i:Nat):Int))
   (Q:=fun x=>∃ e' h' v,x=.exit 0 e' h'∧h.Ext h'∧CD h' A h1.next v ((List.range ((l.length+63) / 64)).map fun j=>Deed.w (sct+j) (C6 l j))∧h'.Row h.next 0 [pt A.bs]∧h1.next≤h'.next∧AB 3 e'=pt h.next∧AB 7 e'=v) ((l.length+63) / 64) (by omega) (fun i e' h' ⟨v,x',dv,R',hn',hi,t1,t2,t3,t7,t8⟩=>?_)
   ⟨_,x1,⟨[],.inl ⟨rfl,rfl⟩,rfl,fun i w x h=>by cases h⟩,R3,Nat.le_refl _,Nat.zero_le _,s1,s2,s3,s7,s8⟩
  have Ul:=U.vals.bl h'
  have W':=x'.wf
  by_cases hlt:64 * i<l.length
  ·left
   have c1:iLt ((64 * i:Nat):Int) (l.length:Int)=true:=Eo hlt
   have mk:∀ (F:CallF) (e:Env),Fs 1 ty5.zero (kV (.int .i64 64)) (kV (.int .i64 64)) F e h'=.ok (.slice (some ⟨h'.next,0,none⟩) 64 64) (h'.pushRow 0 (Bi.map bv)):=fun F e=>OA (F:=F) (e:=e) W' (x:=kV (.int .i64 64)) (y:=kV (.int .i64 64)) (N:=64) rfl rfl (by omega)
   have y2:=(Hp.Ext.refl W').pushRow 0 (Bi.map bv)
   have Rz:=Hp.Row.new W' 0 (Bi.map bv)
   have n2:(h'.pushRow 0 (Bi.map bv)).next=h'.next+1:=rfl
   generalize h'.pushRow 0 (Bi.map bv)=h2 at mk y2 Rz n2
   obtain⟨h3,al,st,y3,R9,n3,_⟩:=II y2.wf dy (v:=.slice (some ⟨h'.next,0,none⟩) 64 64) rfl rfl
   have y23:=y2.trans y3
   have Rz3:=Rz.ext y2.wf y3
   have x3:=x'.trans y23
   have R9m:h3.marked.Row h2.next 0 [.slice (some ⟨h'.next,0,none⟩) 64 64]:=R9.same rfl
   have l9:load1 ⟨h2.next,0,none⟩ h3.marked=.ok (.slice (some ⟨h'.next,0,none⟩) 64 64) h3.marked:=R9m.load1 (off:=0) (by show 0<1;omega)
   obtain⟨w,ct,Vw⟩:=Ow (((U.ext W x3).same (h':=h3.marked) rfl)) (m:=64 * i) (by omega)
   have hb256:=W'.big
   have cpy:∃ h4,(∀ (F:CallF) (e:Env),AB 18 e=.slice (some ⟨h'.next,0,none⟩) 64 64→AB 21 e=w→∃ vv,Ac .free (Gu 1 (AB 18) (AB 21)) F e h3.marked=.ok vv h4)∧h'.Ext h4∧h4.Row h'.next 0 ((C6 (l.drop (64 * i)) 0).map bv)∧h4.Row h2.next 0 [.slice (some ⟨h'.next,0,none⟩) 64 64]∧h3.next≤h4.next:=by
    have Rq:h3.marked.quiet.Row h'.next 0 (Bi.map bv):=Rz3.same rfl
    have hle:0+(((l.drop (64 * i)).take 64).map bv).length≤(Bi.map bv).length:=by
     rw[List.length_map,List.length_take]
     show _≤64
     omega
    have key:=fun (F:CallF) (e:Env) (a1:AB 18 e=.slice (some ⟨h'.next,0,none⟩) 64 64) (a2:AB 21 e=w)=>Wo (F:=F) (e:=e) (h:=h3.marked.quiet) y23.wf.marked.quiet hb256 a1 a2 (Vw.same (h':=h3.marked.quiet) rfl) Rq
    have wr:=Rq.wr_self y23.wf.marked.quiet hle
    have wx:=Rq.wr_ext (h0:=h') (y23.marked.quiet) (Nat.le_refl _) hle
    have wo:=Rq.wr_other y23.wf.marked.quiet hle (R9.same (h':=h3.marked.quiet) rfl) (by omega)
    have wn:=Rq.wr_next hle
    have ho:over (Bi.map bv) 0 (((l.drop (64 * i)).take 64).map bv)=(C6 (l.drop (64 * i)) 0).map bv:=by
     have hk:=Wo (F:=call AF m) (e:=Env.set 18 (.slice (some ⟨h'.next,0,none⟩) 64 64) (Env.set 21 w e0)) (h:=h3.marked.quiet) (x:=AB 18) (y:=AB 21) y23.wf.marked.quiet hb256 (by simp[AH]) (by simp[AH]) (Vw.same (h':=h3.marked.quiet) rfl) Rq
     obtain⟨_,_,h2⟩:=hk
     exact h2
    rw[ho]at wr
    generalize h3.marked.quiet.wr h'.next 0 (((l.drop (64 * i)).take 64).map bv)=g at key wr wx wo wn
    refine⟨h3.marked.back g,fun F e a1 a2=>?_,Hp.Ext.back2 y23.marked wx,wr.same rfl,wo.same rfl,by show _≤g.next;rw[wn];exact Nat.le_refl _⟩
    obtain⟨vv,k1,_⟩:=key F e a1 a2
    exact⟨vv,Bb k1⟩
   obtain⟨h4,cp,y4,Rc,R94,n4⟩:=cpy
   have x4:=x'.trans y4
   have dv4:=ng (h:=h4) (i:=i) (by omega)
   have ad:=Sh (h:=h4) (a:=sct) (b:=i) (by omega)
   obtain⟨h5,al5,st5,y5,R10,n5,_⟩:=II y4.wf ZV (v:=.int .i64 ((sct+i:Nat):Int)) rfl rfl
   have y45:=y4.trans y5
   have x5:=x'.trans y45
   have dv5:=(dv.ext W' y45)
   have hbk:∀ b,h'.next≤b→¬ blkV v b:=fun b hb hv=>by
    obtain⟨vs,o1,_⟩:=dv
    rcases o1 with ⟨h1,_⟩|⟨b',h1,h2,_⟩
    ·rw[h1]at hv;exact Fe hv
    ·have:=h2.lt W'
     rw[h1]at hv
     obtain⟨o,nn,c,hc⟩:=hv
     injection hc with hc _ _
     injection hc with hc
     injection hc with hc _ _
     omega
   have hx1:=x1.next
   have nDb:∀ b,h.next≤b→¬ A.D b:=fun b hb=>bZ hD hb
   have hb3:¬ blkV v h.next:=fun hv=>by
    obtain⟨vs,o1,_⟩:=dv
    rcases o1 with ⟨h1',_⟩|⟨b',h1',h2',h3',_⟩
    ·rw[h1']at hv;exact Fe hv
    ·rw[h1']at hv
     obtain⟨o,nn,c,hc⟩:=hv
     injection hc with hc _ _
     injection hc with hc
     injection hc with hc _ _
     omega
   have R3':=R'.ext W' y45
   have ds:Ha h5 A (fun b=>¬ A.D b∧¬ blkV v b) (.func (.func 74) ⟨[]⟩ ⟨[pt h.next,pt h4.next,pt h2.next]⟩) (.w (sct+i) (C6 l i)):=by
    refine .inl ⟨h.next,h4.next,h2.next,.slice (some ⟨h'.next,0,none⟩) 64 64,rfl,R3',R10,R94.ext y4.wf y5,.inr ⟨h'.next,0,64,0,_,by rw[List.length_map,D9],by rw[List.length_map,D9];exact Nat.le_refl _,Rc.ext y4.wf y5,?_,?_,⟨nDb _ (by omega),hbk _ (Nat.le_refl _)⟩,.inl rfl⟩,⟨nDb _ (Nat.le_refl _),hb3⟩,⟨nDb _ (by omega),hbk _ (by omega)⟩,⟨nDb _ (by omega),hbk _ (by omega)⟩⟩
    ·rw[List.length_map,List.length_map,D9,D9];exact Nat.le_refl _
    ·have:C6 (l.drop (64 * i)) 0=C6 l i:=by unfold C6;rw[Nat.mul_zero,List.drop_zero]
     rw[this,List.drop_zero,List.take_length]
   obtain⟨h6,v6,k6,x6,dv6,n6,kp6⟩:=dv5.snoc (f:=74) x5 (Nat.le_trans hx1 (Nat.le_refl _)) (by omega) rfl ds (by rw[List.length_map,List.length_range];omega)
   have er:(List.range (i+1)).map (fun j=>Deed.w (sct+j) (C6 l j))=(List.range i).map (fun j=>Deed.w (sct+j) (C6 l j))++[Deed.w (sct+i) (C6 l i)]:=by rw[List.range_succ,List.map_append];rfl
   rw[← er]at dv6
   have fs:=fun (F:CallF) (e:Env) (a:AB 28 e=.func (.func 74) ⟨[]⟩ ⟨[pt h.next,pt h4.next,pt h2.next]⟩)=>IV (F:=F) (e:=e) x5.wf a
   have a3:FD .i64 (.int .i64 ((64 * i:Nat):Int)) (.int .i64 64) h6=.ok (.int .i64 ((64 * (i+1):Nat):Int)) h6:=by
    have:=Sh (h:=h6) (a:=64 * i) (b:=64) (by omega)
    rw[show 64 * i+64=64 * (i+1)by omega]at this
    exact this
   have hrun:∃ e2,wrB (call AF m) e' h'=.norm e2 h6∧AB 1 e2=.int .i64 (sct:Int)∧AB 2 e2=u∧AB 3 e2=pt h.next∧AB 7 e2=v6∧AB 8 e2=.int .i64 ((64 * (i+1):Nat):Int):=by
    obtain⟨vv,cp⟩:=cp (call AF m) (Env.set 21 w (Env.set 18 (.slice (some ⟨h'.next,0,none⟩) 64 64) (Env.set 9 (pt h2.next) (Env.set 17 (.slice (some ⟨h'.next,0,none⟩) 64 64) (Env.set 14 (.bool true) (Env.set 13 (.int .i64 (l.length:Int)) e')))))) (by simp[AH]) (by simp[AH])
    unfold wrB
    simp only[sT,Nat.reduceLT,Nat.reduceEqDiff,reduceIte,Am,t2,Ul,AO,AN,t8,c1,mk,al,Ao,st,BA,AP,AU,l9]
    rw[ct _ _ _ _ (by simp[AH,t2]) (by simp[AH,t8])]
    simp only[sT,Nat.reduceLT,Nat.reduceEqDiff,reduceIte,cp,Ii,t8,dv4,BR,t1,ad,al5,Ao,st5,DZ,Ah,A7,t3,fs,BL,t7,k6,a3]
    exact⟨_,rfl,by simp[AH,t1,t2,t3]⟩
   obtain⟨e2,r1,r2,r3,r4,r5,r6⟩:=hrun
   exact⟨by omega,e2,h6,r1,v6,x6,dv6,kp6 _ _ _ hb3 R3',by omega,by omega,r2,r3,r4,r5,r6⟩
  ·right
   have hie:i=(l.length+63) / 64:=by omega
   have c1:iLt ((64 * i:Nat):Int) (l.length:Int)=false:=DD (by omega)
   have hrun:∃ e2,wrB (call AF m) e' h'=.exit 0 e2 h'∧AB 3 e2=pt h.next∧AB 7 e2=v:=by
    unfold wrB
    simp only[sT,Nat.reduceLT,Nat.reduceEqDiff,reduceIte,Am,t2,Ul,AO,AN,t8,c1]
    exact⟨_,rfl,by simp[AH,t3,t7]⟩
   obtain⟨e2,r1,r2,r3⟩:=hrun
   rw[r1]
   exact⟨rfl,e2,h',v,rfl,x',by rw[← hie];exact dv,R',hn',r2,r3⟩
 obtain⟨e2,h2,v2,r1,x2,dv2,R2,n2,t3,t7⟩:=run
 have l3:load1 ⟨h.next,0,none⟩ h2=.ok (pt A.bs) h2:=R2.load1 (off:=0) (by show 0<1;omega)
 obtain⟨l0,_⟩:=BC (R.ext W x2)
 obtain⟨h6,v6,k6,x6,dv6,n6,_⟩:=dv2.snoc (f:=76) (d:=.f) x2 x1.next n2 (w:=.func (.func 76) ⟨[pt A.bd]⟩ ⟨[]⟩) rfl rfl (by rw[List.length_map,List.length_range];omega)
 have fs:=fun (F:CallF) (e:Env) (a:AB 36 e=.func (.func 76) ⟨[pt A.bd]⟩ ⟨[]⟩)=>IV (F:=F) (e:=e) x2.wf a
 refine⟨h6,v6,?_,x6,?_⟩
 ·rw[iH rfl,jS,p1,lN]
  simp only[BP,A1,r1,A5,BJ]
  unfold wrE
  simp only[sT,Nat.reduceLT,Nat.reduceEqDiff,reduceIte,AP,AU,t3,l3,Ay,Aq,AJ,AQ,Nat.zero_add,l0,DZ,Ah,A7,fs,BL,t7,k6,lV0]
 ·obtain⟨vs,a,b,c⟩:=dv6
  exact⟨vs,a.le x1.next,b,c⟩
end
end
noncomputable section
open Go
set_option maxRecDepth 100000
section
variable {F:CallF}{e:Env}{h h':Hp}{A:At}{T M:List Nat}{c0 bad m:Nat}{arm:Int}{ks:List Kt}{fr:List Nat}{lv fv:Value}{ov:Bool}
theorem Gf:∀ (n k:Nat) (a:Int),Bu a (n+k)→Bu ((List.range n).foldl (fun a _=>FZ a) a) k
 |0,k,a,h=>by rw[Nat.zero_add]at h;exact h
 |n+1,k,a,h=>by
  rw[List.range_succ,List.foldl_append]
  have h1:=Gf n (k+1) a (by rw[show n+(k+1)=n+1+k by omega];exact h)
  exact h1.one.1
theorem Zv{x y:O}{K:C}{v:Value}{b r:Nat}(hx:x e=v)(hv:v=.slice none 0 0∨∃ o n c,v=.slice (some ⟨b,o,none⟩) n c)(hy:y e=pt r)(hr:v=.slice none 0 0∨r≠b):CW x [y] K F e h=K F e h:=by
 unfold CW
 rw[hx]
 rcases hv with rfl|⟨o,n,c,rfl⟩
 ·rfl
 ·rcases hr with hr|hr
  ·cases hr
  ·show(bif DG b e [y]then K F e h else .no)=_
   have:DG b e [y]=true:=by
    unfold DG
    rw[hy]
    show(bif Nat.beq r b then false else DG b e [])=true
    have n1:Nat.beq r b=false:=by
     cases e:Nat.beq r b
     ·rfl
     ·exact absurd (Ap.1 e) hr
    rw[n1];rfl
   rw[this];rfl
theorem CD.atB{h0:Hp}{k bw:Nat}{v w:Value}{ds:List Deed}{f:Nat}{a b:List Value}(x0:h0.Ext h)(hk:h0.next≤k)(hk2:k≤h.next)(o:CD h A k v ds)(hw:w=.func (.func f) ⟨a⟩ ⟨b⟩)(Rw:h.Row bw 0 [w]){d:Deed}(hd:Ha h A (fun b=>¬ A.D b∧¬ blkV v b) w d)(hl:ds.length≤1000):
  ∃ h' v',(∀ (F:CallF) (e:Env) (x y:O),x e=v→y e=.slice (some ⟨bw,0,none⟩) 1 1→Hz x (A9 1 8 75 x y) F e h=.ok v' h')∧h0.Ext h'∧CD h' A k v' (ds++[d])∧h.next≤h'.next:=by
 obtain⟨vs,o1,o2,o3⟩:=o
 have W:=x0.wf
 have on:A0 w=true:=by rw[hw];rfl
 have cl:h.quiet.Cl (blkV v) 75 v vs:=by
  rcases o1 with ⟨h1,h2⟩|⟨b,h1,h2,h3,h4⟩
  ·exact .inl ⟨h1,h2⟩
  ·exact .inr ⟨b,76,h1,h2.same rfl,.inl rfl,⟨0,_,_,h1⟩,h4⟩
 have kb:∀ b,blkV v b→h0.next≤b:=fun b hb=>by
  obtain⟨off,n,c,e1⟩:=hb
  rcases o1 with ⟨h1,h2⟩|⟨b',h1,h2,h3,h4⟩
  ·rw[h1]at e1;cases e1
  ·rw[h1]at e1
   injection e1 with e1 _ _
   injection e1 with e1
   injection e1 with e1 _ _
   omega
 obtain⟨h5,b5,a1,a2,a3,a4,a5,a6,a7,a8,a9⟩:=Wj (eb:=8) (en:=75) x0.quiet cl kb (Rw.same (h':=h.quiet) rfl) on (by rw[o2];omega) (by omega)
 have hvb:¬ blkV (.slice (some ⟨b5,0,none⟩) (vs.length+1) (vs.length+1)) b5→False:=fun h=>h ⟨0,_,_,rfl⟩
 have a4:b5=h.next:=a4
 have kp:∀ b el L,¬ A.D b∧¬ blkV v b→(el=0∨el=6)→h.Row b el L→(h.back h5).Row b el L∧(¬ A.D b∧¬ blkV (.slice (some ⟨b5,0,none⟩) (vs.length+1) (vs.length+1)) b):=fun b el L hb _ r=>⟨(a7 b el L hb.2 (r.same rfl)).same rfl,hb.1,KI (by have:=r.lt W;omega)⟩
 have a5:h5.next=h.next+1:=a5
 have h256:=W.big
 refine⟨h.back h5,.slice (some ⟨b5,0,none⟩) (vs.length+1) (vs.length+1),fun F e x y hx hy=>Si hx hy a1 (a9 rfl rfl h rfl),x0.back2 a2,⟨vs++[w],.inr ⟨b5,by rw[List.length_append];rfl,a3.same rfl,?_,by omega⟩,by rw[List.length_append,List.length_append,o2];rfl,fun i z y h1 h2=>?_⟩,by show h.next≤h5.next;omega⟩
 ·omega
 ·rcases Nat.lt_or_ge i vs.length with hi|hi
  ·rw[List.getElem?_append_left hi]at h1
   rw[List.getElem?_append_left (by omega)]at h2
   exact(o3 i z y h1 h2).keep2 kp
  ·rw[List.getElem?_append_right hi]at h1
   rw[List.getElem?_append_right (by omega)]at h2
   have e1:=List.mem_singleton.1 (List.mem_of_getElem? h1)
   have e2:=List.mem_singleton.1 (List.mem_of_getElem? h2)
   rw[e1,e2]
   exact hd.keep2 kp
def skB:C:=(AE (AC 14) (AW iLt .i64 (AB 13) (AB 12))
(AS (AB 14)
(A2 (AY 1 (AE (AC 15) (BF 1 (AB 11) (AB 13))
(AE (AC 16) (AK (AB 15))
(AE (AC 7) (Bl 1 zt3)
(cDo (Af 1 (AB 7) (AB 16))
(AE (AC 18) (C8 (.func 83) [] [(AB 2),(AB 7)])
(AE (AC 19) (AZ 1 (BI KF.zero 1) [(0,1,(AB 18))])
(AE (AC 20) (A9 1 8 75 (AB 5) (AB 19))
(AE (AC 5) (AD (AB 20))
AX)))))))))
(AE (AC 21) (BZ .i64 (Ar .i64) (AB 13) (kV (.int .i64 1)))
(AE (AC 13) (AD (AB 21))
AX)))
(BK 0)))
def skE:C:=(BW (AE (AC 22) (AK (AB 2))
(AE (AC 24) (AK (AB 2))
(AE (AC 25) (BM (AB 24))
(AE (AC 26) (AG 0 (AB 25))
(AE (AC 27) (AK (AB 26))
(AE (AC 28) (C8 (.func 76) [(AB 27)] [])
(AE (AC 29) (Ac .strong (AZ 1 (BI KF.zero 1) [(0,1,(AB 28))]))
(CW (AB 5) [(AB 2)]
(AE (AC 30) (Hz (AB 5) (A9 1 8 75 (AB 5) (AB 29)))
(AE (AC 31) (Ac .free (AM 47 [(AB 22),(AB 30)]))
(AE (AC 4) (AD (AB 31))
Ad))))))))))))
theorem kv:skS=A2 (AY 0 (Az skB)) skE:=rfl
theorem Wx:d53=Wy:=rfl
def Qp(M:List Nat)(ps:List Nat):List Nat:=FQ M (ps.map fun p=>(p * 3,Bi))
theorem Qb:∀ (ps:List Nat) (M:List Nat) (cs:List (Nat×List Nat)),Fv M cs (ps.map (fun p=>Deed.w (p * 3) Bi)++[.f])=(FQ M (cs++ps.map fun p=>(p * 3,Bi)),[])
 |[],M,cs=>by rw[List.map_nil,List.map_nil,List.append_nil];rfl
 |p::ps,M,cs=>by
  show Fv M (cs++[(p * 3,Bi)]) (ps.map (fun p=>Deed.w (p * 3) Bi)++[.f])=_
  rw[Qb ps,List.append_assoc];rfl
theorem YM{n:Nat}:∀ (ps:List Nat) (cs:List (Nat×List Nat)),(cs≠[]∨ps≠[])→cs.length+ps.length≤60→(∀ p∈ps,3 * p+3≤n∧∀ x∈cs,x.1≠p * 3)→ps.Nodup→Eq n cs (ps.map (fun p=>Deed.w (p * 3) Bi)++[.f])
 |[],cs,h0,hl,_,_=>⟨h0.elim (fun h=>h) fun h=>absurd rfl h,by simpa using hl,trivial⟩
 |p::ps,cs,h0,hl,hp,hn=>by
  obtain⟨p1,p2⟩:=hp p List.mem_cons_self
  rw[List.length_cons]at hl
  refine⟨p2,by omega,rfl,fun x hx=>by rw[List.eq_of_mem_replicate hx];decide,YM ps _ (.inl (by simp)) (by rw[List.length_append];simp only[List.length_singleton];omega) (fun q hq=>⟨(hp q (List.mem_cons_of_mem _ hq)).1,fun x hx=>?_⟩) (List.nodup_cons.1 hn).2⟩
  rcases List.mem_append.1 hx with hx|hx
  ·exact(hp q (List.mem_cons_of_mem _ hq)).2 x hx
  ·rw[List.mem_singleton.1 hx]
   show p * 3≠q * 3
   intro he
   have:p=q:=by omega
   exact(List.nodup_cons.1 hn).1 (this ▸ hq)
theorem Sl.D_lt(s:Sl h A T M c0 arm ks fr lv fv bad ov)(W:h.Wf):∀ b,A.D b→b<h.next:=fun b hb=>by
 obtain⟨h1,h2,h3⟩:=s.dk.lt W
 rcases hb with rfl|rfl|rfl|rfl
 ·exact s.row.lt W
 ·exact h1
 ·exact h2
 ·exact h3
theorem Sl.nK(s:Sl h A T M c0 arm ks fr lv fv bad ov):¬ A.K A.bs:=by
 obtain⟨h1,h2,h3,_⟩:=s.ne
 rintro (h|h|h)<;>contradiction
theorem Jj(W:h.Wf)(s:Sl h A T M c0 arm ks fr lv fv bad ov){ps:List Nat}{pv:Value}(V:h.Vals pv (ints .i64 (ps.map Int.ofNat)))(hp:∀ p∈ps,3 * p+3≤A.n)(hnd:ps.Nodup)(hl:ps.length≤50){k:Nat}(ha:Bu arm (ps.length+1+k)):
  ∃ h' c1 arm',call AF (m+6) 53 [pt A.bs,pv] h=.ok (.int .i64 0) h'∧Fx A.K h h'∧Sl h' A T (Qp M ps) c1 arm' ks fr lv fv bad ov∧Bu arm' k:=by
 have ln:∀ g:Hp,lenSR pv g=.ok (.int .i64 (ps.length:Int)) g:=fun g=>by
  have:=V.shape
  obtain⟨a,c,rfl⟩:=this
  rw[show(ints .i64 (ps.map Int.ofNat)).length=ps.length by simp[ints]];rfl
 have bx:=fun (F:CallF) (e:Env) (he:AB 0 e=pt A.bs)=>(show Cv (AB 0) F e h=.ok (pt h.next) (h.pushRow 0 [pt A.bs])by rw[ET,he,EN W];rfl)
 have x1:=(Hp.Ext.refl W).pushRow 0 [pt A.bs]
 have R2:=Hp.Row.new W 0 [pt A.bs]
 have n1:(h.pushRow 0 [pt A.bs]).next=h.next+1:=rfl
 generalize h.pushRow 0 [pt A.bs]=h1 at bx x1 R2 n1
 have hD:=s.D_lt W
 have hDn:A.n≤65536:=s.dk.n1.2
 by_cases h0:ps=[]
 ·subst h0
  have c1:iEq ((([]:List Nat).length:Nat):Int) 0=true:=CM rfl
  refine⟨h1,c0,arm,?_,.of x1,s.ext W x1,ha.le (by omega)⟩
  rw[WZ rfl,Wx]
  unfold Wy
  simp only[iN,Nat.reduceAdd,sT,Nat.reduceLT,Nat.reduceEqDiff,reduceIte,bx,Am,ln,AO,AN,c1,lV0]
 have hpos:0<ps.length:=by
  cases ps with
  |nil=>exact absurd rfl h0
  |cons _ _=>exact Nat.succ_pos _
 have c1:iEq (ps.length:Int) 0=false:=Bd (by omega)
 have pre:∃ e1,Wy (call AF (m+5)) (AV e0 0 [pt A.bs,pv]) h=skS (call AF (m+5)) e1 h1∧AB 2 e1=pt h.next∧AB 5 e1=.slice none 0 0∧AB 11 e1=pv∧AB 12 e1=.int .i64 (ps.length:Int)∧AB 13 e1=.int .i64 ((0:Nat):Int):=by
  unfold Wy
  simp only[iN,Nat.reduceAdd,sT,Nat.reduceLT,Nat.reduceEqDiff,reduceIte,bx,Am,ln,AO,AN,c1]
  exact⟨_,rfl,by simp[AH]⟩
 obtain⟨e1,p1,s2,s5,s11,s12,s13⟩:=pre
 have run:∃ e' h' v,Az skB (call AF (m+5)) e1 h1=.exit 0 e' h'∧h.Ext h'∧CD h' A h1.next v (ps.map fun p=>Deed.w (p * 3) Bi)∧h'.Row h.next 0 [pt A.bs]∧h1.next≤h'.next∧AB 2 e'=pt h.next∧AB 5 e'=v:=by
  refine Be (I:=fun i e' h'=>∃ v,h.Ext h'∧CD h' A h1.next v ((ps.take i).map fun p=>Deed.w (p * 3) Bi)∧h'.Row h.next 0 [pt A.bs]∧h1.next≤h'.next∧i≤ps.length∧AB 2 e'=pt h.next∧AB 5 e'=v∧AB 11 e'=pv∧AB 12 e'=.int .i64 (ps.length:Int)∧AB 13 e'=.int .i64 (i:Int))
   (Q:=fun x=>∃ e' h' v,x=.exit 0 e' h'∧h.Ext h'∧CD h' A h1.next v (ps.map fun p=>Deed.w (p * 3) Bi)∧h'.Row h.next 0 [pt A.bs]∧h1.next≤h'.next∧AB 2 e'=pt h.next∧AB 5 e'=v) ps.length (by omega) (fun i e' h' ⟨v,x',dv,R',hn',hi,t2,t5,t11,t12,t13⟩=>?_)
   ⟨_,x1,⟨[],.inl ⟨rfl,rfl⟩,rfl,fun i w x h=>by cases h⟩,R2,Nat.le_refl _,Nat.zero_le _,s2,s5,s11,s12,s13⟩
  have W':=x'.wf
  by_cases hlt:i<ps.length
  ·left
   have c1:=Eo hlt
   obtain⟨p,hpi⟩:∃ p,ps[i]? =some p:=⟨_,List.getElem?_eq_getElem hlt⟩
   have hpm:=List.mem_of_getElem? hpi
   obtain⟨a,g1,g2⟩:=(V.ext W x').at (i:=i) (by simp[ints];exact hlt)
   have g2:Gq (.pointer (some a)) h'=.ok (.int .i64 (p:Int)) h':=by
    rw[g2]
    have:(ints .i64 (ps.map Int.ofNat)).getD i noRes=.int .i64 (p:Int):=by
     rw[List.getD_eq_getElem?_getD]
     simp[ints,hpi]
    rw[this]
   obtain⟨h2,al,st,y2,R7,n2,_⟩:=II W' ZV (v:=.int .i64 (p:Int)) rfl rfl
   have x2:=x'.trans y2
   have nDb:∀ b,h.next≤b→¬ A.D b:=fun b hb=>bZ hD hb
   have hvb:∀ b,blkV v b→h1.next≤b∧b<h'.next:=fun b hb=>by
    obtain⟨vs,o1,_⟩:=dv
    obtain⟨o,nn,c,hc⟩:=hb
    rcases o1 with ⟨h1',_⟩|⟨b',h1',h2',h3',_⟩
    ·rw[h1']at hc;cases hc
    ·rw[h1']at hc
     have:=h2'.lt W'
     injection hc with hc _ _
     injection hc with hc
     injection hc with hc _ _
     omega
   have ds:Ha h2 A (fun b=>¬ A.D b∧¬ blkV v b) (.func (.func 83) ⟨[]⟩ ⟨[pt h.next,pt h'.next]⟩) (.w (p * 3) Bi):=.inr ⟨h.next,h'.next,p,rfl,R'.ext W' y2,R7,rfl,by have:=hp p hpm;omega,rfl,⟨nDb _ (Nat.le_refl _),fun hb=>by have:=hvb _ hb;omega⟩,⟨nDb _ (by have:=x'.next;omega),fun hb=>by have:=hvb _ hb;omega⟩⟩
   obtain⟨h3,v3,k3,x3,dv3,n3,kp3⟩:=(dv.ext W' y2).snoc (f:=83) x2 x1.next (by omega) rfl ds (by rw[List.length_map,List.length_take];omega)
   have er:(ps.take (i+1)).map (fun p=>Deed.w (p * 3) Bi)=(ps.take i).map (fun p=>Deed.w (p * 3) Bi)++[Deed.w (p * 3) Bi]:=by
    rw[List.take_add_one,hpi,List.map_append];rfl
   rw[← er]at dv3
   have fs:=fun (F:CallF) (e:Env) (a:AB 18 e=.func (.func 83) ⟨[]⟩ ⟨[pt h.next,pt h'.next]⟩)=>IV (F:=F) (e:=e) x2.wf a
   have a3:=CR (i:=i) (h:=h3) (by omega)
   have hrun:∃ e2,skB (call AF (m+5)) e' h'=.norm e2 h3∧AB 2 e2=pt h.next∧AB 5 e2=v3∧AB 11 e2=pv∧AB 12 e2=.int .i64 (ps.length:Int)∧AB 13 e2=.int .i64 ((i+1:Nat):Int):=by
    unfold skB
    simp only[sT,Nat.reduceLT,Nat.reduceEqDiff,reduceIte,AO,AN,t13,t12,c1,A8,t11,g1,AP,g2,al,Ao,st,DZ,Ah,A7,t2,fs,BL,t5,k3,BR,a3]
    exact⟨_,rfl,by simp[AH,t2,t11,t12]⟩
   obtain⟨e2,r1,r2,r3,r4,r5,r6⟩:=hrun
   exact⟨hlt,e2,h3,r1,v3,x3,dv3,kp3 _ _ _ (fun hb=>by have:=hvb _ hb;omega) (R'.ext W' y2),by omega,by omega,r2,r3,r4,r5,r6⟩
  ·right
   have c1:=DD (show ps.length≤i by omega)
   have hrun:∃ e2,skB (call AF (m+5)) e' h'=.exit 0 e2 h'∧AB 2 e2=pt h.next∧AB 5 e2=v:=by
    unfold skB
    simp only[sT,Nat.reduceLT,Nat.reduceEqDiff,reduceIte,AO,AN,t13,t12,c1]
    exact⟨_,rfl,by simp[AH,t2,t5]⟩
   obtain⟨e2,r1,r2,r3⟩:=hrun
   rw[r1]
   rw[List.take_of_length_le (by omega)]at dv
   exact⟨rfl,e2,h',v,rfl,x',dv,R',hn',r2,r3⟩
 obtain⟨e2,h2,v2,r1,x2,dv2,R2',n2,t2,t5⟩:=run
 have x2m:=x2.marked
 have R2m:h2.marked.Row h.next 0 [pt A.bs]:=R2'.same rfl
 have l2:load1 ⟨h.next,0,none⟩ h2.marked=.ok (pt A.bs) h2.marked:=R2m.load1 (off:=0) (by show 0<1;omega)
 obtain⟨l0,_⟩:=BC (s.row.ext W x2m)
 have qs:∀ (F:CallF) (e:Env),AB 28 e=.func (.func 76) ⟨[pt A.bd]⟩ ⟨[]⟩→Ac .strong (AZ 1 (BI KF.zero 1) [(0,1,AB 28)]) F e h2.marked=.ok (.slice (some ⟨h2.next,0,none⟩) 1 1) (h2.marked.back (h2.marked.quiet.pushRow 0 [.func (.func 76) ⟨[pt A.bd]⟩ ⟨[]⟩])):=fun F e he=>DK (IV x2m.wf.quiet he) ((Hp.Ext.refl x2m.wf.quiet).pushRow _ _) (Nat.le_refl _)
 have y3:h2.Ext (h2.marked.back (h2.marked.quiet.pushRow 0 [.func (.func 76) ⟨[pt A.bd]⟩ ⟨[]⟩])):=Hp.Ext.back2 (Hp.Ext.refl x2.wf).marked ((Hp.Ext.refl x2.wf).marked.quiet.pushRow _ _)
 have Rw:(h2.marked.back (h2.marked.quiet.pushRow 0 [.func (.func 76) ⟨[pt A.bd]⟩ ⟨[]⟩])).Row h2.next 0 [.func (.func 76) ⟨[pt A.bd]⟩ ⟨[]⟩]:=(Hp.Row.new x2m.wf.quiet 0 [.func (.func 76) ⟨[pt A.bd]⟩ ⟨[]⟩]).same rfl
 generalize h2.marked.back (h2.marked.quiet.pushRow 0 [.func (.func 76) ⟨[pt A.bd]⟩ ⟨[]⟩])=h3 at qs y3 Rw
 have x3:=x2.trans y3
 obtain⟨h4,v4,k4,x4,dv4,n4⟩:=(dv2.ext x2.wf y3).atB (f:=76) (d:=.f) x3 x1.next (Nat.le_trans n2 y3.next) rfl Rw rfl (by rw[List.length_map];omega)
 have ck:∀ (K:C) (F:CallF) (e:Env),AB 5 e=v2→AB 2 e=pt h.next→CW (AB 5) [AB 2] K F e h3=K F e h3:=fun K F e a1 a2=>by
  obtain⟨vs,o1,_⟩:=dv2
  rcases o1 with ⟨h1',_⟩|⟨b',h1',h2',h3',_⟩
  ·exact Zv (b:=0) a1 (.inl h1') a2 (.inl h1')
  ·exact Zv (b:=b') a1 (.inr ⟨_,_,_,h1'⟩) a2 (.inr (by omega))
 have s4:=s.ext W x4
 obtain⟨vs,w1,w2,w3⟩:=dv4.ends fun b hb=>by have:=hD b hb;have:=x1.next;omega
 obtain⟨h5,c5,arm5,k5,f5,d5,ea⟩:=Q1 (m:=m) x4.wf.quiet (s4.row.same (h':=h4.quiet) rfl) s.nK (s4.dk.same (h':=h4.quiet) rfl) (w1.same (h':=h4.quiet) rfl) w2 (fun i v x a b=>(w3 i v x a b).keep2 fun b el L hb _ r=>⟨r.same rfl,hb⟩) (YM ps [] (.inr h0) (by simp only[List.length_nil];omega) (fun p hq=>⟨hp p hq,fun x hx=>by cases hx⟩) hnd)
  (by rw[List.length_append,List.length_map];exact ha.le (by show ps.length+1≤_;omega)) (by rw[List.length_append,List.length_map];show ps.length+1≤_;omega)
 rw[Qb]at d5
 have q5:∀ e:Env,AB 22 e=pt A.bs→AB 30 e=v4→Ac .free (AM 47 [AB 22,AB 30]) (call AF (m+5)) e h4=.ok (.int .i64 0) (h4.back h5):=fun e a1 a2=>by
  refine Bb ?_
  rw[Bk,Ah,Ah,A7,a1,a2];exact k5
 have f5':Fx A.K h4 (h4.back h5):=(f5.from (h:=h4) rfl rfl).same rfl rfl
 refine⟨h4.back h5,c5,arm5,?_,(Fx.of x4).trans f5',((s4.sc.fx x4.wf f5').sl (d5.same rfl)),?_⟩
 ·rw[WZ rfl,Wx,p1,kv]
  simp only[BP,A1,r1,A5,BJ]
  unfold skE
  simp only[sT,Nat.reduceLT,Nat.reduceEqDiff,reduceIte,BA,AP,AU,t2,l2,Ay,Aq,AJ,AQ,Nat.zero_add,l0,DZ,Ah,A7,qs]
  rw[ck _ _ _ (by simp[AH,t5]) (by simp[AH,t2])]
  simp only[sT,Nat.reduceLT,Nat.reduceEqDiff,reduceIte]
  rw[k4 _ _ _ _ (by simp[AH,t5]) (by simp[AH])]
  simp only[sT,Nat.reduceLT,Nat.reduceEqDiff,reduceIte,q5,lV0]
 ·rw[ea,List.length_append,List.length_map]
  exact Gf _ k arm ha
end
end
noncomputable section
open Go
set_option maxRecDepth 100000
def Fa(P:Kt→Bool):Nat→List Kt→Int
 |_,[]=> -1
 |i,k::l=>if P k=true then(i:Int)else Fa P (i+1) l
theorem Nq(P:Kt→Bool):∀ (l:List Kt) (i:Nat),(l.any P=false∧Fa P i l= -1)∨(l.any P=true∧∃ j k,l[j]? =some k∧P k=true∧Fa P i l=((i+j:Nat):Int))
 |[],i=>.inl ⟨rfl,rfl⟩
 |k::l,i=>by
  unfold Fa
  by_cases h:P k=true
  ·rw[if_pos h]
   exact .inr ⟨by rw[List.any_cons,h];rfl,0,k,rfl,h,rfl⟩
  ·rw[if_neg h]
   have hf:P k=false:=by simpa using h
   rcases Nq P l (i+1)with ⟨h1,h2⟩|⟨h1,j,k',h2,h3,h4⟩
   ·exact .inl ⟨by rw[List.any_cons,hf,h1];rfl,h2⟩
   ·exact .inr ⟨by rw[List.any_cons,h1,Bool.or_true],j+1,k',by rw[List.getElem?_cons_succ];exact h2,h3,by rw[h4];congr 1;omega⟩
section
variable {F:CallF}{e:Env}{h h':Hp}{S:Nat→Prop}{A:At}{bad m:Nat}{ks:List Kt}{v lv fv:Value}{ov:Bool}
def kiB:C:=(AE (AC 9) (AW iLt .i64 (AB 8) (AB 7))
(AS (AB 9)
(A2 (AY 1 (AE (AC 5) (AD (AB 8))
(AE (AC 14) (BF 6 (AB 0) (AB 5))
(AE (AC 15) (Ax 6 (AB 14))
(AE (AC 16) (Cf (AB 1) [(AB 15)])
(AS (AB 16)
(AE (AC 4) (AD (AB 5))
Ad)
AX))))))
(AE (AC 18) (BZ .i64 (Ar .i64) (AB 8) (kV (.int .i64 1)))
(AE (AC 8) (AD (AB 18))
AX)))
(BK 0)))
def kiE:C:=AE (AC 4) (AD (kV (.int .i64 (-1)))) Ad
theorem Xc:kiS=A2 (AY 0 (Az kiB)) kiE:=rfl
theorem Wz:d69=aJ:=rfl
theorem N2{g:Nat}{caps:List Value}{P:Kt→Bool}(W:h.Wf)(K:h.KS S v ks)(hl:ks.length≤100000)(hP:∀ h',h.Ext h'→∀ k∈ks,∃ h'',call AF m g (ktV k::caps) h'=.ok (.bool (P k)) h''∧h'.Ext h''):
  ∃ h',call AF (m+1) 69 [v,.func (.func g) ⟨[]⟩ ⟨caps⟩] h=.ok (.int .i64 (Fa P 0 ks)) h'∧h.Ext h':=by
 have ln:=K.len h
 have pre:∃ e1,aJ (call AF m) (AV e0 0 [v,.func (.func g) ⟨[]⟩ ⟨caps⟩]) h=kiS (call AF m) e1 h∧AB 0 e1=v∧AB 1 e1=.func (.func g) ⟨[]⟩ ⟨caps⟩∧AB 7 e1=.int .i64 (ks.length:Int)∧AB 8 e1=.int .i64 ((0:Nat):Int):=by
  unfold aJ
  simp only[iN,Nat.reduceAdd,sT,Nat.reduceLT,Nat.reduceEqDiff,reduceIte,Am,ln]
  exact⟨_,rfl,by simp[AH]⟩
 obtain⟨e1,p1,s0,s1,s7,s8⟩:=pre
 have run:(∃ e' h',Az kiB (call AF m) e1 h=.exit 0 e' h'∧h.Ext h'∧Fa P 0 ks= -1)∨(∃ e' h',Az kiB (call AF m) e1 h=.ret e' h'∧h.Ext h'∧AB 4 e'=.int .i64 (Fa P 0 ks)):=by
  refine Be (I:=fun i e' h'=>h.Ext h'∧AB 0 e'=v∧AB 1 e'=.func (.func g) ⟨[]⟩ ⟨caps⟩∧AB 7 e'=.int .i64 (ks.length:Int)∧AB 8 e'=.int .i64 (i:Int)∧i≤ks.length∧Fa P 0 ks=Fa P i (ks.drop i))
   (Q:=fun x=>(∃ e' h',x=.exit 0 e' h'∧h.Ext h'∧Fa P 0 ks= -1)∨(∃ e' h',x=.ret e' h'∧h.Ext h'∧AB 4 e'=.int .i64 (Fa P 0 ks))) ks.length (by omega) (fun i e' h' ⟨x',t0,t1,t7,t8,hi,hr⟩=>?_) ⟨.refl W,s0,s1,s7,s8,Nat.zero_le _,by rw[List.drop_zero]⟩
  by_cases hlt:i<ks.length
  ·obtain⟨k,hk⟩:∃ k,ks[i]? =some k:=⟨_,List.getElem?_eq_getElem hlt⟩
   have hd:ks.drop i=k::ks.drop (i+1):=by
    rw[List.drop_eq_getElem_cons hlt]
    rw[List.getElem?_eq_getElem hlt]at hk
    rw[Option.some.inj hk]
   rw[hd]at hr
   have hr:Fa P 0 ks=if P k=true then(i:Int)else Fa P (i+1) (ks.drop (i+1)):=hr
   have c1:=Eo hlt
   obtain⟨b,_,ix,ld,_⟩:=(K.ext W x').at hk
   obtain⟨h2,k2,x2⟩:=hP h' x' k (List.mem_of_getElem? hk)
   by_cases hp:P k=true
   ·right
    rw[hp]at k2
    rw[if_pos hp]at hr
    have hrun:∃ e2,kiB (call AF m) e' h'=.ret e2 h2∧AB 4 e2=.int .i64 (i:Int):=by
     unfold kiB
     simp only[sT,Nat.reduceLT,Nat.reduceEqDiff,reduceIte,AO,AN,t8,t7,c1,A8,t0,ix,Aw,Av,ld,Cj,t1,Ch,Ah,A7,List.nil_append,List.singleton_append,k2]
     exact⟨_,rfl,by simp[AH]⟩
    obtain⟨e2,r1,r2⟩:=hrun
    rw[r1]
    exact⟨rfl,.inr ⟨e2,h2,rfl,x'.trans x2,by rw[r2,hr]⟩⟩
   ·left
    have hf:P k=false:=by simpa using hp
    rw[hf]at k2
    rw[if_neg hp]at hr
    have a3:=CR (i:=i) (h:=h2) (by omega)
    have hrun:∃ e2,kiB (call AF m) e' h'=.norm e2 h2∧AB 0 e2=v∧AB 1 e2=.func (.func g) ⟨[]⟩ ⟨caps⟩∧AB 7 e2=.int .i64 (ks.length:Int)∧AB 8 e2=.int .i64 ((i+1:Nat):Int):=by
     unfold kiB
     simp only[sT,Nat.reduceLT,Nat.reduceEqDiff,reduceIte,AO,AN,t8,t7,c1,A8,t0,ix,Aw,Av,ld,Cj,t1,Ch,Ah,A7,List.nil_append,List.singleton_append,k2,BR,a3]
     exact⟨_,rfl,by simp[AH,t0,t1,t7]⟩
    obtain⟨e2,r1,r2,r3,r4,r5⟩:=hrun
    exact⟨hlt,e2,h2,r1,x'.trans x2,r2,r3,r4,r5,by omega,hr⟩
  ·right
   have c1:=DD (show ks.length≤i by omega)
   have hrun:∃ e2,kiB (call AF m) e' h'=.exit 0 e2 h':=by
    unfold kiB
    simp only[sT,Nat.reduceLT,Nat.reduceEqDiff,reduceIte,AO,AN,t8,t7,c1]
    exact⟨_,rfl⟩
   obtain⟨e2,r1⟩:=hrun
   rw[r1]
   exact⟨rfl,.inl ⟨e2,h',rfl,x',by rw[hr,List.drop_of_length_le (by omega)];rfl⟩⟩
 rcases run with ⟨e2,h2,r1,x2,r2⟩|⟨e2,h2,r1,x2,r2⟩
 ·refine⟨h2,?_,x2⟩
  rw[Wa rfl,Wz,p1,Xc,r2]
  simp only[BP,A1,r1,A5,BJ]
  unfold kiE
  simp only[sT,Nat.reduceLT,Nat.reduceEqDiff,reduceIte,lV0]
 ·refine⟨h2,?_,x2⟩
  rw[Wa rfl,Wz,p1,Xc]
  simp only[BP,A1,r1,CB,Co,lV0,r2]
theorem N1{g:Nat}{caps:List Value}{P:Kt→Bool}(W:h.Wf)(K:h.KS S v ks)(hl:ks.length≤100000)(hP:∀ h',h.Ext h'→∀ k∈ks,∃ h'',call AF m g (ktV k::caps) h'=.ok (.bool (P k)) h''∧h'.Ext h''):
  ∃ h',call AF (m+2) 61 [v,.func (.func g) ⟨[]⟩ ⟨caps⟩] h=.ok (.bool (ks.any P)) h'∧h.Ext h':=by
 obtain⟨h2,k2,x2⟩:=N2 W K hl hP
 have c1:iGe (Fa P 0 ks) 0=ks.any P:=by
  rcases Nq P ks 0 with ⟨h1,h2⟩|⟨h1,j,k,_,_,h2⟩
  ·rw[h1,h2];exact Ez (by omega)
  ·rw[h1,h2];exact Gg (by omega)
 refine⟨h2,?_,x2⟩
 rw[iU rfl]
 unfold d61
 simp only[iN,Nat.reduceAdd,sT,Nat.reduceLT,Nat.reduceEqDiff,reduceIte,cA0,k2,AO,AN,c1,lV0]
theorem Gp(W:h.Wf){k:Kt}{g:O}(hg:g e=ktV k):Cv g F e h=.ok (pt h.next) (h.pushRow 0 (Ab k)):=by rw[ET,hg,EN W];rfl
theorem Bx{r:Nat}{k:Kt}(R:h.Row r 0 (Ab k)):load1 ⟨r,0,none⟩ h=.ok (.int .i64 k.a) h∧load1 ⟨r,1,none⟩ h=.ok (.int .i64 k.b) h∧load1 ⟨r,2,none⟩ h=.ok (.int .i64 k.c) h∧load1 ⟨r,3,none⟩ h=.ok (.int .u8 (k.s:Int)) h∧load1 ⟨r,4,none⟩ h=.ok k.u h∧load1 ⟨r,5,none⟩ h=.ok (.int .i64 (k.p:Int)) h∧loadN 6 ⟨r,0,none⟩ h=.ok (ktV k) h∧loadN 5 ⟨r,0,none⟩ h=.ok (B1 k.a k.b k.c k.s k.u) h:=
 ⟨R.load1 (off:=0) (by show 0<6;omega),R.load1 (off:=1) (by show 1<6;omega),R.load1 (off:=2) (by show 2<6;omega),R.load1 (off:=3) (by show 3<6;omega),R.load1 (off:=4) (by show 4<6;omega),R.load1 (off:=5) (by show 5<6;omega),R.loadN (off:=0) (n:=6) (by show 0+6≤6;omega),R.loadN (off:=0) (n:=5) (by show 0+5≤6;omega)⟩
def CG(a b c:Int)(k:Kt):Bool:=decide (k.a=a) && decide (k.b=b) && decide (k.c=c)
def Pp(a b:Int)(k:Kt):Bool:=decide (k.a=a) && decide (k.b=b) && decide (k.s=2)
theorem Cw{r:Nat}{w:Value}(R:h.Row r 0 [w]):load1 ⟨r,0,none⟩ h=.ok w h:=R.load1 (off:=0) (by show 0<1;omega)
theorem jg(W:h.Wf){r1 r2 r3:Nat}{a b c:Int}(R1:h.Row r1 0 [.int .i64 a])(R2:h.Row r2 0 [.int .i64 b])(R3:h.Row r3 0 [.int .i64 c])(k:Kt):
  ∃ h',call AF (m+1) 70 [ktV k,pt r1,pt r2,pt r3] h=.ok (.bool (CG a b c k)) h'∧h.Ext h':=by
 have bx:=fun (F:CallF) (e:Env) (he:AB 0 e=ktV k)=>Gp (F:=F) W he
 have x1:=(Hp.Ext.refl W).pushRow 0 (Ab k)
 have R:=Hp.Row.new W 0 (Ab k)
 generalize h.pushRow 0 (Ab k)=h1 at bx x1 R
 obtain⟨l0,l1,l2,l3,_,l5,_⟩:=Bx R
 have m1:=Cw (R1.ext W x1)
 have m2:=Cw (R2.ext W x1)
 have m3:=Cw (R3.ext W x1)
 refine⟨h1,?_,x1⟩
 unfold CG
 rw[ib rfl]
 unfold d70
 by_cases h1:k.a=a
 ·have c1:iEq k.a a=true:=CM h1
  by_cases h2:k.b=b
  ·have c2:iEq k.b b=true:=CM h2
   have c3:iEq k.c c=decide (k.c=c):=by rw[Dr];by_cases h3:k.c=c<;>simp[h3]
   simp only[iN,Nat.reduceAdd,sT,Nat.reduceLT,Nat.reduceEqDiff,reduceIte,gD,bx,AJ,AQ,Nat.zero_add,AP,AU,l0,l1,l2,m1,m2,m3,AO,AN,c1,c2,c3,lV0]
   rw[decide_eq_true h1,decide_eq_true h2];rfl
  ·have c2:iEq k.b b=false:=Bd h2
   simp only[iN,Nat.reduceAdd,sT,Nat.reduceLT,Nat.reduceEqDiff,reduceIte,gD,bx,AJ,AQ,Nat.zero_add,AP,AU,l0,l1,l2,m1,m2,m3,AO,AN,c1,c2,lV0]
   rw[decide_eq_true h1,decide_eq_false h2];rfl
 ·have c1:iEq k.a a=false:=Bd h1
  simp only[iN,Nat.reduceAdd,sT,Nat.reduceLT,Nat.reduceEqDiff,reduceIte,gD,bx,AJ,AQ,Nat.zero_add,AP,AU,l0,l1,l2,m1,m2,m3,AO,AN,c1,lV0]
  rw[decide_eq_false h1];rfl
theorem jj(W:h.Wf){r1 r2:Nat}{a b:Int}(R1:h.Row r1 0 [.int .i64 a])(R2:h.Row r2 0 [.int .i64 b])(k:Kt):
  ∃ h',call AF (m+1) 92 [ktV k,pt r1,pt r2] h=.ok (.bool (Pp a b k)) h'∧h.Ext h':=by
 have bx:=fun (F:CallF) (e:Env) (he:AB 0 e=ktV k)=>Gp (F:=F) W he
 have x1:=(Hp.Ext.refl W).pushRow 0 (Ab k)
 have R:=Hp.Row.new W 0 (Ab k)
 generalize h.pushRow 0 (Ab k)=h1 at bx x1 R
 obtain⟨l0,l1,l2,l3,_,l5,_⟩:=Bx R
 have m1:=Cw (R1.ext W x1)
 have m2:=Cw (R2.ext W x1)
 refine⟨h1,?_,x1⟩
 unfold Pp
 rw[i9 rfl]
 unfold d92
 by_cases h1:k.a=a
 ·have c1:iEq k.a a=true:=CM h1
  by_cases h2:k.b=b
  ·have c2:iEq k.b b=true:=CM h2
   have c3:iEq (k.s:Int) 2=decide (k.s=2):=by
    by_cases h3:k.s=2
    ·rw[decide_eq_true h3];exact CM (by omega)
    ·rw[decide_eq_false h3];exact Bd (by omega)
   simp only[iN,Nat.reduceAdd,sT,Nat.reduceLT,Nat.reduceEqDiff,reduceIte,gD,bx,AJ,AQ,Nat.zero_add,AP,AU,l0,l1,l3,m1,m2,AO,AN,c1,c2,c3,lV0]
   rw[decide_eq_true h1,decide_eq_true h2];rfl
  ·have c2:iEq k.b b=false:=Bd h2
   simp only[iN,Nat.reduceAdd,sT,Nat.reduceLT,Nat.reduceEqDiff,reduceIte,gD,bx,AJ,AQ,Nat.zero_add,AP,AU,l0,l1,l3,m1,m2,AO,AN,c1,c2,lV0]
   rw[decide_eq_true h1,decide_eq_false h2];rfl
 ·have c1:iEq k.a a=false:=Bd h1
  simp only[iN,Nat.reduceAdd,sT,Nat.reduceLT,Nat.reduceEqDiff,reduceIte,gD,bx,AJ,AQ,Nat.zero_add,AP,AU,l0,l1,l3,m1,m2,AO,AN,c1,lV0]
  rw[decide_eq_false h1];rfl
theorem HJ(W:h.Wf){z:Int}{g:O}(hg:g e=.int .i64 z):Cv g F e h=.ok (pt h.next) (h.pushRow 0 [.int .i64 z]):=by rw[ET,hg,EN W];rfl
theorem HI(W:h.Wf)(R:h.Row A.bs 0 (slL A.bd A.tb lv fv bad ov))(K:h.KS S lv ks)(hl:ks.length≤100000)(a b c:Int):
  ∃ h',call AF (m+3) 41 [pt A.bs,.int .i64 a,.int .i64 b,.int .i64 c] h=.ok (.int .i64 (Fa (CG a b c) 0 ks)) h'∧h.Ext h':=by
 have b1:=fun (F:CallF) (e:Env) (he:AB 1 e=.int .i64 a)=>HJ (F:=F) W he
 have x1:=(Hp.Ext.refl W).pushRow 0 [.int .i64 a]
 have R1:=Hp.Row.new W 0 [.int .i64 a]
 generalize h.pushRow 0 [.int .i64 a]=h1 at b1 x1 R1
 have b2:=fun (F:CallF) (e:Env) (he:AB 2 e=.int .i64 b)=>HJ (F:=F) x1.wf he
 have y2:=(Hp.Ext.refl x1.wf).pushRow 0 [.int .i64 b]
 have R2:=Hp.Row.new x1.wf 0 [.int .i64 b]
 generalize h1.pushRow 0 [.int .i64 b]=h2 at b2 y2 R2
 have b3:=fun (F:CallF) (e:Env) (he:AB 3 e=.int .i64 c)=>HJ (F:=F) y2.wf he
 have y3:=(Hp.Ext.refl y2.wf).pushRow 0 [.int .i64 c]
 have R3:=Hp.Row.new y2.wf 0 [.int .i64 c]
 generalize h2.pushRow 0 [.int .i64 c]=h3 at b3 y3 R3
 have x3:=(x1.trans y2).trans y3
 obtain⟨_,_,_,l3,_⟩:=BC (R.ext W x3)
 obtain⟨h4,k4,x4⟩:=N2 (m:=m+1) (g:=70) (caps:=[pt h.next,pt h1.next,pt h2.next]) (P:=CG a b c) x3.wf (K.ext W x3) hl fun h' x' k _=>jg x'.wf ((R1.ext x1.wf (y2.trans y3)).ext x3.wf x') ((R2.ext y2.wf y3).ext x3.wf x') (R3.ext x3.wf x') k
 refine⟨h4,?_,x3.trans x4⟩
 rw[iF rfl]
 unfold d41
 simp only[iN,Nat.reduceAdd,sT,Nat.reduceLT,Nat.reduceEqDiff,reduceIte,b1,b2,b3,Ay,Aq,AJ,AQ,Nat.zero_add,AP,AU,l3,DZ,Ah,A7,Bk,k4,lV0]
theorem kF(W:h.Wf)(R:h.Row A.bs 0 (slL A.bd A.tb lv fv bad ov))(K:h.KS S lv ks)(hl:ks.length≤100000)(a b:Int):
  ∃ h',call AF (m+3) 64 [pt A.bs,.int .i64 a,.int .i64 b] h=.ok (.int .i64 (Fa (Pp a b) 0 ks)) h'∧h.Ext h':=by
 have b1:=fun (F:CallF) (e:Env) (he:AB 1 e=.int .i64 a)=>HJ (F:=F) W he
 have x1:=(Hp.Ext.refl W).pushRow 0 [.int .i64 a]
 have R1:=Hp.Row.new W 0 [.int .i64 a]
 generalize h.pushRow 0 [.int .i64 a]=h1 at b1 x1 R1
 have b2:=fun (F:CallF) (e:Env) (he:AB 2 e=.int .i64 b)=>HJ (F:=F) x1.wf he
 have y2:=(Hp.Ext.refl x1.wf).pushRow 0 [.int .i64 b]
 have R2:=Hp.Row.new x1.wf 0 [.int .i64 b]
 generalize h1.pushRow 0 [.int .i64 b]=h2 at b2 y2 R2
 have x2:=x1.trans y2
 obtain⟨_,_,_,l3,_⟩:=BC (R.ext W x2)
 obtain⟨h4,k4,x4⟩:=N2 (m:=m+1) (g:=92) (caps:=[pt h.next,pt h1.next]) (P:=Pp a b) x2.wf (K.ext W x2) hl fun h' x' k _=>jj x'.wf ((R1.ext x1.wf y2).ext x2.wf x') (R2.ext x2.wf x') k
 refine⟨h4,?_,x2.trans x4⟩
 rw[iX rfl]
 unfold d64
 simp only[iN,Nat.reduceAdd,sT,Nat.reduceLT,Nat.reduceEqDiff,reduceIte,b1,b2,Ay,Aq,AJ,AQ,Nat.zero_add,AP,AU,l3,DZ,Ah,A7,Bk,k4,lV0]
def Cg(a b c:Int)(ks:List Kt):Bool:=match ks.find? (Pp a b)with
 |some k=>decide (c≤k.c)
 |none=>false
theorem EE(P:Kt→Bool):∀ (l:List Kt) (i:Nat),(l.find? P=none∧Fa P i l= -1)∨∃ j k,l.find? P=some k∧l[j]? =some k∧Fa P i l=((i+j:Nat):Int)
 |[],i=>.inl ⟨rfl,rfl⟩
 |k::l,i=>by
  unfold Fa
  by_cases h:P k=true
  ·rw[if_pos h]
   exact .inr ⟨0,k,by rw[List.find?_cons_of_pos h],rfl,rfl⟩
  ·rw[if_neg h]
   rcases EE P l (i+1)with ⟨h1,h2⟩|⟨j,k',h1,h2,h4⟩
   ·exact .inl ⟨by rw[List.find?_cons_of_neg h];exact h1,h2⟩
   ·exact .inr ⟨j+1,k',by rw[List.find?_cons_of_neg h];exact h1,by rw[List.getElem?_cons_succ];exact h2,by rw[h4];congr 1;omega⟩
theorem Fw(W:h.Wf)(R:h.Row A.bs 0 (slL A.bd A.tb lv fv bad ov))(K:h.KS S lv ks)(hl:ks.length≤100000)(a b c:Int):
  ∃ h',call AF (m+4) 43 [pt A.bs,.int .i64 a,.int .i64 b,.int .i64 c] h=.ok (.bool (Cg a b c ks)) h'∧h.Ext h':=by
 obtain⟨h1,k1,x1⟩:=kF (m:=m) W R K hl a b
 refine⟨h1,?_,x1⟩
 unfold Cg
 rw[iG rfl]
 unfold d43
 rcases EE (Pp a b) ks 0 with ⟨e1,e2⟩|⟨j,k,e1,e2,e3⟩
 ·rw[e2]at k1
  have c1:iGe (-1) 0=false:=Ez (by omega)
  simp only[iN,Nat.reduceAdd,sT,Nat.reduceLT,Nat.reduceEqDiff,reduceIte,gD,cA0,k1,AO,AN,c1,lV0,e1]
 ·rw[e3,Nat.zero_add]at k1
  have c1:iGe (j:Int) 0=true:=Gg (by omega)
  obtain⟨b',_,ix,_,ld⟩:=(K.ext W x1).at e2
  have l2:=ld 2 (.int .i64 k.c) rfl
  obtain⟨_,_,_,l3,_⟩:=BC (R.ext W x1)
  have c2:iGe k.c c=decide (c≤k.c):=Np _ _
  simp only[iN,Nat.reduceAdd,sT,Nat.reduceLT,Nat.reduceEqDiff,reduceIte,gD,cA0,k1,AO,AN,c1,Ay,Aq,AJ,AQ,Nat.zero_add,Nat.add_zero,AP,AU,l3,A8,ix,l2,c2,lV0,e1]
end
end
end Go.Proofs.YtedbmmfebjfibaaGreat

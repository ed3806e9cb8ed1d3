/-
  Part ZP of what Lawap stands on: printed by program, names and spaces cut.
-/
import Derived.Test.YtedbmmfebjfibaaGreatZO
set_option linter.unusedVariables false
set_option linter.unusedSimpArgs false
namespace Go.Proofs.YtedbmmfebjfibaaGreat
noncomputable section
open Go
set_option maxRecDepth 100000
theorem V8{b n:Nat}:Ej ⟨b,0,none⟩ n=⟨b,n,none⟩:=by
 cases n with
 |zero=>rfl
 |succ m=>
  show(⟨b,0+(m+1),none⟩:Addr)=_
  rw[Nat.zero_add]
theorem RU(x:Kt):(AU x).length=6:=rfl
theorem az{ks:List Kt}(hu:∀ k∈ks,oneCell k.u=true):BO (flK ks)=true:=by
 induction ks with
 |nil=>rfl
 |cons k l ih=>
  refine Oa fun x hx=>?_
  obtain⟨y,hy,hxy⟩:=List.mem_flatMap.1 hx
  have huy:=hu y hy
  have hxy:x∈[Value.int .i64 y.a,.int .i64 y.b,.int .i64 y.c,.int .u8 (y.s:Int),y.u,.int .i64 (y.p:Int)]:=hxy
  simp only[List.mem_cons,List.mem_nil_iff,or_false]at hxy
  rcases hxy with rfl|rfl|rfl|rfl|rfl|rfl
  all_goals first|exact huy|rfl
section
variable {F:CallF}{e:Env}{h h':Hp}{S:Nat→Prop}{m k n bl:Nat}{v:Value}
theorem Ez{x:O}{d N i:Nat}{K:Nat→R}(hx:x e=.int .i64 (i:Int))(hi:i≤N):CY e (some x) d N K=K i:=by
 show(match Cu (x e)with|.ok n=>(bif Nat.ble n N then K n else .no)|.no=>.no)=_
 rw[hx,Cs]
 simp only
 rw[Af.2 hi];rfl
theorem HJ{b lo hi c:Nat}(hc:lo<c):Bc (some ⟨b,0,none⟩) 6 lo hi c h=.ok (.slice (some ⟨b,6 * lo,none⟩) (hi - lo) (c - lo)) h:=by
 unfold Bc
 simp only[Aa]
 have e1:Nat.beq c lo=false:=by
  cases hb:Nat.beq c lo
  ·rfl
  ·have:=Nat.eq_of_beq_eq_true hb;omega
 rw[e1]
 simp only
 cases lo with
 |zero=>rfl
 |succ i=>
  have e2:Nat.mul (i+1) 6=Nat.succ (6 * i+5):=by
   show(i+1) * 6=_
   omega
  rw[e2]
  have e3:Nat.add 0 (Nat.succ (6 * i+5))=6 * (i+1):=by
   show 0+(6 * i+5+1)=_
   omega
  simp only[e3]
  rfl
theorem S7{L:List Value}(R:h.Row bl 84 L):Eb 83 (some ⟨bl,0,none⟩) h=true:=by
 obtain⟨cc,hcc,_⟩:=R.rowOf
 unfold Eb
 simp only[hcc]
 rfl
theorem aC{lo hi c:Nat}{L:List Value}(R:h.Row bl 84 L)(hc:lo<c):Dn 83 6 (some ⟨bl,0,none⟩) false lo hi c h=.ok (.slice (some ⟨bl,6 * lo,none⟩) (hi - lo) (c - lo)) h:=by
 cases lo with
 |zero=>exact HJ hc
 |succ l=>
  show(bif Eb 83 (some ⟨bl,0,none⟩) h then Bc (some ⟨bl,0,none⟩) 6 (l+1) hi c h else .no)=_
  rw[S7 R]
  exact HJ hc
theorem Uq{P Q:List Kt}{x:Kt}(W:h.Wf)(R:h.Row bl 84 (flK (P++x::Q)))(h256:256≤bl)(hn:n=(P++x::Q).length)(hl:n≤100000)(hu:∀ k∈P++x::Q,oneCell k.u=true):
  ∃ h',call AD (m+1) 81 [.slice (some ⟨bl,0,none⟩) n n,.int .i64 (P.length:Int),.int .i64 ((P.length+1:Nat):Int)] h=.ok (.slice (some ⟨bl,0,none⟩) (n - 1) n) h'∧Fx (fun b=>b=bl) h h'∧h'.Row bl 84 (flK (P++Q)++AU K0):=by
 have hn':n=P.length+1+Q.length:=by rw[hn,List.length_append,List.length_cons];omega
 have lf:(flK (P++x::Q)).length=6 * n:=by rw[CF,hn]
 have cut1:∀ (F:CallF) (e:Env),AB 0 e=.slice (some ⟨bl,0,none⟩) n n→AB 1 e=.int .i64 (P.length:Int)→AB 2 e=.int .i64 ((P.length+1:Nat):Int)→AB 12 e=.int .i64 (n:Int)→∃ v,Db 83 6 (AB 0) (some (AB 1)) (some (AB 2)) (some (AB 12)) F e h=.ok v h:=fun F e e0 e1 e2 e3=>by
  show ∃ v,(match AB 0 e with|.slice a n c=>DB e n c (some (AB 1)) (some (AB 2)) (some (AB 12)) (fun l hh m=>Dn 83 6 a true l hh m h)|_=>.no)=.ok v h
  rw[e0]
  show ∃ v,CY e (some (AB 12)) n n (fun m=>CY e (some (AB 2)) n m fun hh=>CY e (some (AB 1)) 0 hh fun l=>Dn 83 6 (some ⟨bl,0,none⟩) true l hh m h)=.ok v h
  rw[Ez e3 (Nat.le_refl _),Ez e2 (by omega),Ez e1 (by omega)]
  exact⟨_,HJ (by omega)⟩
 have cut2:∀ (F:CallF) (e:Env) (h:Hp),AB 0 e=.slice (some ⟨bl,0,none⟩) n n→AB 1 e=.int .i64 (P.length:Int)→Db 83 6 (AB 0) none (some (AB 1)) none F e h=.ok (.slice (some ⟨bl,0,none⟩) P.length n) h:=fun F e h e0 e1=>by
  show(match AB 0 e with|.slice a n c=>DB e n c none (some (AB 1)) none (fun l hh m=>Dn 83 6 a false l hh m h)|_=>.no)=_
  rw[e0]
  show CY e (some (AB 1)) n n (fun hh=>Dn 83 6 (some ⟨bl,0,none⟩) false 0 hh n h)=_
  rw[Ez e1 (by omega)]
  exact HJ (lo:=0) (by omega)
 have xm:=(Hp.Ext.refl W).marked
 have Rm:h.marked.Row bl 84 (flK (P++x::Q)):=R.same rfl
 have Rq:h.marked.quiet.Row bl 84 (flK (P++x::Q)):=R.same rfl
 have hdrop:((flK (P++x::Q)).drop (6 * (P.length+1))).take (Q.length * 6)=flK Q:=by
  have e1:flK (P++x::Q)=flK (P++[x])++flK Q:=by rw[← Iq];simp
  have e2:6 * (P.length+1)=(flK (P++[x])).length:=by rw[CF,List.length_append];rfl
  rw[e1,e2,List.drop_left,List.take_of_length_le (by rw[CF];omega)]
 obtain⟨src,cut3,hsrc,hlen⟩:∃ src,(∀ (F:CallF) (e:Env),AB 0 e=.slice (some ⟨bl,0,none⟩) n n→AB 2 e=.int .i64 ((P.length+1:Nat):Int)→Db 83 6 (AB 0) (some (AB 2)) none none F e h.marked=.ok src h.marked)∧(∀ K:List Value→Go.Proofs.YtedbmmfebjfibaaGreat.R,BF h.marked.quiet 6 src Q.length K=K (flK Q))∧lenV src=.ok Q.length:=by
  have key:∀ (F:CallF) (e:Env),AB 0 e=.slice (some ⟨bl,0,none⟩) n n→AB 2 e=.int .i64 ((P.length+1:Nat):Int)→Db 83 6 (AB 0) (some (AB 2)) none none F e h.marked=Bc (some ⟨bl,0,none⟩) 6 (P.length+1) n n h.marked:=fun F e e0 e2=>by
   show(match AB 0 e with|.slice a n c=>DB e n c (some (AB 2)) none none (fun l hh m=>Dn 83 6 a false l hh m h.marked)|_=>.no)=_
   rw[e0]
   show CY e (some (AB 2)) 0 n (fun l=>Dn 83 6 (some ⟨bl,0,none⟩) false l n n h.marked)=_
   rw[Ez e2 (by omega)]
   show(bif Eb 83 (some ⟨bl,0,none⟩) h.marked then Bc (some ⟨bl,0,none⟩) 6 (P.length+1) n n h.marked else .no)=_
   rw[S7 Rm];rfl
  rcases Nat.eq_zero_or_pos Q.length with hq|hq
  ·obtain rfl:Q=[]:=List.eq_nil_of_length_eq_zero hq
   have hnp:n=P.length+1:=by rw[hn'];rfl
   refine⟨.slice (some ⟨bl,0,none⟩) 0 0,fun F e e0 e2=>?_,fun K=>?_,rfl⟩
   ·rw[key F e e0 e2,hnp]
    unfold Bc
    simp only[Aa,Nat.beq_refl]
    have:Nat.sub (P.length+1) (P.length+1)=0:=Nat.sub_self _
    rw[this]
   ·have:=Rq.srcE (es:=6) (off:=0) (n:=0) (sl:=0) (c:=0) (k:=K) (by omega)
    exact this
  ·refine⟨.slice (some ⟨bl,6 * (P.length+1),none⟩) Q.length Q.length,fun F e e0 e2=>?_,fun K=>?_,rfl⟩
   ·rw[key F e e0 e2,HJ (by omega),show n - (P.length+1)=Q.length by omega]
   ·have:=Rq.srcE (es:=6) (off:=6 * (P.length+1)) (n:=Q.length) (sl:=Q.length) (c:=Q.length) (k:=K) (by rw[lf];omega)
    rw[this,hdrop]
 have hoQ:BO (flK Q)=true:=az fun k hk=>hu k (List.mem_append_right _ (List.mem_cons_of_mem _ hk))
 have hoo:6 * P.length+(flK Q).length≤(flK (P++x::Q)).length:=by rw[lf,CF];omega
 have ap:DM 6 64 83 (.slice (some ⟨bl,0,none⟩) P.length n) src h.marked.quiet=.ok (.slice (some ⟨bl,0,none⟩) (n - 1) n) (h.marked.quiet.wr bl (6 * P.length) (flK Q)):=by
  unfold DM DN
  simp only[hlen,hsrc,Aa,Nat.add_eq]
  rw[Af.2 (show P.length+Q.length≤n by omega)]
  simp only
  have e2:Ej ⟨bl,0,none⟩ (Nat.mul P.length 6)=⟨bl,6 * P.length,none⟩:=by
   have:Nat.mul P.length 6=6 * P.length:=Nat.mul_comm _ _
   rw[this,V8]
  rw[e2,Rq.store xm.wf.quiet h256 hoo hoQ,show P.length+Q.length=n - 1 by omega]
 have wr:=Rq.wr_self xm.wf.quiet hoo
 have fx:=Fx.wr (S:=fun b=>b=bl) xm.wf.quiet Rq hoo rfl
 generalize h.marked.quiet.wr bl (6 * P.length) (flK Q)=q at ap wr fx
 obtain⟨Z,hZ,hov⟩:∃ Z:List Value,Z.length=6∧over (flK (P++x::Q)) (6 * P.length) (flK Q)=flK (P++Q)++Z:=by
  refine⟨(flK (x::Q)).drop (6 * Q.length),by rw[List.length_drop,CF,List.length_cons];omega,?_⟩
  unfold over
  have e1:flK (P++x::Q)=flK P++flK (x::Q):=Iq _ _
  have e2:6 * P.length=(flK P).length:=(CF P).symm
  have e3:(flK Q).length=6 * Q.length:=CF Q
  rw[e3,e1,e2,List.take_left,List.drop_length_add_append,Iq]
 rw[hov]at wr
 have q1:∀ (F:CallF) (e:Env),AB 22 e=.slice (some ⟨bl,0,none⟩) P.length n→AB 25 e=src→Am .free (Be 6 64 83 (AB 22) (AB 25)) F e h.marked=.ok (.slice (some ⟨bl,0,none⟩) (n - 1) n) (h.marked.back q):=fun F e e1 e2=>by
  refine BQ ?_
  rw[BE,e1,e2];exact ap
 have f1:Fx (fun b=>b=bl) h (h.marked.back q):=((fx.from (h:=h.marked) rfl rfl).same (h2:=h.marked.back q) rfl rfl).from (h:=h) rfl rfl
 have R1:(h.marked.back q).Row bl 84 (flK (P++Q)++Z):=wr.same rfl
 generalize h.marked.back q=h1 at q1 f1 R1
 have lPQ:(flK (P++Q)).length=6 * (n - 1):=by rw[CF,List.length_append];omega
 have cut4:∀ (F:CallF) (e:Env),AB 0 e=.slice (some ⟨bl,0,none⟩) (n - 1) n→AB 29 e=.int .i64 ((n - 1:Nat):Int)→AB 7 e=.int .i64 (n:Int)→Db 83 6 (AB 0) (some (AB 29)) (some (AB 7)) none F e h1=.ok (.slice (some ⟨bl,6 * (n - 1),none⟩) 1 1) h1:=fun F e e0 e1 e2=>by
  show(match AB 0 e with|.slice a n c=>DB e n c (some (AB 29)) (some (AB 7)) none (fun l hh m=>Dn 83 6 a false l hh m h1)|_=>.no)=_
  rw[e0]
  show CY e (some (AB 7)) (n - 1) n (fun hh=>CY e (some (AB 29)) 0 hh fun l=>Dn 83 6 (some ⟨bl,0,none⟩) false l hh n h1)=_
  rw[Ez e2 (Nat.le_refl _),Ez e1 (by omega),aC R1 (by omega),show n - (n - 1)=1 by omega]
 have hoo2:6 * (n - 1)+(AU K0).length≤(flK (P++Q)++Z).length:=by rw[List.length_append,lPQ,hZ];exact Nat.le_refl _
 have cl:∀ (F:CallF) (e:Env),AB 31 e=.slice (some ⟨bl,6 * (n - 1),none⟩) 1 1→MB FH.zero (AB 31) F e h1=.ok noRes (h1.wr bl (6 * (n - 1)) (AU K0)):=fun F e e1=>by
  show(match AB 31 e with|.slice none _ _=>DV h1|.slice (some a) n _=>(match n with| 0=>DV h1|Nat.succ k=>Cb a (BJ FH.zero (Nat.succ k)) h1 DV)|_=>.no)=_
  rw[e1]
  show Cb ⟨bl,6 * (n - 1),none⟩ (BJ FH.zero 1) h1 DV=_
  rw[UP,R1.store f1.wf h256 hoo2 rfl];rfl
 have wr2:=R1.wr_self f1.wf hoo2
 have fx2:=Fx.wr (S:=fun b=>b=bl) f1.wf R1 hoo2 rfl
 have hov2:over (flK (P++Q)++Z) (6 * (n - 1)) (AU K0)=flK (P++Q)++AU K0:=by
  unfold over
  rw[← lPQ,List.take_left,List.drop_length_add_append,RU,List.drop_of_length_le (by omega),List.append_nil]
 rw[hov2]at wr2
 generalize h1.wr bl (6 * (n - 1)) (AU K0)=h2 at cl wr2 fx2
 refine⟨h2,?_,f1.trans fx2,wr2⟩
 have c1:iEq (P.length:Int) ((P.length+1:Nat):Int)=false:=BW (by omega)
 rw[i6 rfl]
 unfold d81
 simp only[iN,Nat.reduceAdd,sT,Nat.reduceLT,Nat.reduceEqDiff,reduceIte,Ae,Dt]
 obtain⟨v,hv⟩:=cut1 (call AD m) (Env.set 12 (.int .i64 (n:Int)) (Env.set 6 (.slice none 0 0) (Env.set 2 (.int .i64 ((P.length+1:Nat):Int)) (Env.set 1 (.int .i64 (P.length:Int)) (Env.set 0 (.slice (some ⟨bl,0,none⟩) n n) e0))))) (by simp[AG]) (by simp[AG]) (by simp[AG]) (by simp[AG])
 rw[hv]
 simp only[sT,Nat.reduceLT,Nat.reduceEqDiff,reduceIte,AL,AK,c1,Ae,Dt,Ay,cut2,cut3,q1,cut4,cl,lV0]
end
end
noncomputable section
open Go
set_option maxRecDepth 100000
theorem Fx.xt{S:Nat→Prop}{h h':Hp}(x:Fx S h h')(hs:∀ b,S b→h.next≤b):h.Ext h':=⟨x.next,fun i hi=>x.get i hi fun s=>by have:=hs i s;omega,x.low _ (Nat.min_le_left _ _) (Nat.min_le_right _ _) fun b hb=>Nat.le_trans (Nat.min_le_right _ _) (hs b hb),x.wf⟩
theorem Fx.xtF{S:Nat→Prop}{h0 h h':Hp}(x0:h0.Ext h)(x:Fx S h h')(hs:∀ b,S b→h0.next≤b):h0.Ext h':=Fx.xt (S:=S) ((Fx.of x0).trans x) hs
theorem Xl(a b:List Nat):iv (a++b)=iv a++iv b:=by unfold iv ints;rw[List.map_append,List.map_append]
section
variable {F:CallF}{e:Env}{h h':Hp}{A:At}{T M:List Nat}{c0 bad m k p n bl:Nat}{arm:Int}{fr:List Nat}{v lv fv:Value}
theorem jJ{n z:Nat}(W:h.Wf){u:Value}{xs:List Nat}(V:h.Vals u (iv xs))(hl:xs.length≤1000):
  ∃ h1 w h2 b,call AD (n+1) 48 [u] h=.ok w h1∧h.Ext h1∧DM 1 8 3 w (.slice (some ⟨h1.next,0,none⟩) 1 1) (h1.pushRow 0 [.int .i64 (z:Int)])=.ok (.slice (some ⟨b,0,none⟩) (xs.length+1) (xs.length+1)) h2∧h.Ext h2∧h2.Row b 4 (iv (xs++[z]))∧h.next≤b:=by
 have ha:BO (iv xs)=true:=Gm .i64 _
 have fin:∀ (h1:Hp) (w:Value),h.Ext h1→(h1.Own h.next 3 w (iv xs)∨(xs=[]∧∃ b,w=.slice (some ⟨b,0,none⟩) 0 0∧h1.Row b 0 []))→∃ h2 b,DM 1 8 3 w (.slice (some ⟨h1.next,0,none⟩) 1 1) (h1.pushRow 0 [.int .i64 (z:Int)])=.ok (.slice (some ⟨b,0,none⟩) (xs.length+1) (xs.length+1)) h2∧h.Ext h2∧h2.Row b 4 (iv (xs++[z]))∧h.next≤b:=fun h1 w x1 o=>by
  have y2:=(Hp.Ext.refl x1.wf).pushRow 0 [Value.int .i64 (z:Int)]
  have Rw:=Hp.Row.new x1.wf 0 [Value.int .i64 (z:Int)]
  have hlt:h1.next<(h1.pushRow 0 [Value.int .i64 (z:Int)]).next:=Nat.lt_succ_self _
  generalize h1.pushRow 0 [Value.int .i64 (z:Int)]=g at y2 Rw hlt
  have x2:=x1.trans y2
  have Vz:g.Vals (.slice (some ⟨h1.next,0,none⟩) 1 1) [.int .i64 (z:Int)]:=.inr ⟨h1.next,0,1,0,_,rfl,Rw,Nat.le_refl _,rfl⟩
  rcases o with o|⟨rfl,b,rfl,r⟩
  ·obtain⟨h2,v',a1,a2,a3,a4,_⟩:=EQ (eb:=8) (en:=3) (k:=h.next) x2 (Nat.le_refl _) (by have:=x1.next;omega) (o.ext x1.wf y2) Vz (Nat.one_pos) rfl (by rw[Dr];show(xs.length+1+1) * 9≤_;omega)
   rcases a3 with ⟨_,h2'⟩|⟨b,h1',h2',h3',h4'⟩
   ·have:=congrArg List.length h2'
    simp at this
   ·have e1:(iv xs++[Value.int .i64 (z:Int)]).length=xs.length+1:=by rw[List.length_append,Dr];rfl
    rw[e1]at h1'
    subst h1'
    exact⟨h2,b,a1,a2,by rw[Xl];exact h2',h3'⟩
  ·have hs:∀ K:List Value→Go.Proofs.YtedbmmfebjfibaaGreat.R,BF g 1 (.slice (some ⟨h1.next,0,none⟩) 1 1) 1 K=K [.int .i64 (z:Int)]:=fun K=>Rw.srcE (es:=1) (off:=0) (n:=1) (Nat.le_refl _)
   obtain⟨h2,a1,a2,a3,a4,_⟩:=EI (eb:=8) (en:=3) x2 (r.ext x1.wf y2) hs rfl rfl (by omega) rfl (by omega)
   exact⟨h2,g.next,a1,a2,a3,by have:=x2.next;omega⟩
 rcases V with ⟨rfl,hx⟩|⟨b,off,c,el,L,h1,h2,h3,h4⟩
 ·have hx0:xs=[]:=by
   have:=congrArg List.length hx
   rw[Dr]at this
   exact List.eq_nil_of_length_eq_zero this
  have ne:∀ e:Env,AB 0 e=.slice none 0 0→oEq Se.k false (AB 0) (kV (.slice none 0 0)) (call AD n) e h=.ok (.bool true) h:=fun e he=>Iz (t:=0) UK he
  have k1:call AD (n+1) 48 [.slice none 0 0] h=.ok nilS h:=by
   rw[Ja rfl]
   unfold d48
   simp only[iN,Nat.reduceAdd,sT,Nat.reduceLT,Nat.reduceEqDiff,reduceIte,ne,lV0]
  obtain⟨h2,b,q1,q2,q3,q4⟩:=fin h nilS (.refl W) (.inl (.inl ⟨rfl,hx⟩))
  exact⟨h,nilS,h2,b,k1,.refl W,q1,q2,q3,q4⟩
 ·have V:h.Vals u (iv xs):=.inr ⟨b,off,c,el,L,h1,h2,h3,h4⟩
  have x1:=(Hp.Ext.refl W).pushRow 0 []
  have R:=Hp.Row.new W 0 []
  have es:=fun (e:Env) (t:List Value)=>Jg (F:=call AD n) (e:=e) (t:=t) W
  have n1:(h.pushRow 0 []).next=h.next+1:=rfl
  generalize h.pushRow 0 []=g at x1 R es n1
  have ne:∀ e:Env,AB 0 e=u→oEq Se.k false (AB 0) (kV (.slice none 0 0)) (call AD n) e h=.ok (.bool false) h:=fun e he=>Iy (t:=0) UK (he.trans h1)
  have V1:=V.ext W x1
  have big:=W.big
  rcases Nat.eq_zero_or_pos xs.length with hz|hz
  ·obtain rfl:xs=[]:=List.eq_nil_of_length_eq_zero hz
   have ap:DM 1 8 3 (.slice (some ⟨h.next,0,none⟩) 0 0) u g=.ok (.slice (some ⟨h.next,0,none⟩) 0 0) (g.wr h.next 0 []):=HB x1.wf big R (fun k=>V1.src rfl k) V1.lenV
   have R2:=R.wr_self x1.wf (off:=0) (vs:=[]) (Nat.le_refl _)
   have x2:=R.wr_ext x1 (Nat.le_refl _) (off:=0) (vs:=[]) (Nat.le_refl _)
   have k1:call AD (n+1) 48 [u] h=.ok (.slice (some ⟨h.next,0,none⟩) 0 0) (g.wr h.next 0 []):=by
    rw[Ja rfl]
    unfold d48
    simp only[iN,Nat.reduceAdd,sT,Nat.reduceLT,Nat.reduceEqDiff,reduceIte,ne,es,BE,ap,lV0]
   obtain⟨h2,b,q1,q2,q3,q4⟩:=fin _ (.slice (some ⟨h.next,0,none⟩) 0 0) x2 (.inr ⟨rfl,h.next,rfl,R2⟩)
   exact⟨_,_,h2,b,k1,x2,q1,q2,q3,q4⟩
  ·have hlv:=V1.lenV
   rw[Dr]at hlv
   obtain⟨h2,a1,a2,a3,a4,a5⟩:=EI (eb:=8) (en:=3) (n:=xs.length) x1 R (es:=1) (fun k=>by have:=V1.src rfl k;rwa [Dr]at this) hlv (by rw[Dr];omega) hz ha (by omega)
   have k1:call AD (n+1) 48 [u] h=.ok (.slice (some ⟨g.next,0,none⟩) xs.length xs.length) h2:=by
    rw[Ja rfl]
    unfold d48
    simp only[iN,Nat.reduceAdd,sT,Nat.reduceLT,Nat.reduceEqDiff,reduceIte,ne,es,BE,a1,lV0]
   obtain⟨h3,b,q1,q2,q3,q4⟩:=fin h2 (.slice (some ⟨g.next,0,none⟩) xs.length xs.length) a2 (.inl (.inr ⟨g.next,by rw[Dr],a3,by omega,by omega⟩))
   exact⟨h2,_,h3,b,k1,a2,q1,q2,q3,q4⟩
theorem TJ{P Q:List Kt}{x:Kt}(W:h.Wf)(s:Sl h A T M c0 arm (P++x::Q) fr lv fv bad false)(hkl:(P++x::Q).length≤100)(hfl:fr.length≤11)(hp3:3 * x.p+3≤A.n):
  ∃ h' lv' fv',call AD (m+7) 52 [pt A.bs,.int .i64 (P.length:Int)] h=.ok (.int .i64 (x.p:Int)) h'∧Fx (fun b=>b=A.bs) h h'∧Sl h' A T M c0 arm (P++Q) (EB (fr++[x.p])) lv' fv' bad false∧∀ b,blkV fv' b→h.next≤b:=by
 have hD:=s.D_lt W
 have hu:∀ k∈P++x::Q,oneCell k.u=true:=fun k hk=>(s.ko k hk).1.vs.one.2.1
 obtain⟨_,_,_,l3,_⟩:=A5 s.row
 obtain⟨b0,_,ix,_,lde⟩:=s.ls.at (i:=P.length) (k:=x) Fd
 have lp:=lde 5 (.int .i64 (x.p:Int)) rfl
 obtain⟨h1,w,k1,x1,ko⟩:=Sv (m:=m+5) W s.ls hu (by omega)
 obtain⟨bl,hw,Rb,hbl,h256⟩:∃ bl,w=.slice (some ⟨bl,0,none⟩) (P++x::Q).length (P++x::Q).length∧h1.Row bl 84 (flK (P++x::Q))∧h.next≤bl∧256≤bl:=by
  rcases ko with (⟨_,h2⟩|h2)|⟨h2,_⟩
  ·have:=congrArg List.length h2
   simp at this
  ·exact h2
  ·have:=congrArg List.length h2
   simp at this
 subst hw
 obtain⟨h2,k2,f2,R2⟩:=Uq (m:=m+5) x1.wf Rb h256 rfl (by omega) hu
 have x2:h.Ext h2:=Fx.xtF x1 f2 fun b hb=>by rw[hb];exact hbl
 have s2:=s.ext W x2
 have nD:∀ b,h.next≤b→¬ A.D b:=fun b hb hd=>by have:=hD b hd;omega
 have nbs:∀ b,¬ A.D b→b≠A.bs:=fun b hb h=>hb (.inl h)
 have lPQ:(P++x::Q).length=(P++Q).length+1:=by simp only[List.length_append,List.length_cons];omega
 generalize hlv':(Value.slice (some ⟨bl,0,none⟩) ((P++x::Q).length - 1) (P++x::Q).length)=lv' at k2
 obtain⟨h3,st3,row3,n3,f3,_⟩:=HX (v:=lv') x2.wf s2.row (off:=3) (show 3<7 by omega) s.ne.2.2.2.2 (by rw[← hlv'];rfl) (by rw[← hlv'];rfl)
 have row3:h3.Row A.bs 0 (slL A.bd A.tb lv' fv bad false):=row3
 have s3:Sl h3 A T M c0 arm (P++Q) fr lv' fv bad false:=s2.bsx x2.wf f3 row3 (by
   rw[← hlv']
   exact(Of (n:=(P++x::Q).length - 1) (c:=(P++x::Q).length) (f3.row x2.wf R2 (nbs _ (nD _ hbl))) (by omega) (by omega)).mono fun b hb=>by rw[show b=bl from hb];exact nD _ hbl)
  (fun k hk=>by
   have hk':k∈P++x::Q:=by
    rcases List.mem_append.1 hk with h1|h1
    ·exact List.mem_append_left _ h1
    ·exact List.mem_append_right _ (List.mem_cons_of_mem _ h1)
   exact⟨(s2.ko k hk').1.keep fun b el L hb _ r=>f3.row x2.wf r (nbs b hb),(s2.ko k hk').2⟩)
  (s2.fs.keep fun b el L hb r=>f3.row x2.wf r (nbs b hb)) ⟨by have:=s.le.1;omega,s.le.2⟩
 obtain⟨_,_,_,_,l4,_⟩:=A5 s3.row
 obtain⟨h4,w4,h5,b5,k4,x4,a5,x5,R5,hb5⟩:=jJ (n:=m+5) (z:=x.p) f3.wf (xs:=fr) s3.fs.vals (by omega)
 have bs:=fun (F:CallF) (e:Env) (he:AB 5 e=.int .i64 (x.p:Int))=>EJ (F:=F) x4.wf he
 have s5:=s3.ext f3.wf x5
 generalize hfv':(Value.slice (some ⟨b5,0,none⟩) (fr.length+1) (fr.length+1))=fv' at a5
 obtain⟨h6,st6,row6,n6,f6,_⟩:=HX (v:=fv') x5.wf s5.row (off:=4) (show 4<7 by omega) s.ne.2.2.2.2 (by rw[← hfv'];rfl) (by rw[← hfv'];rfl)
 have row6:h6.Row A.bs 0 (slL A.bd A.tb lv' fv' bad false):=row6
 have hb5':h.next≤b5:=by have:=x2.next;have:=f3.next;omega
 have nb5:=nD _ hb5'
 have R6:=f6.row x5.wf R5 (nbs _ nb5)
 have h256':256≤b5:=by have:=W.big;omega
 have lfa:(iv (fr++[x.p])).length=fr.length+1:=by rw[Dr,List.length_append];rfl
 have hfree:∀ q∈fr++[x.p],3 * q+3≤A.n:=fun q hq=>by
  rcases List.mem_append.1 hq with h1|h1
  ·exact s.le.2.2.2 q h1
  ·rw[List.mem_singleton.1 h1];exact hp3
 have s6:Sl h6 A T M c0 arm (P++Q) (fr++[x.p]) lv' fv' bad false:=s5.bsx x5.wf f6 row6 (s5.ls.keep fun b el L hb r=>f6.row x5.wf r (nbs b hb)) (fun k hk=>⟨(s5.ko k hk).1.keep fun b el L hb _ r=>f6.row x5.wf r (nbs b hb),(s5.ko k hk).2⟩)
  (by
   rw[← hfv']
   refine .inr ⟨b5,4,?_,R6,.inl rfl,nb5⟩
   show _=Value.slice _ (iv (fr++[x.p])).length (iv (fr++[x.p])).length
   rw[lfa]) ⟨s5.le.1,by rw[List.length_append];show fr.length+1≤1000;omega,s5.le.2.2.1,hfree⟩
 obtain⟨_,_,_,_,l46,_⟩:=A5 s6.row
 obtain⟨h7,k7,f7,R7⟩:=Y6 (m:=m) (Z:=[]) (n:=fr.length+1) (c:=fr.length+1) f6.wf (by rw[List.append_nil];exact R6) h256' (by rw[List.length_append];rfl) (by omega)
 rw[List.append_nil]at R7
 rw[hfv']at k7
 have pm:=GY (fr++[x.p])
 have kp:∀ b el L,b≠b5→h6.Row b el L→h7.Row b el L:=fun b el L hb r=>f7.row f6.wf r hb
 have nbb:∀ b el L,(el=0∨el=6∨el=84)→h6.Row b el L→b≠b5:=fun b el L he r=>Ds r R6 (by omega)
 have s7:Sl h7 A T M c0 arm (P++Q) (EB (fr++[x.p])) lv' fv' bad false:=by
  refine⟨kp _ _ _ (nbb _ _ _ (.inl rfl) s6.row) s6.row,s6.dk.fr f6.wf f7 (nbb _ _ _ (.inl rfl) s6.dk.disk) (nbb _ _ _ (.inl rfl) s6.dk.med) (fun h=>(JD R6 s6.dk.map) h.symm),kp _ _ _ (nbb _ _ _ (.inl rfl) s6.tab) s6.tab,s.tok,?_,fun y hy=>⟨(s6.ko y hy).1.keep fun b el L hb he r=>kp b el L (nbb b el L (by omega) r) r,(s6.ko y hy).2⟩,?_,s.ne,?_⟩
  ·rcases s6.ls with h1|⟨b,c,el,L,q1,q2,q3,q4,q5,q6,q7⟩
   ·exact .inl h1
   ·exact .inr ⟨b,c,el,L,q1,q2,kp _ _ _ (nbb b el _ (by omega) q3) q3,q4,q5,q6,q7⟩
  ·rw[← hfv']
   refine .inr ⟨b5,4,?_,R7,.inl rfl,nb5⟩
   show _=Value.slice _ (iv (EB (fr++[x.p]))).length (iv (EB (fr++[x.p]))).length
   rw[Dr,pm.length_eq,List.length_append];rfl
  ·exact⟨s6.le.1,by rw[pm.length_eq];exact s6.le.2.1,s6.le.2.2.1,fun q hq=>hfree q (pm.mem_iff.1 hq)⟩
 have fx:Fx (fun b=>b=A.bs) h h7:=by
  have e1:Fx (fun b=>b=A.bs) h h2:=.of x2
  have e2:=((e1.trans f3).trans (.of x5)).trans f6
  exact e2.fresh f7 hb5'
 refine⟨h7,lv',fv',?_,fx,s7,fun b hb=>by
  obtain⟨off,n,c,e1⟩:=hb
  rw[← hfv']at e1
  injection e1 with e1 _ _
  injection e1 with e1
  injection e1 with e1 _ _
  omega⟩
 have a1:=CQ (i:=P.length) (h:=h1) (by have:=lPQ;simp only[List.length_append]at hkl;omega)
 have k1':call AD (m+6) 49 [lv] h=.ok (.slice (some ⟨bl,0,none⟩) (P++x::Q).length (P++x::Q).length) h1:=k1
 have k2':call AD (m+6) 81 [.slice (some ⟨bl,0,none⟩) (P++x::Q).length (P++x::Q).length,.int .i64 (P.length:Int),.int .i64 ((P.length+1:Nat):Int)] h1=.ok lv' h2:=k2
 have k4':call AD (m+6) 48 [fv] h3=.ok w4 h4:=k4
 have k7':call AD (m+6) 82 [fv'] h6=.ok noRes h7:=k7
 rw[iT rfl]
 unfold d52
 simp only[iN,Nat.reduceAdd,sT,Nat.reduceLT,Nat.reduceEqDiff,reduceIte,Au,Aj,AJ,AN,Nat.zero_add,AM,AP,l3,Az,ix,lp,cA0,k1',BK,a1,k2',AX,st3,l4,k4',bs,BE,a5,st6,l46,k7',lV0]
theorem Ye{P Q:List Kt}{x:Kt}(W:h.Wf)(s:Sl h A T M c0 arm (P++x::Q) fr lv fv bad false)(hkl:(P++x::Q).length≤100)(hfl:fr.length≤11)(hp3:3 * x.p+3≤A.n)(ha:Bk arm (k+2)):
  ∃ h' c1 arm' lv' fv',call AD (m+8) 68 [pt A.bs,.int .i64 (P.length:Int)] h=.ok (.int .i64 0) h'∧Fx A.D h h'∧Sl h' A T (GC M [x.p]) c1 arm' (P++Q) (EB (fr++[x.p])) lv' fv' bad false∧Bk arm' k:=by
 obtain⟨_,_,_,l3,_⟩:=A5 s.row
 obtain⟨b0,_,ix,_,lde⟩:=s.ls.at (i:=P.length) (k:=x) Fd
 have lp:=lde 5 (.int .i64 (x.p:Int)) rfl
 have bs:=fun (F:CallF) (e:Env) (he:AB 14 e=.int .i64 (x.p:Int))=>EJ (F:=F) W he
 have y1:=(Hp.Ext.refl W).pushRow 0 [Value.int .i64 (x.p:Int)]
 have Rw:=Hp.Row.new W 0 [Value.int .i64 (x.p:Int)]
 generalize h.pushRow 0 [Value.int .i64 (x.p:Int)]=h1 at bs y1 Rw
 have s1:=s.ext W y1
 obtain⟨h2,c1,arm1,k2,f2,s2,a2⟩:=J5 (m:=m+1) (k:=k) y1.wf s1 (ps:=[x.p]) (pv:=.slice (some ⟨h.next,0,none⟩) 1 1) (.inr ⟨h.next,0,1,0,_,rfl,Rw,Nat.le_refl _,rfl⟩) (fun p hp=>by rw[List.mem_singleton.1 hp];exact hp3) (by simp) (by show 1≤50;omega) (ha.le (by show 1+1+k≤k+2;omega))
 obtain⟨h3,lv',fv',k3,f3,s3,_⟩:=TJ (m:=m) f2.wf s2 hkl hfl hp3
 have c00:iNe 0 0=false:=Cm rfl
 have k2':call AD (m+7) 53 [pt A.bs,.slice (some ⟨h.next,0,none⟩) 1 1] h1=.ok (.int .i64 0) h2:=k2
 refine⟨h3,c1,arm1,lv',fv',?_,((Fx.of y1).trans (f2.mono fun b hb=>.inr hb)).trans (f3.mono fun b hb=>.inl hb),s3,a2⟩
 rw[ij rfl]
 unfold d68
 simp only[iN,Nat.reduceAdd,sT,Nat.reduceLT,Nat.reduceEqDiff,reduceIte,Au,Aj,AJ,AN,Nat.zero_add,AM,AP,l3,Az,ix,lp,bs,cA0,k2',AL,AK,c00,k3,lV0]
end
end
noncomputable section
open Go
set_option maxRecDepth 100000
def Hu(ks:List Kt)(a b c:Int):Option Int:=match ks.find? (Bg a b c)with
 |some k=>if k.s=2 then some 0 else if Bx a b c ks=true then some 61 else none
 |none=>if Bx a b c ks=true then some 61 else some 60
def elB(a b c:Int)(k:Kt):Bool:=decide (k.a=a) && decide (k.b=b) && decide (k.c<c)
def frE(fr:List Nat)(out:List Kt):List Nat:=out.foldl (fun f x=>EB (f++[x.p])) fr
theorem PZ(fr:List Nat)(out:List Kt)(x:Kt):frE fr (out++[x])=EB (frE fr out++[x.p]):=by unfold frE;rw[List.foldl_append];rfl
theorem It:∀ (out:List Kt) (fr:List Nat),(frE fr out).Perm (fr++out.map (·.p))
 |[],fr=>by rw[List.map_nil,List.append_nil];exact .refl _
 |x::out,fr=>by
  show(frE (EB (fr++[x.p])) out).Perm _
  have:=It out (EB (fr++[x.p]))
  refine this.trans (((GY _).append_right _).trans ?_)
  rw[List.append_assoc];exact .refl _
theorem TB(fr:List Nat)(out:List Kt):(frE fr out).length=fr.length+out.length:=by rw[(It out fr).length_eq,List.length_append,List.length_map]
theorem Lg{α:Type}(P:α→Bool)(l:List α)(x:α):(l++[x]).filter P=if P x=true then l.filter P++[x]else l.filter P:=by
 rw[List.filter_append]
 cases h:P x
 ·rw[if_neg (by decide),List.filter_cons_of_neg (by rw[h];decide),List.filter_nil,List.append_nil]
 ·rw[if_pos rfl,List.filter_cons_of_pos h,List.filter_nil]
theorem Fx.drop{S:Nat→Prop}{h h':Hp}(x:Fx (fun b=>S b∨h.next≤b) h h'):Fx S h h':=⟨x.next,fun i hi hs=>x.get i hi (fun h1=>h1.elim hs (fun h2=>by omega)),x.wf,fun L q1 q2 q3=>x.low L q1 q2 fun b hb=>hb.elim (q3 b) (fun h2=>by omega)⟩
theorem Hp.WI.blk{h:Hp}{S:Nat→Prop}{v:Value}{xs:List Value}(o:h.WI S v xs){b:Nat}(hb:blkV v b):∃ el L,h.Row b el L:=by
 obtain⟨_,_,_,e⟩:=hb
 rcases o with ⟨h1,_⟩|⟨b',el,h1,h2,_⟩
 ·rw[h1]at e;cases e
 ·rw[h1]at e
  injection e with e _ _
  injection e with e
  injection e with e _ _
  exact⟨el,_,e ▸ h2⟩
section
variable {F:CallF}{e:Env}{h h':Hp}{S:Nat→Prop}{A:At}{T M:List Nat}{c0 bad m k p n bl:Nat}{arm:Int}{ks:List Kt}{fr:List Nat}{v lv fv:Value}{ov:Bool}
theorem Hp.Own.fx{en:Nat}{xs:List Value}(o:h.Own k en v xs)(W:h.Wf)(x:Fx S h h')(hs:∀ b,k≤b→¬ S b):h'.Own k en v xs:=by
 rcases o with h1|⟨b,h1,h2,h3,h4⟩
 ·exact .inl h1
 ·exact .inr ⟨b,h1,x.row W h2 (hs b h3),h3,h4⟩
theorem Hp.Own.blkL{en:Nat}{xs:List Value}(o:h.Own k en v xs)(W:h.Wf){b:Nat}(hb:blkV v b):b<h.next:=by
 obtain⟨_,_,_,e⟩:=hb
 rcases o with ⟨h1,_⟩|⟨b',h1,h2,_⟩
 ·rw[h1]at e;cases e
 ·rw[h1]at e
  injection e with e _ _
  injection e with e
  injection e with e _ _
  exact e ▸ h2.lt W
theorem Sl.app{w:Value}{xs:List Value}(s:Sl h A T M c0 arm ks fr lv fv bad ov)(o:h.Own k 3 w xs)(hr:∀ b el L,¬ blkV w b→h.Row b el L→h'.Row b el L)(hm:h'.bl.get A.bc=h.bl.get A.bc)(hf:∀ b,blkV fv b→¬ blkV w b):Sl h' A T M c0 arm ks fr lv fv bad ov:=by
 have nb:∀ b el L,(el=0∨el=6∨el=84)→h.Row b el L→¬ blkV w b:=fun b el L he r hb=>by
  obtain⟨_,_,_,e⟩:=hb
  rcases o with ⟨h1,_⟩|⟨b',h1,h2,_⟩
  ·rw[h1]at e;cases e
  ·rw[h1]at e
   injection e with e _ _
   injection e with e
   injection e with e _ _
   exact Ds r h2 (by omega) e.symm
 refine⟨hr _ _ _ (nb _ _ _ (.inl rfl) s.row) s.row,⟨hr _ _ _ (nb _ _ _ (.inl rfl) s.dk.disk) s.dk.disk,hr _ _ _ (nb _ _ _ (.inl rfl) s.dk.med) s.dk.med,s.dk.len,s.dk.byt,hm.trans s.dk.map,s.dk.big,s.dk.n1⟩,hr _ _ _ (nb _ _ _ (.inl rfl) s.tab) s.tab,s.tok,?_,fun y hy=>⟨(s.ko y hy).1.keep fun b el L hb he r=>hr b el L (nb b el L (by omega) r) r,(s.ko y hy).2⟩,?_,s.ne,s.le⟩
 ·rcases s.ls with h1|⟨b,c,el,L,q1,q2,q3,q4,q5,q6,q7⟩
  ·exact .inl h1
  ·exact .inr ⟨b,c,el,L,q1,q2,hr _ _ _ (nb b el _ (by omega) q3) q3,q4,q5,q6,q7⟩
 ·rcases s.fs with h1|⟨b,el,h1,h2,h3,h4⟩
  ·exact .inl h1
  ·exact .inr ⟨b,el,h1,hr _ _ _ (hf b ⟨_,_,_,h1⟩) h2,h3,h4⟩
theorem dD(W:h.Wf){z:Nat}{xs:List Nat}(hk:k≤h.next)(o:h.Own k 3 v (iv xs))(hl:xs.length≤1000):
  ∃ h2 v',DM 1 8 3 v (.slice (some ⟨h.next,0,none⟩) 1 1) (h.pushRow 0 [.int .i64 (z:Int)])=.ok v' h2∧Fx (fun b=>k≤b) h h2∧h2.Own k 3 v' (iv (xs++[z]))∧∀ b el L,¬ blkV v b→h.Row b el L→h2.Row b el L∧¬ blkV v' b:=by
 have y2:=(Hp.Ext.refl W).pushRow 0 [Value.int .i64 (z:Int)]
 have Rw:=Hp.Row.new W 0 [Value.int .i64 (z:Int)]
 have n2:(h.pushRow 0 [Value.int .i64 (z:Int)]).next=h.next+1:=rfl
 generalize h.pushRow 0 [Value.int .i64 (z:Int)]=g at y2 Rw n2
 have Vz:g.Vals (.slice (some ⟨h.next,0,none⟩) 1 1) [.int .i64 (z:Int)]:=.inr ⟨h.next,0,1,0,_,rfl,Rw,Nat.le_refl _,rfl⟩
 have x0:Hp.Ext {g with next:=k,low:=min g.low k} g:=⟨by show k≤g.next;omega,fun _ _=>rfl,by show min (min g.low k) k≤g.low;omega,y2.wf⟩
 obtain⟨h2,v',a1,a2,a3,a4,a5⟩:=EQ (eb:=8) (en:=3) (k:=k) x0 (Nat.le_refl _) (by omega) (o.ext W y2) Vz Nat.one_pos rfl (by rw[Dr];show(xs.length+1+1) * 9≤_;omega)
 have f2:Fx (fun b=>k≤b) g h2:=⟨by omega,fun i hi hs=>a2.get i (by show i<k;omega),a2.wf,fun L q1 q2 q3=>Nat.le_trans (Nat.le_min.2 ⟨Nat.le_min.2 ⟨q1,q3 k (Nat.le_refl _)⟩,q3 k (Nat.le_refl _)⟩) a2.low⟩
 refine⟨h2,v',a1,(Fx.of y2).trans f2,by rw[Xl];exact a3,fun b el L hb r=>?_⟩
 exact a5 b el L hb (r.ext W y2)
theorem Wp{a b c:Int}(W:h.Wf)(s:Sl h A T M c0 arm ks fr lv fv bad false)(hkl:fr.length+ks.length≤11)(hp3:∀ k∈ks,3 * k.p+3≤A.n)(s0:AB 0 e=pt A.bs)(s1:AB 1 e=.int .i64 a)(s2:AB 2 e=.int .i64 b)(s3:AB 3 e=.int .i64 c)(s15:AB 15 e=nilS)(s16:AB 16 e=.int .i64 ((0:Nat):Int)):
  ∃ e' h' lv' fv' w,Ax cmL (call AD (m+7)) e h=.exit 1 e' h'∧Fx (fun b=>b=A.bs) h h'∧AB 0 e'=pt A.bs∧AB 15 e'=w∧h'.Own h.next 3 w (iv ((ks.filter (elB a b c)).map (·.p)))∧
   Sl h' A T M c0 arm (ks.filter fun k=> !elB a b c k) (frE fr (ks.filter (elB a b c))) lv' fv' bad false:=by
 have hD:=s.D_lt W
 have hbs:=hD A.bs (.inl rfl)
 refine BZ (I:=fun i e' h'=>∃ lv' fv' w,Fx (fun b=>b=A.bs∨h.next≤b) h h'∧AB 0 e'=pt A.bs∧AB 1 e'=.int .i64 a∧AB 2 e'=.int .i64 b∧AB 3 e'=.int .i64 c∧AB 15 e'=w∧AB 16 e'=.int .i64 ((((ks.take i).filter fun k=> !elB a b c k).length:Nat):Int)∧i≤ks.length∧h'.Own h.next 3 w (iv (((ks.take i).filter (elB a b c)).map (·.p)))∧
   Sl h' A T M c0 arm ((ks.take i).filter (fun k=> !elB a b c k)++ks.drop i) (frE fr ((ks.take i).filter (elB a b c))) lv' fv' bad false∧∀ b,blkV fv' b→¬ blkV w b)
  (Q:=fun x=>∃ e' h' lv' fv' w,x=.exit 1 e' h'∧Fx (fun b=>b=A.bs) h h'∧AB 0 e'=pt A.bs∧AB 15 e'=w∧h'.Own h.next 3 w (iv ((ks.filter (elB a b c)).map (·.p)))∧
   Sl h' A T M c0 arm (ks.filter fun k=> !elB a b c k) (frE fr (ks.filter (elB a b c))) lv' fv' bad false) ks.length (by omega) (fun i e' h' ⟨lv',fv',w,fx,t0,t1,t2,t3,t15,t16,hi,ow,sl,hf⟩=>?_) ⟨lv,fv,nilS,.refl W,s0,s1,s2,s3,s15,s16,Nat.zero_le _,.inl ⟨rfl,rfl⟩,s,fun b _ h=>Ft h⟩
 have W':=fx.wf
 obtain⟨_,_,_,l3,_⟩:=A5 sl.row
 have ln:=sl.ls.len h'
 have hfl:=TB fr ((ks.take i).filter (elB a b c))
 have hf1:((ks.take i).filter (elB a b c)).length≤(ks.take i).length:=List.length_filter_le _ _
 have hf2:((ks.take i).filter (fun k=> !elB a b c k)).length≤(ks.take i).length:=List.length_filter_le _ _
 rw[List.length_take,Nat.min_eq_left hi]at hf1 hf2
 by_cases hlt:i<ks.length
 ·left
  obtain⟨x,hx⟩:∃ x,ks[i]? =some x:=⟨_,List.getElem?_eq_getElem hlt⟩
  have hxm:=List.mem_of_getElem? hx
  have htk:ks.take (i+1)=ks.take i++[x]:=by rw[List.take_add_one,hx];rfl
  have hdr:ks.drop i=x::ks.drop (i+1):=by
   rw[List.drop_eq_getElem_cons hlt]
   rw[List.getElem?_eq_getElem hlt]at hx
   injection hx with hx
   rw[hx]
  have hfN:=Lg (fun k=> !elB a b c k) (ks.take i) x
  have hfY:=Lg (elB a b c) (ks.take i) x
  rw[← htk]at hfN hfY
  generalize hP:(ks.take i).filter (fun k=> !elB a b c k)=P at *
  generalize hO:(ks.take i).filter (elB a b c)=O at *
  rw[hdr]at sl ln
  have hPl:(P++x::ks.drop (i+1)).length=P.length+1+(ks.length - (i+1)):=by rw[List.length_append,List.length_cons,List.length_drop];omega
  have c1:iLt (P.length:Int) ((P++x::ks.drop (i+1)).length:Int)=true:=E8 (by omega)
  obtain⟨b',_,ix,ld,_⟩:=sl.ls.at (i:=P.length) (k:=x) Fd
  have al:=fun (F:CallF) (e:Env)=>Bd (F:=F) (e:=e) W' (n:=6) (t:=DL)
  have Ra:=Hp.Row.alloc W' Gc (show(AU K0).length=6 from rfl)
  have y1:h'.Ext (h'.push (.cells DL 6 0)):=(Hp.Ext.refl W').push _
  generalize h'.push (.cells DL 6 0)=h1 at al Ra y1
  have hu:=(sl.ko x (List.mem_append_right _ List.mem_cons_self)).1.vs.one.2.1
  obtain⟨st,_,y2,R5,n2⟩:=Kg W' y1 (Nat.le_refl _) Ra rfl (k:=x) hu
  generalize h1.wr h'.next 0 (AU x)=h2 at st y2 R5 n2
  obtain⟨m0,m1,m2,_⟩:=Bn R5
  have sl2:=sl.ext W' y2
  cases hel:elB a b c x with
  |false=>
   have a3:=CQ (i:=P.length) (h:=h2) (by omega)
   rw[if_pos (by rw[hel];rfl)]at hfN
   rw[if_neg (by rw[hel];decide)]at hfY
   have hrun:∃ e2,cmL (call AD (m+7)) e' h'=.norm e2 h2∧AB 0 e2=pt A.bs∧AB 1 e2=.int .i64 a∧AB 2 e2=.int .i64 b∧AB 3 e2=.int .i64 c∧AB 15 e2=w∧AB 16 e2=.int .i64 ((P.length+1:Nat):Int):=by
    unfold cmL
    by_cases h1:x.a=a
    ·have d1:iEq x.a a=true:=CN h1
     by_cases h2:x.b=b
     ·have d2:iEq x.b b=true:=CN h2
      have d3:iLt x.c c=false:=E5 (fun h3=>by
       unfold elB at hel
       rw[decide_eq_true h1,decide_eq_true h2,decide_eq_true h3]at hel
       cases hel)
      simp only[sT,Nat.reduceLT,Nat.reduceEqDiff,reduceIte,gD,Au,t0,Aj,AJ,AN,Nat.zero_add,AM,AP,l3,Ae,ln,AL,AK,t16,c1,Az,ix,Aq,Ao,ld,al,AX,st,m0,m1,m2,t1,t2,t3,d1,d2,d3,BK,a3]
      exact⟨_,rfl,by simp[AG,t0,t1,t2,t3,t15]⟩
     ·have d2:iEq x.b b=false:=BW h2
      simp only[sT,Nat.reduceLT,Nat.reduceEqDiff,reduceIte,gD,Au,t0,Aj,AJ,AN,Nat.zero_add,AM,AP,l3,Ae,ln,AL,AK,t16,c1,Az,ix,Aq,Ao,ld,al,AX,st,m0,m1,m2,t1,t2,t3,d1,d2,BK,a3]
      exact⟨_,rfl,by simp[AG,t0,t1,t2,t3,t15]⟩
    ·have d1:iEq x.a a=false:=BW h1
     simp only[sT,Nat.reduceLT,Nat.reduceEqDiff,reduceIte,gD,Au,t0,Aj,AJ,AN,Nat.zero_add,AM,AP,l3,Ae,ln,AL,AK,t16,c1,Az,ix,Aq,Ao,ld,al,AX,st,m0,m1,m2,t1,t2,t3,d1,BK,a3]
     exact⟨_,rfl,by simp[AG,t0,t1,t2,t3,t15]⟩
   obtain⟨e2,r1,r2,r3,r4,r5,r6,r7⟩:=hrun
   refine⟨hlt,e2,h2,r1,lv',fv',w,fx.trans (.of y2),r2,r3,r4,r5,r6,?_,hlt,?_,?_,hf⟩
   ·rw[hfN,r7,List.length_append];rfl
   ·rw[hfY];exact ow.ext W' y2
   ·rw[hfN,hfY,List.append_assoc];exact sl2
  |true=>
   rw[if_neg (by rw[hel];decide)]at hfN
   rw[if_pos hel]at hfY
   have hxx:x.a=a∧x.b=b∧x.c<c:=by
    unfold elB at hel
    rw[Bool.and_eq_true,Bool.and_eq_true]at hel
    exact⟨of_decide_eq_true hel.1.1,of_decide_eq_true hel.1.2,of_decide_eq_true hel.2⟩
   have d1:iEq x.a a=true:=CN hxx.1
   have d2:iEq x.b b=true:=CN hxx.2.1
   have d3:iLt x.c c=true:=Hw hxx.2.2
   obtain⟨h3,lv3,fv3,k3,f3,s3',hfr⟩:=TJ (m:=m) y2.wf sl2 (by omega) (by omega) (hp3 x hxm)
   have ow3:h3.Own h.next 3 w (iv (O.map (·.p))):=(ow.ext W' y2).fx y2.wf f3 fun b hb h1=>by omega
   have n3:h.next≤h3.next:=by have:=fx.next;have:=y2.next;have:=f3.next;omega
   obtain⟨h5,w',k5,f5,ow5,kp5⟩:=dD (z:=x.p) f3.wf n3 ow3 (by rw[List.length_map];omega)
   have bs:=fun (F:CallF) (e:Env) (he:AB 134 e=.int .i64 (x.p:Int))=>EJ (F:=F) f3.wf he
   have hm5:h5.bl.get A.bc=h3.bl.get A.bc:=f5.get _ ((s3'.dk.lt f3.wf).2.2) (fun h1=>by
    have:=hD A.bc (.inr (.inr (.inr rfl)))
    omega)
   have hf3:∀ b,blkV fv3 b→¬ blkV w b:=fun b hb h1=>by
    have:=hfr b hb
    have:=ow.blkL W' h1
    have:=y2.next
    omega
   have s5:=s3'.app ow3 (fun b el L hb r=>(kp5 b el L hb r).1) hm5 hf3
   have hf5:∀ b,blkV fv3 b→¬ blkV w' b:=fun b hb=>by
    obtain⟨el,L,r⟩:=s3'.fs.blk hb
    exact(kp5 b el L (hf3 b hb) r).2
   have a3:=fun (g:Hp)=>CQ (i:=P.length) (h:=g) (by omega)
   have k3':call AD (m+7) 52 [pt A.bs,.int .i64 (P.length:Int)] h2=.ok (.int .i64 (x.p:Int)) h3:=k3
   have hrun:∃ e2,cmL (call AD (m+7)) e' h'=.norm e2 h5∧AB 0 e2=pt A.bs∧AB 1 e2=.int .i64 a∧AB 2 e2=.int .i64 b∧AB 3 e2=.int .i64 c∧AB 15 e2=w'∧AB 16 e2=.int .i64 (P.length:Int):=by
    unfold cmL
    simp only[sT,Nat.reduceLT,Nat.reduceEqDiff,reduceIte,gD,Au,t0,Aj,AJ,AN,Nat.zero_add,AM,AP,l3,Ae,ln,AL,AK,t16,c1,Az,ix,Aq,Ao,ld,al,AX,st,m0,m1,m2,t1,t2,t3,d1,d2,d3,cA0,k3',bs,BE,t15,k5]
    exact⟨_,rfl,by simp[AG,t0,t1,t2,t3,t16]⟩
   obtain⟨e2,r1,r2,r3,r4,r5,r6,r7⟩:=hrun
   refine⟨hlt,e2,h5,r1,lv3,fv3,w',?_,r2,r3,r4,r5,r6,?_,hlt,?_,?_,hf5⟩
   ·exact((fx.trans (.of y2)).trans (f3.mono fun b hb=>.inl hb)).trans (f5.mono fun b hb=>.inr hb)
   ·rw[hfN];exact r7
   ·rw[hfY,List.map_append];exact ow5
   ·rw[hfN,hfY,PZ];exact s5
 ·right
  have hie:i=ks.length:=by omega
  subst hie
  rw[List.take_length]at *
  rw[List.drop_length,List.append_nil]at sl ln
  have c1:iLt (((ks.filter fun k=> !elB a b c k).length:Nat):Int) (((ks.filter fun k=> !elB a b c k).length:Nat):Int)=false:=DI (Nat.le_refl _)
  have hrun:∃ e2,cmL (call AD (m+7)) e' h'=.exit 1 e2 h'∧AB 0 e2=pt A.bs∧AB 15 e2=w:=by
   unfold cmL
   simp only[sT,Nat.reduceLT,Nat.reduceEqDiff,reduceIte,Au,t0,Aj,AJ,AN,Nat.zero_add,AM,AP,l3,Ae,ln,AL,AK,t16,c1]
   exact⟨_,rfl,by simp[AG,t0,t15]⟩
  obtain⟨e2,r1,r2,r3⟩:=hrun
  rw[r1]
  exact⟨rfl,e2,h',lv',fv',w,rfl,fx.drop,r2,r3,ow,sl⟩
end
end
noncomputable section
open Go
set_option maxRecDepth 100000
theorem MX{α:Type}{l:List α}{j:Nat}{x:α}(h:l[j]? =some x):l.set j x=l:=by
 obtain⟨hj,rfl⟩:=List.getElem?_eq_some_iff.1 h
 exact List.set_getElem_self hj
theorem OS{α:Type}{l:List α}{j:Nat}{x:α}(h:l[j]? =some x):l=l.take j++x::l.drop (j+1)∧(l.take j).length=j:=by
 obtain⟨hj,rfl⟩:=List.getElem?_eq_some_iff.1 h
 refine⟨?_,by rw[List.length_take];omega⟩
 rw[← List.drop_eq_getElem_cons hj,List.take_append_drop]
theorem Jj{a b c:Int}{k:Kt}(h:Bg a b c k=true):k.a=a∧k.b=b∧k.c=c:=by
 unfold Bg at h
 rw[Bool.and_eq_true,Bool.and_eq_true]at h
 exact⟨of_decide_eq_true h.1.1,of_decide_eq_true h.1.2,of_decide_eq_true h.2⟩
theorem oZ{i:Nat}{g:Hp}(hi:i≤1000000):Fl Int.sub .i64 (.int .i64 (i:Int)) (.int .i64 1) g=.ok (.int .i64 ((i:Int) - 1)) g:=by
 cases i with
 |zero=>rw[CT];rfl
 |succ n=>rw[SZ (by omega),show((n+1:Nat):Int) - 1=(n:Int)by omega]
theorem jh:dpS=BG (Ac 0 (Ax dpL)) dpE:=rfl
theorem jV:d30=aN:=rfl
section
variable {F:CallF}{e:Env}{h h':Hp}{A:At}{T M:List Nat}{c0 bad m k p n:Nat}{arm:Int}{ks:List Kt}{fr:List Nat}{lv fv:Value}
theorem Wq(W:h.Wf)(s:Sl h A T M c0 arm ks fr lv fv bad false){a b c z:Int}(hz:Hu ks a b c=some z):
  ∃ h',call AD (m+8) 12 [pt A.bs,.int .i64 a,.int .i64 b,.int .i64 c] h=.ok (.int .i64 z) h'∧h.Ext h':=by
 have hkl:=s.le.1
 have c00:iNe 0 0=false:=Cm rfl
 have k0:=Me (m:=m+6) s.row
 obtain⟨h1,k1,x1⟩:=FY (m:=m+4) W s.row s.ls.ks (by omega) a b c
 have s1:=s.ext W x1
 obtain⟨_,_,_,l3,_⟩:=A5 s1.row
 obtain⟨h2,k2,x2⟩:=GB (m:=m+3) x1.wf s1.row s1.ls.ks (by omega) a b c
 have x12:=x1.trans x2
 unfold Hu at hz
 rcases C9 (Bg a b c) ks 0 with ⟨e1,e2⟩|⟨j,kx,e1,e2,e3⟩
 ·rw[e1]at hz
  rw[e2]at k1
  have c1:iGe (-1) 0=false:=E3 (by omega)
  have c2:iLt (-1) 0=true:=Hw (by omega)
  simp only at hz
  cases hst:Bx a b c ks with
  |true=>
   rw[hst]at hz k2
   rw[if_pos rfl]at hz
   cases hz
   refine⟨h2,?_,x12⟩
   rw[LO rfl,LY]
   unfold N1
   simp only[iN,Nat.reduceAdd,sT,Nat.reduceLT,Nat.reduceEqDiff,reduceIte,gD,cA0,k0,AL,AK,c00,k1,c1,k2,lV0]
  |false=>
   rw[hst]at hz k2
   rw[if_neg (by decide)]at hz
   cases hz
   refine⟨h2,?_,x12⟩
   rw[LO rfl,LY]
   unfold N1
   simp only[iN,Nat.reduceAdd,sT,Nat.reduceLT,Nat.reduceEqDiff,reduceIte,gD,cA0,k0,AL,AK,c00,k1,c1,k2,c2,lV0]
 ·rw[e1]at hz
  rw[e3,Nat.zero_add]at k1
  have hjl:=(List.getElem?_eq_some_iff.1 e2).1
  have hkm:=List.mem_of_getElem? e2
  have c1:iGe (j:Int) 0=true:=Gw (by omega)
  have c3:iLt (j:Int) 0=false:=E5 (by omega)
  obtain⟨bb,_,ix,ld,lde⟩:=s1.ls.ks.at e2
  have lst:=lde 3 (.int .u8 (kx.s:Int)) rfl
  simp only at hz
  by_cases hs2:kx.s=2
  ·rw[if_pos hs2]at hz
   cases hz
   have c2:iEq (kx.s:Int) 2=true:=CN (by omega)
   refine⟨h1,?_,x1⟩
   rw[LO rfl,LY]
   unfold N1
   simp only[iN,Nat.reduceAdd,sT,Nat.reduceLT,Nat.reduceEqDiff,reduceIte,gD,cA0,k0,AL,AK,c00,k1,c1,Au,Aj,AJ,AN,Nat.zero_add,Nat.add_zero,AM,AP,l3,Az,ix,lst,c2,lV0]
  ·rw[if_neg hs2]at hz
   have c2:iEq (kx.s:Int) 2=false:=BW (by omega)
   cases hst:Bx a b c ks with
   |true=>
    rw[hst]at hz k2
    rw[if_pos rfl]at hz
    cases hz
    refine⟨h2,?_,x12⟩
    rw[LO rfl,LY]
    unfold N1
    simp only[iN,Nat.reduceAdd,sT,Nat.reduceLT,Nat.reduceEqDiff,reduceIte,gD,cA0,k0,AL,AK,c00,k1,c1,Au,Aj,AJ,AN,Nat.zero_add,Nat.add_zero,AM,AP,l3,Az,ix,lst,c2,k2,lV0]
   |false=>
    rw[hst]at hz
    rw[if_neg (by decide)]at hz
    cases hz
theorem PA(W:h.Wf)(s:Sl h A T M c0 arm ks fr lv fv bad false){a b c:Int}(hkl:fr.length+ks.length≤11)(hp3:∀ k∈ks,3 * k.p+3≤A.n)(hnd:(ks.map (·.p)).Nodup)(ha:Bk arm (k+20)):
  (∃ z h',Hu ks a b c=some z∧call AD (m+8) 12 [pt A.bs,.int .i64 a,.int .i64 b,.int .i64 c] h=.ok (.int .i64 z) h'∧h.Ext h')∨
  (Hu ks a b c=none∧∃ j kx h' c1 arm' lv' fv',ks[j]? =some kx∧(kx.a=a∧kx.b=b∧kx.c=c)∧kx.s=1∧ks.find? (Bg a b c)=some kx∧Bx a b c ks=false∧call AD (m+8) 12 [pt A.bs,.int .i64 a,.int .i64 b,.int .i64 c] h=.ok (.int .i64 0) h'∧Fx A.D h h'∧
   Sl h' A T (GC (Fv M kx.p (headL T a b c 2 kx.l)) (((ks.set j {kx with s:=2}).filter (elB a b c)).map (·.p))) c1 arm' ((ks.set j {kx with s:=2}).filter fun k=> !elB a b c k) (frE fr ((ks.set j {kx with s:=2}).filter (elB a b c))) lv' fv' bad false∧Bk arm' k):=by
 cases hz:Hu ks a b c with
 |some z=>
  obtain⟨h',k1,x1⟩:=Wq (m:=m) W s hz
  exact .inl ⟨z,h',rfl,k1,x1⟩
 |none=>
  right
  unfold Hu at hz
  rcases C9 (Bg a b c) ks 0 with ⟨e1,e2⟩|⟨j,kx,e1,e2,e3⟩
  ·rw[e1]at hz
   simp only at hz
   split at hz<;>cases hz
  rw[e1]at hz
  simp only at hz
  split at hz
  ·cases hz
  rename_i hs2
  split at hz
  ·cases hz
  rename_i hst
  have hst':Bx a b c ks=false:=by
   cases hq:Bx a b c ks
   ·rfl
   ·exact absurd hq hst
  have hkm:=List.mem_of_getElem? e2
  have hs1:kx.s=1:=(s.ko kx hkm).2.2.2.1.resolve_right hs2
  have habc:=Jj (List.find?_some e1)
  rw[Nat.zero_add]at e3
  obtain⟨h12,c9,arm9,w10,e2',r1,u0,u1,u2,u3,u15,u16,fx12,s12,a9⟩:=Ws (m:=m) (k:=k+15) W s e2 hs1 e3 habc hst' (hp3 kx hkm) s.le.1 (ha.le (by omega))
  have sm:(ks.set j {kx with s:=2}).map (·.p)=ks.map (·.p):=by
   rw[List.map_set];exact MX (by rw[List.getElem?_map,e2];rfl)
  have hp3':∀ x∈ks.set j {kx with s:=2},3 * x.p+3≤A.n:=fun x hx=>by
   rcases List.mem_or_eq_of_mem_set hx with h1|h1
   ·exact hp3 x h1
   ·rw[h1];exact hp3 kx hkm
  have hsl:(ks.set j {kx with s:=2}).length=ks.length:=List.length_set
  generalize hX:ks.set j {kx with s:=2}=ksX at *
  obtain⟨e3',h13,lv3,fv3,w,r2,f13,v0,v15,ow,s13⟩:=Wp (m:=m) (a:=a) (b:=b) (c:=c) fx12.wf s12 (by omega) hp3' u0 u1 u2 u3 u15 u16
  have hfl:(ksX.filter (elB a b c)).length≤ksX.length:=List.length_filter_le _ _
  have hos:((ksX.filter (elB a b c)).map (·.p)).Nodup:=List.Pairwise.sublist (List.filter_sublist.map _) (sm ▸ hnd)
  have hol:((ksX.filter (elB a b c)).map (·.p)).length≤11:=by rw[List.length_map];omega
  obtain⟨h14,c14,arm14,k14,f14,s14,a14⟩:=J5 (m:=m+1) (k:=k) f13.wf s13 (ps:=(ksX.filter (elB a b c)).map fun x:Kt=>x.p) (pv:=w) ow.vals (fun p hp=>by
   obtain⟨x,hx,rfl⟩:=List.mem_map.1 hp
   exact hp3' x ((List.mem_filter.1 hx).1)) hos (by omega) (a9.le (by omega))
  have k14':call AD (m+7) 53 [pt A.bs,w] h13=.ok (.int .i64 0) h14:=k14
  refine⟨rfl,j,kx,h14,c14,arm14,lv3,fv3,e2,habc,hs1,e1,hst',?_,(fx12.trans (f13.mono fun b hb=>.inl hb)).trans (f14.mono fun b hb=>.inr hb),by rw[hX];exact s14,a14⟩
  rw[LO rfl,LY,r1,jO]
  simp only[BH,Aw,r2,A1,BB]
  unfold cmE
  simp only[sT,Nat.reduceLT,Nat.reduceEqDiff,reduceIte,cA0,v0,v15,k14',lV0]
def abE(ks:List Kt)(a b c:Int):Option Int:=if Bx a b c ks=true then some 61 else match ks.find? (Bg a b c)with
 |some _=>none
 |none=>some 0
theorem eu(W:h.Wf)(s:Sl h A T M c0 arm ks fr lv fv bad false){a b c z:Int}(hz:abE ks a b c=some z):
  ∃ h',call AD (m+9) 29 [pt A.bs,.int .i64 a,.int .i64 b,.int .i64 c] h=.ok (.int .i64 z) h'∧h.Ext h':=by
 have hkl':=s.le.1
 have c00:iNe 0 0=false:=Cm rfl
 have k0:=Me (m:=m+7) s.row
 obtain⟨h1,k1,x1⟩:=FY (m:=m+5) W s.row s.ls.ks (by omega) a b c
 have s1:=s.ext W x1
 obtain⟨h2,k2,x2⟩:=GB (m:=m+4) x1.wf s1.row s1.ls.ks (by omega) a b c
 have x12:=x1.trans x2
 unfold abE at hz
 cases hst:Bx a b c ks with
 |true=>
  rw[hst]at k2 hz
  rw[if_pos rfl]at hz
  cases hz
  refine⟨h2,?_,x12⟩
  rw[RQ rfl]
  unfold d29
  simp only[iN,Nat.reduceAdd,sT,Nat.reduceLT,Nat.reduceEqDiff,reduceIte,gD,cA0,k0,AL,AK,c00,k1,k2,lV0]
 |false=>
  rw[hst]at k2 hz
  rw[if_neg (by decide)]at hz
  rcases C9 (Bg a b c) ks 0 with ⟨e1,e2⟩|⟨j,kx,e1,e2,e3⟩
  ·rw[e2]at k1
   rw[e1]at hz
   cases hz
   have c2:iLt (-1) 0=true:=Hw (by omega)
   refine⟨h2,?_,x12⟩
   rw[RQ rfl]
   unfold d29
   simp only[iN,Nat.reduceAdd,sT,Nat.reduceLT,Nat.reduceEqDiff,reduceIte,gD,cA0,k0,AL,AK,c00,k1,k2,c2,lV0]
  ·rw[e1]at hz
   cases hz
theorem US(W:h.Wf)(s:Sl h A T M c0 arm ks fr lv fv bad false){a b c:Int}(hkl:fr.length+ks.length≤11)(hp3:∀ k∈ks,3 * k.p+3≤A.n)(ha:Bk arm (k+2)):
  (∃ z h',abE ks a b c=some z∧call AD (m+9) 29 [pt A.bs,.int .i64 a,.int .i64 b,.int .i64 c] h=.ok (.int .i64 z) h'∧h.Ext h')∨
  (abE ks a b c=none∧∃ j kx h' c1 arm' lv' fv',ks[j]? =some kx∧(kx.a=a∧kx.b=b∧kx.c=c)∧ks.find? (Bg a b c)=some kx∧Bx a b c ks=false∧call AD (m+9) 29 [pt A.bs,.int .i64 a,.int .i64 b,.int .i64 c] h=.ok (.int .i64 0) h'∧Fx A.D h h'∧
   Sl h' A T (GC M [kx.p]) c1 arm' (ks.take j++ks.drop (j+1)) (EB (fr++[kx.p])) lv' fv' bad false∧Bk arm' k):=by
 cases hz:abE ks a b c with
 |some z=>
  obtain⟨h',k1,x1⟩:=eu (m:=m) W s hz
  exact .inl ⟨z,h',rfl,k1,x1⟩
 |none=>
  have hkl':=s.le.1
  have c00:iNe 0 0=false:=Cm rfl
  have k0:=Me (m:=m+7) s.row
  obtain⟨h1,k1,x1⟩:=FY (m:=m+5) W s.row s.ls.ks (by omega) a b c
  have s1:=s.ext W x1
  obtain⟨h2,k2,x2⟩:=GB (m:=m+4) x1.wf s1.row s1.ls.ks (by omega) a b c
  have x12:=x1.trans x2
  unfold abE at hz
  cases hst:Bx a b c ks with
  |true=>
   rw[hst]at hz
   rw[if_pos rfl]at hz
   cases hz
  |false=>
   rw[hst]at k2 hz
   rw[if_neg (by decide)]at hz
   rcases C9 (Bg a b c) ks 0 with ⟨e1,e2⟩|⟨j,kx,e1,e2,e3⟩
   ·rw[e1]at hz
    cases hz
   ·rw[e3,Nat.zero_add]at k1
    have c2:iLt (j:Int) 0=false:=E5 (by omega)
    have hkm:=List.mem_of_getElem? e2
    have habc:=Jj (List.find?_some e1)
    obtain⟨q1,q2⟩:=OS e2
    have s2:=s.ext W x12
    have s2':Sl h2 A T M c0 arm (ks.take j++kx::ks.drop (j+1)) fr lv fv bad false:=by rw[← q1];exact s2
    obtain⟨h3,c1,arm',lv',fv',k3,f3,s3,a3⟩:=Ye (m:=m) (k:=k) x12.wf s2' (by rw[← q1];omega) (by omega) (hp3 kx hkm) ha
    rw[q2]at k3
    have k3':call AD (m+8) 68 [pt A.bs,.int .i64 (j:Int)] h2=.ok (.int .i64 0) h3:=k3
    refine .inr ⟨rfl,j,kx,h3,c1,arm',lv',fv',e2,habc,e1,rfl,?_,(Fx.of x12).trans f3,s3,a3⟩
    rw[RQ rfl]
    unfold d29
    simp only[iN,Nat.reduceAdd,sT,Nat.reduceLT,Nat.reduceEqDiff,reduceIte,gD,cA0,k0,AL,AK,c00,k1,k2,c2,k3',lV0]
def drB(a b c:Int)(k:Kt):Bool:=decide (k.a=a) && decide (k.b=b) && decide (k.c≤c)
def Hv(M:List Nat)(out:List Kt):List Nat:=out.foldl (fun M x=>GC M [x.p]) M
theorem Rg(M:List Nat)(out:List Kt)(x:Kt):Hv M (out++[x])=GC (Hv M out) [x.p]:=by unfold Hv;rw[List.foldl_append];rfl
def drO(a b c:Int)(ks:List Kt):List Kt:=(ks.filter (drB a b c)).reverse
theorem XP(a b c:Int)(x:Kt)(ks:List Kt):drO a b c (x::ks)=if drB a b c x=true then drO a b c ks++[x]else drO a b c ks:=by
 unfold drO
 cases h:drB a b c x
 ·rw[if_neg (by decide),List.filter_cons_of_neg (by rw[h];decide)]
 ·rw[if_pos rfl,List.filter_cons_of_pos h,List.reverse_cons]
theorem an(a b c:Int)(x:Kt)(ks:List Kt):(drO a b c (ks++[x])).length=(drO a b c ks).length+if drB a b c x=true then 1 else 0:=by
 unfold drO
 rw[List.length_reverse,List.length_reverse,Lg]
 split
 ·rw[List.length_append];rfl
 ·rfl
theorem Ur{a b c:Int}(W:h.Wf)(s:Sl h A T M c0 arm ks fr lv fv bad false)(hkl:fr.length+ks.length≤11)(hp3:∀ k∈ks,3 * k.p+3≤A.n)(ha:Bk arm (k+2 * (drO a b c ks).length))(s0:AB 0 e=pt A.bs)(s1:AB 1 e=.int .i64 a)(s2:AB 2 e=.int .i64 b)(s3:AB 3 e=.int .i64 c)(s10:AB 10 e=.int .i64 ((ks.length:Int) - 1)):
  ∃ e' h' c1 arm' lv' fv',Ax dpL (call AD (m+8)) e h=.exit 0 e' h'∧Fx A.D h h'∧Sl h' A T (Hv M (drO a b c ks)) c1 arm' (ks.filter fun k=> !drB a b c k) (frE fr (drO a b c ks)) lv' fv' bad false∧Bk arm' k:=by
 refine BZ (I:=fun t e' h'=>∃ i c1 arm' lv' fv',i+t=ks.length∧Fx A.D h h'∧AB 0 e'=pt A.bs∧AB 1 e'=.int .i64 a∧AB 2 e'=.int .i64 b∧AB 3 e'=.int .i64 c∧AB 10 e'=.int .i64 ((i:Int) - 1)∧
   Sl h' A T (Hv M (drO a b c (ks.drop i))) c1 arm' (ks.take i++(ks.drop i).filter fun k=> !drB a b c k) (frE fr (drO a b c (ks.drop i))) lv' fv' bad false∧Bk arm' (k+2 * (drO a b c (ks.take i)).length))
  (Q:=fun x=>∃ e' h' c1 arm' lv' fv',x=.exit 0 e' h'∧Fx A.D h h'∧Sl h' A T (Hv M (drO a b c ks)) c1 arm' (ks.filter fun k=> !drB a b c k) (frE fr (drO a b c ks)) lv' fv' bad false∧Bk arm' k) ks.length (by omega) (fun t e' h' ⟨i,c1,arm1,lv',fv',hit,fx,t0,t1,t2,t3,t10,sl,am⟩=>?_) ⟨ks.length,c0,arm,lv,fv,rfl,.refl W,s0,s1,s2,s3,s10,by rw[List.take_length,List.drop_length,List.filter_nil,List.append_nil];exact s,by rw[List.take_length];exact ha⟩
 have W':=fx.wf
 cases i with
 |zero=>
  right
  rw[List.take_zero,List.nil_append,List.drop_zero]at sl
  have c2:iGe (((0:Nat):Int) - 1) 0=false:=E3 (by omega)
  obtain⟨e2,r1⟩:∃ e2,dpL (call AD (m+8)) e' h'=.exit 0 e2 h':=by
   unfold dpL
   simp only[sT,Nat.reduceLT,Nat.reduceEqDiff,reduceIte,AL,AK,t10,c2]
   exact⟨_,rfl⟩
  rw[r1]
  exact⟨rfl,e2,h',c1,arm1,lv',fv',rfl,fx,sl,am.le (Nat.le_add_right _ _)⟩
 |succ i=>
  left
  have hlt:i<ks.length:=by omega
  obtain⟨x,hx⟩:∃ x,ks[i]? =some x:=⟨_,List.getElem?_eq_getElem hlt⟩
  have hxm:=List.mem_of_getElem? hx
  have htk:ks.take (i+1)=ks.take i++[x]:=by rw[List.take_add_one,hx];rfl
  have hdr:ks.drop i=x::ks.drop (i+1):=by
   rw[List.drop_eq_getElem_cons hlt]
   rw[List.getElem?_eq_getElem hlt]at hx
   injection hx with hx
   rw[hx]
  have hdl:=an a b c x (ks.take i)
  rw[← htk]at hdl
  have hPl:(ks.take i).length=i:=by rw[List.length_take];omega
  have hdo:=XP a b c x (ks.drop (i+1))
  rw[← hdr]at hdo
  have hol:(drO a b c (ks.drop (i+1))).length≤ks.length - (i+1):=by
   unfold drO
   rw[List.length_reverse,← List.length_drop]
   exact List.length_filter_le _ _
  have hRl:((ks.drop (i+1)).filter fun k=> !drB a b c k).length≤ks.length - (i+1):=by
   rw[← List.length_drop];exact List.length_filter_le _ _
  have hfi:(ks.drop i).filter (fun k=> !drB a b c k)=if drB a b c x=true then(ks.drop (i+1)).filter (fun k=> !drB a b c k)else x::(ks.drop (i+1)).filter (fun k=> !drB a b c k):=by
   rw[hdr]
   cases h:drB a b c x
   ·rw[if_neg (by decide),List.filter_cons_of_pos (by rw[h];rfl)]
   ·rw[if_pos rfl,List.filter_cons_of_neg (by rw[h];decide)]
  generalize hP:ks.take i=P at *
  generalize hR:(ks.drop (i+1)).filter (fun k=> !drB a b c k)=R at *
  generalize hO:drO a b c (ks.drop (i+1))=O at *
  rw[htk,List.append_assoc]at sl
  have sl:Sl h' A T (Hv M O) c1 arm1 (P++x::R) (frE fr O) lv' fv' bad false:=sl
  have hle:(P++x::R).length=i+1+R.length:=by rw[List.length_append,List.length_cons,hPl];omega
  obtain⟨_,_,_,l3,_⟩:=A5 sl.row
  have t10:AB 10 e'=.int .i64 (i:Int):=by rw[t10,show((i+1:Nat):Int) - 1=(i:Int)by omega]
  have c2:iGe (i:Int) 0=true:=Gw (by omega)
  obtain⟨b',_,ix,ld,_⟩:=sl.ls.at (i:=P.length) (k:=x) Fd
  rw[hPl]at ix ld
  have al:=fun (F:CallF) (e:Env)=>Bd (F:=F) (e:=e) W' (n:=6) (t:=DL)
  have Ra:=Hp.Row.alloc W' Gc (show(AU K0).length=6 from rfl)
  have y1:h'.Ext (h'.push (.cells DL 6 0)):=(Hp.Ext.refl W').push _
  generalize h'.push (.cells DL 6 0)=h1 at al Ra y1
  have hu:=(sl.ko x (List.mem_append_right _ List.mem_cons_self)).1.vs.one.2.1
  obtain⟨st,_,y2,R5,n2⟩:=Kg W' y1 (Nat.le_refl _) Ra rfl (k:=x) hu
  generalize h1.wr h'.next 0 (AU x)=h2 at st y2 R5 n2
  obtain⟨m0,m1,m2,_⟩:=Bn R5
  have sl2:=sl.ext W' y2
  have sb:=fun (g:Hp)=>oZ (i:=i) (g:=g) (by omega)
  cases hel:drB a b c x with
  |false=>
   rw[if_neg (by rw[hel];decide)]at hdo hfi
   have hrun:∃ e2,dpL (call AD (m+8)) e' h'=.norm e2 h2∧AB 0 e2=pt A.bs∧AB 1 e2=.int .i64 a∧AB 2 e2=.int .i64 b∧AB 3 e2=.int .i64 c∧AB 10 e2=.int .i64 ((i:Int) - 1):=by
    unfold dpL
    by_cases h1:x.a=a
    ·have d1:iEq x.a a=true:=CN h1
     by_cases h2:x.b=b
     ·have d2:iEq x.b b=true:=CN h2
      have d3:iLe x.c c=false:=Pg (fun h3=>by
       unfold drB at hel
       rw[decide_eq_true h1,decide_eq_true h2,decide_eq_true h3]at hel
       cases hel)
      simp only[sT,Nat.reduceLT,Nat.reduceEqDiff,reduceIte,gD,Au,t0,Aj,AJ,AN,Nat.zero_add,AM,AP,l3,AL,AK,t10,c2,Az,ix,Aq,Ao,ld,al,AX,st,m0,m1,m2,t1,t2,t3,d1,d2,d3,Bs,sb]
      exact⟨_,rfl,by simp[AG,t0,t1,t2,t3]⟩
     ·have d2:iEq x.b b=false:=BW h2
      simp only[sT,Nat.reduceLT,Nat.reduceEqDiff,reduceIte,gD,Au,t0,Aj,AJ,AN,Nat.zero_add,AM,AP,l3,AL,AK,t10,c2,Az,ix,Aq,Ao,ld,al,AX,st,m0,m1,m2,t1,t2,t3,d1,d2,Bs,sb]
      exact⟨_,rfl,by simp[AG,t0,t1,t2,t3]⟩
    ·have d1:iEq x.a a=false:=BW h1
     simp only[sT,Nat.reduceLT,Nat.reduceEqDiff,reduceIte,gD,Au,t0,Aj,AJ,AN,Nat.zero_add,AM,AP,l3,AL,AK,t10,c2,Az,ix,Aq,Ao,ld,al,AX,st,m0,m1,m2,t1,t2,t3,d1,Bs,sb]
     exact⟨_,rfl,by simp[AG,t0,t1,t2,t3]⟩
   obtain⟨e2,r1,r2,r3,r4,r5,r6⟩:=hrun
   refine⟨by omega,e2,h2,r1,i,c1,arm1,lv',fv',by omega,fx.trans (.of y2),r2,r3,r4,r5,r6,?_,am.le (by rw[hdl,hP];omega)⟩
   rw[hdo,hfi,hP];exact sl2
  |true=>
   rw[if_pos hel]at hdo hfi
   have hxx:x.a=a∧x.b=b∧x.c≤c:=by
    unfold drB at hel
    rw[Bool.and_eq_true,Bool.and_eq_true]at hel
    exact⟨of_decide_eq_true hel.1.1,of_decide_eq_true hel.1.2,of_decide_eq_true hel.2⟩
   have d1:iEq x.a a=true:=CN hxx.1
   have d2:iEq x.b b=true:=CN hxx.2.1
   have d3:iLe x.c c=true:=KF hxx.2.2
   have c00:iNe 0 0=false:=Cm rfl
   have hfl:=TB fr O
   obtain⟨h3,c3,arm3,lv3,fv3,k3,f3,s3',a3⟩:=Ye (m:=m) (k:=k+2 * (drO a b c P).length) y2.wf sl2 (by omega) (by omega) (hp3 x hxm) (am.le (by rw[hdl,if_pos hel];omega))
   rw[hPl]at k3
   have k3':call AD (m+8) 68 [pt A.bs,.int .i64 (i:Int)] h2=.ok (.int .i64 0) h3:=k3
   have hrun:∃ e2,dpL (call AD (m+8)) e' h'=.norm e2 h3∧AB 0 e2=pt A.bs∧AB 1 e2=.int .i64 a∧AB 2 e2=.int .i64 b∧AB 3 e2=.int .i64 c∧AB 10 e2=.int .i64 ((i:Int) - 1):=by
    unfold dpL
    simp only[sT,Nat.reduceLT,Nat.reduceEqDiff,reduceIte,gD,Au,t0,Aj,AJ,AN,Nat.zero_add,AM,AP,l3,AL,AK,t10,c2,Az,ix,Aq,Ao,ld,al,AX,st,m0,m1,m2,t1,t2,t3,d1,d2,d3,cA0,k3',c00,Bs,sb]
    exact⟨_,rfl,by simp[AG,t0,t1,t2,t3]⟩
   obtain⟨e2,r1,r2,r3,r4,r5,r6⟩:=hrun
   refine⟨by omega,e2,h3,r1,i,c3,arm3,lv3,fv3,by omega,(fx.trans (.of y2)).trans f3,r2,r3,r4,r5,r6,?_,by rw[hP];exact a3⟩
   rw[hdo,hfi,hP,Rg,PZ];exact s3'
theorem XR(W:h.Wf)(s:Sl h A T M c0 arm ks fr lv fv bad false)(a b c:Int)(hkl:fr.length+ks.length≤11)(hp3:∀ k∈ks,3 * k.p+3≤A.n)(ha:Bk arm (k+2 * (drO a b c ks).length)):
  ∃ h' c1 arm' lv' fv',call AD (m+9) 30 [pt A.bs,.int .i64 a,.int .i64 b,.int .i64 c] h=.ok (.int .i64 0) h'∧Fx A.D h h'∧Sl h' A T (Hv M (drO a b c ks)) c1 arm' (ks.filter fun k=> !drB a b c k) (frE fr (drO a b c ks)) lv' fv' bad false∧Bk arm' k:=by
 have c00:iNe 0 0=false:=Cm rfl
 have k0:=Me (m:=m+7) s.row
 obtain⟨_,_,_,l3,_⟩:=A5 s.row
 have ln:=s.ls.len h
 have sb:=oZ (i:=ks.length) (g:=h) (by omega)
 have pre:∃ e1,aN (call AD (m+8)) (AQ e0 0 [pt A.bs,.int .i64 a,.int .i64 b,.int .i64 c]) h=dpS (call AD (m+8)) e1 h∧AB 0 e1=pt A.bs∧AB 1 e1=.int .i64 a∧AB 2 e1=.int .i64 b∧AB 3 e1=.int .i64 c∧AB 10 e1=.int .i64 ((ks.length:Int) - 1):=by
  unfold aN
  simp only[iN,Nat.reduceAdd,sT,Nat.reduceLT,Nat.reduceEqDiff,reduceIte,gD,cA0,k0,AL,AK,c00,Au,Aj,AJ,AN,Nat.zero_add,AM,AP,l3,Ae,ln,Bs,sb]
  exact⟨_,rfl,by simp[AG]⟩
 obtain⟨e1,p1,t0,t1,t2,t3,t10⟩:=pre
 obtain⟨e2,h2,c1,arm',lv',fv',r2,f2,s2,a2⟩:=Ur (m:=m) (k:=k) W s hkl hp3 ha t0 t1 t2 t3 t10
 refine⟨h2,c1,arm',lv',fv',?_,f2,s2,a2⟩
 rw[iI rfl,jV,p1,jh]
 simp only[BH,Aw,r2,A1,BB]
 unfold dpE
 simp only[sT,Nat.reduceLT,Nat.reduceEqDiff,reduceIte,lV0]
end
end
noncomputable section
open Go
set_option maxRecDepth 100000
theorem bA:∀ (ks:List Kt) (i:Nat) (k:Kt),ks[i]? =some k→((flS ks).drop (5 * i)).take 5=Jc k
 |[],i,k,h=>by cases h
 |x::ks,0,k,h=>by
  have h:some x=some k:=h
  cases h
  show((Jc x++flS ks).drop 0).take 5=_
  rw[List.drop_zero]
  exact List.take_left' rfl
 |x::ks,i+1,k,h=>by
  rw[List.getElem?_cons_succ]at h
  show((Jc x++flS ks).drop (5 * (i+1))).take 5=_
  have:5 * (i+1)=(Jc x).length+5 * i:=by show _=5+_;omega
  rw[this,List.drop_length_add_append]
  exact bA ks i k h
section

end
end
noncomputable section
open Go
set_option maxRecDepth 100000
def opL(kd a b c n:Int)(u w:Value):List Value:=[.int .i64 kd,.int .i64 a,.int .i64 b,.int .i64 c,.int .i64 n,u,w]
def opV(kd a b c n:Int)(u w:Value):Value:=.agg ⟨opL kd a b c n u w⟩
def Jr(kd:Int):Prop:=kd=1∨kd=2∨kd=3∨kd=4
def eB(ks:List Kt)(n:Nat)(kd a b c:Int)(l:List Nat)(z:Int):Prop:=
 (Jr kd∧Eg ks n a b c l=some z)∨((kd=5∨kd=6)∧Hu ks a b c=some z)∨(kd=7∧abE ks a b c=some z)∨(kd=8∧drO a b c ks=[]∧z=0)∨(¬ Jr kd∧kd≠5∧kd≠6∧kd≠7∧kd≠8∧z=0)
def UR(T M:List Nat)(ks:List Kt)(fr:List Nat)(kd a b c:Int)(l M':List Nat)(ks':List Kt)(fr':List Nat):Prop:=
 (Jr kd∧Eg ks fr.length a b c l=none∧∃ p k',fr=p::fr'∧ks'=DS (ks++[k'])∧k'.core=⟨a,b,c,1,l,p⟩∧M'=C2 T M p l (headL T a b c 1 l))∨
 ((kd=5∨kd=6)∧∃ j kx,ks[j]? =some kx∧(kx.a=a∧kx.b=b∧kx.c=c)∧Bx a b c ks=false∧ks'=((ks.set j {kx with s:=2}).filter fun k=> !elB a b c k)∧fr'=frE fr ((ks.set j {kx with s:=2}).filter (elB a b c))∧M'=GC (Fv M kx.p (headL T a b c 2 kx.l)) (((ks.set j {kx with s:=2}).filter (elB a b c)).map (·.p)))∨
 (kd=7∧∃ j kx,ks[j]? =some kx∧(kx.a=a∧kx.b=b∧kx.c=c)∧Bx a b c ks=false∧ks'=ks.take j++ks.drop (j+1)∧fr'=EB (fr++[kx.p])∧M'=GC M [kx.p])∨
 (kd=8∧ks'=(ks.filter fun k=> !drB a b c k)∧fr'=frE fr (drO a b c ks)∧M'=Hv M (drO a b c ks))
section
variable {F:CallF}{e:Env}{h h':Hp}{A:At}{T M:List Nat}{c0 bad m k p n:Nat}{arm:Int}{ks:List Kt}{fr:List Nat}{lv fv w u:Value}{kd a b c no z:Int}{l:List Nat}
theorem MH(W:h.Wf){g:O}(hg:g e=opV kd a b c no u w):DD g F e h=.ok (pt h.next) (h.pushRow 0 (opL kd a b c no u w)):=by rw[Fe,hg,FR W];rfl
theorem F6{r:Nat}(R:h.Row r 0 (opL kd a b c no u w)):load1 ⟨r,0,none⟩ h=.ok (.int .i64 kd) h∧load1 ⟨r,1,none⟩ h=.ok (.int .i64 a) h∧load1 ⟨r,2,none⟩ h=.ok (.int .i64 b) h∧load1 ⟨r,3,none⟩ h=.ok (.int .i64 c) h∧load1 ⟨r,5,none⟩ h=.ok u h:=
 ⟨R.load1 (off:=0) (by show 0<7;omega),R.load1 (off:=1) (by show 1<7;omega),R.load1 (off:=2) (by show 2<7;omega),R.load1 (off:=3) (by show 3<7;omega),R.load1 (off:=5) (by show 5<7;omega)⟩
theorem PH{g:Hp}(W:h.Wf)(hk:Jr kd)(k1:call AD (m+9) 11 [pt A.bs,.int .i64 a,.int .i64 b,.int .i64 c,u] (h.pushRow 0 (opL kd a b c no u w))=.ok (.int .i64 z) g):call AD (m+10) 22 [pt A.bs,opV kd a b c no u w] h=.ok (.int .i64 z) g:=by
 have bx:=fun (F:CallF) (e:Env) (he:AB 1 e=opV kd a b c no u w)=>MH (F:=F) W he
 have R:=Hp.Row.new W 0 (opL kd a b c no u w)
 generalize h.pushRow 0 (opL kd a b c no u w)=h1 at bx R k1
 obtain⟨l0,l1,l2,l3,l5⟩:=F6 R
 rw[LP rfl]
 unfold d22
 rcases hk with rfl|rfl|rfl|rfl
 ·have c1:iEq 1 1=true:=CN rfl
  simp only[iN,Nat.reduceAdd,sT,Nat.reduceLT,Nat.reduceEqDiff,reduceIte,gD,bx,AJ,AN,Nat.zero_add,AM,AP,l0,l1,l2,l3,l5,AL,AK,c1,cA0,k1,lV0]
 ·have c1:iEq 2 1=false:=BW (by omega)
  have c2:iEq 2 2=true:=CN rfl
  simp only[iN,Nat.reduceAdd,sT,Nat.reduceLT,Nat.reduceEqDiff,reduceIte,gD,bx,AJ,AN,Nat.zero_add,AM,AP,l0,l1,l2,l3,l5,AL,AK,c1,c2,cA0,k1,lV0]
 ·have c1:iEq 3 1=false:=BW (by omega)
  have c2:iEq 3 2=false:=BW (by omega)
  have c3:iEq 3 3=true:=CN rfl
  simp only[iN,Nat.reduceAdd,sT,Nat.reduceLT,Nat.reduceEqDiff,reduceIte,gD,bx,AJ,AN,Nat.zero_add,AM,AP,l0,l1,l2,l3,l5,AL,AK,c1,c2,c3,cA0,k1,lV0]
 ·have c1:iEq 4 1=false:=BW (by omega)
  have c2:iEq 4 2=false:=BW (by omega)
  have c3:iEq 4 3=false:=BW (by omega)
  have c4:iEq 4 4=true:=CN rfl
  simp only[iN,Nat.reduceAdd,sT,Nat.reduceLT,Nat.reduceEqDiff,reduceIte,gD,bx,AJ,AN,Nat.zero_add,AM,AP,l0,l1,l2,l3,l5,AL,AK,c1,c2,c3,c4,cA0,k1,lV0]
theorem PG{g:Hp}(W:h.Wf)(hk:kd=5∨kd=6)(k1:call AD (m+9) 12 [pt A.bs,.int .i64 a,.int .i64 b,.int .i64 c] (h.pushRow 0 (opL kd a b c no u w))=.ok (.int .i64 z) g):call AD (m+10) 22 [pt A.bs,opV kd a b c no u w] h=.ok (.int .i64 z) g:=by
 have bx:=fun (F:CallF) (e:Env) (he:AB 1 e=opV kd a b c no u w)=>MH (F:=F) W he
 have R:=Hp.Row.new W 0 (opL kd a b c no u w)
 generalize h.pushRow 0 (opL kd a b c no u w)=h1 at bx R k1
 obtain⟨l0,l1,l2,l3,l5⟩:=F6 R
 rw[LP rfl]
 unfold d22
 rcases hk with rfl|rfl
 ·have c1:iEq 5 1=false:=BW (by omega)
  have c2:iEq 5 2=false:=BW (by omega)
  have c3:iEq 5 3=false:=BW (by omega)
  have c4:iEq 5 4=false:=BW (by omega)
  have c5:iEq 5 5=true:=CN rfl
  simp only[iN,Nat.reduceAdd,sT,Nat.reduceLT,Nat.reduceEqDiff,reduceIte,gD,bx,AJ,AN,Nat.zero_add,AM,AP,l0,l1,l2,l3,AL,AK,c1,c2,c3,c4,c5,cA0,k1,lV0]
 ·have c1:iEq 6 1=false:=BW (by omega)
  have c2:iEq 6 2=false:=BW (by omega)
  have c3:iEq 6 3=false:=BW (by omega)
  have c4:iEq 6 4=false:=BW (by omega)
  have c5:iEq 6 5=false:=BW (by omega)
  have c6:iEq 6 6=true:=CN rfl
  simp only[iN,Nat.reduceAdd,sT,Nat.reduceLT,Nat.reduceEqDiff,reduceIte,gD,bx,AJ,AN,Nat.zero_add,AM,AP,l0,l1,l2,l3,AL,AK,c1,c2,c3,c4,c5,c6,cA0,k1,lV0]
theorem M1{g:Hp}(W:h.Wf)(k1:call AD (m+9) 29 [pt A.bs,.int .i64 a,.int .i64 b,.int .i64 c] (h.pushRow 0 (opL 7 a b c no u w))=.ok (.int .i64 z) g):call AD (m+10) 22 [pt A.bs,opV 7 a b c no u w] h=.ok (.int .i64 z) g:=by
 have bx:=fun (F:CallF) (e:Env) (he:AB 1 e=opV 7 a b c no u w)=>MH (F:=F) W he
 have R:=Hp.Row.new W 0 (opL 7 a b c no u w)
 generalize h.pushRow 0 (opL 7 a b c no u w)=h1 at bx R k1
 obtain⟨l0,l1,l2,l3,l5⟩:=F6 R
 have c1:iEq 7 1=false:=BW (by omega)
 have c2:iEq 7 2=false:=BW (by omega)
 have c3:iEq 7 3=false:=BW (by omega)
 have c4:iEq 7 4=false:=BW (by omega)
 have c5:iEq 7 5=false:=BW (by omega)
 have c6:iEq 7 6=false:=BW (by omega)
 have c7:iEq 7 7=true:=CN rfl
 rw[LP rfl]
 unfold d22
 simp only[iN,Nat.reduceAdd,sT,Nat.reduceLT,Nat.reduceEqDiff,reduceIte,gD,bx,AJ,AN,Nat.zero_add,AM,AP,l0,l1,l2,l3,AL,AK,c1,c2,c3,c4,c5,c6,c7,cA0,k1,lV0]
theorem W3{g:Hp}(W:h.Wf)(k1:call AD (m+9) 30 [pt A.bs,.int .i64 a,.int .i64 b,.int .i64 c] (h.pushRow 0 (opL 8 a b c no u w))=.ok (.int .i64 z) g):call AD (m+10) 22 [pt A.bs,opV 8 a b c no u w] h=.ok (.int .i64 z) g:=by
 have bx:=fun (F:CallF) (e:Env) (he:AB 1 e=opV 8 a b c no u w)=>MH (F:=F) W he
 have R:=Hp.Row.new W 0 (opL 8 a b c no u w)
 generalize h.pushRow 0 (opL 8 a b c no u w)=h1 at bx R k1
 obtain⟨l0,l1,l2,l3,l5⟩:=F6 R
 have c1:iEq 8 1=false:=BW (by omega)
 have c2:iEq 8 2=false:=BW (by omega)
 have c3:iEq 8 3=false:=BW (by omega)
 have c4:iEq 8 4=false:=BW (by omega)
 have c5:iEq 8 5=false:=BW (by omega)
 have c6:iEq 8 6=false:=BW (by omega)
 have c7:iEq 8 7=false:=BW (by omega)
 have c8:iEq 8 8=true:=CN rfl
 rw[LP rfl]
 unfold d22
 simp only[iN,Nat.reduceAdd,sT,Nat.reduceLT,Nat.reduceEqDiff,reduceIte,gD,bx,AJ,AN,Nat.zero_add,AM,AP,l0,l1,l2,l3,AL,AK,c1,c2,c3,c4,c5,c6,c7,c8,cA0,k1,lV0]
theorem W5(W:h.Wf)(h14:¬ Jr kd)(h5:kd≠5)(h6:kd≠6)(h7:kd≠7)(h8:kd≠8):call AD (m+10) 22 [pt A.bs,opV kd a b c no u w] h=.ok (.int .i64 0) (h.pushRow 0 (opL kd a b c no u w)):=by
 have bx:=fun (F:CallF) (e:Env) (he:AB 1 e=opV kd a b c no u w)=>MH (F:=F) W he
 have R:=Hp.Row.new W 0 (opL kd a b c no u w)
 generalize h.pushRow 0 (opL kd a b c no u w)=h1 at bx R
 obtain⟨l0,l1,l2,l3,l5⟩:=F6 R
 have c1:iEq kd 1=false:=BW fun h=>h14 (.inl h)
 have c2:iEq kd 2=false:=BW fun h=>h14 (.inr (.inl h))
 have c3:iEq kd 3=false:=BW fun h=>h14 (.inr (.inr (.inl h)))
 have c4:iEq kd 4=false:=BW fun h=>h14 (.inr (.inr (.inr h)))
 have c5:iEq kd 5=false:=BW h5
 have c6:iEq kd 6=false:=BW h6
 have c7:iEq kd 7=false:=BW h7
 have c8:iEq kd 8=false:=BW h8
 rw[LP rfl]
 unfold d22
 simp only[iN,Nat.reduceAdd,sT,Nat.reduceLT,Nat.reduceEqDiff,reduceIte,gD,bx,AJ,AN,Nat.zero_add,AM,AP,l0,AL,AK,c1,c2,c3,c4,c5,c6,c7,c8,lV0]
theorem ai(W:h.Wf)(s:Sl h A T M c0 arm ks fr lv fv bad false)(V:h.VE u (l.map bv))(hb:∀ x∈l,x<256)(hl:l.length≤1000)(hk10:ks.length≤10)(hkl:fr.length+ks.length≤11)(hp3:∀ k∈ks,3 * k.p+3≤A.n)(hnd:(ks.map (·.p)).Nodup)(ha:Bk arm (k+40))(kd a b c no:Int)(w:Value):
  (∃ z h' c1 arm' lv' fv',eB ks fr.length kd a b c l z∧call AD (m+10) 22 [pt A.bs,opV kd a b c no u w] h=.ok (.int .i64 z) h'∧Fx A.D h h'∧Sl h' A T M c1 arm' ks fr lv' fv' bad false∧Bk arm' k)∨
  (∃ ks' fr' M' h' c1 arm' lv' fv',UR T M ks fr kd a b c l M' ks' fr'∧call AD (m+10) 22 [pt A.bs,opV kd a b c no u w] h=.ok (.int .i64 0) h'∧Fx A.D h h'∧Sl h' A T M' c1 arm' ks' fr' lv' fv' bad false∧Bk arm' k):=by
 have x1:=(Hp.Ext.refl W).pushRow 0 (opL kd a b c no u w)
 have s1:=s.ext W x1
 by_cases h14:Jr kd
 ·rcases MP (m:=m+1) (k:=k) x1.wf s1 (a:=a) (b:=b) (c:=c) (V.ext W x1) hb hl hk10 (ha.le (by omega))with ⟨z,h2,hz,k2,y2⟩|⟨hz,p,fr2,h2,c1,arm',lv',fv',k',rfl,k2,f2,s2,hc,a2⟩
  ·exact .inl ⟨z,h2,c0,arm,lv,fv,.inl ⟨h14,hz⟩,PH W h14 k2,.of (x1.trans y2),s1.ext x1.wf y2,ha.le (by omega)⟩
  ·exact .inr ⟨_,_,_,h2,c1,arm',lv',fv',.inl ⟨h14,hz,p,k',rfl,rfl,hc,rfl⟩,PH W h14 k2,(Fx.of x1).trans f2,s2,a2⟩
 by_cases h56:kd=5∨kd=6
 ·rcases PA (m:=m+1) (k:=k) x1.wf s1 (a:=a) (b:=b) (c:=c) hkl hp3 hnd (ha.le (by omega))with ⟨z,h2,hz,k2,y2⟩|⟨hz,j,kx,h2,c1,arm',lv',fv',q1,q2,q3,q4,q5,k2,f2,s2,a2⟩
  ·exact .inl ⟨z,h2,c0,arm,lv,fv,.inr (.inl ⟨h56,hz⟩),PG W h56 k2,.of (x1.trans y2),s1.ext x1.wf y2,ha.le (by omega)⟩
  ·exact .inr ⟨_,_,_,h2,c1,arm',lv',fv',.inr (.inl ⟨h56,j,kx,q1,q2,q5,rfl,rfl,rfl⟩),PG W h56 k2,(Fx.of x1).trans f2,s2,a2⟩
 by_cases h7:kd=7
 ·subst h7
  rcases US (m:=m) (k:=k) x1.wf s1 (a:=a) (b:=b) (c:=c) hkl hp3 (ha.le (by omega))with ⟨z,h2,hz,k2,y2⟩|⟨hz,j,kx,h2,c1,arm',lv',fv',q1,q2,q3,q4,k2,f2,s2,a2⟩
  ·exact .inl ⟨z,h2,c0,arm,lv,fv,.inr (.inr (.inl ⟨rfl,hz⟩)),M1 W k2,.of (x1.trans y2),s1.ext x1.wf y2,ha.le (by omega)⟩
  ·exact .inr ⟨_,_,_,h2,c1,arm',lv',fv',.inr (.inr (.inl ⟨rfl,j,kx,q1,q2,q4,rfl,rfl,rfl⟩)),M1 W k2,(Fx.of x1).trans f2,s2,a2⟩
 by_cases h8:kd=8
 ·subst h8
  have hdl:(drO a b c ks).length≤10:=by
   unfold drO
   rw[List.length_reverse]
   exact Nat.le_trans (List.length_filter_le _ _) hk10
  obtain⟨h2,c1,arm',lv',fv',k2,f2,s2,a2⟩:=XR (m:=m) (k:=k) x1.wf s1 a b c hkl hp3 (ha.le (by omega))
  exact .inr ⟨_,_,_,h2,c1,arm',lv',fv',.inr (.inr (.inr ⟨rfl,rfl,rfl,rfl⟩)),W3 W k2,(Fx.of x1).trans f2,s2,a2⟩
 ·exact .inl ⟨0,_,c0,arm,lv,fv,.inr (.inr (.inr (.inr ⟨h14,fun h=>h56 (.inl h),fun h=>h56 (.inr h),h7,h8,rfl⟩))),W5 W h14 (fun h=>h56 (.inl h)) (fun h=>h56 (.inr h)) h7 h8,.of x1,s1,ha.le (by omega)⟩
end
end
noncomputable section
open Go
set_option maxRecDepth 100000
theorem Uz:∀ (A:List Kt) (x:Kt),(IG A x).Perm (x::A):=fun A x=>by
 unfold IG
 refine(List.reverse_perm _).trans ?_
 have:∀ l:List Kt,(IF x l).Perm (x::l):=fun l=>by
  induction l with
  |nil=>exact .refl _
  |cons y r ih=>
   rw[NO]
   split
   ·exact(ih.cons y).trans (.swap x y r)
   ·exact .refl _
 exact(this _).trans ((List.reverse_perm A).cons x)
theorem Q3:∀ (B A:List Kt),(srt A B).Perm (A++B)
 |[],A=>by
  rw[List.append_nil];exact .refl _
 |x::B,A=>by
  show(srt (IG A x) B).Perm _
  exact(Q3 B _).trans (((Uz A x).append_right B).trans List.perm_middle.symm)
theorem IR(l:List Kt):(DS l).Perm l:=by
 unfold DS
 have:=Q3 (l.drop 1) (l.take 1)
 rwa [List.take_append_drop]at this
def Kt.key(k:Kt):Int×Int×Int:=(k.a,k.b,k.c)
def Kt.plc(k:Kt):Nat:=k.p
structure InvS (ks:List Kt)(fr:List Nat):Prop where
 key:(ks.map Kt.key).Nodup
 plc:(ks.map Kt.plc++fr).Perm [0,1,2,3,4,5,6,7]
section
variable {T M M':List Nat}{ks ks':List Kt}{fr fr':List Nat}{kd a b c:Int}{l:List Nat}
theorem InvS.len(i:InvS ks fr):ks.length+fr.length=8:=by
 have:=i.plc.length_eq
 rw[List.length_append,List.length_map]at this
 exact this
theorem InvS.lt(i:InvS ks fr):∀ k∈ks,3 * k.p+3≤24:=fun k hk=>by
 have h1:k.p∈ks.map Kt.plc++fr:=List.mem_append_left _ (List.mem_map.2 ⟨k,hk,rfl⟩)
 have h2:=i.plc.mem_iff.1 h1
 simp only[List.mem_cons,List.not_mem_nil,or_false]at h2
 omega
theorem InvS.nd(i:InvS ks fr):(ks.map Kt.plc).Nodup:=(List.nodup_append.1 (i.plc.nodup_iff.2 (by decide))).1
theorem De{α β:Type}{f:α→β}:∀ {l:List α},(l.map f).Nodup→∀ {x y:α},x∈l→y∈l→f x=f y→x=y
 |[],_,x,y,hx,_,_=>by cases hx
 |w::l,h,x,y,hx,hy,hf=>by
  rw[List.map_cons,List.nodup_cons]at h
  rcases List.mem_cons.1 hx with h1|h1
  ·rcases List.mem_cons.1 hy with h2|h2
   ·rw[h1,h2]
   ·exact absurd (List.mem_map.2 ⟨y,h2,by rw[← hf,h1]⟩) h.1
  ·rcases List.mem_cons.1 hy with h2|h2
   ·exact absurd (List.mem_map.2 ⟨x,h1,by rw[hf,h2]⟩) h.1
   ·exact De h.2 h1 h2 hf
theorem PR{x:Kt}(h:Bg a b c x=true):x.key=(a,b,c):=by
 obtain⟨rfl,rfl,rfl⟩:=Jj h
 rfl
theorem Jk{x:Kt}(h:x.key=(a,b,c)):Bg a b c x=true:=by
 unfold Kt.key at h
 injection h with h1 h2
 injection h2 with h2 h3
 unfold Bg
 rw[decide_eq_true h1,decide_eq_true h2,decide_eq_true h3];rfl
theorem Im(hn:(ks.map Kt.key).Nodup){x:Kt}(hx:x∈ks)(hk:x.key=(a,b,c)):ks.find? (Bg a b c)=some x:=by
 cases h:ks.find? (Bg a b c)with
 |none=>exact absurd (Jk hk) (List.find?_eq_none.1 h x hx)
 |some y=>rw[De hn (List.mem_of_find?_eq_some h) hx ((PR (List.find?_some h)).trans hk.symm)]
theorem Ji(P:Kt→Bool):∀ l:List Kt,(l.filter P++l.filter fun k=> !P k).Perm l
 |[]=>.refl _
 |x::l=>by
  cases h:P x
  ·rw[List.filter_cons_of_neg (by rw[h];decide),List.filter_cons_of_pos (by rw[h];rfl)]
   exact List.perm_middle.trans ((Ji P l).cons x)
  ·rw[List.filter_cons_of_pos h,List.filter_cons_of_neg (by rw[h];decide)]
   exact(Ji P l).cons x
theorem InvS.cut(i:InvS ks fr)(P:Kt→Bool){out:List Kt}(ho:out.Perm (ks.filter P)):InvS (ks.filter fun k=> !P k) (frE fr out):=by
 refine⟨List.Pairwise.sublist (List.filter_sublist.map _) i.key,?_⟩
 have h1:(frE fr out).Perm (fr++(ks.filter P).map Kt.plc):=(It out fr).trans ((ho.map Kt.plc).append_left fr)
 have h2:((ks.filter fun k=> !P k).map Kt.plc++(fr++(ks.filter P).map Kt.plc)).Perm (ks.map Kt.plc++fr):=by
  rw[← List.append_assoc]
  refine(List.perm_append_comm).trans ?_
  rw[← List.append_assoc,← List.map_append]
  exact((Ji P ks).map Kt.plc).append_right fr
 exact(h1.append_left _).trans (h2.trans i.plc)
theorem InvS.set(i:InvS ks fr){j:Nat}{x y:Kt}(hj:ks[j]? =some x)(h1:y.key=x.key)(h2:y.p=x.p):InvS (ks.set j y) fr:=by
 have e1:(ks.set j y).map Kt.key=ks.map Kt.key:=by rw[List.map_set,h1];exact MX (by rw[List.getElem?_map,hj];rfl)
 have e2:(ks.set j y).map Kt.plc=ks.map Kt.plc:=by
  rw[List.map_set,show y.plc=x.plc from h2];exact MX (by rw[List.getElem?_map,hj];rfl)
 exact⟨e1 ▸ i.key,e2 ▸ i.plc⟩
theorem XY{P Q:List Kt}(p:Kt→Bool):(P++Q).find? p=(P.find? p).or (Q.find? p):=List.find?_append
theorem JL(i:InvS ks fr)(t:UR T M ks fr kd a b c l M' ks' fr'):InvS ks' fr'∧eB ks' fr'.length kd a b c l 0:=by
 rcases t with ⟨hk,hz,p,k',rfl,rfl,hc,_⟩|⟨hk,j,kx,hj,habc,_,rfl,rfl,_⟩|⟨rfl,j,kx,hj,habc,hst,rfl,rfl,_⟩|⟨rfl,rfl,rfl,_⟩
 ·unfold Eg at hz
  split at hz
  ·cases hz
  rename_i hn
  split at hz
  ·split at hz<;>cases hz
  rename_i hfd
  have ek:k'.key=(a,b,c):=by
   show(k'.core.a,k'.core.b,k'.core.c)=_
   rw[hc]
  have ep:k'.p=p:=congrArg Kc.p hc
  have el:k'.l=l:=congrArg Kc.l hc
  have pm:=IR (ks++[k'])
  have kn:((ks++[k']).map Kt.key).Nodup:=by
   rw[List.map_append,List.nodup_append]
   refine⟨i.key,List.nodup_cons.2 ⟨List.not_mem_nil,List.nodup_nil⟩,fun x hx y hy hxy=>?_⟩
   rw[List.mem_singleton.1 hy]at hxy
   obtain⟨w,hw,rfl⟩:=List.mem_map.1 hx
   exact absurd (Jk (hxy.trans ek)) (List.find?_eq_none.1 hfd w hw)
  have kn':((DS (ks++[k'])).map Kt.key).Nodup:=(pm.map Kt.key).nodup_iff.2 kn
  refine⟨⟨kn',?_⟩,.inl ⟨hk,?_⟩⟩
  ·refine((pm.map Kt.plc).append_right fr').trans (List.Perm.trans ?_ i.plc)
   rw[List.map_append,List.append_assoc]
   show(ks.map Kt.plc++([k'.p]++fr')).Perm _
   rw[ep];exact .refl _
  ·unfold Eg
   rw[if_neg hn,Im kn' (pm.mem_iff.2 (List.mem_append_right _ (List.mem_singleton.2 rfl))) ek]
   simp only
   rw[if_pos el]
 ·have kk:({kx with s:=2}:Kt).key=(a,b,c):=by obtain⟨rfl,rfl,rfl⟩:=habc;rfl
  have i2:=i.set (y:={kx with s:=2}) hj rfl rfl
  have hX:({kx with s:=2}:Kt)∈ks.set j {kx with s:=2}:=List.mem_set (List.getElem?_eq_some_iff.1 hj).1 _
  generalize ks.set j {kx with s:=2}=ksX at i2 hX
  have i3:=i2.cut (elB a b c) (out:=ksX.filter (elB a b c)) (.refl _)
  refine⟨i3,.inr (.inl ⟨hk,?_⟩)⟩
  have hel:elB a b c {kx with s:=2}=false:=by
   obtain⟨rfl,rfl,rfl⟩:=habc
   unfold elB
   rw[decide_eq_false (Int.lt_irrefl _),Bool.and_false]
  unfold Hu
  rw[Im i3.key (List.mem_filter.2 ⟨hX,by rw[hel];rfl⟩) kk]
  exact if_pos rfl
 ·obtain⟨hcut,hPl⟩:=OS hj
  have kk:kx.key=(a,b,c):=by obtain⟨rfl,rfl,rfl⟩:=habc;rfl
  generalize ks.take j=P at *
  generalize ks.drop (j+1)=Q at *
  subst hcut
  have pm:(P++kx::Q).Perm (kx::(P++Q)):=List.perm_middle
  have kn:((kx::(P++Q)).map Kt.key).Nodup:=(pm.map Kt.key).nodup_iff.1 i.key
  rw[List.map_cons,List.nodup_cons]at kn
  refine⟨⟨kn.2,?_⟩,.inr (.inr (.inl ⟨rfl,?_⟩))⟩
  ·refine((GY (fr++[kx.p])).append_left _).trans (List.Perm.trans ?_ i.plc)
   rw[← List.append_assoc]
   refine List.perm_append_comm.trans ?_
   show(kx.plc::((P++Q).map Kt.plc++fr)).Perm _
   exact((pm.map Kt.plc).symm).append_right fr
  ·have hne:(P++Q).find? (Bg a b c)=none:=List.find?_eq_none.2 fun x hx hf=>kn.1 (List.mem_map.2 ⟨x,hx,(PR hf).trans kk.symm⟩)
   have hst':Bx a b c (P++Q)=false:=by
    unfold Bx at hst ⊢
    rw[XY]at hst ⊢
    cases hP:P.find? (FO a b)with
    |some y=>
     rw[hP]at hst
     exact hst
    |none=>
     rw[hP]at hst
     rw[Option.none_or]at hst ⊢
     cases hx:FO a b kx
     ·rw[List.find?_cons_of_neg (by rw[hx];decide)]at hst
      exact hst
     ·rw[List.find?_cons_of_pos hx]at hst
      simp only at hst
      have:=of_decide_eq_false hst
      exact absurd (Int.le_of_eq habc.2.2.symm) this
   unfold abE
   rw[hst',hne,if_neg (by decide)]
 ·have i3:=i.cut (drB a b c) (out:=drO a b c ks) (List.reverse_perm _)
  refine⟨i3,.inr (.inr (.inr (.inl ⟨rfl,?_,rfl⟩)))⟩
  unfold drO
  rw[List.filter_filter,List.filter_eq_nil_iff.2 (fun x _=>by cases drB a b c x<;>decide)];rfl
end
end
noncomputable section
open Go
set_option maxRecDepth 100000
theorem Ij{l l':List Nat}(hl:l.length=l'.length)(h:∀ i,i<l.length→l.getD i 0=l'.getD i 0):l=l':=by
 refine List.ext_getElem hl fun i h1 h2=>?_
 have:=h i h1
 rw[List.getD_eq_getElem?_getD,List.getD_eq_getElem?_getD,List.getElem?_eq_getElem h1,List.getElem?_eq_getElem h2]at this
 exact this
theorem Jp{l:List Nat}{n i:Nat}(h:i<n):(l.take n).getD i 0=l.getD i 0:=by
 rw[List.getD_eq_getElem?_getD,List.getD_eq_getElem?_getD,List.getElem?_take,if_pos h]
theorem Jo{l:List Nat}{n i:Nat}:(l.drop n).getD i 0=l.getD (n+i) 0:=by
 rw[List.getD_eq_getElem?_getD,List.getD_eq_getElem?_getD,List.getElem?_drop]
theorem Tu:∀ (k:Nat) (l:List Nat) (p:Nat) (ns:List Nat) (q:Nat),rdN k l p=some (ns,q)→ns.length=k
 |0,l,p,ns,q,h=>by cases h;rfl
 |k+1,l,p,ns,q,h=>by
  rw[Qj]at h
  cases hu:FP 0 0 (l.drop p)with
  |none=>rw[hu]at h;cases h
  |some vj=>
   obtain⟨v,j⟩:=vj
   rw[hu]at h
   simp only at h
   by_cases hv:v≤1099511627776
   ·rw[if_pos hv]at h
    cases hr:rdN k l (p+j)with
    |none=>rw[hr]at h;cases h
    |some y=>
     obtain⟨vs,q'⟩:=y
     rw[hr]at h
     cases h
     rw[List.length_cons,Tu k l (p+j) vs _ hr]
   ·rw[if_neg hv]at h;cases h
theorem Yh{T:List Nat}{a b c:Int}{s:Nat}{l:List Nat}(h:rightS a b c s l.length=true):KU T (headL T a b c s l) (B6 a.toNat b.toNat c.toNat s l.length (B3 T l)):=by
 obtain⟨h1,h2,h3,h4,h5,h6,h7,h8⟩:=Dg h
 have hst:=Hm T l
 refine(QZ Lo).2 ?_
 have hle:∀ v∈B6 a.toNat b.toNat c.toNat s l.length (B3 T l),v≤1099511627776:=fun v hv=>by
  unfold B6 at hv
  simp only[List.mem_cons,List.mem_nil_iff,or_false]at hv
  omega
 have e0:at6 (B6 a.toNat b.toNat c.toNat s l.length (B3 T l)) 0=s:=rfl
 have e1:at6 (B6 a.toNat b.toNat c.toNat s l.length (B3 T l)) 1=a.toNat:=rfl
 have e2:at6 (B6 a.toNat b.toNat c.toNat s l.length (B3 T l)) 2=b.toNat:=rfl
 have e3:at6 (B6 a.toNat b.toNat c.toNat s l.length (B3 T l)) 3=c.toNat:=rfl
 have e4:at6 (B6 a.toNat b.toNat c.toNat s l.length (B3 T l)) 4=l.length:=rfl
 have e5:at6 (B6 a.toNat b.toNat c.toNat s l.length (B3 T l)) 5=B3 T l:=rfl
 have hr:=K3 (B6 a.toNat b.toNat c.toNat s l.length (B3 T l)) [] (List.replicate (60 - (Bq (B6 a.toNat b.toNat c.toNat s l.length (B3 T l))).length) 0++GZ (B3 T (KZ (B6 a.toNat b.toNat c.toNat s l.length (B3 T l))))) hle
 refine⟨(Bq (B6 a.toNat b.toNat c.toNat s l.length (B3 T l))).length,?_,⟨by rw[e0];omega,by rw[e4];omega,by rw[e5];omega,?_⟩,rfl⟩
 ·have hx:headL T a b c s l=Bq (B6 a.toNat b.toNat c.toNat s l.length (B3 T l))++(List.replicate (60 - (Bq (B6 a.toNat b.toNat c.toNat s l.length (B3 T l))).length) 0++GZ (B3 T (KZ (B6 a.toNat b.toNat c.toNat s l.length (B3 T l))))):=by
   unfold headL EA
   rw[← List.append_assoc];rfl
  rw[hx]
  simp only[List.nil_append,List.length_nil,Nat.zero_add]at hr
  exact hr
 ·rw[e0,e1,e2,e3]
  exact decide_eq_true ⟨by omega,by omega,by omega,by omega,by omega,by omega,h7,by omega⟩
theorem Qa{T:List Nat}{ns:List Nat}{l:List Nat}(hl:l.length=64)(hz:∀ x∈l,x=0):¬ KU T l ns:=fun h=>by
 have hlt:∀ x∈l,x<256:=fun x hx=>by rw[hz x hx];decide
 obtain⟨q,h1,h2,h3⟩:=(QZ hlt).1 h
 have hlen:=Tu _ _ _ _ _ h1
 obtain⟨_,_,_,h4⟩:=h2
 have hs:=(Dg h4).2.2.2.2.2.2.1
 cases ns with
 |nil=>cases hlen
 |cons n ns=>
  have hn:n=1∨n=2:=hs
  have hu:Bz n=[n]:=by
   unfold Bz
   rw[dif_pos (by omega)]
  have:n∈l:=by
   rw[← h3]
   unfold EA KZ Oc
   refine List.mem_append_left _ (List.mem_append_left _ ?_)
   rw[Ei,hu]
   exact List.mem_append_left _ List.mem_cons_self
  have:=hz n this
  omega
end
noncomputable section
open Go
set_option maxRecDepth 100000
theorem H6{l:List Nat}{j r:Nat}(hr:r<64):(Cd l j).getD r 0=l.getD (64 * j+r) 0:=by
 unfold Cd
 have hl:((l.drop (64 * j)).take 64).length=min 64 (l.length - 64 * j):=by rw[List.length_take,List.length_drop]
 rcases Nat.lt_or_ge r ((l.drop (64 * j)).take 64).length with h|h
 ·rw[List.getD_eq_getElem?_getD,List.getElem?_append_left h,← List.getD_eq_getElem?_getD,Jp hr,Jo]
 ·rw[List.getD_eq_getElem?_getD,List.getElem?_append_right h,List.getElem?_replicate]
  have:l.getD (64 * j+r) 0=0:=by
   rw[List.getD_eq_getElem?_getD,List.getElem?_eq_none (by omega)];rfl
  rw[this]
  split<;>rfl
theorem XL{T M l H:List Nat}{n p:Nat}(hM:M.length=64 * n)(hp:3 * p+3≤n)(hl:1≤l.length∧l.length≤100)(hH:H.length=64):
  (C2 T M p l H).length=64 * n∧∀ x,(C2 T M p l H).getD x 0=if x / 64=3 * p then H.getD (x % 64) 0 else if x / 64=3 * p+1 then l.getD (x % 64) 0 else if x / 64=3 * p+2∧64<l.length then l.getD (64+x % 64) 0 else M.getD x 0:=by
 have hk:(l.length+63) / 64=1∨(l.length+63) / 64=2:=by omega
 rcases hk with hk|hk
 ·have e:C2 T M p l H=Ho (Ho M (p * 3+1+0) (Cd l 0)) (p * 3) H:=by
   unfold C2 JP Fk
   rw[hk];rfl
  have l1:=C5 hM (show p * 3+1+0<n by omega) (CW l 0)
  rw[e]
  refine⟨C5 l1 (by omega) hH,fun x=>?_⟩
  rw[D0 l1 (by omega) hH,D0 hM (show p * 3+1+0<n by omega) (CW l 0),H6 (by omega),Nat.mul_zero,Nat.zero_add,Nat.mul_comm p 3,Nat.add_zero]
  by_cases h1:x / 64=3 * p
  ·rw[if_pos h1,if_pos h1]
  ·rw[if_neg h1,if_neg h1]
   by_cases h2:x / 64=3 * p+1
   ·rw[if_pos h2,if_pos h2]
   ·rw[if_neg h2,if_neg h2,if_neg (by omega)]
 ·have e:C2 T M p l H=Ho (Ho (Ho M (p * 3+1+0) (Cd l 0)) (p * 3+1+1) (Cd l 1)) (p * 3) H:=by
   unfold C2 JP Fk
   rw[hk];rfl
  have l1:=C5 hM (show p * 3+1+0<n by omega) (CW l 0)
  have l2:=C5 l1 (show p * 3+1+1<n by omega) (CW l 1)
  rw[e]
  refine⟨C5 l2 (by omega) hH,fun x=>?_⟩
  rw[D0 l2 (by omega) hH,D0 l1 (show p * 3+1+1<n by omega) (CW l 1),D0 hM (show p * 3+1+0<n by omega) (CW l 0),H6 (by omega),H6 (by omega),Nat.mul_zero,Nat.zero_add,Nat.mul_comm p 3,Nat.add_zero,Nat.mul_one]
  by_cases h1:x / 64=3 * p
  ·rw[if_pos h1,if_pos h1]
  ·rw[if_neg h1,if_neg h1]
   by_cases h2:x / 64=3 * p+1
   ·rw[if_neg (by omega),if_pos h2,if_pos h2]
   ·rw[if_neg h2]
    by_cases h3:x / 64=3 * p+2
    ·rw[if_pos (show x / 64=3 * p+1+1 by omega),if_neg h2,if_pos (show x / 64=3 * p+2∧64<l.length from⟨h3,by omega⟩)]
    ·rw[if_neg (show ¬ x / 64=3 * p+1+1 by omega),if_neg h2,if_neg (show ¬ (x / 64=3 * p+2∧64<l.length)by omega)]
theorem Wr{M H:List Nat}{n p:Nat}(hM:M.length=64 * n)(hp:3 * p+3≤n)(hH:H.length=64):(Fv M p H).length=64 * n∧∀ x,(Fv M p H).getD x 0=if x / 64=3 * p then H.getD (x % 64) 0 else M.getD x 0:=by
 have e:Fv M p H=Ho M (p * 3) H:=rfl
 rw[e]
 refine⟨C5 hM (by omega) hH,fun x=>?_⟩
 rw[D0 hM (by omega) hH,Nat.mul_comm p 3]
theorem Qo{n x:Nat}:(List.replicate n 0).getD x 0=0:=by
 rw[List.getD_eq_getElem?_getD,List.getElem?_replicate]
 split<;>rfl
def OQ:List Nat:=List.replicate (64 * 24) 0
section
variable {T b:List Nat}(hl:1≤b.length∧b.length≤100)
include hl
end
theorem JE{M:List Nat}{i r:Nat}(hr:r<64):(sec M i).getD r 0=M.getD (64 * i+r) 0:=by
 unfold sec
 rw[Jp hr,Jo]
theorem La{M:List Nat}{p k r:Nat}(hr:r<k):(dat M p k).getD r 0=M.getD (64 * (3 * p+1)+r) 0:=by
 unfold dat
 rw[Jp hr,Jo]
theorem Pe{T M:List Nat}{p:Nat}{a b c:Int}{s:Nat}{l:List Nat}(hr:rightS a b c s l.length=true)(hl:l.length≤100)(h1:sec M (3 * p)=headL T a b c s l)(h2:dat M p l.length=l):
  Gd T M p (B6 a.toNat b.toNat c.toNat s l.length (B3 T l))∧lkN T M p=some (B6 a.toNat b.toNat c.toNat s l.length (B3 T l))∧U5 M p (B6 a.toNat b.toNat c.toNat s l.length (B3 T l))=⟨a,b,c,s,l,p⟩∧Du T M p=false:=by
 obtain⟨g1,g2,g3,g4,g5,g6,_⟩:=Dg hr
 have hH:Gd T M p (B6 a.toNat b.toNat c.toNat s l.length (B3 T l)):=by
  refine⟨by rw[h1];exact Yh hr,hl,?_⟩
  show B3 T (dat M p l.length)=B3 T l
  rw[h2]
 refine⟨hH,Px hH,?_,?_⟩
 ·show(⟨(a.toNat:Int),(b.toNat:Int),(c.toNat:Int),s,dat M p l.length,p⟩:Kc)=_
  rw[h2,Int.toNat_of_nonneg g1,Int.toNat_of_nonneg g3,Int.toNat_of_nonneg (by omega)]
 ·cases hb:Du T M p
  ·rfl
  ·exact absurd ⟨_,hH⟩ (G6.1 hb).1
theorem XT{T M:List Nat}{n p:Nat}(hM:M.length=64 * n)(hp:3 * p<n)(h:∀ r,r<64→M.getD (64 * (3 * p)+r) 0=0):lkN T M p=none∧Du T M p=false:=by
 have hl:=JF hM hp
 have hz:∀ x∈sec M (3 * p),x=0:=fun x hx=>by
  obtain⟨i,hi⟩:=List.mem_iff_getElem?.1 hx
  have hil:=(List.getElem?_eq_some_iff.1 hi).1
  have:=JE (M:=M) (i:=3 * p) (r:=i) (by omega)
  rw[h i (by omega),List.getD_eq_getElem?_getD,hi]at this
  exact this
 have hno:¬ ∃ ns,Gd T M p ns:=fun⟨ns,h1,_⟩=>Qa hl hz h1
 refine⟨Pw hno,?_⟩
 cases hb:Du T M p
 ·rfl
 ·rcases (G6.1 hb).2 with ⟨x,hx,h1⟩|⟨ns,h1,_⟩
  ·exact absurd (hz x hx) h1
  ·exact absurd h1 (Qa hl hz)
end
noncomputable section
open Go
set_option maxRecDepth 100000
structure Trn (b:List Nat)(hd:Bool)(k:Nat)(ts:List Nat):Prop where
 lt:∀ t∈ts,t<256
 win:k+ts.length≤if hd=true then 60 else b.length
 four:ts.length≤4
def chg(ts:List Nat):Bool:=ts.any fun t=>decide (t≠0)
section
variable {b ts:List Nat}{hd:Bool}{k:Nat}
variable (hl:1≤b.length∧b.length≤100)(hb:∀ x∈b,x<256)(t:Trn b hd k ts)
include hl t
end
end
noncomputable section
open Go
set_option maxRecDepth 100000
theorem d6:Bv .mt 0 dj.zero=some Oo:=by kernel_rfl
theorem RC:∀ {L:List Value},(∀ v∈L,isW v=true)→∃ T:List Nat,L=T.map wv∧∀ x∈T,x<4294967296
 |[],_=>⟨[],rfl,fun x hx=>by cases hx⟩
 |v::L,h=>by
  obtain⟨n,rfl,hn⟩:=OJ (h v List.mem_cons_self)
  obtain⟨T,rfl,hT⟩:=RC fun x hx=>h x (List.mem_cons_of_mem _ hx)
  refine⟨n::T,rfl,fun x hx=>?_⟩
  rcases List.mem_cons.1 hx with rfl|hx
  ·exact hn
  ·exact hT x hx
theorem lS{T:List Nat}(h1:T.length=256)(h2:∀ x∈T,x<4294967296):TblOk T:=⟨h1,fun i=>by
 rw[List.getD_eq_getElem?_getD]
 cases h:T[i]? with
 |none=>decide
 |some x=>exact h2 x (List.mem_of_getElem? h)⟩
theorem Mt:∀ T:List Nat,BO (T.map wv)=true
 |[]=>rfl
 |x::T=>Mt T
theorem lI{h g:Hp}(W0:h.Wf)(x:h.Ext g){r:Nat}(hr:h.next≤r){L:List Value}(R:g.Row r 0 L)(hL:L.length=256){T:List Nat}(hT:T.length=256):
  storeR 256 (pt r) (.agg ⟨T.map wv⟩) g=.ok noRes (g.wr r 0 (T.map wv))∧h.Ext (g.wr r 0 (T.map wv))∧(g.wr r 0 (T.map wv)).Row r 0 (T.map wv):=by
 have h256:256≤r:=by have:=W0.big;omega
 have hl:(T.map wv).length=256:=by rw[List.length_map];exact hT
 have ho:0+(T.map wv).length≤L.length:=by omega
 have st:=R.storeR (n:=256) (off:=0) x.wf h256 (v:=.agg ⟨T.map wv⟩) hl ho (Mt T)
 have wr:=R.wr_self x.wf ho
 rw[HE (show L.length=(T.map wv).length by omega)]at wr
 exact⟨st,R.wr_ext x hr ho,wr⟩
theorem Fx.ext{S:Nat→Prop}{h h':Hp}(x:Fx S h h')(hs:∀ b,S b→h.next≤b):h.Ext h':=⟨x.next,fun i hi=>x.get i hi fun s=>by have:=hs i s;omega,x.low _ (Nat.min_le_left _ _) (Nat.min_le_right _ _) fun b hb=>Nat.le_trans (Nat.min_le_right _ _) (hs b hb),x.wf⟩
theorem Fx.extF{S:Nat→Prop}{h0 h h':Hp}(x0:h0.Ext h)(x:Fx S h h')(hs:∀ b,S b→h0.next≤b):h0.Ext h':=Fx.ext (S:=S) ((Fx.of x0).trans x) hs
theorem qk(k:Nat):Bk (-1) k:=⟨by omega,by omega,.inl (by omega)⟩
end
noncomputable section
open Go
set_option maxRecDepth 100000
structure OpsS (h:Hp)(v:Value)(n cap:Nat):Prop where
 len:∀ g:Hp,lenSR v g=.ok (.int .i64 (n:Int)) g
 get:∀ i,i<n→i<cap→∃ (r:Nat) (kd a b c no:Int) (u w:Value) (l:List Nat),(∀ g:Hp,h.Ext g→idxSR 7 v (.int .i64 (i:Int)) g=.ok (.pointer (some ⟨r,i * 7,none⟩)) g∧loadN 7 ⟨r,i * 7,none⟩ g=.ok (opV kd a b c no u w) g∧load1 ⟨r,i * 7+5,none⟩ g=.ok u g)∧h.VE u (l.map bv)∧(∀ x∈l,x<256)∧oneCell u=true∧oneCell w=true
section
variable {h:Hp}{A:At}{T M:List Nat}{c0 bad k:Nat}{arm:Int}{ks:List Kt}{fr:List Nat}{lv fv u:Value}{ov:Bool}{l:List Nat}
theorem Sl.all(s:Sl h A T M c0 arm ks fr lv fv bad ov):∀ k∈ks,h.Vals k.u (k.l.map bv)∧k.l.length≤1000∧oneCell k.u=true:=fun x hx=>⟨(s.ko x hx).1.vs.vals,by have:=(s.ko x hx).2.2.1;omega,(s.ko x hx).1.vs.one.2.1⟩
theorem de:∃ T:List Nat,Mb=T.map wv∧TblOk T:=by
 obtain⟨_,_,h1,h2⟩:=Sb
 obtain⟨T,h3,h4⟩:=RC h2
 have hl:T.length=256:=by rw[h3,List.length_map]at h1;exact h1
 exact⟨T,h3,lS hl h4⟩
end
end
end Go.Proofs.YtedbmmfebjfibaaGreat

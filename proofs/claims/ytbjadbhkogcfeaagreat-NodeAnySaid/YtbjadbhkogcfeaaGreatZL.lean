/-
  Part ZL of what Lawan stands on: printed by program, names and spaces cut.
-/
import Derived.Test.YtbjadbhkogcfeaaGreatZK
open Go.Value renaming int→AI
open Go.IntKind renaming i64→AT
open Nat renaming reduceEqDiff→BY,reduceLT→By,reduceAdd→IT,le_refl→If,zero_add→sh,succ→tk,beq→tm,ble→tz,zero_le→uD,lt_or_ge→uG,mul→ur,add_eq→vH,beq_refl→vT,zero_mul→wK,mul_comm→wP,succ_pos→xh,min_eq_left→yj
open Go renaming Value→IN
open List renaming length_append→No,length_map→OF,getElem?_eq_getElem→tW,getD_eq_getElem?_getD→tY,length_cons→tZ,replicate→th,mem_of_getElem?→tq,mem_singleton→uF,append_nil→uH,getElem?_append_right→uI,getElem?_append_left→uJ,getElem?_eq_some_iff→uK,nil_append→uN,mem_append→uP,length_nil→uR,length_singleton→uU,mem_append_right→uY,mem_append_left→uf,drop_zero→uv,drop_of_length_le→vC,take_length→vF,range→vG,take_take→AAj
open Bool renaming not_true→uX,not_not→AA6
open Int renaming ofNat→vW
open Classical renaming byContradiction→ABW
set_option linter.unusedVariables false
set_option linter.unusedSimpArgs false
namespace Go.Proofs.YtbjadbhkogcfeaaGreat
noncomputable section
open Go
set_option maxRecDepth 100000
section
variable {F:ABZ}{e:Env}{h g g1:Hp}{it bd bm bc n k c0:Nat}{l seen:List Nat}{T T0:VT}{cs:List (Nat×List Nat)}{arm:Int}{dn:Bool}
structure FlB (h:Hp)(it bd bm bc n c0:Nat)(cs:List (Nat×List Nat))(arm:Int)(dn:Bool)(T0:VT):Prop where
 wf:h.Wf
 nx:h.next=it+1
 itr:h.bl.get it=.iter (some bc) (c0+cs.length) [] (c0+cs.length)
 disk:h.Row bd 0 (dkL bm bc n arm dn)
 med:h.bl.get bm=.cells T0 (64*n) 0
 has:∀ j,j<64*n->T0.has j
 map:h.bl.get bc=.map (ABr c0 cs) (c0+cs.length)
 lt:bd<it/\bm<it/\bc<it
 ne:bd≠bm/\bc≠bm
 big:256<=bm/\256<=it
 sec:ACr n cs
 key:ADb cs
structure FlI (h:Hp)(it bm bc n c0:Nat)(cs:List (Nat×List Nat))(T0:VT)(seen:List Nat)(g:Hp):Prop where
 wf:g.Wf
 nx:g.next=h.next+seen.length
 lh:(seen=[]/\g.low=h.next/\g.high=0)\/(seen≠[]/\g.low=bm/\g.high+1=h.next+seen.length)
 itr:g.bl.get it=.iter (some bc) (c0+cs.length) seen (c0+cs.length)
 old:∀ i,i<h.next->i≠it->i≠bm->g.bl.get i=h.bl.get i
 med:∃ (T:VT) (done:List (Nat×List Nat)),g.bl.get bm=.cells T (64*n) 0/\ACO T0 done T/\∀ y,y∈done↔∃ i:Nat,cs[i]? =some y/\c0+i∈seen
 cnt:seen.length+(AB8 seen (ABr c0 cs)).length=cs.length
theorem MY{s:Nat}:∀ l:List Nat,Qs (l++[s])=some s
 |[]=>rfl
 |[x]=>rfl
 |x::y::l=>MY (y::l)
theorem RU(s:Nat):∀ l:List Nat,Jm s l=l++[s]
 |[]=>rfl
 |x::l=>congrArg (x:: ·) (RU s l)
theorem M1{h g:Hp}{b el:Nat}{L:List IN}(r:h.Row b el L)(hb:g.bl.get b=h.bl.get b):g.Row b el L:=by
 obtain⟨c,hc,hl⟩:=r;exact⟨c,hb.trans hc,hl⟩
theorem Z7{g:Hp}{it:Nat}{v:R}(hv:GZ ⟨it,0,none⟩ g=v){e:Env}(he:J 21 e=pt it):HI (J 21) F e g=v:=by
 show(match Dz (J 21 e)with|.ok a=>bif tm a.off 0 then GZ a g else .no|.no=>.no)=_;rw[he];exact hv
theorem i7{g:Hp}{it:Nat}{v:R}(hv:KJ ⟨it,0,none⟩ g=v){e:Env}(he:J 21 e=pt it):Iz (J 21) F e g=v:=by
 show(match Dz (J 21 e)with|.ok a=>bif tm a.off 0 then KJ a g else .no|.no=>.no)=_;rw[he];exact hv
theorem QO{g:Hp}{it i:Nat}{y:Nat×List Nat}(hi:cs[i]? =some y){s0:Nat}(hit:g.bl.get it=.iter (some bc) s0 (seen++[c0+i]) (c0+cs.length))(hm:g.bl.get bc=.map (ABr c0 cs) (c0+cs.length)):KJ ⟨it,0,none⟩ g=.ok (.tuple ⟨[AI AT (y.1:Int),Dp y.2]⟩) g:=by
 have hib:EW (g.bl.get it)=.ok (some bc) s0 (seen++[c0+i]) (c0+cs.length):=by rw[hit];rfl
 have he:Bj g bc=.ok (ABr c0 cs) (c0+cs.length):=by unfold Bj;rw[hm];rfl
 unfold KJ;simp only[hib,MY];unfold H4;simp only[he,vT,cond_true,H5 hi]
theorem UX:J 0 (C8 e fK.ws)=J 0 e/\J 21 (C8 e fK.ws)=J 21 e:=by
 constructor
 ·simp[fK,C8,AG]
 ·simp[fK,C8,AG]
theorem et(B:FlB h it bd bm bc n c0 cs arm dn T0)(I:FlI h it bm bc n c0 cs T0 seen g)(s0:J 0 e=pt bd)(s21:J 21 e=pt it){x:Ent}(hx:x∈AB8 seen (ABr c0 cs)):
  ∃ h1,OW fK fB F e it bc (c0+cs.length) seen g x=some h1/\FlI h it bm bc n c0 cs T0 (seen++[x.born]) h1:=by
 obtain⟨hx1,hns⟩:=M0 hx;obtain⟨i,y,hi,rfl⟩:=QP hx1;have hns:c0+i∉seen:=hns;obtain⟨y1,y2,y3⟩:=B.sec y (tq hi);have hil:i<cs.length:=(uK.1 hi).1;obtain⟨T,done,t1,t2,t3⟩:=I.med;have hnd:∀ z∈done,z.1≠y.1:=fun z hz he=>by
  obtain⟨j,j1,j2⟩:=(t3 z).1 hz;have:=B.key j i z y j1 hi he;rw[this]at j2;exact hns j2
 obtain⟨T',hs,ht'⟩:=t2.step B.has (k:=y.1) (l:=y.2) (by omega) y2 hnd;have hnx:=I.nx;have hbn:=B.nx;have hlt:=B.lt;have hne:=B.ne;have ADf:=B.big;have AGB:it<g.next:=by omega
 have W0:=I.wf.put AGB (.pick bc (c0+i) (c0+cs.length) (some seen));have P0:=I.wf.ACD AGB (.pick bc (c0+i) (c0+cs.length) (some seen));have e1:g.bl.set it (.pick bc (c0+i) (c0+cs.length) (some seen))=some (g.bl.lay it (.pick bc (c0+i) (c0+cs.length) (some seen))):=BT.ACG fun j hj=>I.wf.has j (by omega)
 have lo0:(g.put it (.pick bc (c0+i) (c0+cs.length) (some seen))).low=min g.low it:=BW _ _;have hi0:(g.put it (.pick bc (c0+i) (c0+cs.length) (some seen))).high=max g.high it:=B7 _ _;have n0:(g.put it (.pick bc (c0+i) (c0+cs.length) (some seen))).next=g.next:=rfl;have eg:(⟨g.next,CC g.low it,C5 g.high it,g.mark,g.bl.lay it (.pick bc (c0+i) (c0+cs.length) (some seen))⟩:Hp)=g.put it (.pick bc (c0+i) (c0+cs.length) (some seen)):=rfl;generalize g.put it (.pick bc (c0+i) (c0+cs.length) (some seen))=g0 at W0 P0 lo0 hi0 n0 eg;have e2:g0.bl.set it (.iter (some bc) (c0+cs.length) (seen++[c0+i]) (c0+cs.length))=some (g0.bl.lay it (.iter (some bc) (c0+cs.length) (seen++[c0+i]) (c0+cs.length))):=BT.ACG fun j hj=>W0.has j (by omega)
 have G2:∀ j,(g0.bl.lay it (.iter (some bc) (c0+cs.length) (seen++[c0+i]) (c0+cs.length))).get j=if j=it then .iter (some bc) (c0+cs.length) (seen++[c0+i]) (c0+cs.length)else g0.bl.get j:=BT.ACW fun j hj=>W0.has j (by omega)
 have W2:(⟨g0.next,g0.low,g0.high,g0.mark,g0.bl.lay it (.iter (some bc) (c0+cs.length) (seen++[c0+i]) (c0+cs.length))⟩:Hp).Wf:=⟨W0.big,fun j hj=>BT.ACd (fun j hj=>W0.has j (by omega)) j (.inr (W0.has j hj)),fun j hj=>by
  have hj:g0.next<=j:=hj;show(g0.bl.lay _ _).get j=_;rw[G2,if_neg (by omega)];exact W0.fresh j hj⟩
 have AEc:g0.bl.get bc=.map (ABr c0 cs) (c0+cs.length):=by rw[P0,if_neg (by omega),I.old bc (by omega) (by omega) hne.2];exact B.map
 have nxv:GZ ⟨it,0,none⟩ g0=.ok (.tuple ⟨[.bool true,AI AT (y.1:Int),Dp y.2]⟩) ⟨g0.next,g0.low,g0.high,g0.mark,g0.bl.lay it (.iter (some bc) (c0+cs.length) (seen++[c0+i]) (c0+cs.length))⟩:=by
  have hib:EW (g0.bl.get it)=.pick bc (c0+i) (c0+cs.length) (some seen):=by rw[P0,if_pos rfl];rfl
  have he:Bj g0 bc=.ok (ABr c0 cs) (c0+cs.length):=by unfold Bj;rw[AEc];rfl
  have hp:Ms bc (c0+i) (c0+cs.length) (some seen)=.iter (some bc) (c0+cs.length) (seen++[c0+i]) (c0+cs.length):=by unfold Ms;simp only[RU]
  unfold GZ;simp only[hib,he,H5 hi,hp,e2]
 have lo2:(⟨g0.next,g0.low,g0.high,g0.mark,g0.bl.lay it (.iter (some bc) (c0+cs.length) (seen++[c0+i]) (c0+cs.length))⟩:Hp).low=min g.low it:=lo0;have hi2:(⟨g0.next,g0.low,g0.high,g0.mark,g0.bl.lay it (.iter (some bc) (c0+cs.length) (seen++[c0+i]) (c0+cs.length))⟩:Hp).high=max g.high it:=hi0;have n2:(⟨g0.next,g0.low,g0.high,g0.mark,g0.bl.lay it (.iter (some bc) (c0+cs.length) (seen++[c0+i]) (c0+cs.length))⟩:Hp).next=g.next:=n0;have G2:∀ j,(⟨g0.next,g0.low,g0.high,g0.mark,g0.bl.lay it (.iter (some bc) (c0+cs.length) (seen++[c0+i]) (c0+cs.length))⟩:Hp).bl.get j=if j=it then .iter (some bc) (c0+cs.length) (seen++[c0+i]) (c0+cs.length)else g0.bl.get j:=G2
 generalize (⟨g0.next,g0.low,g0.high,g0.mark,g0.bl.lay it (.iter (some bc) (c0+cs.length) (seen++[c0+i]) (c0+cs.length))⟩:Hp)=g2 at W2 nxv lo2 hi2 n2 G2;have ADo:∀ j,j≠it->g2.bl.get j=g.bl.get j:=fun j hj=>by rw[G2,if_neg hj,P0,if_neg hj]
 have env:=QO (g:=g2) hi (G2 it |>.trans (if_pos rfl)) (by rw[G2,if_neg (by omega)];exact AEc);obtain⟨c1,c2⟩:=UX (e:=e);obtain⟨e',g',r1,r2,r3,r4,r5,r6,r7,r8,r9⟩:=Qa (F:=F) (e:=C8 e fK.ws) (g:=g0) (g1:=g2) (it:=it) (bd:=bd) (bm:=bm) (bc:=bc) (n:=n) (k:=y.1) (l:=y.2) (T:=T) (arm:=arm) (dn:=dn) W2 (c1.trans s0) (c2.trans s21)
  (fun e he=>Z7 nxv he) (fun e he=>i7 env he) (M1 B.disk (by rw[ADo bd (by omega),I.old bd (by omega) (by omega) hne.1])) (by rw[ADo bm (by omega)];exact t1) hs y1 y2 ADf.1 (by omega)
 refine⟨g',?_,⟨r4,?_,.inr ⟨by simp,?_,?_⟩,?_,fun j h1 h2 h3=>?_,⟨T',done++[(y.1,y.2)],r6,ht',fun z=>?_⟩,?_⟩⟩
 ·unfold OW
  show(match g.bl.set it (.pick bc (c0+i) (c0+cs.length) (some seen))with|some bl=>(match fB F (C8 e fK.ws) {next:=g.next,low:=CC g.low it,high:=C5 g.high it,mark:=g.mark,bl:=bl}with|.norm _ h1=>some h1|_=>none)|none=>none)=_;rw[e1];simp only[eg,r1]
 ·rw[r5,n2,hnx,No];rfl
 ·rw[r8,lo2,n2]
  rcases I.lh with ⟨_,h2,_⟩|⟨_,h2,_⟩<;>omega
 ·rw[r9,hi2,n2,No]
  show _=h.next+(seen.length+1);rcases I.lh with ⟨_,_,h3⟩|⟨_,_,h3⟩<;>omega
 ·rw[r7 it (by omega) (by omega),G2,if_pos rfl]
 ·rw[r7 j (by omega) h3,ADo j h2];exact I.old j h1 h2 h3
 ·constructor
  ·intro hz
   rcases uP.1 hz with hz|hz
   ·obtain⟨j,j1,j2⟩:=(t3 z).1 hz
    exact⟨j,j1,uf _ j2⟩
   ·obtain rfl:=uF.1 hz
    exact⟨i,hi,uY _ (uF.2 rfl)⟩
  ·rintro⟨j,j1,j2⟩
   rcases uP.1 j2 with j2|j2
   ·exact uf _ ((t3 z).2 ⟨j,j1,j2⟩)
   ·have:c0+j=c0+i:=uF.1 j2
    have:j=i:=by omega
    rw[this,hi]at j1;cases j1;exact uY _ (uF.2 rfl)
 ·have:=Ri (seen:=seen) (cs:=cs) (c:=c0) hil hns
  have h2:=I.cnt;show(seen++[c0+i]).length+(AB8 (seen++[c0+i]) (ABr c0 cs)).length=_;rw[No,uU];omega
def FlR(h:Hp)(it bm n:Nat)(cs:List (Nat×List Nat))(Tz:VT)(r:Hp):Prop:=r.next=h.next+cs.length/\r.low=bm/\r.high+1=h.next+cs.length/\∀ i,r.bl.get i=if i=it\/h.next<=i then .dead else if i=bm then .cells Tz (64*n) 0 else h.bl.get i
theorem Uy{r:Hp}{Tz:VT}(B:FlB h it bd bm bc n c0 cs arm dn T0)(hz:ACO T0 cs Tz)(hR:FlR h it bm n cs Tz r)(h0:cs≠[])(s0:J 0 e=pt bd)(s21:J 21 e=pt it):∀ (m:Nat) (seen:List Nat) (g:Hp) (tr:Rds),FlI h it bm bc n c0 cs T0 seen g->(AB8 seen (ABr c0 cs)).length<m->Ky fK fB F e it (Wy it h.next r) m g tr=true
 |0,_,_,_,_,hm=>absurd hm (Nat.not_lt_zero _)
 |m+1,seen,g,tr,I,hm=>by
  have hib:EW (g.bl.get it)=.ok (some bc) (c0+cs.length) seen (c0+cs.length):=by rw[I.itr];rfl
  have hlt:=B.lt;have hbn:=B.nx;have hnx:=I.nx;have hmap:g.bl.get bc=.map (ABr c0 cs) (c0+cs.length):=by rw[I.old bc (by omega) (by omega) B.ne.2];exact B.map
  have he:Bj g bc=.ok (ABr c0 cs) (c0+cs.length):=by unfold Bj;rw[hmap];rfl
  unfold Ky N2;simp only[hib,he,vT,cond_true,LA (uD c0) (If (c0+cs.length))];cases hr:AB8 seen (ABr c0 cs)with
  |nil=>
   simp only;have hc:=I.cnt;rw[hr]at hc;have hc:seen.length=cs.length:=hc;have hlen:0<cs.length:=by
    cases cs with
    |nil=>exact absurd rfl h0
    |cons _ _=>exact xh _
   obtain⟨T,done,t1,t2,t3⟩:=I.med;have hT:T=Tz:=t2.uniq hz fun y=>by
    rw[t3 y];constructor
    ·rintro⟨i,hi,_⟩;exact tq hi
    ·intro hy
     obtain⟨i,hi⟩:=List.mem_iff_getElem?.1 hy;refine⟨i,hi,?_⟩;apply ABW;intro hn;have h1:(⟨AI AT (y.1:Int),Dp y.2,c0+i⟩:Ent)∈ABr c0 cs:=(KM (H5 hi)).1;have:=Mz h1 hn;rw[hr]at this;cases this
   obtain⟨q1,q2,q3,q4⟩:=hR;rcases I.lh with ⟨h1,_,_⟩|⟨_,h2,h3⟩
   ·rw[h1]at hc
    have:0=cs.length:=hc;omega
   refine Ou.2 ⟨by rw[hnx,q1,hc],by rw[q2,BW,h2];omega,by rw[B7];omega,fun i=>?_⟩;rw[q4];by_cases c1:i=it\/h.next<=i
   ·rw[if_pos c1,if_pos c1]
   ·rw[if_neg c1,if_neg c1]
    by_cases c2:i=bm
    ·rw[if_pos c2,c2,t1,hT]
    ·rw[if_neg c2,I.old i (by omega) (by omega) c2]
  |cons y l=>
   simp only;rw[hr]at hm;refine Pw fun x hx=>?_
   rw[<- hr]at hx;obtain⟨h1,e1,I1⟩:=et (F:=F) (e:=e) B I s0 s21 hx;rw[e1];refine Uy B hz hR h0 s0 s21 m _ h1 _ I1 ?_;have c1:=I1.cnt;have c2:=I.cnt;rw[hr]at c2;rw[No,uU]at c1;simp only[tZ]at c2 hm;omega
end
end
noncomputable section
open Go
set_option maxRecDepth 100000
section
variable {F:ABZ}{e:Env}{h g g1:Hp}{it bd bm bc n k c0:Nat}{l seen:List Nat}{T T0:VT}{M:List Nat}{cs:List (Nat×List Nat)}{arm:Int}{dn:Bool}
def K9:Nat->Hp->Hp
 |0,h=>h
 |k+1,h=>K9 k (h.push .dead)
theorem RT:∀ (k:Nat) {h:Hp} (W:h.Wf),(K9 k h).Wf/\(K9 k h).next=h.next+k/\∀ i,(K9 k h).bl.get i=h.bl.get i
 |0,h,W=>⟨W,rfl,fun _=>rfl⟩
 |k+1,h,W=>by
  obtain⟨a,b,c⟩:=RT k (W.push .dead);refine⟨a,?_,fun i=>?_⟩
  ·show(K9 k (h.push .dead)).next=_
   rw[b];show h.next+1+k=_;omega
  ·show(K9 k (h.push .dead)).bl.get i=_
   rw[c,W.ABx];by_cases hi:i=h.next
   ·rw[if_pos hi,W.fresh i (by omega)]
   ·rw[if_neg hi]
theorem oH(B:FlB h it bd bm bc n c0 cs arm dn T0)(h0:cs≠[])(Tz:VT):∃ r,FlR h it bm n cs Tz r/\∀ i,i<r.next->r.bl.has i:=by
 have hbn:=B.nx;have hlt:=B.lt;have W1:=B.wf.put (b:=it) (by omega) .dead;have P1:=B.wf.ACD (b:=it) (by omega) .dead;have W2:=W1.put (b:=bm) (show bm<h.next by omega) (.cells Tz (64*n) 0);have P2:=W1.ACD (b:=bm) (show bm<h.next by omega) (.cells Tz (64*n) 0);obtain⟨a,b,c⟩:=RT cs.length W2;have hlen:0<cs.length:=by
  cases cs with
  |nil=>exact absurd rfl h0
  |cons _ _=>exact xh _
 refine⟨⟨h.next+cs.length,bm,h.next+cs.length - 1,0,(K9 cs.length ((h.put it .dead).put bm (.cells Tz (64*n) 0))).bl⟩,⟨rfl,rfl,by show h.next+cs.length - 1+1=_;omega,fun i=>?_⟩,fun i hi=>a.has i (by rw[b];exact hi)⟩;show(K9 cs.length ((h.put it .dead).put bm (.cells Tz (64*n) 0))).bl.get i=_;rw[c,P2,P1];by_cases c1:i=it
 ·rw[if_neg (by omega),if_pos c1,if_pos (.inl c1)]
 ·by_cases c2:h.next<=i
  ·rw[if_neg (by omega),if_neg c1,if_pos (.inr c2)]
   exact B.wf.fresh i c2
  ·rw[if_neg (by omega:¬ (i=it\/h.next<=i)),if_neg c1]
theorem eo(B:FlB h it bd bm bc n c0 cs arm dn T0){y z:Nat×List Nat}{rs:List (Nat×List Nat)}(hcs:cs=y::z::rs)(h60:cs.length<=60)(s0:J 0 e=pt bd)(s21:J 21 e=pt it):
  ∃ e' h',fW F e h=.exit 0 e' h'/\J 0 e'=pt bd/\h'.Wf/\h.next<=h'.next/\(∀ i,i<h.next->i≠it->i≠bm->h'.bl.get i=h.bl.get i)/\∃ T,h'.bl.get bm=.cells T (64*n) 0/\ACO T0 cs T/\∀ L,L<=h.low->L<=it->L<=bm->L<=h'.low:=by
 have hbn:=B.nx;have hlt:=B.lt;have ADf:=B.big;have h0:cs≠[]:=by rw[hcs];exact fun h=>by cases h
 obtain⟨Tz,hz⟩:=ACO.all B.has cs [] T0 (.nil T0) B.sec B.key fun y _ z hz=>by cases hz
 have hz:ACO T0 cs Tz:=hz;obtain⟨r,hR,AFM⟩:=oH B h0 Tz;have W1:(⟨h.next,h.next,0,h.mark,h.bl⟩:Hp).Wf:=⟨B.wf.big,B.wf.has,B.wf.fresh⟩;have I0:FlI h it bm bc n c0 cs T0 [] ⟨h.next,h.next,0,h.mark,h.bl⟩:=⟨W1,rfl,.inl ⟨rfl,rfl,rfl⟩,B.itr,fun _ _ _ _=>rfl,⟨T0,[],B.med,.nil T0,fun y=>⟨fun h=>(by cases h),fun⟨_,_,h⟩=>by cases h⟩⟩,by rw[Kj,MG];exact sh _⟩;have S:Oe fK fB F e h it r:=⟨AFM,Uy B hz hR h0 s0 s21 64 [] _ [] I0 (by rw[Kj,MG];omega)⟩;obtain⟨q1,q2,q3,q4⟩:=hR;obtain⟨h',a1,a2,a3,a4,_,a6⟩:=Sp B.wf S (by omega);have hib:EW (h.bl.get it)=.ok (some bc) (c0+cs.length) [] (c0+cs.length):=by rw[B.itr];rfl
 have he:Bj h bc=.ok (ABr c0 cs) (c0+cs.length):=by unfold Bj;rw[B.map];rfl
 refine⟨Env.set 23 (.bool false) (C8 e fK.ws),h',?_,?_,a2,by rw[a3];omega,fun i h1 h2 h3=>?_,Tz,?_,hz,fun L h1 _ h3=>by rw[a6];omega⟩
 ·rw[i9]
  unfold JG;have AFR:J fK.it e=.pointer (some ⟨it,0,none⟩):=s21;have es:ABr c0 cs=⟨AI AT (y.1:Int),Dp y.2,c0⟩::⟨AI AT (z.1:Int),Dp z.2,c0+1⟩::ABr (c0+1+1) rs:=by rw[hcs];rfl
  rw[es]at he;have b2:tz 256 it=true:=Ar.2 ADf.2;simp only[AFR,hib,he,vT,cond_true,b2];exact a1
 ·obtain⟨c1,_⟩:=UX (e:=e)
  rw[AG (by decide) (by decide),if_neg (by decide),c1];exact s0
 ·rw[a4 i h1 h2,q4,if_neg (by omega),if_neg h3]
 ·rw[a4 bm (by omega) (by omega),q4,if_neg (by omega),if_pos rfl]
theorem oG(B:FlB h it bd bm bc n c0 cs arm dn T0){y:Nat×List Nat}(hcs:cs=[y])(s0:J 0 e=pt bd)(s21:J 21 e=pt it):
  ∃ e' h',fW F e h=.exit 0 e' h'/\J 0 e'=pt bd/\h'.Wf/\h.next<=h'.next/\(∀ i,i<h.next->i≠it->i≠bm->h'.bl.get i=h.bl.get i)/\∃ T,h'.bl.get bm=.cells T (64*n) 0/\ACO T0 cs T/\∀ L,L<=h.low->L<=it->L<=bm->L<=h'.low:=by
 have hbn:=B.nx;have hlt:=B.lt;have ADf:=B.big;have hib:EW (h.bl.get it)=.ok (some bc) (c0+cs.length) [] (c0+cs.length):=by rw[B.itr];rfl
 have he:Bj h bc=.ok (ABr c0 cs) (c0+cs.length):=by unfold Bj;rw[B.map];rfl
 have hi:cs[0]? =some y:=by rw[hcs];rfl
 obtain⟨y1,y2,y3⟩:=B.sec y (tq hi);obtain⟨T',hs,ht'⟩:=(ACO.nil T0).step B.has (k:=y.1) (l:=y.2) (by omega) y2 fun z hz=>by cases hz
 have es:ABr c0 cs=[⟨AI AT (y.1:Int),Dp y.2,c0⟩]:=by rw[hcs];rfl
 have hl1:cs.length=1:=by rw[hcs];rfl
 have hlf:K6 (c0+cs.length) [] [⟨AI AT (y.1:Int),Dp y.2,c0⟩]=some [⟨AI AT (y.1:Int),Dp y.2,c0⟩]:=by
  show(bif Nat.blt c0 (c0+cs.length)then some [_]else none)=_;rw[Ba.2 (by omega)];rfl
 have W2:=B.wf.put (b:=it) (by omega) (.iter (some bc) (c0+cs.length) [c0] (c0+cs.length));have P2:=B.wf.ACD (b:=it) (by omega) (.iter (some bc) (c0+cs.length) [c0] (c0+cs.length));have nxv:GZ ⟨it,0,none⟩ h=.ok (.tuple ⟨[.bool true,AI AT (y.1:Int),Dp y.2]⟩) (h.put it (.iter (some bc) (c0+cs.length) [c0] (c0+cs.length))):=by
  unfold GZ;simp only[hib,he,es,hlf,cond_false];have:Jm c0 []=[c0]:=rfl;rw[this,EM B.wf ADf.2 (by omega)]
 have n2:(h.put it (.iter (some bc) (c0+cs.length) [c0] (c0+cs.length))).next=h.next:=rfl;have lo2:(h.put it (.iter (some bc) (c0+cs.length) [c0] (c0+cs.length))).low=min h.low it:=BW _ _;generalize h.put it (.iter (some bc) (c0+cs.length) [c0] (c0+cs.length))=g2 at W2 P2 nxv n2 lo2;have ADo:∀ j,j≠it->g2.bl.get j=h.bl.get j:=fun j hj=>by rw[P2,if_neg hj]
 have env:=QO (g:=g2) (seen:=[]) (c0:=c0) (i:=0) hi (by rw[P2,if_pos rfl];rfl) (by rw[ADo bc (by omega)];exact B.map);obtain⟨e',g',r1,r2,r3,r4,r5,r6,r7,r8,r9⟩:=Qa (F:=F) (e:=e) (g:=h) (g1:=g2) (it:=it) (bd:=bd) (bm:=bm) (bc:=bc) (n:=n) (k:=y.1) (l:=y.2) (T:=T0) (arm:=arm) (dn:=dn) W2 s0 s21
  (fun e he=>Z7 nxv he) (fun e he=>i7 env he) (M1 B.disk (ADo bd (by omega))) ((ADo bm (by omega)).trans B.med) hs y1 y2 ADf.1 (by omega)
 have AGC:∀ j,j<h.next->j≠it->j≠bm->g'.bl.get j=h.bl.get j:=fun j h1 h2 h3=>by rw[r7 j (by omega) h3,ADo j h2]
 have nx2:GZ ⟨it,0,none⟩ g'=.ok (.tuple ⟨[.bool false]⟩) g':=by
  have hib:EW (g'.bl.get it)=.ok (some bc) (c0+cs.length) [c0] (c0+cs.length):=by rw[r7 it (by omega) (by omega),P2,if_pos rfl];rfl
  have he:Bj g' bc=.ok (ABr c0 cs) (c0+cs.length):=by
   unfold Bj;rw[AGC bc (by omega) (by omega) B.ne.2,B.map];rfl
  have hlf:K6 (c0+cs.length) [c0] [⟨AI AT (y.1:Int),Dp y.2,c0⟩]=some []:=by
   show(bif (bif tm c0 c0 then true else false)then some []else _)=_;rw[vT];rfl
  have hyg:FW (c0+cs.length) [⟨AI AT (y.1:Int),Dp y.2,c0⟩]=false:=by
   show(bif tz (c0+cs.length) c0 then true else false)=false;have:tz (c0+cs.length) c0=false:=by
    cases hb:tz (c0+cs.length) c0
    ·rfl
    ·have:=Ar.1 hb;omega
   rw[this];rfl
  unfold GZ;simp only[hib,he,es,hlf,hyg,cond_false];rfl
 have hb2:∃ e2,fB F e' g'=.exit 0 e2 g'/\J 0 e2=pt bd:=by
  have nn:=Z7 (F:=F) nx2 r3;unfold fB;simp only[sT,By,BY,reduceIte,nn,Ao,Ax];exact⟨_,rfl,by simp[AG,r2]⟩
 obtain⟨e2,b1,b2⟩:=hb2;refine⟨e2,g',?_,b2,r4,by omega,AGC,T',r6,by rw[hcs];exact ht',fun L h1 h2 h3=>by rw[r8];omega⟩;rw[i9];unfold JG;have AFR:J fK.it e=.pointer (some ⟨it,0,none⟩):=s21;rw[es]at he;simp only[AFR,hib,he];refine Bb (I:=fun i e1 h1=>(i=0/\e1=e/\h1=h)\/(i=1/\e1=e'/\h1=g')) (Q:=fun x=>x=.exit 0 e2 g') 1 (by omega) (fun i e1 h1 hI=>?_) (.inl ⟨rfl,rfl,rfl⟩);rcases hI with ⟨rfl,rfl,rfl⟩|⟨rfl,rfl,rfl⟩
 ·exact .inl ⟨by omega,e',g',r1,.inr ⟨rfl,rfl,rfl⟩⟩
 ·right
  rw[b1];exact⟨rfl,rfl⟩
theorem ZT{m:Nat}(W:h.Wf)(d:Dk h bd bm bc n M c0 cs arm false){k:Nat}(ha:CI arm (k+1))(hK:ADb cs)(hc:ACr n cs)(h0:cs≠[])(h60:cs.length<=60):
  ∃ h',call AC (m+3) 124 [pt bd] h=.ok (AI AT 0) h'/\Fx (fun b=>b=bd\/b=bm\/b=bc) h h'/\Dk h' bd bm bc n (F5 M cs) (c0+cs.length) [] (GG arm) false:=by
 have k1:=NF (m:=m) d (i:=0) (by have:=d.n1;omega);have k1:call AC (m+2) 133 [pt bd,AI AT 0] h=.ok (AI AT 0) h:=k1;obtain⟨h1,k2,f1,d1⟩:=Vr (m:=m+1) W d ha;have c1:iNe 0 0=false:=B5 rfl;obtain⟨_,l1,_,_⟩:=DV d1.disk;have hlt:=d1.lt f1.wf;have rg:∀ (F:ABZ) (e:Env),J 20 e=.map (some bc)->Kf (J 20) F e h1=.ok (pt h1.next) (h1.push (.iter (some bc) (c0+cs.length) [] (c0+cs.length))):=fun F e he=>by
  have hen:Bj h1 bc=.ok (ABr c0 cs) (c0+cs.length):=by unfold Bj;rw[d1.map];rfl
  unfold Kf;rw[he];simp only[hen];rw[Cz f1.wf];rfl
 have W2:=f1.wf.push (.iter (some bc) (c0+cs.length) [] (c0+cs.length));have P2:=f1.wf.ABx (.iter (some bc) (c0+cs.length) [] (c0+cs.length));have x2:h1.Ext (h1.push (.iter (some bc) (c0+cs.length) [] (c0+cs.length))):=(Hp.Ext.refl f1.wf).push _;have n2:(h1.push (.iter (some bc) (c0+cs.length) [] (c0+cs.length))).next=h1.next+1:=rfl;generalize h1.push (.iter (some bc) (c0+cs.length) [] (c0+cs.length))=h2 at rg W2 P2 x2 n2;have d2:=d1.ext f1.wf x2;obtain⟨T0,t1,t2⟩:=d2.med;rw[OF,d2.len]at t1;have B:FlB h2 h1.next bd bm bc n c0 cs (GG arm) false T0:=⟨W2,n2,by rw[P2,if_pos rfl],d2.disk,t1,fun j hj=>(t2 j (by rw[OF,d2.len];exact hj)).1,d2.map,hlt,⟨d.bdm,fun h=>d.bmc h.symm⟩,⟨d.big.2.1,f1.wf.big⟩,hc,hK⟩;have qN:∀ (F:ABZ) (e:Env),J 0 e=pt bd->J 21 e=pt h1.next->∃ e' h',fW F e h2=.exit 0 e' h'/\J 0 e'=pt bd/\h'.Wf/\h2.next<=h'.next/\(∀ i,i<h2.next->i≠h1.next->i≠bm->h'.bl.get i=h2.bl.get i)/\∃ T,h'.bl.get bm=.cells T (64 * n) 0/\ACO T0 cs T/\∀ L,L<=h2.low->L<=h1.next->L<=bm->L<=h'.low:=fun F e e1 e2=>by
  cases cs with
  |nil=>exact absurd rfl h0
  |cons y l=>
   cases l with
   |nil=>exact oG B rfl e1 e2
   |cons z l=>exact eo B rfl h60 e1 e2
 have pre:∃ e1,Uj (call AC (m+2)) (As e0 0 [pt bd]) h=fS (call AC (m+2)) e1 h2/\J 0 e1=pt bd/\J 21 e1=pt h1.next:=by
  unfold Uj;simp only[iN,IT,sT,By,BY,reduceIte,cA0,k1,k2,AK,AJ,c1,Au,Ai,AH,AO,AN,AQ,sh,l1,rg];exact⟨_,rfl,by simp[AG]⟩
 obtain⟨e1,p1,p2,p3⟩:=pre;obtain⟨e3,h3,w1,w2,w3,w4,w5,T,w6,w7,w8⟩:=qN (call AC (m+2)) e1 p2 p3;have d3:h3.Row bd 0 (dkL bm bc n (GG arm) false):=M1 d2.disk (w5 bd (by omega) (by omega) d.bdm);have m3:h3.bl.get bc=.map (ABr c0 cs) (c0+cs.length):=by rw[w5 bc (by omega) (by omega) (fun h=>d.bmc h.symm)];exact d2.map
 have r3:h3.Row bm 0 ((F5 M cs).map bv):=⟨T,by rw[w6,OF,GX d.len hc],w7.is t2 d.len hc hK⟩;obtain⟨_,l3,_,_⟩:=DV d3;have cl:∀ (F:ABZ) (e:Env),J 37 e=.map (some bc)->FU (J 37) F e h3=.ok ABd (h3.put bc (.map [] (c0+cs.length))):=fun F e he=>by
  have hen:Bj h3 bc=.ok (ABr c0 cs) (c0+cs.length):=by unfold Bj;rw[m3];rfl
  unfold FU;rw[he];simp only[hen];rw[EM w3 d.big.2.2 (by omega)];rfl
 have W4:=w3.put (b:=bc) (by omega) (.map [] (c0+cs.length));have P4:=w3.ACD (b:=bc) (by omega) (.map [] (c0+cs.length));have n4:(h3.put bc (.map [] (c0+cs.length))).next=h3.next:=rfl;have lo4:(h3.put bc (.map [] (c0+cs.length))).low=min h3.low bc:=BW _ _;generalize h3.put bc (.map [] (c0+cs.length))=h4 at cl W4 P4 n4 lo4;refine⟨h4,?_,⟨by have:=f1.next;omega,fun i hi hs=>?_,W4,fun L q1 q2 q3=>by
  have z1:=f1.low L q1 q2 fun b hb=>q3 b (.inl hb)
  have z2:=f1.next;have z3:=x2.low;have z4:=w8 L (by omega) (by omega) (q3 bm (.inr (.inl rfl)));have z5:=q3 bc (.inr (.inr rfl));omega⟩,⟨M1 d3 (by rw[P4,if_neg d.bdc]),M1 r3 (by rw[P4,if_neg d.bmc]),GX d.len hc,Qr d.byt hc,by rw[P4,if_pos rfl];rfl,d.big,d.n1⟩⟩
 ·rw[dM rfl,d8,p1,qy]
  simp only[A9,An,w1,A8,A3];unfold fE;simp only[sT,By,BY,reduceIte,Au,w2,Ai,AH,AO,AN,AQ,sh,l3,cl,lV0]
 ·have hn:=f1.next
  rw[P4,if_neg (fun e=>hs (.inr (.inr e))),w5 i (by omega) (by omega) (fun e=>hs (.inr (.inl e))),x2.get i (by omega),f1.get i hi (fun e=>hs (.inl e))]
end
end
noncomputable section
open Go
set_option maxRecDepth 100000
structure Kt where
 a:Int
 b:Int
 c:Int
 s:Nat
 l:List Nat
 p:Nat
 u:IN
def Af(k:Kt):List IN:=[AI AT k.a,AI AT k.b,AI AT k.c,.int .u8 (k.s:Int),k.u,AI AT (k.p:Int)]
def ktV(k:Kt):IN:=.agg ⟨Af k⟩
def flK(ks:List Kt):List IN:=ks.flatMap Af
theorem Cj:∀ ks:List Kt,(flK ks).length=6*ks.length
 |[]=>rfl
 |k::ks=>by
  show(Af k++flK ks).length=_;rw[No,Cj ks,tZ];show 6+_=_;omega
theorem LY(a b:List Kt):flK (a++b)=flK a++flK b:=List.flatMap_append
theorem Uw:∀ (ks:List Kt) (i:Nat) (k:Kt),ks[i]? =some k->((flK ks).drop (6*i)).take 6=Af k
 |[],i,k,h=>by cases h
 |x::ks,0,k,h=>by
  have h:some x=some k:=h;cases h;show((Af x++flK ks).drop 0).take 6=_;rw[uv];exact List.take_left' rfl
 |x::ks,i+1,k,h=>by
  rw[List.getElem?_cons_succ]at h;show((Af x++flK ks).drop (6*(i+1))).take 6=_;have:6*(i+1)=(Af x).length+6*i:=by show _=6+_;omega
  rw[this,List.drop_length_add_append];exact Uw ks i k h
def Hp.KS(h:Hp)(S:Nat->Prop)(v:IN)(ks:List Kt):Prop:=(v=.slice none 0 0/\ks=[])\/∃ b c el L,v=.slice (some ⟨b,0,none⟩) ks.length c/\ks.length<=c/\h.Row b el L/\6*ks.length<=L.length/\L.take (6*ks.length)=flK ks/\(el=124\/el=0)/\S b
section
variable {h h':Hp}{S S':Nat->Prop}{v:IN}{ks:List Kt}
theorem Hp.KS.keep(o:h.KS S v ks)(hk:∀ b el L,S b->h.Row b el L->h'.Row b el L):h'.KS S v ks:=by
 rcases o with h1|⟨b,c,el,L,h1,h2,h3,h4,h5,h6,h7⟩
 ·exact .inl h1
 ·exact .inr ⟨b,c,el,L,h1,h2,hk _ _ _ h7 h3,h4,h5,h6,h7⟩
theorem Hp.KS.ext(o:h.KS S v ks)(W:h.Wf)(x:h.Ext h'):h'.KS S v ks:=o.keep fun _ _ _ _ r=>r.ext W x
theorem Hp.KS.mono(o:h.KS S v ks)(hs:∀ b,S b->S' b):h.KS S' v ks:=by
 rcases o with h1|⟨b,c,el,L,h1,h2,h3,h4,h5,h6,h7⟩
 ·exact .inl h1
 ·exact .inr ⟨b,c,el,L,h1,h2,h3,h4,h5,h6,hs _ h7⟩
theorem Hp.KS.len(o:h.KS S v ks)(g:Hp):AB2 v g=.ok (AI AT (ks.length:Int)) g:=by
 rcases o with ⟨rfl,rfl⟩|⟨b,c,el,L,rfl,_⟩<;>rfl
theorem Hp.KS.at(o:h.KS S v ks){i:Nat}{k:Kt}(hi:ks[i]? =some k):∃ b,S b/\ACN 6 v (AI AT (i:Int)) h=.ok (.pointer (some ⟨b,6*i,none⟩)) h/\loadN 6 ⟨b,6*i,none⟩ h=.ok (ktV k) h/\∀ j w,(Af k)[j]? =some w->ABa ⟨b,6*i+j,none⟩ h=.ok w h:=by
 have hil:=(uK.1 hi).1;rcases o with ⟨rfl,rfl⟩|⟨b,c,el,L,rfl,h2,h3,h4,h5,h6,h7⟩
 ·cases hi
 ·have hc:(L.drop (6*i)).take 6=Af k:=by
   have:=Uw ks i k hi;rw[<- h5,List.drop_take,AAj,yj (by omega)]at this;exact this
  refine⟨b,h7,?_,?_,fun j w hj=>?_⟩
  ·have:=Ch (h:=h) (n:=ks.length) (c:=c) (es:=6) (b:=b) (off:=0) (i:=i) (k:=.i64) hil
   rwa [sh,wP]at this
  ·rw[h3.loadN (by omega),hc];rfl
  ·have hj6:j<6:=(uK.1 hj).1
   rw[<- hc,List.getElem?_take,if_pos hj6,List.getElem?_drop]at hj;rw[h3.ABa (by omega),tY,hj];rfl
theorem Hp.KS.one(o:h.KS S v ks):cellsOf v=[v]/\oneCell v=true/\known v=true:=by
 rcases o with ⟨rfl,_⟩|⟨b,c,el,L,rfl,_⟩<;>exact⟨rfl,rfl,rfl⟩
end
def Hp.KW(h:Hp)(S:Nat->Prop)(v:IN)(ks:List Kt):Prop:=(v=.slice none 0 0/\ks=[])\/∃ b,v=.slice (some ⟨b,0,none⟩) ks.length ks.length/\h.Row b 124 (flK ks)/\S b
theorem Hp.KW.ks{h:Hp}{S:Nat->Prop}{v:IN}{ks:List Kt}(o:h.KW S v ks):h.KS S v ks:=by
 rcases o with h1|⟨b,h1,h2,h3⟩
 ·exact .inl h1
 ·exact .inr ⟨b,_,_,_,h1,If _,h2,by rw[Cj];omega,by rw[<- Cj,vF],.inl rfl,h3⟩
theorem Hp.KS.ks{h:Hp}{S:Nat->Prop}{v:IN}{ks:List Kt}(o:h.KS S v ks):h.KS S v ks:=o
def Hp.WI(h:Hp)(S:Nat->Prop)(v:IN)(xs:List IN):Prop:=(v=.slice none 0 0/\xs=[])\/∃ b el,v=.slice (some ⟨b,0,none⟩) xs.length xs.length/\h.Row b el xs/\(el=4\/el=0)/\S b
theorem Hp.WI.keep{h h':Hp}{S:Nat->Prop}{v:IN}{xs:List IN}(o:h.WI S v xs)(hk:∀ b el L,S b->h.Row b el L->h'.Row b el L):h'.WI S v xs:=by
 rcases o with h1|⟨b,el,h1,h2,h3,h4⟩
 ·exact .inl h1
 ·exact .inr ⟨b,el,h1,hk _ _ _ h4 h2,h3,h4⟩
theorem Hp.WI.vals{h:Hp}{S:Nat->Prop}{v:IN}{xs:List IN}(o:h.WI S v xs):h.ABy v xs:=by
 rcases o with h1|⟨b,el,h1,h2,h3,h4⟩
 ·exact .inl h1
 ·exact .inr ⟨b,0,_,el,xs,h1,h2,by omega,by rw[uv,vF]⟩
def AEI(h:Hp)(S:Nat->Prop)(k:Kt):Prop:=h.BS S k.u (k.l.map bv)/\(∀ x∈k.l,x<256)/\k.l.length<=100/\(k.s=1\/k.s=2)/\ABp k.a k.b k.c k.s k.l.length=true/\k.p<65536
def slL(bd tb:Nat)(lv fv:IN)(bad:Nat)(ov:Bool):List IN:=[pt bd,pt tb,AI AT 100,lv,fv,AI AT (bad:Int),.bool ov]
structure At where
 bs:Nat
 bd:Nat
 bm:Nat
 bc:Nat
 tb:Nat
 n:Nat
abbrev At.D(A:At):Nat->Prop:=fun b=>b=A.bs\/b=A.bd\/b=A.bm\/b=A.bc
structure Sl (h:Hp)(A:At)(T M:List Nat)(c0:Nat)(arm:Int)(ks:List Kt)(fr:List Nat)(lv fv:IN)(bad:Nat)(ov:Bool):Prop where
 row:h.Row A.bs 0 (slL A.bd A.tb lv fv bad ov)
 dk:Dk h A.bd A.bm A.bc A.n M c0 [] arm false
 tab:h.Row A.tb 0 (T.map wv)
 tok:ACM T
 ls:h.KS (fun b=>¬ A.D b) lv ks
 ko:∀ k∈ks,AEI h (fun b=>¬ A.D b) k
 fs:h.WI (fun b=>¬ A.D b) fv (ints .i64 (fr.map vW))
 ne:A.bs≠A.bd/\A.bs≠A.bm/\A.bs≠A.bc/\¬ A.D A.tb/\256<=A.bs
 le:ks.length<=1000/\fr.length<=1000/\bad<=1000/\∀ p∈fr,3*p+3<=A.n
section
variable {F:ABZ}{e:Env}{h h':Hp}{A:At}{T M:List Nat}{c0 bad m:Nat}{arm:Int}{ks:List Kt}{fr:List Nat}{lv fv:IN}{ov:Bool}
theorem Sl.keep(s:Sl h A T M c0 arm ks fr lv fv bad ov)(hr:∀ b el L,h.Row b el L->h'.Row b el L)(hm:h'.bl.get A.bc=h.bl.get A.bc):Sl h' A T M c0 arm ks fr lv fv bad ov:=
 ⟨hr _ _ _ s.row,⟨hr _ _ _ s.dk.disk,hr _ _ _ s.dk.med,s.dk.len,s.dk.byt,hm.trans s.dk.map,s.dk.big,s.dk.n1⟩,hr _ _ _ s.tab,s.tok,s.ls.keep fun _ _ _ _ r=>hr _ _ _ r,fun k hk=>⟨(s.ko k hk).1.keep fun _ _ _ _ _ r=>hr _ _ _ r,(s.ko k hk).2⟩,s.fs.keep fun _ _ _ _ r=>hr _ _ _ r,s.ne,s.le⟩
theorem Sl.ext(s:Sl h A T M c0 arm ks fr lv fv bad ov)(W:h.Wf)(x:h.Ext h'):Sl h' A T M c0 arm ks fr lv fv bad ov:=s.keep (fun _ _ _ r=>r.ext W x) (x.get _ (s.dk.lt W).2.2)
theorem Sl.same(s:Sl h A T M c0 arm ks fr lv fv bad ov)(hb:h'.bl=h.bl):Sl h' A T M c0 arm ks fr lv fv bad ov:=s.keep (fun _ _ _ r=>r.same hb) (by rw[hb])
theorem BD{bs bd tb:Nat}(R:h.Row bs 0 (slL bd tb lv fv bad ov)):ABa ⟨bs,0,none⟩ h=.ok (pt bd) h/\ABa ⟨bs,1,none⟩ h=.ok (pt tb) h/\ABa ⟨bs,2,none⟩ h=.ok (AI AT 100) h/\ABa ⟨bs,3,none⟩ h=.ok lv h/\ABa ⟨bs,4,none⟩ h=.ok fv h/\ABa ⟨bs,5,none⟩ h=.ok (AI AT (bad:Int)) h/\ABa ⟨bs,6,none⟩ h=.ok (.bool ov) h:=
 ⟨R.ABa (off:=0) (by show 0<7;omega),R.ABa (off:=1) (by show 1<7;omega),R.ABa (off:=2) (by show 2<7;omega),R.ABa (off:=3) (by show 3<7;omega),R.ABa (off:=4) (by show 4<7;omega),R.ABa (off:=5) (by show 5<7;omega),R.ABa (off:=6) (by show 6<7;omega)⟩
theorem rG{a b:Nat}(h1:a*b<=1000000000):FX Int.mul .i64 (AI AT (a:Int)) (AI AT (b:Int)) h=.ok (AI AT ((a*b:Nat):Int)) h:=by
 have:Int.mul (a:Int) (b:Int)=((a*b:Nat):Int):=(Int.natCast_mul a b).symm;rw[Ce,this,Bc (by omega)]
theorem UG{a b:Nat}(h1:a+b<=1000000000):Fs .i64 (AI AT (a:Int)) (AI AT (b:Int)) h=.ok (AI AT ((a+b:Nat):Int)) h:=by
 have:(a:Int)+(b:Int)=((a+b:Nat):Int):=by omega
 rw[EF,this,Bc (by omega)]
theorem OS:OR 100=3:=by decide
theorem Nc{bs bd tb:Nat}(R:h.Row bs 0 (slL bd tb lv fv bad ov)){p:Nat}(hp:p<=65536):call AC (m+2) 100 [pt bs,AI AT (p:Int)] h=.ok (AI AT ((p*3:Nat):Int)) h:=by
 obtain⟨_,_,l2,_⟩:=BD R;have k1:=WF (n:=m) (h:=h) (z:=100);rw[OS]at k1;have a1:=rG (h:=h) (a:=p) (b:=3) (by omega);rw[cz rfl];unfold mN;simp only[iN,IT,sT,By,BY,reduceIte,Au,Ai,AH,AO,sh,AN,AQ,l2,cA0,k1,Bz,a1,lV0]
theorem Hn{f:OpF}{mm:Qm}{v:IN}(W:h.Wf)(hf:f F e h.quiet=.ok v h.quiet)(hm:h.mark<=h.next):Aa mm f F e h=.ok v (h.back h.quiet):=Cp hf (.refl W.quiet) hm
theorem dm{x y z:O}{b N k:Nat}(hx:x e=.slice (some ⟨b,0,none⟩) N N)(hy:y e=AI AT (k:Int))(hz:z e=AI AT (k:Int))(hk:k<=N):Dd 5 1 x none (some y) (some z) F e h=.ok (.slice (some ⟨b,0,none⟩) k k) h:=by
 have hb:∀ (d:Nat) (y:O) (Y:Nat) (K:Nat->R),y e=AI AT (k:Int)->k<=Y->Ci e (some y) d Y K=K k:=fun d y Y K hy hY=>by
  show(match DS (y e)with|.ok n=>(bif tz n Y then K n else .no)|.no=>.no)=_;rw[hy,Db];simp only;rw[Ar.2 hY];rfl
 show(match x e with|.slice a n c=>DO e n c none (some y) (some z) (fun l hh m=>EH 5 1 a true l hh m h)|_=>.no)=_;rw[hx];show Ci e (some z) N N (fun m=>Ci e (some y) N m fun hh=>Ci e none 0 hh fun l=>EH 5 1 (some ⟨b,0,none⟩) true l hh m h)=_;rw[hb _ _ _ _ hz hk,hb _ _ _ _ hy (If _)];show Bv (some ⟨b,0,none⟩) 1 0 k k h=_;unfold Bv;simp only[Am];cases k with
 |zero=>rfl
 |succ k=>rfl
theorem Yq{x y z:O}(hx:x e=.slice none 0 0)(hy:y e=AI AT ((0:Nat):Int))(hz:z e=AI AT ((0:Nat):Int)):Dd 5 1 x none (some y) (some z) F e h=.ok (.slice none 0 0) h:=by
 show(match x e with|.slice a n c=>DO e n c none (some y) (some z) (fun l hh m=>EH 5 1 a true l hh m h)|_=>.no)=_;rw[hx];show(match DS (z e)with|.ok n=>(bif tz n 0 then(match DS (y e)with|.ok n'=>(bif tz n' n then Bv none 1 0 n' n h else .no)|.no=>.no)else .no)|.no=>.no)=_;rw[hy,hz];rfl
def dat(M:List Nat)(p k:Nat):List Nat:=(M.drop (64*(3*p+1))).take k
theorem Y7{M:List Nat}{n p i:Nat}(hM:M.length=64*n)(hi:3*p+1+i<n):dat M p (64*i)++sec M (3*p+1+i)=dat M p (64*(i+1)):=by
 unfold dat sec;have:M.drop (64*(3*p+1+i))=(M.drop (64*(3*p+1))).drop (64*i):=by rw[List.drop_drop];congr 1;omega
 rw[this,show 64*(i+1)=64*i+64 by omega,List.take_add]
theorem LW{M:List Nat}{n p k:Nat}(hM:M.length=64*n)(hk:64*(3*p+1)+k<=64*n):(dat M p k).length=k:=by
 unfold dat;rw[List.length_take,List.length_drop];omega
theorem na{M:List Nat}(hb:∀ x∈M,x<256)(p k:Nat):∀ x∈dat M p k,x<256:=fun x hx=>hb x (List.mem_of_mem_drop (List.mem_of_mem_take hx))
theorem bF:reS=BB (AY 0 (A4 reB)) reE:=rfl
theorem UZ:mX=Ua:=rfl
theorem YP(W:h.Wf){bs bd bm bc tb n:Nat}(R:h.Row bs 0 (slL bd tb lv fv bad ov))(d:Dk h bd bm bc n M c0 [] arm false){p k:Nat}(hp:3*p+3<=n)(hk:k<=128):
  ∃ h' v,call AC (m+4) 113 [pt bs,AI AT (p:Int),AI AT (k:Int)] h=.ok (.tuple ⟨[v,AI AT 0]⟩) h'/\h.Ext h'/\h'.BS (fun b=>h.next<=b) v ((dat M p k).map bv):=by
 have hn:=d.n1;have pre:∃ e1,Ua (call AC (m+3)) (As e0 0 [pt bs,AI AT (p:Int),AI AT (k:Int)]) h=reS (call AC (m+3)) e1 h/\J 0 e1=pt bs/\J 1 e1=AI AT (p:Int)/\J 2 e1=AI AT (k:Int)/\J 8 e1=.slice none 0 0/\J 9 e1=AI AT ((0:Nat):Int):=by
  unfold Ua;simp only[iN,IT,sT,By,BY,reduceIte];exact⟨_,rfl,by simp[AG]⟩
 obtain⟨e1,p1,s0,s1,s2,s8,s9⟩:=pre;have run:∃ e' h' v i,A4 reB (call AC (m+3)) e1 h=.exit 0 e' h'/\h.Ext h'/\h'.Own h.next 5 v ((dat M p (64*i)).map bv)/\k<=64*i/\i<=2/\J 8 e'=v/\J 2 e'=AI AT (k:Int):=by
  refine Bb (I:=fun i e' h'=>∃ v,h.Ext h'/\h'.Own h.next 5 v ((dat M p (64*i)).map bv)/\J 0 e'=pt bs/\J 1 e'=AI AT (p:Int)/\J 2 e'=AI AT (k:Int)/\J 8 e'=v/\J 9 e'=AI AT (i:Int)/\i<=2)
   (Q:=fun x=>∃ e' h' v i,x=.exit 0 e' h'/\h.Ext h'/\h'.Own h.next 5 v ((dat M p (64*i)).map bv)/\k<=64*i/\i<=2/\J 8 e'=v/\J 2 e'=AI AT (k:Int)) 2 (by omega) (fun i e' h' ⟨v,x',o',t0,t1,t2,t8,t9,hi⟩=>?_)
   ⟨_,.refl W,.inl ⟨rfl,rfl⟩,s0,s1,s2,s8,s9,by omega⟩
  have hdl:(dat M p (64*i)).length=64*i:=LW d.len (by omega);have ln:=o'.vals.bl h';rw[hdl]at ln;by_cases hlt:64*i<k
  ·left
   have hi1:i<2:=by omega
   have c1:iLt ((64*i:Nat):Int) (k:Int)=true:=EP hlt;have xm:=x'.marked;have Rm:=(R.ext W xm);have old:∀ (off:Nat) (kk:C) (F:ABZ) (e:Env),I5 (.pointer (some ⟨bs,off,none⟩)) kk F e h'.marked=kk F e h'.marked:=fun off kk F e=>Dm (by
    show bs<h'.next;have:=R.lt W;have:=x'.next;omega)
   obtain⟨l0,_⟩:=BD Rm;have k1:=Nc (m:=m+1) (Rm.same (h':=h'.marked.quiet) rfl) (p:=p) (by omega);have q1:∀ e:Env,J 0 e=pt bs->J 1 e=AI AT (p:Int)->Aa .weak (AS 100 [J 0,J 1]) (call AC (m+3)) e h'.marked=.ok (AI AT ((p*3:Nat):Int)) (h'.marked.back h'.marked.quiet):=fun e e1 e2=>by
    refine Hn x'.wf.marked ?_ (If _);rw[BP,AU,AU,A5,e1,e2];exact k1
   have y2:h'.Ext (h'.marked.back h'.marked.quiet):=Hp.Ext.ACe (Hp.Ext.refl x'.wf).marked (Hp.Ext.refl x'.wf).marked.quiet;have n2:(h'.marked.back h'.marked.quiet).next=h'.next:=rfl;generalize h'.marked.back h'.marked.quiet=h2 at q1 y2 n2;have x2:=x'.trans y2;have a1:=Cd (h:=h2) (i:=p * 3) (by omega);have a2:=UG (h:=h2) (a:=p * 3+1) (b:=i) (by omega);obtain⟨h3,w,k2,y3,mk,n3,_⟩:=V4 (m:=m) x2.quiet.wf ((d.ext W x2).same (h':=h2.quiet) rfl) (i:=p * 3+1+i) (by omega);have q2:∀ e:Env,J 22 e=pt bd->J 28 e=AI AT ((p * 3+1+i:Nat):Int)->Aa .free (AS 109 [J 22,J 28]) (call AC (m+3)) e h2=.ok (.tuple ⟨[w,AI AT 0]⟩) (h2.back h3):=fun e e1 e2=>by
    refine BF ?_;rw[BP,AU,AU,A5,e1,e2];exact k2
   have y4:h2.Ext (h2.back h3):=.back y3;have mk4:Mk (h2.back h3) h2.quiet.next w (sec M (p * 3+1+i)):=mk.same rfl;generalize h2.back h3=h4 at q2 y4 mk4;have x4:=x2.trans y4;have hsl:(sec M (p * 3+1+i)).length=64:=Jq d.len (by omega);obtain⟨h5,v5,k5,x5,o5,n5,fr5⟩:=Er (eb:=1) (en:=5) (k:=h.next) x4 (If _) x4.next ((o'.ext x'.wf y2).ext x2.wf y4) mk4.vals (by rw[OF,hsl];omega) (DB _) (by rw[OF,OF,hdl,hsl];omega);rw[<- List.map_append,show p * 3+1+i=3 * p+1+i by omega,Y7 d.len (by omega)]at o5;have c2:iNe 0 0=false:=B5 rfl;have a3:=Cd (i:=i) (h:=h5) (by omega);have hrun:∃ e2,reB (call AC (m+3)) e' h'=.norm e2 h5/\J 0 e2=pt bs/\J 1 e2=AI AT (p:Int)/\J 2 e2=AI AT (k:Int)/\J 8 e2=v5/\J 9 e2=AI AT ((i+1:Nat):Int):=by
    unfold reB;simp only[sT,By,BY,reduceIte,AX,t8,ln,AK,AJ,t2,c1,Az,Au,t0,Ai,AH,AO,sh,EG,old,DU,AN,AQ,l0,q1,t1,BR,a1,t9,a2,q2,Ao,Ax,A2,c2,BZ,k5,a3];exact⟨_,rfl,by simp[AG,t0,t1,t2]⟩
   obtain⟨e2,r1,r2,r3,r4,r5,r6⟩:=hrun;exact⟨hi1,e2,h5,r1,v5,x5,o5,r2,r3,r4,r5,r6,by omega⟩
  ·right
   have c1:iLt ((64*i:Nat):Int) (k:Int)=false:=Cv (by omega);have hrun:∃ e2,reB (call AC (m+3)) e' h'=.exit 0 e2 h'/\J 8 e2=v/\J 2 e2=AI AT (k:Int):=by
    unfold reB;simp only[sT,By,BY,reduceIte,AX,t8,ln,AK,AJ,t2,c1];exact⟨_,rfl,by simp[AG,t8,t2]⟩
   obtain⟨e2,r1,r2,r3⟩:=hrun;rw[r1];exact⟨rfl,e2,h',v,i,rfl,x',o',by omega,hi,r2,r3⟩
 obtain⟨e2,h2,v,i,r1,x2,o2,hk2,hi2,r2,r3⟩:=run;have hdl:(dat M p (64*i)).length=64*i:=LW d.len (by omega);have htk:(dat M p (64*i)).take k=dat M p k:=by
  unfold dat;rw[AAj,yj hk2]
 have hdk:(dat M p k).length=k:=LW d.len (by omega);rcases o2 with ⟨rfl,hx⟩|⟨b,rfl,R2,hb,ABj⟩
 ·have h0:64*i=0:=by
   have:=congrArg List.length hx;rw[OF,hdl]at this;exact this
  obtain rfl:k=0:=by omega
  have ct:∀ e:Env,J 8 e=.slice none 0 0->J 2 e=AI AT ((0:Nat):Int)->Dd 5 1 (J 8) none (some (J 2)) (some (J 2)) (call AC (m+3)) e h2=.ok (.slice none 0 0) h2:=fun e e1 e2=>Yq e1 e2 e2
  refine⟨h2,.slice none 0 0,?_,x2,.inl ⟨rfl,?_⟩⟩
  ·rw[UP rfl,UZ,p1,bF]
   simp only[A9,An,r1,A8,A3];unfold reE;simp only[sT,By,BY,reduceIte,ct,r2,r3,Ay,CP]
  ·unfold dat;rfl
 ·rw[OF,hdl]at r2
  have ct:∀ e:Env,J 8 e=.slice (some ⟨b,0,none⟩) (64*i) (64*i)->J 2 e=AI AT (k:Int)->Dd 5 1 (J 8) none (some (J 2)) (some (J 2)) (call AC (m+3)) e h2=.ok (.slice (some ⟨b,0,none⟩) k k) h2:=fun e e1 e2=>dm e1 e2 e2 hk2
  refine⟨h2,.slice (some ⟨b,0,none⟩) k k,?_,x2,.inr ⟨b,0,k,6,_,by rw[OF,hdk],by rw[OF,hdk];exact If _,R2,by rw[OF,OF,hdk,hdl];omega,?_,hb,.inr rfl⟩⟩
  ·rw[UP rfl,UZ,p1,bF]
   simp only[A9,An,r1,A8,A3];unfold reE;simp only[sT,By,BY,reduceIte,ct,r2,r3,Ay,CP]
  ·rw[OF,hdk,uv,<- List.map_take,htk]
end
end
noncomputable section
open Go
set_option maxRecDepth 100000
abbrev f86:IN:=.func (.func 111) ⟨[]⟩ ⟨[]⟩
theorem Wk{n:Nat}{h:Hp}{c:Nat}:call AC (n+1) 111 [.int .u8 (c:Int)] h=.ok (.bool (iNe (c:Int) 0)) h:=by
 rw[dF rfl];unfold mV;simp only[iN,IT,sT,By,BY,reduceIte,AK,AJ,lV0]
theorem Zd{n:Nat}{h:Hp}{u:IN}{l:List Nat}(V:h.ABy u (l.map bv))(hl:l.length<=900000){e:Env}(s0:J 0 e=u)(s1:J 1 e=f86)(s7:J 7 e=AI AT (l.length:Int))(s8:J 8 e=AI AT ((0:Nat):Int)):
  (∃ e',A4 ifB (call AC (n+1)) e h=.exit 0 e' h/\∀ x∈l,x=0)\/(∃ e' i,A4 ifB (call AC (n+1)) e h=.ret e' h/\J 4 e'=AI AT ((i:Nat):Int)/\∃ x∈l,x≠0):=by
 refine Bb (I:=fun i e' h'=>h'=h/\J 0 e'=u/\J 1 e'=f86/\J 7 e'=AI AT (l.length:Int)/\J 8 e'=AI AT (i:Int)/\i<=l.length/\((∀ x∈l,x=0)↔∀ x∈l.drop i,x=0))
  (Q:=fun x=>(∃ e',x=.exit 0 e' h/\∀ x∈l,x=0)\/(∃ e' i,x=.ret e' h/\J 4 e'=AI AT ((i:Nat):Int)/\∃ x∈l,x≠0)) l.length (by omega) (fun i e' h' ⟨hh,t0,t1,t7,t8,hi,hr⟩=>?_) ⟨rfl,s0,s1,s7,s8,uD _,by simp⟩
 subst hh;by_cases hlt:i<l.length
 ·obtain⟨a,g1,g2⟩:=JE V hlt
  have hmem:l.getD i 0∈l:=by
   rw[tY,tW hlt];exact List.getElem_mem hlt
  rw[GO hlt]at hr;generalize l.getD i 0=c at g2 hr hmem;have c1:=EP hlt;have k1:=Wk (n:=n) (h:=h') (c:=c);by_cases hc:c=0
  ·left
   subst hc;have k1:call AC (n+1) 111 [.int .u8 ((0:Nat):Int)] h'=.ok (.bool false) h':=k1;have a3:=Cd (i:=i) (h:=h') (by omega);have hrun:∃ e2,ifB (call AC (n+1)) e' h'=.norm e2 h'/\J 0 e2=u/\J 1 e2=f86/\J 7 e2=AI AT (l.length:Int)/\J 8 e2=AI AT ((i+1:Nat):Int):=by
    unfold ifB;simp only[sT,By,BY,reduceIte,AK,AJ,t8,t7,c1,BA,t0,g1,AN,g2,Ck,t1,DC,AU,A5,uN,uH,k1,BR,a3];exact⟨_,rfl,by simp[AG,t0,t1,t7]⟩
   obtain⟨e2,q1,q2,q3,q4,q5⟩:=hrun;refine⟨hlt,e2,h',q1,rfl,q2,q3,q4,q5,hlt,hr.trans ?_⟩;simp
  ·right
   have c2:iNe (c:Int) 0=true:=by rw[Ha];simpa using hc
   rw[c2]at k1;have hrun:∃ e2,ifB (call AC (n+1)) e' h'=.ret e2 h'/\J 4 e2=AI AT (i:Int):=by
    unfold ifB;simp only[sT,By,BY,reduceIte,AK,AJ,t8,t7,c1,BA,t0,g1,AN,g2,Ck,t1,DC,AU,A5,uN,uH,k1];exact⟨_,rfl,by simp[AG]⟩
   obtain⟨e2,q1,q2⟩:=hrun;rw[q1];exact⟨rfl,.inr ⟨e2,i,rfl,q2,c,hmem,hc⟩⟩
 ·right
  have c1:=Cv (show l.length<=i by omega);have hrun:∃ e2,ifB (call AC (n+1)) e' h'=.exit 0 e2 h':=by
   unfold ifB;simp only[sT,By,BY,reduceIte,AK,AJ,t8,t7,c1];exact⟨_,rfl⟩
  obtain⟨e2,q1⟩:=hrun;rw[q1];refine⟨rfl,.inl ⟨e2,rfl,hr.2 ?_⟩⟩;rw[vC (by omega)];intro x hx;cases hx
theorem SX{n:Nat}{h:Hp}{u:IN}{l:List Nat}(V:h.ABy u (l.map bv))(hl:l.length<=900000):∃ r:Bool,call AC (n+3) 110 [u,f86] h=.ok (.bool r) h/\(r=true↔∃ x∈l,x≠0):=by
 have Vl:=V.bl h;have pre:∃ e1,Nl (call AC (n+1)) (As e0 0 [u,f86]) h=ifS (call AC (n+1)) e1 h/\J 0 e1=u/\J 1 e1=f86/\J 7 e1=AI AT (l.length:Int)/\J 8 e1=AI AT ((0:Nat):Int):=by
  unfold Nl;simp only[iN,IT,sT,By,BY,reduceIte,AX,Vl];exact⟨_,rfl,by simp[AG]⟩
 obtain⟨e1,p1,p2,p3,p4,p5⟩:=pre;rcases Zd (n:=n) V hl p2 p3 p4 p5 with ⟨e2,q1,q2⟩|⟨e2,i,q1,q2,q3⟩
 ·have k1:call AC (n+2) 134 [u,f86] h=.ok (AI AT (-1)) h:=by
   rw[LU rfl,LV,p1,PA];simp only[A9,An,q1,A8,A3];unfold ifE;simp only[sT,By,BY,reduceIte,lV0]
  refine⟨false,?_,by simp;exact q2⟩;have c1:iGe (-1) 0=false:=EK (by omega);rw[LT rfl];unfold Wr;simp only[iN,IT,sT,By,BY,reduceIte,cA0,k1,AK,AJ,c1,lV0]
 ·have k1:call AC (n+2) 134 [u,f86] h=.ok (AI AT (i:Int)) h:=by
   rw[LU rfl,LV,p1,PA];simp only[A9,An,q1,CE,Cq,lV0,q2]
  refine⟨true,?_,by simp only[true_iff];exact q3⟩;have c1:iGe (i:Int) 0=true:=F2 (by omega);rw[LT rfl];unfold Wr;simp only[iN,IT,sT,By,BY,reduceIte,cA0,k1,AK,AJ,c1,lV0]
def K0:Kt:=⟨0,0,0,0,[],0,.slice none 0 0⟩
theorem cU:Dr.zero=Af K0:=by kernel_rfl
theorem Fq:Bo .mt 0 (Af K0)=some Cr:=by kernel_rfl
section
variable {F:ABZ}{e:Env}{h g:Hp}{T M:List Nat}{c0 bad m:Nat}{arm:Int}{lv fv:IN}{ov:Bool}
theorem Gr{h:Hp}{t u v w:IN}{l:List IN}:GP 3 (.tuple ⟨t::u::v::w::l⟩) h=.ok w h:=rfl
theorem KA:BH Dr.zero [] F e h=.ok (ktV K0) h:=by
 rw[Cb,Bg,cU];rfl
theorem UL{a b c:Int}{s p:Nat}{u:IN}{l:List Nat}{g1 g2:O}(h1:g1 e=Bn a b c s u)(h2:g2 e=AI AT (p:Int)):BH Dr.zero [(0,5,g1),(5,1,g2)] F e h=.ok (ktV ⟨a,b,c,s,l,p,u⟩) h:=by
 rw[Cb,cU,Ad (hk:=by rw[h1];rfl),h1,Ad (hk:=by rw[h2];rfl),h2,
  if_pos (show(cellsOf (Bn a b c s u)).length=5 from rfl),if_pos (show 0+5<=(Af K0).length by show 5<=6;omega),if_pos (show(cellsOf (AI AT (p:Int))).length=1 from rfl),if_pos (show 5+1<=(over (Af K0) 0 (cellsOf (Bn a b c s u))).length by show 6<=6;omega),Bg]
 rfl
theorem My(W0:h.Wf)(x:h.Ext g){r:Nat}(hr:h.next<=r){L:List IN}(R:g.Row r 0 L)(hL:L.length=6){k:Kt}(hu:oneCell k.u=true):
  ABg 6 (pt r) (ktV k) g=.ok ABd (g.wr r 0 (Af k))/\loadN 6 ⟨r,0,none⟩ (g.wr r 0 (Af k))=.ok (ktV k) (g.wr r 0 (Af k))/\h.Ext (g.wr r 0 (Af k))/\(g.wr r 0 (Af k)).Row r 0 (Af k)/\(g.wr r 0 (Af k)).next=g.next:=by
 have ABj:256<=r:=by have:=W0.big;omega
 have ho:0+(Af k).length<=L.length:=by rw[hL];show 0+6<=6;omega
 have h1:BX (Af k)=true:=by
  show(bif oneCell k.u then true else false)=true;rw[hu];rfl
 have st:=R.ABg (n:=6) (off:=0) x.wf ABj (v:=ktV k) rfl ho h1;have wr:=R.ABl x.wf ho;rw[EJ (show L.length=(Af k).length from hL)]at wr;exact⟨st,wr.loadN (off:=0) (n:=6) (by show 0+6<=6;omega),R.AB3 x hr ho,wr,R.ACH ho⟩
def HC(T M:List Nat)(p:Nat)(ns:List Nat):Prop:=LF T (sec M (3*p)) ns/\at6 ns 4<=100/\CG T (dat M p (at6 ns 4))=at6 ns 5
theorem PK:lkB=XK:=rfl
theorem nV:d73=Wv:=rfl
theorem tK{e:Env}{h:Hp}{r4:Nat}{v:IN}{a b:Bool}{c:Int}(s4:J 4 e=pt r4)(s5:J 5 e=.bool a)(s6:J 6 e=.bool b)(s7:J 7 e=AI AT c)(hv:loadN 6 ⟨r4,0,none⟩ h=.ok v h):He [.cN (J 4) 6,.t (J 5),.t (J 6),.t (J 7)] (.ret e h)=.ok (.tuple ⟨[v,.bool a,.bool b,AI AT c]⟩) h:=by
 rw[Ay,KP (v:=v) (by rw[s4,Aj];exact hv),s5,s6,s7]
def jI(T M:List Nat)(p:Nat)(h h':Hp)(r:R):Prop:=
 (∃ ns u,HC T M p ns/\r=.ok (.tuple ⟨[ktV ⟨at6 ns 1,at6 ns 2,at6 ns 3,at6 ns 0,dat M p (at6 ns 4),p,u⟩,.bool true,.bool false,AI AT 0]⟩) h'/\h'.BS (fun b=>h.next<=b) u ((dat M p (at6 ns 4)).map bv))\/
 ((¬ ∃ ns,HC T M p ns)/\∃ bad:Bool,r=.ok (.tuple ⟨[ktV K0,.bool false,.bool bad,AI AT 0]⟩) h'/\(bad=true↔(∃ x∈sec M (3*p),x≠0)\/∃ ns,LF T (sec M (3*p)) ns/\at6 ns 4<=100))
theorem Gc{T l a b:List Nat}(h1:LF T l a)(h2:LF T l b):a=b:=by
 obtain⟨x,q,a1,a2,a3,_⟩:=h1;obtain⟨y,r,b1,b2,b3,_⟩:=h2;rw[a1]at b1;cases b1;rw[a3]at b3;cases b3;rfl
theorem ac{T l ns:List Nat}(h:LF T l ns):gT ns:=by
 obtain⟨_,_,_,_,_,h4,_⟩:=h;exact gU.1 h4
theorem VX(W:h.Wf){bs bd bm bc tb n:Nat}(R:h.Row bs 0 (slL bd tb lv fv bad ov))(Rt:h.Row tb 0 (T.map wv))(hT:ACM T)(d:Dk h bd bm bc n M c0 [] arm false){p:Nat}(hp:3*p+3<=n):
  ∃ h',h.Ext h'/\jI T M p h h' (call AC (m+5) 73 [pt bs,AI AT (p:Int)] h):=by
 have hn:=d.n1;have al:=fun (F:ABZ) (e:Env)=>BL (F:=F) (e:=e) W (n:=6) (t:=Cr)
 have R4:=Hp.Row.alloc W Fq (show(Af K0).length=6 from rfl);have x1:h.Ext (h.push (.cells Cr 6 0)):=(Hp.Ext.refl W).push _;have n1:(h.push (.cells Cr 6 0)).next=h.next+1:=rfl;generalize h.push (.cells Cr 6 0)=h1 at al R4 x1 n1;have xm:=x1.marked;have Rm:=R.ext W xm;have old:∀ (off:Nat) (kk:C) (F:ABZ) (e:Env),I5 (.pointer (some ⟨bs,off,none⟩)) kk F e h1.marked=kk F e h1.marked:=fun off kk F e=>Dm (by
  show bs<h1.next;have:=R.lt W;omega)
 obtain⟨l0,_⟩:=BD Rm;have k1:=Nc (m:=m+2) (Rm.same (h':=h1.marked.quiet) rfl) (p:=p) (by omega);have q1:∀ e:Env,J 0 e=pt bs->J 1 e=AI AT (p:Int)->Aa .weak (AS 100 [J 0,J 1]) (call AC (m+4)) e h1.marked=.ok (AI AT ((p*3:Nat):Int)) (h1.marked.back h1.marked.quiet):=fun e e1 e2=>by
  refine Hn x1.wf.marked ?_ (If _);rw[BP,AU,AU,A5,e1,e2];exact k1
 have y2:h1.Ext (h1.marked.back h1.marked.quiet):=Hp.Ext.ACe (Hp.Ext.refl x1.wf).marked (Hp.Ext.refl x1.wf).marked.quiet;have n2:(h1.marked.back h1.marked.quiet).next=h1.next:=rfl;generalize h1.marked.back h1.marked.quiet=h2 at q1 y2 n2;have x2:=x1.trans y2;obtain⟨h3,v,k2,y3,mk,n3,_⟩:=V4 (m:=m+1) x2.quiet.wf ((d.ext W x2).same (h':=h2.quiet) rfl) (i:=p * 3) (by omega);have q2:∀ e:Env,J 19 e=pt bd->J 22 e=AI AT ((p * 3:Nat):Int)->Aa .free (AS 109 [J 19,J 22]) (call AC (m+4)) e h2=.ok (.tuple ⟨[v,AI AT 0]⟩) (h2.back h3):=fun e e1 e2=>by
  refine BF ?_;rw[BP,AU,AU,A5,e1,e2];exact k2
 have y4:h2.Ext (h2.back h3):=.back y3;have mk4:Mk (h2.back h3) h2.quiet.next v (sec M (p * 3)):=mk.same rfl;generalize h2.back h3=h4 at q2 y4 mk4;rw[wP p 3]at mk4;have x4:=x2.trans y4;have c0':iNe 0 0=false:=B5 rfl;have hsl:(sec M (3 * p)).length=64:=Jq d.len (by omega);have hsb:=pu d.byt (3 * p);obtain⟨r,k3,hr⟩:=SX (n:=m+1) mk4.vals (by omega);obtain⟨_,l1,_⟩:=BD (R.ext W x4);obtain⟨h5,y5,hpar⟩:=ag (n:=m) x4.wf (Rt.ext W x4) hT mk4.vals mk4.cap hsb (by omega);have x5:=x4.trans y5;have al2:=fun (F:ABZ) (e:Env)=>BL (F:=F) (e:=e) x5.wf (n:=5) (t:=DL)
 have R11:=Hp.Row.alloc x5.wf FQ (show(A7 0 0 0 0 ABc).length=5 from rfl);have y6:h5.Ext (h5.push (.cells DL 5 0)):=(Hp.Ext.refl x5.wf).push _;have n6:(h5.push (.cells DL 5 0)).next=h5.next+1:=rfl;generalize h5.push (.cells DL 5 0)=h6 at al2 R11 y6 n6;have x6:=x5.trans y6;have hn5:=x5.next;have AHw:h.next+1<=h5.next:=by
  have:=((y2.trans y4).trans y5).next;omega
 have pre:∀ (a b c:Int) (s many sum:Nat) (ok:Bool),call AC (m+4) 112 [pt tb,v] h4=.ok (.tuple ⟨[Bn a b c s ABc,AI AT (many:Int),.int .u32 (sum:Int),.bool ok]⟩) h5->
   ∃ e1 h7,Wv (call AC (m+4)) (As e0 0 [pt bs,AI AT (p:Int)]) h=lkB (call AC (m+4)) e1 h7/\h.Ext h7/\h7.Row h5.next 0 (A7 a b c s ABc)/\h7.Row h.next 0 (Af K0)/\h5.next<h7.next/\J 0 e1=pt bs/\J 1 e1=AI AT (p:Int)/\J 4 e1=pt h.next/\J 10 e1=.bool (!r)/\J 11 e1=pt h5.next/\J 12 e1=AI AT (many:Int)/\J 13 e1=.int .u32 (sum:Int)/\J 14 e1=.bool ok:=fun a b c s many sum ok hk=>by
  obtain⟨st,_,x7,R7,n7⟩:=LN x5.wf y6 (If _) R11 rfl (a:=a) (b:=b) (c:=c) (s:=s) (u:=ABc) rfl;have R4':(h6.wr h5.next 0 (A7 a b c s ABc)).Row h.next 0 (Af K0):=((R4.ext x1.wf ((y2.trans y4).trans y5)).ext x5.wf x7);generalize h6.wr h5.next 0 (A7 a b c s ABc)=h7 at st x7 R7 n7 R4';have hrun:∃ e1,Wv (call AC (m+4)) (As e0 0 [pt bs,AI AT (p:Int)]) h=lkB (call AC (m+4)) e1 h7/\J 0 e1=pt bs/\J 1 e1=AI AT (p:Int)/\J 4 e1=pt h.next/\J 10 e1=.bool (!r)/\J 11 e1=pt h5.next/\J 12 e1=AI AT (many:Int)/\J 13 e1=.int .u32 (sum:Int)/\J 14 e1=.bool ok:=by
   unfold Wv;simp only[iN,IT,sT,By,BY,reduceIte,al,Az,Au,Ai,AH,AO,sh,EG,old,DU,AN,AQ,l0,q1,q2,Ao,Ax,A2,Bu,Gr,AK,AJ,c0',cA0,k3,BM,BK,l1,hk,al2,AW,st];exact⟨_,rfl,by simp[AG]⟩
  obtain⟨e1,q⟩:=hrun;exact⟨e1,h7,q.1,x5.trans x7,R7,R4',by omega,q.2⟩
 have res:∀ (hx g:Hp) (e1 e2:Env) (a b:Bool) (v:IN),Wv (call AC (m+4)) (As e0 0 [pt bs,AI AT (p:Int)]) h=lkB (call AC (m+4)) e1 hx->lkB (call AC (m+4)) e1 hx=.ret e2 g->J 4 e2=pt h.next->J 5 e2=.bool a->J 6 e2=.bool b->J 7 e2=AI AT 0->loadN 6 ⟨h.next,0,none⟩ g=.ok v g->
   call AC (m+5) 73 [pt bs,AI AT (p:Int)] h=.ok (.tuple ⟨[v,.bool a,.bool b,AI AT 0]⟩) g:=fun hx g e1 e2 a b v i1 i2 t4 t5 t6 t7 hv=>by
  rw[lS rfl,nV,i1,i2];exact tK t4 t5 t6 t7 hv
 have K0u:oneCell K0.u=true:=rfl;rcases hpar with ⟨ns,hP,hk⟩|⟨hP,hk⟩
 ·have AG1:=ac hP
  obtain⟨e1,h7,p1,x7,R7,R47,AG2,s0,s1,s4,s10,s11,s12,s13,s14⟩:=pre _ _ _ _ (at6 ns 4) (at6 ns 5) true hk;obtain⟨_,_,l2,_⟩:=BD (R.ext W x7);by_cases ADh:at6 ns 4<=100
  ·have c1:iGt (at6 ns 4:Int) 100=false:=E4 (by omega)
   obtain⟨h8,u,k4,y8,vs8⟩:=YP (m:=m) x7.wf (R.ext W x7) (d.ext W x7) (p:=p) (k:=at6 ns 4) hp (by omega);have x8:=x7.trans y8;have R8:=R7.ext x7.wf y8;have u1:=vs8.vs.one;have ho4:4+(cellsOf u).length<=(A7 (at6 ns 1) (at6 ns 2) (at6 ns 3) (at6 ns 0) ABc).length:=by rw[u1.1];show 4+1<=5;omega
   have ABj:256<=h5.next:=by have:=W.big;omega
   have st8:ABg 1 (.pointer (some ⟨h5.next,4,none⟩)) u h8=.ok ABd (h8.wr h5.next 4 (cellsOf u)):=R8.ABg (n:=1) (off:=4) x8.wf ABj (by rw[u1.1];rfl) ho4 (by
    rw[u1.1];show(bif oneCell u then true else false)=true;rw[u1.2.1];rfl)
   have R9:=R8.ABl x8.wf ho4;have x9:=R8.AB3 x8 (by omega) ho4;have n9:=R8.ACH ho4;have R49:=R8.ACi x8.wf ho4 (R47.ext x7.wf y8) (by omega);have hkeep:∀ b el L,b≠h5.next->h8.Row b el L->(h8.wr h5.next 4 (cellsOf u)).Row b el L:=fun b el L hb r=>R8.ACi x8.wf ho4 r hb
   have hov:over (A7 (at6 ns 1) (at6 ns 2) (at6 ns 3) (at6 ns 0) ABc) 4 (cellsOf u)=A7 (at6 ns 1) (at6 ns 2) (at6 ns 3) (at6 ns 0) u:=by rw[u1.1];rfl
   rw[hov]at R9;have vs9:(h8.wr h5.next 4 (cellsOf u)).BS (fun b=>h7.next<=b) u ((dat M p (at6 ns 4)).map bv):=vs8.keep fun b el L hb _ r=>hkeep b el L (by omega) r
   generalize h8.wr h5.next 4 (cellsOf u)=h9 at st8 R9 x9 n9 R49 vs9;have x9m:=x9.marked;have R9m:h9.marked.Row h5.next 0 (A7 (at6 ns 1) (at6 ns 2) (at6 ns 3) (at6 ns 0) u):=R9.same rfl;obtain⟨_,_,_,_,lu,_⟩:=Br R9m;obtain⟨_,l1',_⟩:=BD (R.ext W x9m);have hdl:(dat M p (at6 ns 4)).length=at6 ns 4:=LW d.len (by omega);obtain⟨hq,k5,hq2⟩:=bg (n:=m+3) (h:=h9.marked.quiet) ((Rt.ext W x9).same rfl) hT (vs9.vs.vals.same (h':=h9.marked.quiet) rfl) (na d.byt p _) (by omega);have yq:h9.marked.quiet.Ext hq:=by
    rcases hq2 with rfl|rfl
    ·exact Hp.Ext.refl x9m.quiet.wf
    ·exact(Hp.Ext.refl x9m.quiet.wf).marked
   have nq:hq.next=h9.next:=by rcases hq2 with rfl|rfl<;>rfl
   have q5:∀ e:Env,J 72 e=pt tb->J 74 e=u->Aa .free (AS 48 [J 72,J 74]) (call AC (m+4)) e h9.marked=.ok (.int .u32 ((CG T (dat M p (at6 ns 4)):Nat):Int)) (h9.marked.back hq):=fun e e1 e2=>by
    refine BF ?_;rw[BP,AU,AU,A5,e1,e2];exact k5
   have y10:h9.marked.Ext (h9.marked.back hq):=.back yq;have n10:(h9.marked.back hq).next=h9.next:=nq;generalize h9.marked.back hq=h10 at q5 y10 n10;have x10:=x9m.trans y10;have R10:=R9m.ext x9m.wf y10;have AFS:h10.Row h.next 0 (Af K0):=(R49.same (h':=h9.marked) rfl).ext x9m.wf y10;have AG3:h10.BS (fun b=>h7.next<=b) u ((dat M p (at6 ns 4)).map bv):=(vs9.same (h':=h9.marked) rfl).ext x9m.wf y10;obtain⟨_,_,_,_,_,ln⟩:=Br R10;have AGD:at6 ns 0<=2:=AG1.1;by_cases AFT:CG T (dat M p (at6 ns 4))=at6 ns 5
   ·have c2:iNe ((CG T (dat M p (at6 ns 4)):Nat):Int) ((at6 ns 5:Nat):Int)=false:=B5 (by rw[AFT])
    have bd1:∀ (F:ABZ) (e:Env),J 79 e=Bn (at6 ns 1) (at6 ns 2) (at6 ns 3) (at6 ns 0) u->J 1 e=AI AT (p:Int)->BH Dr.zero [(0,5,J 79),(5,1,J 1)] F e h10=.ok (ktV ⟨at6 ns 1,at6 ns 2,at6 ns 3,at6 ns 0,dat M p (at6 ns 4),p,u⟩) h10:=fun F e e1 e2=>UL e1 e2
    obtain⟨w1,w2,w3,w4,w5⟩:=My W x10 (If _) AFS rfl (k:=⟨at6 ns 1,at6 ns 2,at6 ns 3,at6 ns 0,dat M p (at6 ns 4),p,u⟩) u1.2.1;have AG4:∀ b el L,b≠h.next->h10.Row b el L->(h10.wr h.next 0 (Af ⟨at6 ns 1,at6 ns 2,at6 ns 3,at6 ns 0,dat M p (at6 ns 4),p,u⟩)).Row b el L:=fun b el L hb r=>AFS.ACi x10.wf (by show 0+6<=6;omega) r hb
    have AGE:(h10.wr h.next 0 (Af ⟨at6 ns 1,at6 ns 2,at6 ns 3,at6 ns 0,dat M p (at6 ns 4),p,u⟩)).BS (fun b=>h7.next<=b) u ((dat M p (at6 ns 4)).map bv):=AG3.keep fun b el L hb _ r=>AG4 b el L (by have:=x7.next;omega) r
    generalize h10.wr h.next 0 (Af ⟨at6 ns 1,at6 ns 2,at6 ns 3,at6 ns 0,dat M p (at6 ns 4),p,u⟩)=h11 at w1 w2 w3 w4 w5 AGE;have hrun:∃ e2,lkB (call AC (m+4)) e1 h7=.ret e2 h11/\J 4 e2=pt h.next/\J 5 e2=.bool true/\J 6 e2=.bool false/\J 7 e2=AI AT 0:=by
     rw[PK];unfold XK lkC;simp only[sT,By,BY,reduceIte,gD,BM,BK,s14,uX,s12,s0,Au,Ai,AH,AO,sh,AN,AQ,l2,AK,AJ,c1,cA0,s1,k4,Ao,Ax,A2,s11,AW,st8,c0',Az,l1',lu,q5,s13,c2,Ap,Aj,ln,bd1,s4,w1];exact⟨_,rfl,by simp[AG,s4]⟩
    obtain⟨e2,i2,t4,t5,t6,t7⟩:=hrun;exact⟨h11,w3,.inl ⟨ns,u,⟨hP,ADh,AFT⟩,res h7 h11 e1 e2 true false _ p1 i2 t4 t5 t6 t7 w2,AGE.mono fun b hb=>Nat.le_trans x7.next hb⟩⟩
   ·have c2:iNe ((CG T (dat M p (at6 ns 4)):Nat):Int) ((at6 ns 5:Nat):Int)=true:=EB (by omega)
    obtain⟨w1,w2,w3,w4,w5⟩:=My W x10 (If _) AFS rfl (k:=K0) K0u;generalize h10.wr h.next 0 (Af K0)=h11 at w1 w2 w3 w4 w5;have hrun:∃ e2,lkB (call AC (m+4)) e1 h7=.ret e2 h11/\J 4 e2=pt h.next/\J 5 e2=.bool false/\J 6 e2=.bool true/\J 7 e2=AI AT 0:=by
     rw[PK];unfold XK lkC;simp only[sT,By,BY,reduceIte,gD,BM,BK,s14,uX,s12,s0,Au,Ai,AH,AO,sh,AN,AQ,l2,AK,AJ,c1,cA0,s1,k4,Ao,Ax,A2,s11,AW,st8,c0',Az,l1',lu,q5,s13,c2,KA,s4,w1];exact⟨_,rfl,by simp[AG,s4]⟩
    obtain⟨e2,i2,t4,t5,t6,t7⟩:=hrun;refine⟨h11,w3,.inr ⟨?_,true,res h7 h11 e1 e2 false true _ p1 i2 t4 t5 t6 t7 w2,⟨fun _=>.inr ⟨ns,hP,ADh⟩,fun _=>rfl⟩⟩⟩;rintro⟨ns',a1,a2,a3⟩;obtain rfl:=Gc hP a1;exact AFT a3
  ·have c1:iGt (at6 ns 4:Int) 100=true:=Fc (by omega)
   obtain⟨w1,w2,w3,w4,w5⟩:=My W x7 (If _) R47 rfl (k:=K0) K0u;generalize h7.wr h.next 0 (Af K0)=h11 at w1 w2 w3 w4 w5;have hrun:∃ e2,lkB (call AC (m+4)) e1 h7=.ret e2 h11/\J 4 e2=pt h.next/\J 5 e2=.bool false/\J 6 e2=.bool r/\J 7 e2=AI AT 0:=by
    rw[PK];unfold XK;simp only[sT,By,BY,reduceIte,gD,BM,BK,s14,uX,s12,s0,Au,Ai,AH,AO,sh,AN,AQ,l2,AK,AJ,c1,KA,s10,AA6,s4,AW,w1];exact⟨_,rfl,by simp[AG,s4]⟩
   obtain⟨e2,i2,t4,t5,t6,t7⟩:=hrun;refine⟨h11,w3,.inr ⟨?_,r,res h7 h11 e1 e2 false r _ p1 i2 t4 t5 t6 t7 w2,hr.trans ⟨.inl,?_⟩⟩⟩
   ·rintro⟨ns',a1,a2,a3⟩
    obtain rfl:=Gc hP a1;exact ADh a2
   ·rintro (h1|⟨ns',a1,a2⟩)
    ·exact h1
    ·obtain rfl:=Gc hP a1
     exact absurd a2 ADh
 ·obtain⟨e1,h7,p1,x7,R7,R47,AG2,s0,s1,s4,s10,s11,s12,s13,s14⟩:=pre 0 0 0 0 0 0 false hk
  obtain⟨w1,w2,w3,w4,w5⟩:=My W x7 (If _) R47 rfl (k:=K0) K0u;generalize h7.wr h.next 0 (Af K0)=h11 at w1 w2 w3 w4 w5;have hrun:∃ e2,lkB (call AC (m+4)) e1 h7=.ret e2 h11/\J 4 e2=pt h.next/\J 5 e2=.bool false/\J 6 e2=.bool r/\J 7 e2=AI AT 0:=by
   rw[PK];unfold XK;simp only[sT,By,BY,reduceIte,gD,BM,BK,s14,Bool.not_false,KA,s10,AA6,s4,AW,w1];exact⟨_,rfl,by simp[AG,s4]⟩
  obtain⟨e2,i2,t4,t5,t6,t7⟩:=hrun;refine⟨h11,w3,.inr ⟨fun⟨ns',a1,_⟩=>hP ⟨ns',a1⟩,r,res h7 h11 e1 e2 false r _ p1 i2 t4 t5 t6 t7 w2,hr.trans ⟨.inl,?_⟩⟩⟩;rintro (h1|⟨ns',a1,_⟩)
  ·exact h1
  ·exact absurd ⟨ns',a1⟩ hP
end
end
noncomputable section
open Go
set_option maxRecDepth 100000
theorem FJ{h:Hp}{b b' el el':Nat}{L L':List IN}(r:h.Row b el L)(r':h.Row b' el' L')(he:el≠el'):b≠b':=fun hb=>by
 subst hb;obtain⟨_,e1,_⟩:=r;obtain⟨_,e2,_⟩:=r';rw[e1]at e2;injection e2 with _ _ e3
 exact he e3
def Hp.Cl(h:Hp)(S:Nat->Prop)(en:Nat)(v:IN)(xs:List IN):Prop:=(v=ABc/\xs=[])\/∃ b el,v=.slice (some ⟨b,0,none⟩) xs.length xs.length/\h.Row b el xs/\(el=en+1\/el=0/\xs=[])/\S b/\256<=b
section
variable {F:ABZ}{e:Env}{h h0 h':Hp}{S:Nat->Prop}{en:Nat}{v u:IN}{xs:List IN}
theorem Hp.Cl.vs(o:h.Cl S en v xs):h.VS S v xs:=by
 rcases o with h1|⟨b,el,h1,h2,h3,h4,h5⟩
 ·exact .inl h1
 ·exact .inr ⟨b,0,_,el,xs,h1,If _,h2,by omega,by rw[uv,vF],h4⟩
theorem En{es eb b n:Nat}{cs:List IN}(x0:h0.Ext h)(r:h.Row b 0 [])(hs:∀ k:List IN->R,BI h es u n k=k cs)(hlv:lenV u=.ok n)(hlen:cs.length=n*es)(hn:0<n)(ha:BX cs=true)(hm:(n+1)*(eb+1)<=1099511627776):
  ∃ h',DN es eb en (.slice (some ⟨b,0,none⟩) 0 0) u h=.ok (.slice (some ⟨h.next,0,none⟩) n n) h'/\h0.Ext h'/\h'.Row h.next (en+1) cs/\h'.next=h.next+1/\h.Ext h'/\h'.mark=h.mark/\h'.low=h.low/\h'.high=h.high:=by
 have W:=x0.wf;obtain⟨cc,hcc,hl⟩:=r.rowOf;obtain⟨t,h2,h3⟩:=Dy cs cc [] 0 hl (.inr rfl);have h3:t.Is cs:=by simpa using h3
 refine⟨h.push (.cells t cs.length (en+1)),?_,x0.push _,⟨t,by rw[W.ABx,if_pos rfl],h3⟩,rfl,(Hp.Ext.refl W).push _,rfl,rfl,rfl⟩;unfold DN DH;simp only[hlv,hs,Am,vH,sh];have e1:tz n 0=false:=by
  cases e:tz n 0
  ·rfl
  ·have:=Ar.1 e;omega
 have e2:tz (ur (tk n) (tk eb)) It=true:=Ar.2 (Gv hm);rw[e1];simp only[e2,cond_true,ha];unfold GU;have hcc:rowOf h b=.ok cc 0 0:=hcc;have e3:tm 0 (ur 0 es)=true:=A1.2 (wK es).symm;simp only[hcc,e3,h2];unfold Ee;simp only[hcc,Bi,vH,sh];unfold CT;rw[Am,Cz W];rfl
theorem Hh{es eb b:Nat}(W:h.Wf)(ABj:256<=b)(r:h.Row b 0 [])(hs:∀ k:List IN->R,BI h es u 0 k=k [])(hlv:lenV u=.ok 0):
  DN es eb en (.slice (some ⟨b,0,none⟩) 0 0) u h=.ok (.slice (some ⟨b,0,none⟩) 0 0) (h.wr b 0 []):=by
 unfold DN DH;simp only[hlv,hs,Am,vH];have e1:tz 0 0=true:=rfl;have e0:0+0=0:=rfl;simp only[e0,e1];have e2:Eh ⟨b,0,none⟩ (ur 0 es)=⟨b,0,none⟩:=by
  rw[show ur 0 es=0 from wK es];rfl
 rw[e2,r.store W ABj (by simp) rfl]
theorem Hp.Row.ADZ{es b el off n c sl:Nat}{l:List IN}(r:h.Row b el l)(ho:off+n*es<=l.length){k:List IN->R}:BI h es (.slice (some ⟨b,off,none⟩) sl c) n k=k ((l.drop off).take (n*es)):=by
 obtain⟨cc,hc,hl⟩:=r.rowOf;unfold BI;simp only[hc];have e:ur n es=n*es:=rfl;rw[e];simp only[vH];rw[Ar.2 ho];simp only[cond_true,F1,uH,Is.ACp hl off _ ho]
theorem Je{t el:Nat}{k:TK}{g:O}{a:Addr}{n c:Nat}(hk:k=.slice el)(hg:g e=.slice (some a) n c):oEq k false g (kV (.slice none 0 0)) F e h=.ok (.bool false) h:=by
 subst hk;show(match eqV (.slice el) (g e) (.slice none 0 0)with|some r=>okB (false != r) h|none=>.no)=_;rw[hg];exact Ff
theorem Jf{t el:Nat}{k:TK}{g:O}(hk:k=.slice el)(hg:g e=.slice none 0 0):oEq k false g (kV (.slice none 0 0)) F e h=.ok (.bool true) h:=by
 subst hk;show(match eqV (.slice el) (g e) (.slice none 0 0)with|some r=>okB (false != r) h|none=>.no)=_;rw[hg];exact Ff
theorem KI{t:List IN}(W:h.Wf):Ab 0 (BO t 0) [] F e h=.ok (.slice (some ⟨h.next,0,none⟩) 0 0) (h.ABY 0 []):=by
 have:BO t 0=[]:=rfl;rw[this,Bq,Bg,CQ W];rfl
end
section
variable {h0 h:Hp}{u:IN}{es eb en:Nat}{cs vs:List IN}
theorem Jd(x0:h0.Ext h)(hs:∀ k:List IN->R,BI h es u 1 k=k vs)(hlv:lenV u=.ok 1)(hv:vs.length=es)(ha:BX vs=true)(hm:2*(eb+1)<=70368744177664):
  ∃ h',DN es eb en ABc u h=.ok (.slice (some ⟨h.next,0,none⟩) 1 1) h'/\h0.Ext h'/\h'.Row h.next (en+1) vs/\h'.next=h.next+1/\(h'.mark=h.mark/\h'.low=h.low/\h'.high=h.high)/\h.Ext h':=by
 have W:=x0.wf;obtain⟨t1,t2⟩:=Hj vs;refine⟨h.push (.cells (ofL vs) vs.length (en+1)),?_,x0.push _,⟨ofL vs,by rw[W.ABx,if_pos rfl],t2⟩,rfl,⟨rfl,rfl,rfl⟩,(Hp.Ext.refl W).push _⟩;unfold DN DH;simp only[hlv,hs,Am,vH,sh];have e1:tz 1 0=false:=rfl;have e2:tz (ur (tk 1) (tk eb)) It=true:=Ar.2 hm;simp only[e1,e2,cond_true,ha];unfold GU BI JY;simp only[uN,t1];unfold Ee;simp only[Bi];unfold CT;rw[Am,Cz W];rfl
theorem Nx{n b:Nat}(x0:h0.Ext h)(hs:∀ k:List IN->R,BI h es u 1 k=k vs)(hlv:lenV u=.ok 1)(hv:vs.length=es)(hes:0<es)(ha:BX vs=true)(r:h.Row b (en+1) cs)(hlen:cs.length=n*es)(hb:h0.next<=b)(hb2:256<=b)(hm:(n+2)*(eb+1)<=70368744177664):
  ∃ h',DN es eb en (.slice (some ⟨b,0,none⟩) n n) u h=.ok (.slice (some ⟨h.next,0,none⟩) (n+1) (n+1)) h'/\h0.Ext h'/\h'.Row h.next (en+1) (cs++vs)/\h'.next=h.next+1/\(h'.mark=h.mark/\h'.low=CC h.low b/\h'.high=C5 h.high b)/\∀ b',b'<h.next->b'≠b->h'.bl.get b'=h.bl.get b':=by
 have W:=x0.wf;obtain⟨cc,hcc,hl⟩:=r.rowOf;obtain⟨t,h2,h3⟩:=Dy vs cc cs cs.length hl (.inr rfl);have h3:t.Is (cs++vs):=by
  have e:cs.drop (cs.length+vs.length)=[]:=vC (by omega);rw[e]at h3
  simpa using h3
 have AFU:(cs++vs).length=cs.length+vs.length:=No;have hlt:=r.lt W;have W1:(h.put b .dead).Wf:=W.put hlt _;have x2:h0.Ext (h.put b .dead):=x0.put hb hlt _;refine⟨(h.put b .dead).push (.cells t (cs.length+vs.length) (en+1)),?_,x2.push _,⟨t,by
  have:=W1.ABx (.cells t (cs.length+vs.length) (en+1)) h.next;rw[this,if_pos (show h.next=(h.put b .dead).next from rfl),AFU],h3⟩,rfl,⟨rfl,rfl,rfl⟩,fun b' hb' hne=>?_⟩
 ·unfold DN DH
  simp only[hlv,hs,Am,vH];have e1:tz (n+1) n=false:=by
   cases e:tz (n+1) n
   ·rfl
   ·have:=Ar.1 e;omega
  have e2:tz (ur (tk (n+1)) (tk eb)) It=true:=Ar.2 hm;rw[e1];simp only[e2,cond_true,ha];unfold GU;have e3:tm cs.length (ur n es)=true:=A1.2 hlen;simp only[hcc,e3,h2];unfold Ee;have e4:Kv 0 n es cs.length=true:=by
   unfold Kv;cases n with
   |zero=>rfl
   |succ m=>exact A1.2 (by show 0+(m+1)*es=cs.length;omega)
  simp only[hcc,Bi,vH,vT,cond_true,e4];rw[EM W hb2 hlt];unfold CT;rw[Am,Cz W1];rfl
 ·rw[W1.ABx,if_neg (by show b'≠h.next;omega),W.ACD hlt,if_neg hne]
theorem JZ{n b:Nat}(x0:h0.Ext h)(hs:∀ k:List IN->R,BI h es u 1 k=k vs)(hlv:lenV u=.ok 1)(hv:vs.length=es)(hes:0<es)(ha:BX vs=true)(r:h.Row b (en+1) cs)(hlen:cs.length=n*es)(hb:h0.next<=b)(hb2:256<=b)(hm:(n+2)*(eb+1)<=70368744177664):
  ∃ h',DN es eb en (.slice (some ⟨b,0,none⟩) n n) u h=.ok (.slice (some ⟨h.next,0,none⟩) (n+1) (n+1)) h'/\h0.Ext h'/\h'.Row h.next (en+1) (cs++vs)/\h'.next=h.next+1/\(h'.mark=h.mark/\h'.low=CC h.low b/\h'.high=C5 h.high b)/\∀ b' el L,b'≠b->h.Row b' el L->h'.Row b' el L:=by
 obtain⟨h',a1,a2,a3,a4,a5,a6⟩:=Nx x0 hs hlv hv hes ha r hlen hb hb2 hm;refine⟨h',a1,a2,a3,a4,a5,fun b' el L hne r'=>?_⟩;have hb':=r'.lt x0.wf;obtain⟨c',hc',hl'⟩:=r';exact⟨c',(a6 b' hb' hne).trans hc',hl'⟩
end
theorem P5{g:Hp}{a lo hi:Nat}(h1:a<=lo)(h2:hi<=a):Id (.ok a) g lo hi=true:=by
 show(bif tz a lo then tz hi a else false)=true;rw[Ar.2 h1,Ar.2 h2];rfl
theorem Yj{h0 h:Hp}{S:Nat->Prop}{eb en:Nat}{v w:IN}{xs:List IN}{bw:Nat}(x0:h0.Ext h)(o:h.Cl S en v xs)(hS:∀ b,S b->h0.next<=b)(rw_:h.Row bw 0 [w])(hw:oneCell w=true)(hl:xs.length<=1000000)(he:eb<=1000):
  ∃ h' b',DN 1 eb en v (.slice (some ⟨bw,0,none⟩) 1 1) h=.ok (.slice (some ⟨b',0,none⟩) (xs.length+1) (xs.length+1)) h'/\h0.Ext h'/\h'.Row b' (en+1) (xs++[w])/\b'=h.next/\h'.next=h.next+1/\h'.mark=h.mark/\(∀ b el L,¬ S b->h.Row b el L->h'.Row b el L)/\(∀ b el L,el≠en+1->h.Row b el L->h'.Row b el L)/\
   (h.low=h.next->h.high=0->∀ g:Hp,g.next=h.next->Id (AB4 v) g h'.low h'.high=true):=by
 have hs:∀ k,BI h 1 (.slice (some ⟨bw,0,none⟩) 1 1) 1 k=k [w]:=fun k=>rw_.ADZ (es:=1) (off:=0) (n:=1) (by show 0+1*1<=1;omega)
 have ha:BX [w]=true:=by
  show(bif oneCell w then true else false)=true;rw[hw];rfl
 have hm:(xs.length+2)*(eb+1)<=70368744177664:=by
  have:(xs.length+2)*(eb+1)<=1000002*1001:=Nat.mul_le_mul (by omega) (by omega);omega
 rcases o with ⟨rfl,rfl⟩|⟨b,el,rfl,r,hel,hb,ABj⟩
 ·obtain⟨h5,a1,a2,a3,a4,⟨a5,a7,a8⟩,a6⟩:=Jd (eb:=eb) (en:=en) x0 hs rfl rfl ha (by have:=hm;simp only[uR]at this;omega)
  exact⟨h5,h.next,a1,a2,a3,rfl,a4,a5,fun b el L _ r=>r.ext x0.wf a6,fun b el L _ r=>r.ext x0.wf a6,fun hlo hhi g hg=>by
   show tz g.next h5.low=true;rw[a7,hlo,hg];exact Ar.2 (If _)⟩
 ·have hlt:=r.lt x0.wf
  rcases hel with rfl|⟨rfl,rfl⟩
  ·obtain⟨h5,a1,a2,a3,a4,⟨a5,a7,a8⟩,a6⟩:=JZ (eb:=eb) (en:=en) (n:=xs.length) x0 hs rfl rfl (by omega) ha r (Nat.mul_one _).symm (hS b hb) ABj hm
   refine⟨h5,h.next,a1,a2,a3,rfl,a4,a5,fun b' el L hne r'=>a6 _ _ _ (fun e=>hne (e ▸ hb)) r',fun b' el L h2 r'=>a6 _ _ _ (FJ r' r h2) r',fun hlo hhi g hg=>?_⟩;have e1:h5.low=b:=by rw[a7,hlo,BW];omega
   have e2:h5.high=b:=by rw[a8,hhi,B7];omega
   rw[e1,e2];exact P5 (If _) (If _)
  ·obtain⟨h5,a1,a2,a3,a4,a6,a5,a7,a8⟩:=En (eb:=eb) (en:=en) (n:=1) x0 r hs rfl rfl (by omega) ha (by have:=hm;simp only[uR]at this;omega)
   refine⟨h5,h.next,a1,a2,a3,rfl,a4,a5,fun b' el L _ r'=>r'.ext x0.wf a6,fun b' el L _ r'=>r'.ext x0.wf a6,fun hlo hhi g hg=>?_⟩;rw[a7,a8,hlo,hhi];show Id (.ok b) g h.next 0=true;exact P5 (by omega) (uD _)
theorem UI{h h':Hp}{F:ABZ}{e:Env}{x y:O}{eb en:Nat}{v u w:IN}(hx:x e=v)(hy:y e=u)(ha:DN 1 eb en v u h.quiet=.ok w h')(hk:Id (AB4 v) h h'.low h'.high=true):Ix x (Bk 1 eb en x y) F e h=.ok w (h.back h'):=by
 show(match Bk 1 eb en x y F e h.quiet with|.ok v h'=>bif Id (AB4 (x e)) h h'.low h'.high then Df h v h' else .no|.no=>.no)=_;rw[BZ,hx,hy,ha];show(bif Id (AB4 v) h h'.low h'.high then Df h w h' else .no)=_;rw[hk];show Df h w h'=_;unfold Df;simp only[Am];rfl
inductive ACQ where
 |w (i:Nat) (l:List Nat)
 |f
def Bf:List Nat:=th 64 0
def IP(h:Hp)(A:At)(S:Nat->Prop)(v:IN):ACQ->Prop
 |.w i l=>(∃ r3 r10 r9 u,v=.func (.func 129) ⟨[]⟩ ⟨[pt r3,pt r10,pt r9]⟩/\h.Row r3 0 [pt A.bs]/\h.Row r10 0 [AI AT (i:Int)]/\h.Row r9 0 [u]/\h.BS S u (l.map bv)/\S r3/\S r10/\S r9)\/
  (∃ r2 r7 p,v=.func (.func 122) ⟨[]⟩ ⟨[pt r2,pt r7]⟩/\h.Row r2 0 [pt A.bs]/\h.Row r7 0 [AI AT ((p:Nat):Int)]/\i=p*3/\p<=65536/\l=Bf/\S r2/\S r7)
 |.f=>v=.func (.func 124) ⟨[pt A.bd]⟩ ⟨[]⟩
theorem Hp.BS.ACf{h h':Hp}{S S':Nat->Prop}{v:IN}{xs:List IN}(o:h.BS S v xs)(hk:∀ b el L,S b->(el=0\/el=6)->h.Row b el L->h'.Row b el L/\S' b):h'.BS S' v xs:=by
 rcases o with h1|⟨b,off,c,el,L,h1,h2,h3,h4,h5,h6,h7⟩
 ·exact .inl h1
 ·exact .inr ⟨b,off,c,el,L,h1,h2,(hk _ _ _ h6 h7 h3).1,h4,h5,(hk _ _ _ h6 h7 h3).2,h7⟩
theorem IP.ACf{h h':Hp}{A:At}{S S':Nat->Prop}{v:IN}{d:ACQ}(o:IP h A S v d)(hr:∀ b el L,S b->(el=0\/el=6)->h.Row b el L->h'.Row b el L/\S' b):IP h' A S' v d:=by
 cases d with
 |f=>exact o
 |w i l=>
  have hr0:=fun b L hs r=>hr b 0 L hs (.inl rfl) r
  rcases o with ⟨r3,r10,r9,u,h1,h2,h3,h4,h5,h6,h7,h8⟩|⟨r2,r7,p,h1,h2,h3,h4,h5,h6,h7,h8⟩
  ·exact .inl ⟨r3,r10,r9,u,h1,(hr0 _ _ h6 h2).1,(hr0 _ _ h7 h3).1,(hr0 _ _ h8 h4).1,h5.ACf hr,(hr0 _ _ h6 h2).2,(hr0 _ _ h7 h3).2,(hr0 _ _ h8 h4).2⟩
  ·exact .inr ⟨r2,r7,p,h1,(hr0 _ _ h7 h2).1,(hr0 _ _ h8 h3).1,h4,h5,h6,(hr0 _ _ h7 h2).2,(hr0 _ _ h8 h3).2⟩
theorem ZA{h:Hp}{A:At}{S:Nat->Prop}{v:IN}{d:ACQ}(o:IP h A S v d):oneCell v=true:=by
 cases d with
 |f=>have o:v=_:=o;rw[o];rfl
 |w i l=>rcases o with ⟨r3,r10,r9,u,h1,_⟩|⟨r2,r7,p,h1,_⟩<;>rw[h1]<;>rfl
abbrev J3(h:Hp)(A:At)(v:IN)(d:ACQ):Prop:=IP h A (fun b=>¬ A.D b) v d
def FL(n:Nat):List (Nat×List Nat)->List ACQ->Prop
 |_,[]=>True
 |cs,.w i l::ds=>(∀ x∈cs,x.1≠i)/\i<n/\l.length=64/\(∀ x∈l,x<256)/\FL n (cs++[(i,l)]) ds
 |cs,.f::ds=>cs≠[]/\cs.length<=60/\FL n [] ds
def Gf:List Nat->List (Nat×List Nat)->List ACQ->List Nat×List (Nat×List Nat)
 |M,cs,[]=>(M,cs)
 |M,cs,.w i l::ds=>Gf M (cs++[(i,l)]) ds
 |M,cs,.f::ds=>Gf (F5 M cs) [] ds
structure Sc (h:Hp)(A:At)(T:List Nat)(ks:List Kt)(fr:List Nat)(lv fv:IN)(bad:Nat)(ov:Bool):Prop where
 row:h.Row A.bs 0 (slL A.bd A.tb lv fv bad ov)
 tab:h.Row A.tb 0 (T.map wv)
 tok:ACM T
 ls:h.KS (fun b=>¬ A.D b) lv ks
 ko:∀ k∈ks,AEI h (fun b=>¬ A.D b) k
 fs:h.WI (fun b=>¬ A.D b) fv (ints .i64 (fr.map vW))
 ne:A.bs≠A.bd/\A.bs≠A.bm/\A.bs≠A.bc/\¬ A.D A.tb/\256<=A.bs
 le:ks.length<=1000/\fr.length<=1000/\bad<=1000/\∀ p∈fr,3*p+3<=A.n
section
variable {F:ABZ}{e:Env}{h h':Hp}{A:At}{T M:List Nat}{c0 bad m:Nat}{arm:Int}{ks:List Kt}{fr:List Nat}{lv fv:IN}{ov:Bool}
theorem Sl.sc(s:Sl h A T M c0 arm ks fr lv fv bad ov):Sc h A T ks fr lv fv bad ov:=⟨s.row,s.tab,s.tok,s.ls,s.ko,s.fs,s.ne,s.le⟩
theorem Sc.sl(s:Sc h A T ks fr lv fv bad ov)(d:Dk h A.bd A.bm A.bc A.n M c0 [] arm false):Sl h A T M c0 arm ks fr lv fv bad ov:=⟨s.row,d,s.tab,s.tok,s.ls,s.ko,s.fs,s.ne,s.le⟩
theorem Sc.keep(s:Sc h A T ks fr lv fv bad ov)(hr:∀ b el L,b≠A.bd->b≠A.bm->b≠A.bc->h.Row b el L->h'.Row b el L):Sc h' A T ks fr lv fv bad ov:=by
 have nd:∀ b,¬ A.D b->b≠A.bd/\b≠A.bm/\b≠A.bc:=fun b hb=>⟨fun e=>hb (.inr (.inl e)),fun e=>hb (.inr (.inr (.inl e))),fun e=>hb (.inr (.inr (.inr e)))⟩
 have ht:=nd _ s.ne.2.2.2.1;exact⟨hr _ _ _ s.ne.1 s.ne.2.1 s.ne.2.2.1 s.row,hr _ _ _ ht.1 ht.2.1 ht.2.2 s.tab,s.tok,s.ls.keep fun b _ _ hb r=>hr _ _ _ (nd b hb).1 (nd b hb).2.1 (nd b hb).2.2 r,fun k hk=>⟨(s.ko k hk).1.keep fun b _ _ hb _ r=>hr _ _ _ (nd b hb).1 (nd b hb).2.1 (nd b hb).2.2 r,(s.ko k hk).2⟩,s.fs.keep fun b _ _ hb r=>hr _ _ _ (nd b hb).1 (nd b hb).2.1 (nd b hb).2.2 r,s.ne,s.le⟩
abbrev At.K(A:At):Nat->Prop:=fun b=>b=A.bd\/b=A.bm\/b=A.bc
theorem Sc.fx(s:Sc h A T ks fr lv fv bad ov)(W:h.Wf)(x:Fx A.K h h'):Sc h' A T ks fr lv fv bad ov:=s.keep fun b el L h1 h2 h3 r=>x.row W r (by rintro (h|h|h)<;>contradiction)
theorem J3.keep{v:IN}{d:ACQ}(o:J3 h A v d)(hbs:True)(hr:∀ b el L,¬ A.D b->h.Row b el L->h'.Row b el L):J3 h' A v d:=o.ACf fun b el L hb _ r=>⟨hr b el L hb r,hb⟩
theorem Z0{b:Nat}(h:¬ A.D b):¬ A.K b:=fun h1=>h (.inr h1)
theorem eS(W:h.Wf)(R:h.Row A.bs 0 (slL A.bd A.tb lv fv bad ov))(hne:¬ A.K A.bs){cs:List (Nat×List Nat)}(d:Dk h A.bd A.bm A.bc A.n M c0 cs arm false){k:Nat}(ha:CI arm (k+1)){v:IN}{i:Nat}{l:List Nat}(o:J3 h A v (.w i l))(hi:i<A.n)(hc:∀ x∈cs,x.1≠i/\x.1<A.n)(hl:l.length=64):
  ∃ h',Ic (call AC (m+4)) v [] h=.ok (AI AT 0) h'/\Fx A.K h h'/\Dk h' A.bd A.bm A.bc A.n M c0 (cs++[(i,l)]) (GG arm) false:=by
 rcases o with ⟨r3,r10,r9,u,rfl,h2,h3,h4,h5,h6,h7,h8⟩|⟨r2,r7,p,rfl,h2,h3,rfl,h5,rfl,h7,h8⟩
 ·obtain⟨l0,_⟩:=BD (R.same (h':=h.marked) rfl)
  have m3:ABa ⟨r3,0,none⟩ h.marked=.ok (pt A.bs) h.marked:=(h2.same (h':=h.marked) rfl).ABa (off:=0) (by show 0<1;omega);have m10:ABa ⟨r10,0,none⟩ h.marked=.ok (AI AT (i:Int)) h.marked:=(h3.same (h':=h.marked) rfl).ABa (off:=0) (by show 0<1;omega);have m9:ABa ⟨r9,0,none⟩ h.marked=.ok u h.marked:=(h4.same (h':=h.marked) rfl).ABa (off:=0) (by show 0<1;omega);obtain⟨h1,k1,f1,d1⟩:=SR (m:=m) W.marked.quiet (d.same (h':=h.marked.quiet) rfl) ha hi hc ((h5.vs.same (h':=h.marked.quiet) rfl).mono fun b hb e=>hb (.inr (.inl e))) hl;have q1:∀ e:Env,J 7 e=pt A.bd->J 8 e=AI AT (i:Int)->J 9 e=u->Aa .free (AS 123 [J 7,J 8,J 9]) (call AC (m+3)) e h.marked=.ok (AI AT 0) (h.marked.back h1):=fun e e1 e2 e3=>by
   refine BF ?_;rw[BP,AU,AU,AU,A5,e1,e2,e3];exact k1
  refine⟨h.marked.back h1,?_,((f1.mono (T:=A.K) fun b hb=>hb.elim .inl fun h=>.inr (.inr h)).from (h:=h.marked) rfl rfl).same (h2:=h.marked.back h1) rfl rfl |>.from (h:=h) rfl rfl,d1.same rfl⟩;rw[DC];show call AC (m+3+1) 129 [pt r3,pt r10,pt r9] h=_;rw[dR rfl];unfold mr;simp only[iN,IT,sT,By,BY,reduceIte,Az,AN,AQ,m3,Au,Ai,AH,AO,sh,l0,m10,m9,q1,lV0]
 ·have m2:ABa ⟨r2,0,none⟩ h.marked=.ok (pt A.bs) h.marked:=(h2.same (h':=h.marked) rfl).ABa (off:=0) (by show 0<1;omega)
  have m7:ABa ⟨r7,0,none⟩ h.marked=.ok (AI AT (p:Int)) h.marked:=(h3.same (h':=h.marked) rfl).ABa (off:=0) (by show 0<1;omega);obtain⟨l0,_⟩:=BD (R.same (h':=h.marked) rfl);have o1:∀ (off:Nat) (kk:C) (F:ABZ) (e:Env),I5 (.pointer (some ⟨r2,off,none⟩)) kk F e h.marked=kk F e h.marked:=fun off kk F e=>Dm (h2.lt W)
  have o2:∀ (off:Nat) (kk:C) (F:ABZ) (e:Env),I5 (.pointer (some ⟨A.bs,off,none⟩)) kk F e h.marked=kk F e h.marked:=fun off kk F e=>Dm (R.lt W)
  have k1:=Nc (m:=m+1) (R.same (h':=h.marked.quiet) rfl) (p:=p) h5;have q1:∀ e:Env,J 7 e=pt A.bs->J 8 e=AI AT (p:Int)->Aa .weak (AS 100 [J 7,J 8]) (call AC (m+3)) e h.marked=.ok (AI AT ((p*3:Nat):Int)) (h.marked.back h.marked.quiet):=fun e e1 e2=>by
   refine Hn W.marked ?_ (If _);rw[BP,AU,AU,A5,e1,e2];exact k1
  have y2:h.Ext (h.marked.back h.marked.quiet):=Hp.Ext.ACe (Hp.Ext.refl W).marked (Hp.Ext.refl W).marked.quiet;have n2:(h.marked.back h.marked.quiet).next=h.next:=rfl;have b2:(h.marked.back h.marked.quiet).bl=h.bl:=rfl;have mk2:(h.marked.back h.marked.quiet).mark=h.next:=rfl;generalize h.marked.back h.marked.quiet=h2' at q1 y2 n2 b2 mk2;have qm:∀ (F:ABZ) (e:Env),Aa .ABn (HH 1 ty5.zero (kV (AI AT 64)) (kV (AI AT 64))) F e h2'=.ok (.slice (some ⟨h2'.next,0,none⟩) 64 64) (h2'.back (h2'.quiet.ABY 0 (Bf.map bv))):=fun F e=>by
   have:=PR (F:=F) (e:=e) y2.quiet.wf (x:=kV (AI AT 64)) (y:=kV (AI AT 64)) (N:=64) rfl rfl (by omega);have hz:th 64 0=Bf:=rfl;exact Cp this ((Hp.Ext.refl y2.quiet.wf).ABY _ _) (by omega)
  have y3:h2'.Ext (h2'.back (h2'.quiet.ABY 0 (Bf.map bv))):=.back ((Hp.Ext.refl y2.wf.quiet).ABY _ _);have R3:(h2'.back (h2'.quiet.ABY 0 (Bf.map bv))).Row h2'.next 0 (Bf.map bv):=(Hp.Row.new y2.wf.quiet 0 (Bf.map bv)).same rfl;have n3:(h2'.back (h2'.quiet.ABY 0 (Bf.map bv))).next=h2'.next+1:=rfl;generalize h2'.back (h2'.quiet.ABY 0 (Bf.map bv))=h3' at qm y3 R3 n3;have x3:=y2.trans y3;have hbd:=(d.lt W).1;have AHx:Bf.length=64:=rfl;obtain⟨h4,k4,f4,d4⟩:=SR (m:=m) x3.wf.quiet ((d.ext W x3).same (h':=h3'.quiet) rfl) ha hi hc (u:=.slice (some ⟨h2'.next,0,none⟩) 64 64) (l:=Bf) (.inr ⟨h2'.next,0,64,0,_,rfl,If _,R3.same rfl,If _,rfl,by omega⟩) rfl;have q4:∀ e:Env,J 6 e=pt A.bd->J 9 e=AI AT ((p * 3:Nat):Int)->J 10 e=.slice (some ⟨h2'.next,0,none⟩) 64 64->Aa .free (AS 123 [J 6,J 9,J 10]) (call AC (m+3)) e h3'=.ok (AI AT 0) (h3'.back h4):=fun e e1 e2 e3=>by
   refine BF ?_;rw[BP,AU,AU,AU,A5,e1,e2,e3];exact k4
  refine⟨h3'.back h4,?_,(Fx.of (S:=A.K) x3).trans (((f4.mono (T:=A.K) fun b hb=>hb.elim .inl fun h=>.inr (.inr h)).from (h:=h3') rfl rfl).same (h2:=h3'.back h4) rfl rfl),d4.same rfl⟩;rw[DC];show call AC (m+3+1) 122 [pt r2,pt r7] h=_;rw[dK rfl];unfold mg;simp only[iN,IT,sT,By,BY,reduceIte,Az,EG,o1,o2,DU,AN,AQ,m2,Au,Ai,AH,AO,sh,l0,m7,q1,qm,q4,lV0]
theorem jL:alS=BB (AY 0 (A4 alB)) alE:=rfl
theorem dw:mO=UY:=rfl
theorem SV(W:h.Wf)(R:h.Row A.bs 0 (slL A.bd A.tb lv fv bad ov))(hne:¬ A.K A.bs)(d:Dk h A.bd A.bm A.bc A.n M c0 [] arm false){ds:List ACQ}{vs:List IN}{dv:IN}(V:h.VS (fun b=>¬ A.D b) dv vs)(hlen:vs.length=ds.length)(hd:∀ (i:Nat) (v:IN) (x:ACQ),vs[i]? =some v->ds[i]? =some x->J3 h A v x)(hok:FL A.n [] ds)(ha:CI arm ds.length)(ADp:ds.length<=100):
  ∃ h' c1 AB7,call AC (m+5) 101 [pt A.bs,dv] h=.ok (AI AT 0) h'/\Fx A.K h h'/\Dk h' A.bd A.bm A.bc A.n (Gf M [] ds).1 c1 (Gf M [] ds).2 AB7 false/\AB7=(vG ds.length).foldl (fun a _=>GG a) arm:=by
 have Vl:=V.vals.len;have pre:∃ e1,UY (call AC (m+4)) (As e0 0 [pt A.bs,dv]) h=alS (call AC (m+4)) e1 h/\J 0 e1=pt A.bs/\J 8 e1=dv/\J 9 e1=AI AT (vs.length:Int)/\J 10 e1=AI AT ((0:Nat):Int):=by
  unfold UY;simp only[iN,IT,sT,By,BY,reduceIte,AX,Vl];exact⟨_,rfl,by simp[AG]⟩
 obtain⟨e1,p1,s0,s8,s9,s10⟩:=pre;have run:∃ e' h' c1 AB7,A4 alB (call AC (m+4)) e1 h=.exit 0 e' h'/\Fx A.K h h'/\Dk h' A.bd A.bm A.bc A.n (Gf M [] ds).1 c1 (Gf M [] ds).2 AB7 false/\AB7=(vG ds.length).foldl (fun a _=>GG a) arm:=by
  refine Bb (I:=fun i e' h'=>∃ (M':List Nat) (cs':List (Nat×List Nat)) (c1:Nat) (AB7:Int),Fx A.K h h'/\Dk h' A.bd A.bm A.bc A.n M' c1 cs' AB7 false/\AB7=(vG i).foldl (fun a _=>GG a) arm/\CI AB7 (ds.length - i)/\FL A.n cs' (ds.drop i)/\Gf M [] ds=Gf M' cs' (ds.drop i)/\ADb cs'/\ACr A.n cs'/\i<=ds.length/\J 0 e'=pt A.bs/\J 8 e'=dv/\J 9 e'=AI AT (vs.length:Int)/\J 10 e'=AI AT (i:Int))
   (Q:=fun x=>∃ e' h' c1 AB7,x=.exit 0 e' h'/\Fx A.K h h'/\Dk h' A.bd A.bm A.bc A.n (Gf M [] ds).1 c1 (Gf M [] ds).2 AB7 false/\AB7=(vG ds.length).foldl (fun a _=>GG a) arm) ds.length (by omega) (fun i e' h' ⟨M',cs',c1,AB7,x',d',ea,ha',ok',er,hK,hS,hi,t0,t8,t9,t10⟩=>?_)
   ⟨M,[],c0,arm,.refl W,d,rfl,by rw[Nat.sub_zero];exact ha,by rw[uv];exact hok,by rw[uv],fun i j y z h=>(by cases h),fun y hy=>(by cases hy),uD _,s0,s8,s9,s10⟩
  by_cases hlt:i<ds.length
  ·left
   have hiv:i<vs.length:=by omega
   have c1':iLt (i:Int) (vs.length:Int)=true:=EP hiv;have V':=V.fx W x' fun b hb=>Z0 hb
   obtain⟨a,g1,g2⟩:=V'.vals.at hiv;have hv:vs[i]? =some (vs.getD i ABd):=by rw[tY,tW hiv];rfl
   have hx:ds[i]? =some (ds[i]'hlt):=tW hlt;have dI:=(hd i _ _ hv hx).keep (h':=h') trivial fun b el L hb r=>x'.row W r (Z0 hb)
   generalize vs.getD i ABd=v at g2 dI;have AD6:ds.drop i=ds[i]'hlt::ds.drop (i+1):=List.drop_eq_getElem_cons hlt;rw[AD6]at ok' er;generalize ds[i]'hlt=x at dI ok' er;have hk:ds.length - i=(ds.length - (i+1))+1:=by omega
   rw[hk]at ha';have R':=x'.row W R hne;have step:∃ h2 M2 cs2 c2,Ic (call AC (m+4)) v [] h'=.ok (AI AT 0) h2/\Fx A.K h' h2/\Dk h2 A.bd A.bm A.bc A.n M2 c2 cs2 (GG AB7) false/\FL A.n cs2 (ds.drop (i+1))/\Gf M [] ds=Gf M2 cs2 (ds.drop (i+1))/\ADb cs2/\ACr A.n cs2:=by
    cases x with
    |w j l=>
     obtain⟨o1,o2,o3,o4,o5⟩:=ok';obtain⟨h2,k2,f2,d2⟩:=eS (m:=m) x'.wf R' hne d' ha' dI o2 (fun y hy=>⟨o1 y hy,(hS y hy).1⟩) o3;refine⟨h2,M',cs'++[(j,l)],c1,k2,f2,d2,o5,er,fun p q y z hp hq he=>?_,fun y hy=>?_⟩
     ·rcases uG p cs'.length with hp1|hp1<;>rcases uG q cs'.length with hq1|hq1
      ·rw[uJ hp1]at hp
       rw[uJ hq1]at hq;exact hK p q y z hp hq he
      ·rw[uJ hp1]at hp
       have hzm:=tq hq;rw[uI hq1]at hq;have hz:=tq hq;rw[uF.1 hz]at he;exact absurd he (o1 y (tq hp))
      ·rw[uJ hq1]at hq
       rw[uI hp1]at hp;have hz:=tq hp;rw[uF.1 hz]at he;exact absurd he.symm (o1 z (tq hq))
      ·have h1:=(uK.1 hp).1
       have h2:=(uK.1 hq).1;rw[No,uU]at h1 h2;omega
     ·rcases uP.1 hy with hy|hy
      ·exact hS y hy
      ·rw[uF.1 hy];exact⟨o2,o3,o4⟩
    |f=>
     obtain⟨o1,o2,o3⟩:=ok';obtain⟨h2,k2,f2,d2⟩:=ZT (m:=m+1) x'.wf d' ha' hK hS o1 o2;have dI:v=.func (.func 124) ⟨[pt A.bd]⟩ ⟨[]⟩:=dI;exact⟨h2,F5 M' cs',[],_,by rw[dI,DC];exact k2,f2,d2,o3,er,fun i j y z h=>(by cases h),fun y hy=>by cases hy⟩
   obtain⟨h2,M2,cs2,c2,k2,f2,d2,ok2,er2,hK2,hS2⟩:=step;have c0':iNe 0 0=false:=B5 rfl;have a3:=Cd (i:=i) (h:=h2) (by omega);have hrun:∃ e2,alB (call AC (m+4)) e' h'=.norm e2 h2/\J 0 e2=pt A.bs/\J 8 e2=dv/\J 9 e2=AI AT (vs.length:Int)/\J 10 e2=AI AT ((i+1:Nat):Int):=by
    unfold alB;simp only[sT,By,BY,reduceIte,AK,AJ,t10,t9,c1',BA,t8,g1,AN,g2,Ck,A5,k2,c0',BR,a3];exact⟨_,rfl,by simp[AG,t0,t8,t9]⟩
   obtain⟨e2,r1,r2,r3,r4,r5⟩:=hrun;exact⟨hlt,e2,h2,r1,M2,cs2,c2,GG AB7,x'.trans f2,d2,by rw[List.range_succ,List.foldl_append,<- ea];rfl,ha'.one.1,ok2,er2,hK2,hS2,by omega,r2,r3,r4,r5⟩
  ·right
   have hie:i=ds.length:=by omega
   have c1':iLt (i:Int) (vs.length:Int)=false:=Cv (by omega);have hrun:∃ e2,alB (call AC (m+4)) e' h'=.exit 0 e2 h':=by
    unfold alB;simp only[sT,By,BY,reduceIte,AK,AJ,t10,t9,c1'];exact⟨_,rfl⟩
   obtain⟨e2,r1⟩:=hrun;rw[r1];rw[hie,List.drop_length]at er;have er:Gf M [] ds=(M',cs'):=er;rw[er];exact⟨rfl,e2,h',c1,AB7,rfl,x',d',by rw[ea,hie]⟩
 obtain⟨e2,h2,c1,AB7,r1,r2,r3,r4⟩:=run;refine⟨h2,c1,AB7,?_,r2,r3,r4⟩;rw[dA rfl,dw,p1,jL];simp only[A9,An,r1,A8,A3];unfold alE;simp only[sT,By,BY,reduceIte,lV0]
end
end
end Go.Proofs.YtbjadbhkogcfeaaGreat

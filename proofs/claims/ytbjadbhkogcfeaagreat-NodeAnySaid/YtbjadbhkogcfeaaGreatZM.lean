/-
  Part ZM of what Lawan stands on: printed by program, names and spaces cut.
-/
import Derived.Test.YtbjadbhkogcfeaaGreatZL
open Go.Value renaming int→AI
open Go.IntKind renaming i64→AT
open Nat renaming reduceEqDiff→BY,reduceLT→By,reduceAdd→IT,le_refl→If,zero_add→sh,beq→tm,zero_le→uD,lt_or_ge→uG,le_trans→uO,eq_zero_or_pos→ug,reduceLeDiff→vR,add_zero→vS,mul_comm→wP,min_eq_left→yj,mul_zero→zK
open Go renaming Value→IN
open List renaming length_append→No,length_map→OF,getElem?_eq_getElem→tW,getD_eq_getElem?_getD→tY,length_cons→tZ,mem_cons_of_mem→td,mem_cons_self→te,replicate→th,mem_of_getElem?→tq,mem_cons→uA,append_assoc→uC,mem_singleton→uF,append_nil→uH,getElem?_append_right→uI,getElem?_append_left→uJ,length_take→uL,nil_append→uN,mem_append→uP,length_nil→uR,length_singleton→uU,map_append→ud,drop_zero→uv,getElem?_cons_succ→vB,drop_of_length_le→vC,take_length→vF,range→vG,eq_nil_of_length_eq_zero→vJ,cons_append→vM,take_of_length_le→vX,append_eq→vZ,drop_eq_getElem_cons→vr,reverse_append→wL,drop→wT,take→wh,nodup_cons→wi,length_reverse→xG,eq_of_mem_replicate→xV,singleton_append→yD,reverse_reverse→yM,take_append_of_le_length→ye,mem_reverse→yf,length_range→yu,range_succ→zR,any_cons→zT,find?_cons_of_neg→zZ,map_nil→AA2
open Int renaming ofNat→vW
open Classical renaming propDecidable→xC,choose→ABE,choose_spec→ABO
set_option linter.unusedVariables false
set_option linter.unusedSimpArgs false
namespace Go.Proofs.YtbjadbhkogcfeaaGreat
noncomputable section
open Go
set_option maxRecDepth 100000
def C7(l:List Nat)(j:Nat):List Nat:=(l.drop (64*j)).take 64++th (64 - ((l.drop (64*j)).take 64).length) 0
theorem Cw(l:List Nat)(j:Nat):(C7 l j).length=64:=by
 unfold C7;rw[No,List.length_replicate,uL];omega
theorem L7{l:List Nat}(h:∀ x∈l,x<256)(j:Nat):∀ x∈C7 l j,x<256:=fun x hx=>by
 rcases uP.1 hx with hx|hx
 ·exact h x (List.mem_of_mem_drop (List.mem_of_mem_take hx))
 ·rw[xV hx];decide
section
variable {F:ABZ}{e:Env}{h h':Hp}{A:At}{bad m:Nat}{lv fv:IN}{ov:Bool}
theorem Hp.ABy.AG5{v:IN}{l:List IN}(b:h.ABy v l){n:Nat}(hn:n<=l.length)(k:List IN->R):BI h 1 v n k=k (l.take n):=by
 rcases b with ⟨h1,h2⟩|⟨b,off,c,el,L,h1,h2,h3,h4⟩
 ·subst h1;subst h2
  obtain rfl:n=0:=by simpa using hn
  rfl
 ·rw[h1,h2.src (by omega),<- h4,List.take_take,yj hn]
theorem Yp(W:h.Wf){x y:O}{r:Nat}{w:IN}{l:List Nat}(ABj:256<=r)(hx:x e=.slice (some ⟨r,0,none⟩) 64 64)(hy:y e=w)(V:h.ABy w (l.map bv))(R:h.Row r 0 (Bf.map bv)):
  ∃ v',Jh 1 x y F e h=.ok v' (h.wr r 0 ((l.take 64).map bv))/\over (Bf.map bv) 0 ((l.take 64).map bv)=(C7 l 0).map bv:=by
 have hz:(Bf.map bv).length=64:=rfl;have hn:CC l.length 64<=(l.map bv).length:=by rw[OF,BW];omega
 have ht:(l.map bv).take (CC l.length 64)=(l.take 64).map bv:=by
  rw[<- List.map_take,BW]
  congr 1
  rcases Nat.le_total l.length 64 with h1|h1
  ·rw[yj h1,vF,vX h1]
  ·rw[Nat.min_eq_right h1]
 refine⟨AI AT (CC l.length 64:Nat),?_,?_⟩
 ·show QH 1 (x e) (y e) h=_
  rw[hx,hy];unfold QH;have lv:=V.lenV;rw[OF]at lv;simp only[lv,Am,V.AG5 hn,ht];rw[R.store W ABj (by rw[hz,OF,uL];omega) (DB _)];rfl
 ·unfold over C7
  rw[List.take_zero,uN,sh,ud,zK,uv,OF,<- List.map_drop]
  congr 2
  show wT _ (th 64 0)=_;rw[List.drop_replicate]
theorem Pr:Bo .mt 0 [.slice none 0 0]=some qh:=by kernel_rfl
theorem cZ:Bo .mt 0 [AI AT 0]=some zt3:=by kernel_rfl
theorem JJ(W:h.Wf){t:VT}{z v:IN}(ht:Bo .mt 0 [z]=some t)(h1:cellsOf v=[v])(ho:oneCell v=true):
  ∃ h',(∀ (F:ABZ) (e:Env),BN 1 t F e h=.ok (pt h.next) (h.push (.cells t 1 0)))/\ABg 1 (pt h.next) v (h.push (.cells t 1 0))=.ok ABd h'/\h.Ext h'/\h'.Row h.next 0 [v]/\h'.next=h.next+1/\h'.mark=h.mark:=by
 have R:=Hp.Row.alloc W ht (show [z].length=1 from rfl);have x:h.Ext (h.push (.cells t 1 0)):=(Hp.Ext.refl W).push _;have hoo:0+(cellsOf v).length<=[z].length:=by rw[h1];exact If _
 have st:=R.ABg (n:=1) (off:=0) x.wf W.big (v:=v) (by rw[h1];rfl) hoo (by
  rw[h1];show(bif oneCell v then true else false)=true;rw[ho];rfl)
 have wr:=R.ABl x.wf hoo;rw[EJ (by rw[h1];rfl),h1]at wr;rw[h1]at st;have AFV:0+[v].length<=[z].length:=If _;obtain⟨_,_,ew,_⟩:=R.ACh AFV;exact⟨_,fun F e=>BL W,st,R.AB3 x (If _) AFV,wr,R.ACH AFV,by rw[ew];rfl⟩
theorem qc:BO SM.zero 1=[.nilFunc]:=by kernel_rfl
theorem JV(W:h.Wf){g:O}{f:Nat}{a b:List IN}(hg:g e=.func (.func f) ⟨a⟩ ⟨b⟩):Ab 1 (BO SM.zero 1) [(0,1,g)] F e h=.ok (.slice (some ⟨h.next,0,none⟩) 1 1) (h.ABY 0 [.func (.func f) ⟨a⟩ ⟨b⟩]):=by
 rw[qc];exact Gb W hg rfl rfl
theorem qv{i:Nat}(hi:i<=1000000):Sw .i64 (AI AT ((64*i:Nat):Int)) (AI AT 64) h=.ok (AI AT (i:Int)) h:=by
 have:((64*i:Nat):Int).tdiv 64=(i:Int):=by
  show vW ((64*i)/64)=_;rw[Nat.mul_div_cancel_left _ (by decide)];rfl
 rw[LX (by omega),this,Bc (by omega)]
theorem qO:wrS=BB (AY 0 (A4 wrB)) wrE:=rfl
theorem nZ:d99=eQ:=rfl
def CS(h:Hp)(A:At)(k:Nat)(v:IN)(ds:List ACQ):Prop:=∃ vs,h.Own k 76 v vs/\vs.length=ds.length/\∀ (i:Nat) (w:IN) (x:ACQ),vs[i]? =some w->ds[i]? =some x->IP h A (fun b=>¬ A.D b/\¬ ABw v b) w x
theorem fX{b k:Nat}(hD:∀ b,A.D b->b<k)(hb:k<=b):¬ A.D b:=fun h=>by have:=hD b h;omega
theorem CS.ext{k:Nat}{v:IN}{ds:List ACQ}(o:CS h A k v ds)(W:h.Wf)(x:h.Ext h'):CS h' A k v ds:=by
 obtain⟨vs,a,b,c⟩:=o;exact⟨vs,a.ext W x,b,fun i w y h1 h2=>(c i w y h1 h2).ACf fun b el L hb _ r=>⟨r.ext W x,hb⟩⟩
theorem CS.same{k:Nat}{v:IN}{ds:List ACQ}(o:CS h A k v ds)(hb:h'.bl=h.bl):CS h' A k v ds:=by
 obtain⟨vs,a,b,c⟩:=o;exact⟨vs,a.same hb,b,fun i w y h1 h2=>(c i w y h1 h2).ACf fun b el L hb' _ r=>⟨r.same hb,hb'⟩⟩
theorem CS.snoc{h0:Hp}{k:Nat}{v w:IN}{ds:List ACQ}{f:Nat}{a b:List IN}(x0:h0.Ext h)(hk:h0.next<=k)(hk2:k<=h.next)(o:CS h A k v ds)(hw:w=.func (.func f) ⟨a⟩ ⟨b⟩){d:ACQ}(hd:IP h A (fun b=>¬ A.D b/\¬ ABw v b) w d)(hl:ds.length<=1000):
  ∃ h' v',DN 1 8 76 v (.slice (some ⟨h.next,0,none⟩) 1 1) (h.ABY 0 [w])=.ok v' h'/\h0.Ext h'/\CS h' A k v' (ds++[d])/\h.next<=h'.next/\(∀ b el L,¬ ABw v b->h.Row b el L->h'.Row b el L):=by
 obtain⟨vs,o1,o2,o3⟩:=o;have W:=x0.wf;have x1:=x0.ABY 0 [w];have y1:=(Hp.Ext.refl W).ABY 0 [w];have on:oneCell w=true:=by rw[hw];rfl
 obtain⟨h',v',a1,a2,a3,a4,a5⟩:=Er (eb:=8) (en:=76) (k:=k) (u:=.slice (some ⟨h.next,0,none⟩) 1 1) (ys:=[w]) x1 hk (Nat.le_succ_of_le hk2) (o1.ext W y1) (Mp W) (by simp) (by
  show(bif oneCell w then true else false)=true;rw[on];rfl) (by simp only[uU];omega)
 have kp:∀ b el L,¬ A.D b/\¬ ABw v b->(el=0\/el=6)->h.Row b el L->h'.Row b el L/\(¬ A.D b/\¬ ABw v' b):=fun b el L hb _ r=>by
  have:=a5 b el L hb.2 (r.ext W y1);exact⟨this.1,hb.1,this.2⟩
 refine⟨h',v',a1,a2,⟨vs++[w],a3,by rw[No,No,o2];rfl,fun i z y h1 h2=>?_⟩,by have:h'.next=h.next+1+1:=a4;omega,fun b el L hb r=>(a5 b el L hb (r.ext W y1)).1⟩;rcases uG i vs.length with hi|hi
 ·rw[uJ hi]at h1
  rw[uJ (by omega)]at h2;exact(o3 i z y h1 h2).ACf kp
 ·rw[uI hi]at h1
  rw[uI (by omega)]at h2;have e1:=uF.1 (tq h1);have e2:=uF.1 (tq h2);rw[e1,e2];exact hd.ACf kp
theorem CS.app{h0:Hp}{k k2:Nat}{v v2:IN}{ds ds2:List ACQ}(x0:h0.Ext h)(hk:h0.next<=k)(hk2:k<=h.next)(o:CS h A k v ds)(o2:CS h A k2 v2 ds2)(hne:0<ds2.length)(hl:ds.length+ds2.length<=1000):
  ∃ h' v',DN 1 8 76 v v2 h=.ok v' h'/\h0.Ext h'/\CS h' A k v' (ds++ds2)/\h.next<=h'.next/\(∀ b el L,(el=0\/el=6)->h.Row b el L->h'.Row b el L):=by
 obtain⟨vs,o1,o2',o3⟩:=o;obtain⟨ws,p1,p2,p3⟩:=o2;have W:=x0.wf;have on:∀ w∈ws,oneCell w=true:=fun w hw=>by
  obtain⟨i,hi⟩:=List.mem_iff_getElem?.1 hw;have hil:=(List.getElem?_eq_some_iff.1 hi).1;exact ZA (p3 i w _ hi (tW (by omega)))
 obtain⟨h',v',a1,a2,a3,a4,a5⟩:=Er (eb:=8) (en:=76) (k:=k) (u:=v2) (ys:=ws) x0 hk hk2 o1 p1.vals (by omega) (PW on) (by omega);have nbv:∀ b el L,(el=0\/el=6)->h.Row b el L->¬ ABw v b:=fun b el L he r ⟨off,nn,c,e1⟩=>by
  rcases o1 with ⟨h1,h2⟩|⟨b',h1,h2,h3,h4⟩
  ·rw[h1]at e1;cases e1
  ·rw[h1]at e1
   injection e1 with e1 _ _
   injection e1 with e1
   injection e1 with e1 _ _
   rw[e1]at h2;exact FJ r h2 (by omega) rfl
 have kp:∀ b el L,¬ A.D b->(el=0\/el=6)->h.Row b el L->h'.Row b el L/\(¬ A.D b/\¬ ABw v' b):=fun b el L hb he r=>by
  have:=a5 b el L (nbv b el L he r) r;exact⟨this.1,hb,this.2⟩
 refine⟨h',v',a1,a2,⟨vs++ws,a3,by rw[No,No,o2',p2],fun i z y h1 h2=>?_⟩,by omega,fun b el L he r=>(a5 b el L (nbv b el L he r) r).1⟩;rcases uG i vs.length with hi|hi
 ·rw[uJ hi]at h1
  rw[uJ (by omega)]at h2;exact(o3 i z y h1 h2).ACf fun b el L hb he r=>kp b el L hb.1 he r
 ·rw[uI hi]at h1
  rw[uI (by omega),<- o2']at h2;exact(p3 _ z y h1 h2).ACf fun b el L hb he r=>kp b el L hb.1 he r
theorem CS.ends{k:Nat}{v:IN}{ds:List ACQ}(o:CS h A k v ds)(hD:∀ b,A.D b->b<k):∃ vs,h.VS (fun b=>¬ A.D b) v vs/\vs.length=ds.length/\∀ (i:Nat) (w:IN) (x:ACQ),vs[i]? =some w->ds[i]? =some x->J3 h A w x:=by
 obtain⟨vs,o1,o2,o3⟩:=o;refine⟨vs,?_,o2,fun i w x h1 h2=>(o3 i w x h1 h2).ACf fun b el L hb _ r=>⟨r,hb.1⟩⟩;rcases o1 with ⟨h1,h2⟩|⟨b,h1,h2,h3,h4⟩
 ·exact .inl ⟨h1,h2⟩
 ·exact .inr ⟨b,0,_,_,vs,h1,If _,h2,by omega,by rw[uv,vF],fX hD h3⟩
theorem Kq(W:h.Wf)(R:h.Row A.bs 0 (slL A.bd A.tb lv fv bad ov))(hD:∀ b,A.D b->b<h.next){sct:Nat}(hs:sct<=100000){u:IN}{l:List Nat}{ku:Nat}(U:Mk h ku u l)(hl:l.length<=6400):
  ∃ h' v,call AC (m+1) 99 [pt A.bs,AI AT (sct:Int),u] h=.ok v h'/\h.Ext h'/\CS h' A h.next v ((vG ((l.length+63)/64)).map (fun j=>ACQ.w (sct+j) (C7 l j))++[.f]):=by
 have bx:=fun (F:ABZ) (e:Env) (he:J 0 e=pt A.bs)=>(show CW (J 0) F e h=.ok (pt h.next) (h.ABY 0 [pt A.bs])by rw[Dx,he,Dt W];rfl)
 have x1:=(Hp.Ext.refl W).ABY 0 [pt A.bs];have R3:=Hp.Row.new W 0 [pt A.bs];have n1:(h.ABY 0 [pt A.bs]).next=h.next+1:=rfl;generalize h.ABY 0 [pt A.bs]=h1 at bx x1 R3 n1;have nD3:¬ A.D h.next:=fX hD (If _);have pre:∃ e1,eQ (call AC m) (As e0 0 [pt A.bs,AI AT (sct:Int),u]) h=wrS (call AC m) e1 h1/\J 1 e1=AI AT (sct:Int)/\J 2 e1=u/\J 3 e1=pt h.next/\J 7 e1=.slice none 0 0/\J 8 e1=AI AT ((64 * 0:Nat):Int):=by
  unfold eQ;simp only[iN,IT,sT,By,BY,reduceIte,bx];exact⟨_,rfl,by simp[AG]⟩
 obtain⟨e1,p1,s1,s2,s3,s7,s8⟩:=pre;have run:∃ e' h' v,A4 wrB (call AC m) e1 h1=.exit 0 e' h'/\h.Ext h'/\CS h' A h1.next v ((vG ((l.length+63)/64)).map fun j=>ACQ.w (sct+j) (C7 l j))/\h'.Row h.next 0 [pt A.bs]/\h1.next<=h'.next/\J 3 e'=pt h.next/\J 7 e'=v:=by
  refine Bb (I:=fun i e' h'=>∃ v,h.Ext h'/\CS h' A h1.next v ((vG i).map fun j=>ACQ.w (sct+j) (C7 l j))/\h'.Row h.next 0 [pt A.bs]/\h1.next<=h'.next/\i<=(l.length+63)/64/\J 1 e'=AI AT (sct:Int)/\J 2 e'=u/\J 3 e'=pt h.next/\J 7 e'=v/\J 8 e'=AI AT ((64*i:Nat):Int))
   (Q:=fun x=>∃ e' h' v,x=.exit 0 e' h'/\h.Ext h'/\CS h' A h1.next v ((vG ((l.length+63)/64)).map fun j=>ACQ.w (sct+j) (C7 l j))/\h'.Row h.next 0 [pt A.bs]/\h1.next<=h'.next/\J 3 e'=pt h.next/\J 7 e'=v) ((l.length+63)/64) (by omega) (fun i e' h' ⟨v,x',dv,R',hn',hi,t1,t2,t3,t7,t8⟩=>?_)
   ⟨_,x1,⟨[],.inl ⟨rfl,rfl⟩,rfl,fun i w x h=>by cases h⟩,R3,If _,uD _,s1,s2,s3,s7,s8⟩
  have Ul:=U.vals.bl h';have W':=x'.wf;by_cases hlt:64*i<l.length
  ·left
   have c1:iLt ((64*i:Nat):Int) (l.length:Int)=true:=EP hlt;have mk:∀ (F:ABZ) (e:Env),HH 1 ty5.zero (kV (AI AT 64)) (kV (AI AT 64)) F e h'=.ok (.slice (some ⟨h'.next,0,none⟩) 64 64) (h'.ABY 0 (Bf.map bv)):=fun F e=>PR (F:=F) (e:=e) W' (x:=kV (AI AT 64)) (y:=kV (AI AT 64)) (N:=64) rfl rfl (by omega)
   have y2:=(Hp.Ext.refl W').ABY 0 (Bf.map bv);have Rz:=Hp.Row.new W' 0 (Bf.map bv);have n2:(h'.ABY 0 (Bf.map bv)).next=h'.next+1:=rfl;generalize h'.ABY 0 (Bf.map bv)=h2 at mk y2 Rz n2;obtain⟨h3,al,st,y3,R9,n3,_⟩:=JJ y2.wf Pr (v:=.slice (some ⟨h'.next,0,none⟩) 64 64) rfl rfl;have y23:=y2.trans y3;have Rz3:=Rz.ext y2.wf y3;have x3:=x'.trans y23;have R9m:h3.marked.Row h2.next 0 [.slice (some ⟨h'.next,0,none⟩) 64 64]:=R9.same rfl;have l9:ABa ⟨h2.next,0,none⟩ h3.marked=.ok (.slice (some ⟨h'.next,0,none⟩) 64 64) h3.marked:=R9m.ABa (off:=0) (by show 0<1;omega);obtain⟨w,ct,Vw⟩:=QJ (((U.ext W x3).same (h':=h3.marked) rfl)) (m:=64 * i) (by omega);have ADO:=W'.big;have cpy:∃ h4,(∀ (F:ABZ) (e:Env),J 18 e=.slice (some ⟨h'.next,0,none⟩) 64 64->J 21 e=w->∃ vv,Aa .free (Jh 1 (J 18) (J 21)) F e h3.marked=.ok vv h4)/\h'.Ext h4/\h4.Row h'.next 0 ((C7 (l.drop (64 * i)) 0).map bv)/\h4.Row h2.next 0 [.slice (some ⟨h'.next,0,none⟩) 64 64]/\h3.next<=h4.next:=by
    have Rq:h3.marked.quiet.Row h'.next 0 (Bf.map bv):=Rz3.same rfl;have hle:0+(((l.drop (64*i)).take 64).map bv).length<=(Bf.map bv).length:=by
     rw[OF,uL];show _<=64;omega
    have key:=fun (F:ABZ) (e:Env) (a1:J 18 e=.slice (some ⟨h'.next,0,none⟩) 64 64) (a2:J 21 e=w)=>Yp (F:=F) (e:=e) (h:=h3.marked.quiet) y23.wf.marked.quiet ADO a1 a2 (Vw.same (h':=h3.marked.quiet) rfl) Rq
    have wr:=Rq.ABl y23.wf.marked.quiet hle;have wx:=Rq.AB3 (h0:=h') (y23.marked.quiet) (If _) hle;have wo:=Rq.ACi y23.wf.marked.quiet hle (R9.same (h':=h3.marked.quiet) rfl) (by omega);have wn:=Rq.ACH hle;have ho:over (Bf.map bv) 0 (((l.drop (64*i)).take 64).map bv)=(C7 (l.drop (64*i)) 0).map bv:=by
     have hk:=Yp (F:=call AC m) (e:=Env.set 18 (.slice (some ⟨h'.next,0,none⟩) 64 64) (Env.set 21 w e0)) (h:=h3.marked.quiet) (x:=J 18) (y:=J 21) y23.wf.marked.quiet ADO (by simp[AG]) (by simp[AG]) (Vw.same (h':=h3.marked.quiet) rfl) Rq;obtain⟨_,_,h2⟩:=hk;exact h2
    rw[ho]at wr;generalize h3.marked.quiet.wr h'.next 0 (((l.drop (64 * i)).take 64).map bv)=g at key wr wx wo wn;refine⟨h3.marked.back g,fun F e a1 a2=>?_,Hp.Ext.ACe y23.marked wx,wr.same rfl,wo.same rfl,by show _<=g.next;rw[wn];exact If _⟩;obtain⟨vv,k1,_⟩:=key F e a1 a2;exact⟨vv,BF k1⟩
   obtain⟨h4,cp,y4,Rc,R94,n4⟩:=cpy;have x4:=x'.trans y4;have dv4:=qv (h:=h4) (i:=i) (by omega);have ad:=UG (h:=h4) (a:=sct) (b:=i) (by omega);obtain⟨h5,al5,st5,y5,R10,n5,_⟩:=JJ y4.wf cZ (v:=AI AT ((sct+i:Nat):Int)) rfl rfl;have y45:=y4.trans y5;have x5:=x'.trans y45;have dv5:=(dv.ext W' y45);have hbk:∀ b,h'.next<=b->¬ ABw v b:=fun b hb hv=>by
    obtain⟨vs,o1,_⟩:=dv;rcases o1 with ⟨h1,_⟩|⟨b',h1,h2,_⟩
    ·rw[h1]at hv;exact JD hv
    ·have:=h2.lt W'
     rw[h1]at hv;obtain⟨o,nn,c,hc⟩:=hv;injection hc with hc _ _
     injection hc with hc
     injection hc with hc _ _
     omega
   have hx1:=x1.next;have nDb:∀ b,h.next<=b->¬ A.D b:=fun b hb=>fX hD hb
   have hb3:¬ ABw v h.next:=fun hv=>by
    obtain⟨vs,o1,_⟩:=dv;rcases o1 with ⟨h1',_⟩|⟨b',h1',h2',h3',_⟩
    ·rw[h1']at hv;exact JD hv
    ·rw[h1']at hv
     obtain⟨o,nn,c,hc⟩:=hv;injection hc with hc _ _
     injection hc with hc
     injection hc with hc _ _
     omega
   have R3':=R'.ext W' y45;have ds:IP h5 A (fun b=>¬ A.D b/\¬ ABw v b) (.func (.func 129) ⟨[]⟩ ⟨[pt h.next,pt h4.next,pt h2.next]⟩) (.w (sct+i) (C7 l i)):=by
    refine .inl ⟨h.next,h4.next,h2.next,.slice (some ⟨h'.next,0,none⟩) 64 64,rfl,R3',R10,R94.ext y4.wf y5,.inr ⟨h'.next,0,64,0,_,by rw[OF,Cw],by rw[OF,Cw];exact If _,Rc.ext y4.wf y5,?_,?_,⟨nDb _ (by omega),hbk _ (If _)⟩,.inl rfl⟩,⟨nDb _ (If _),hb3⟩,⟨nDb _ (by omega),hbk _ (by omega)⟩,⟨nDb _ (by omega),hbk _ (by omega)⟩⟩
    ·rw[OF,OF,Cw,Cw];exact If _
    ·have:C7 (l.drop (64*i)) 0=C7 l i:=by unfold C7;rw[zK,uv]
     rw[this,uv,vF]
   obtain⟨h6,v6,k6,x6,dv6,n6,kp6⟩:=dv5.snoc (f:=129) x5 (uO hx1 (If _)) (by omega) rfl ds (by rw[OF,yu];omega);have er:(vG (i+1)).map (fun j=>ACQ.w (sct+j) (C7 l j))=(vG i).map (fun j=>ACQ.w (sct+j) (C7 l j))++[ACQ.w (sct+i) (C7 l i)]:=by rw[zR,ud];rfl
   rw[<- er]at dv6;have fs:=fun (F:ABZ) (e:Env) (a:J 28 e=.func (.func 129) ⟨[]⟩ ⟨[pt h.next,pt h4.next,pt h2.next]⟩)=>JV (F:=F) (e:=e) x5.wf a
   have a3:Fs .i64 (AI AT ((64*i:Nat):Int)) (AI AT 64) h6=.ok (AI AT ((64*(i+1):Nat):Int)) h6:=by
    have:=UG (h:=h6) (a:=64*i) (b:=64) (by omega);rw[show 64*i+64=64*(i+1)by omega]at this;exact this
   have hrun:∃ e2,wrB (call AC m) e' h'=.norm e2 h6/\J 1 e2=AI AT (sct:Int)/\J 2 e2=u/\J 3 e2=pt h.next/\J 7 e2=v6/\J 8 e2=AI AT ((64*(i+1):Nat):Int):=by
    obtain⟨vv,cp⟩:=cp (call AC m) (Env.set 21 w (Env.set 18 (.slice (some ⟨h'.next,0,none⟩) 64 64) (Env.set 9 (pt h2.next) (Env.set 17 (.slice (some ⟨h'.next,0,none⟩) 64 64) (Env.set 14 (.bool true) (Env.set 13 (AI AT (l.length:Int)) e')))))) (by simp[AG]) (by simp[AG]);unfold wrB;simp only[sT,By,BY,reduceIte,AX,t2,Ul,AK,AJ,t8,c1,mk,al,AW,st,Az,AN,AQ,l9];rw[ct _ _ _ _ (by simp[AG,t2]) (by simp[AG,t8])];simp only[sT,By,BY,reduceIte,cp,Ji,t8,dv4,BR,t1,ad,al5,AW,st5,Dj,AU,A5,t3,fs,BZ,t7,k6,a3];exact⟨_,rfl,by simp[AG,t1,t2,t3]⟩
   obtain⟨e2,r1,r2,r3,r4,r5,r6⟩:=hrun;exact⟨by omega,e2,h6,r1,v6,x6,dv6,kp6 _ _ _ hb3 R3',by omega,by omega,r2,r3,r4,r5,r6⟩
  ·right
   have hie:i=(l.length+63)/64:=by omega
   have c1:iLt ((64*i:Nat):Int) (l.length:Int)=false:=Cv (by omega);have hrun:∃ e2,wrB (call AC m) e' h'=.exit 0 e2 h'/\J 3 e2=pt h.next/\J 7 e2=v:=by
    unfold wrB;simp only[sT,By,BY,reduceIte,AX,t2,Ul,AK,AJ,t8,c1];exact⟨_,rfl,by simp[AG,t3,t7]⟩
   obtain⟨e2,r1,r2,r3⟩:=hrun;rw[r1];exact⟨rfl,e2,h',v,rfl,x',by rw[<- hie];exact dv,R',hn',r2,r3⟩
 obtain⟨e2,h2,v2,r1,x2,dv2,R2,n2,t3,t7⟩:=run;have l3:ABa ⟨h.next,0,none⟩ h2=.ok (pt A.bs) h2:=R2.ABa (off:=0) (by show 0<1;omega);obtain⟨l0,_⟩:=BD (R.ext W x2);obtain⟨h6,v6,k6,x6,dv6,n6,_⟩:=dv2.snoc (f:=124) (d:=.f) x2 x1.next n2 (w:=.func (.func 124) ⟨[pt A.bd]⟩ ⟨[]⟩) rfl rfl (by rw[OF,yu];omega);have fs:=fun (F:ABZ) (e:Env) (a:J 36 e=.func (.func 124) ⟨[pt A.bd]⟩ ⟨[]⟩)=>JV (F:=F) (e:=e) x2.wf a
 refine⟨h6,v6,?_,x6,?_⟩
 ·rw[ly rfl,nZ,p1,qO]
  simp only[A9,An,r1,A8,A3];unfold wrE;simp only[sT,By,BY,reduceIte,AN,AQ,t3,l3,Au,Ai,AH,AO,sh,l0,Dj,AU,A5,fs,BZ,t7,k6,lV0]
 ·obtain⟨vs,a,b,c⟩:=dv6
  exact⟨vs,a.le x1.next,b,c⟩
end
end
noncomputable section
open Go
set_option maxRecDepth 100000
section
variable {F:ABZ}{e:Env}{h h':Hp}{A:At}{T M:List Nat}{c0 bad m:Nat}{arm:Int}{ks:List Kt}{fr:List Nat}{lv fv:IN}{ov:Bool}
theorem HX:∀ (n k:Nat) (a:Int),CI a (n+k)->CI ((vG n).foldl (fun a _=>GG a) a) k
 |0,k,a,h=>by rw[sh]at h;exact h
 |n+1,k,a,h=>by
  rw[zR,List.foldl_append];have h1:=HX n (k+1) a (by rw[show n+(k+1)=n+1+k by omega];exact h);exact h1.one.1
theorem de{x y:O}{K:C}{v:IN}{b r:Nat}(hx:x e=v)(hv:v=.slice none 0 0\/∃ o n c,v=.slice (some ⟨b,o,none⟩) n c)(hy:y e=pt r)(hr:v=.slice none 0 0\/r≠b):Cf x [y] K F e h=K F e h:=by
 unfold Cf;rw[hx];rcases hv with rfl|⟨o,n,c,rfl⟩
 ·rfl
 ·rcases hr with hr|hr
  ·cases hr
  ·show(bif CY b e [y]then K F e h else .no)=_
   have:CY b e [y]=true:=by
    unfold CY;rw[hy];show(bif tm r b then false else CY b e [])=true;have n1:tm r b=false:=by
     cases e:tm r b
     ·rfl
     ·exact absurd (A1.1 e) hr
    rw[n1];rfl
   rw[this];rfl
theorem CS.atB{h0:Hp}{k bw:Nat}{v w:IN}{ds:List ACQ}{f:Nat}{a b:List IN}(x0:h0.Ext h)(hk:h0.next<=k)(hk2:k<=h.next)(o:CS h A k v ds)(hw:w=.func (.func f) ⟨a⟩ ⟨b⟩)(Rw:h.Row bw 0 [w]){d:ACQ}(hd:IP h A (fun b=>¬ A.D b/\¬ ABw v b) w d)(hl:ds.length<=1000):
  ∃ h' v',(∀ (F:ABZ) (e:Env) (x y:O),x e=v->y e=.slice (some ⟨bw,0,none⟩) 1 1->Ix x (Bk 1 8 76 x y) F e h=.ok v' h')/\h0.Ext h'/\CS h' A k v' (ds++[d])/\h.next<=h'.next:=by
 obtain⟨vs,o1,o2,o3⟩:=o;have W:=x0.wf;have on:oneCell w=true:=by rw[hw];rfl
 have cl:h.quiet.Cl (ABw v) 76 v vs:=by
  rcases o1 with ⟨h1,h2⟩|⟨b,h1,h2,h3,h4⟩
  ·exact .inl ⟨h1,h2⟩
  ·exact .inr ⟨b,_,h1,h2.same rfl,.inl rfl,⟨0,_,_,h1⟩,h4⟩
 have kb:∀ b,ABw v b->h0.next<=b:=fun b hb=>by
  obtain⟨off,n,c,e1⟩:=hb;rcases o1 with ⟨h1,h2⟩|⟨b',h1,h2,h3,h4⟩
  ·rw[h1]at e1;cases e1
  ·rw[h1]at e1
   injection e1 with e1 _ _
   injection e1 with e1
   injection e1 with e1 _ _
   omega
 obtain⟨h5,b5,a1,a2,a3,a4,a5,a6,a7,a8,a9⟩:=Yj (eb:=8) (en:=76) x0.quiet cl kb (Rw.same (h':=h.quiet) rfl) on (by rw[o2];omega) (by omega);have hvb:¬ ABw (.slice (some ⟨b5,0,none⟩) (vs.length+1) (vs.length+1)) b5->False:=fun h=>h ⟨0,_,_,rfl⟩
 have a4:b5=h.next:=a4;have kp:∀ b el L,¬ A.D b/\¬ ABw v b->(el=0\/el=6)->h.Row b el L->(h.back h5).Row b el L/\(¬ A.D b/\¬ ABw (.slice (some ⟨b5,0,none⟩) (vs.length+1) (vs.length+1)) b):=fun b el L hb _ r=>⟨(a7 b el L hb.2 (r.same rfl)).same rfl,hb.1,LS (by have:=r.lt W;omega)⟩
 have a5:h5.next=h.next+1:=a5;have ABj:=W.big;refine⟨h.back h5,.slice (some ⟨b5,0,none⟩) (vs.length+1) (vs.length+1),fun F e x y hx hy=>UI hx hy a1 (a9 rfl rfl h rfl),x0.ACe a2,⟨vs++[w],.inr ⟨b5,by rw[No];rfl,a3.same rfl,?_,by omega⟩,by rw[No,No,o2];rfl,fun i z y h1 h2=>?_⟩,by show h.next<=h5.next;omega⟩
 ·omega
 ·rcases uG i vs.length with hi|hi
  ·rw[uJ hi]at h1
   rw[uJ (by omega)]at h2;exact(o3 i z y h1 h2).ACf kp
  ·rw[uI hi]at h1
   rw[uI (by omega)]at h2;have e1:=uF.1 (tq h1);have e2:=uF.1 (tq h2);rw[e1,e2];exact hd.ACf kp
theorem py:skS=BB (AY 0 (A4 skB)) skE:=rfl
theorem Y0:d81=Y1:=rfl
def Hs(M:List Nat)(ps:List Nat):List Nat:=F5 M (ps.map fun p=>(p*3,Bf))
theorem Rp:∀ (ps:List Nat) (M:List Nat) (cs:List (Nat×List Nat)),Gf M cs (ps.map (fun p=>ACQ.w (p*3) Bf)++[.f])=(F5 M (cs++ps.map fun p=>(p*3,Bf)),[])
 |[],M,cs=>by rw[AA2,AA2,uH];rfl
 |p::ps,M,cs=>by
  show Gf M (cs++[(p*3,Bf)]) (ps.map (fun p=>ACQ.w (p*3) Bf)++[.f])=_;rw[Rp ps,uC];rfl
theorem aR{n:Nat}:∀ (ps:List Nat) (cs:List (Nat×List Nat)),(cs≠[]\/ps≠[])->cs.length+ps.length<=60->(∀ p∈ps,3*p+3<=n/\∀ x∈cs,x.1≠p*3)->ps.Nodup->FL n cs (ps.map (fun p=>ACQ.w (p*3) Bf)++[.f])
 |[],cs,h0,hl,_,_=>⟨h0.elim (fun h=>h) fun h=>absurd rfl h,by simpa using hl,trivial⟩
 |p::ps,cs,h0,hl,hp,hn=>by
  obtain⟨p1,p2⟩:=hp p te;rw[tZ]at hl;refine⟨p2,by omega,rfl,fun x hx=>by rw[xV hx];decide,aR ps _ (.inl (by simp)) (by rw[No];simp only[uU];omega) (fun q hq=>⟨(hp q (td _ hq)).1,fun x hx=>?_⟩) (wi.1 hn).2⟩;rcases uP.1 hx with hx|hx
  ·exact(hp q (td _ hq)).2 x hx
  ·rw[uF.1 hx]
   show p*3≠q*3;intro he;have:p=q:=by omega
   exact(wi.1 hn).1 (this ▸ hq)
theorem Sl.AD7(s:Sl h A T M c0 arm ks fr lv fv bad ov)(W:h.Wf):∀ b,A.D b->b<h.next:=fun b hb=>by
 obtain⟨h1,h2,h3⟩:=s.dk.lt W;rcases hb with rfl|rfl|rfl|rfl
 ·exact s.row.lt W
 ·exact h1
 ·exact h2
 ·exact h3
theorem Sl.nK(s:Sl h A T M c0 arm ks fr lv fv bad ov):¬ A.K A.bs:=by
 obtain⟨h1,h2,h3,_⟩:=s.ne;rintro (h|h|h)<;>contradiction
theorem Kn(W:h.Wf)(s:Sl h A T M c0 arm ks fr lv fv bad ov){ps:List Nat}{pv:IN}(V:h.ABy pv (ints .i64 (ps.map vW)))(hp:∀ p∈ps,3*p+3<=A.n)(hnd:ps.Nodup)(hl:ps.length<=50){k:Nat}(ha:CI arm (ps.length+1+k)):
  ∃ h' c1 AB7,call AC (m+6) 81 [pt A.bs,pv] h=.ok (AI AT 0) h'/\Fx A.K h h'/\Sl h' A T (Hs M ps) c1 AB7 ks fr lv fv bad ov/\CI AB7 k:=by
 have ln:∀ g:Hp,AB2 pv g=.ok (AI AT (ps.length:Int)) g:=fun g=>by
  have:=V.shape;obtain⟨a,c,rfl⟩:=this;rw[show(ints .i64 (ps.map vW)).length=ps.length by simp[ints]];rfl
 have bx:=fun (F:ABZ) (e:Env) (he:J 0 e=pt A.bs)=>(show CW (J 0) F e h=.ok (pt h.next) (h.ABY 0 [pt A.bs])by rw[Dx,he,Dt W];rfl)
 have x1:=(Hp.Ext.refl W).ABY 0 [pt A.bs];have R2:=Hp.Row.new W 0 [pt A.bs];have n1:(h.ABY 0 [pt A.bs]).next=h.next+1:=rfl;generalize h.ABY 0 [pt A.bs]=h1 at bx x1 R2 n1;have hD:=s.AD7 W;have hDn:A.n<=65536:=s.dk.n1.2;by_cases h0:ps=[]
 ·subst h0
  have c1:iEq ((([]:List Nat).length:Nat):Int) 0=true:=CU rfl;refine⟨h1,c0,arm,?_,.of x1,s.ext W x1,ha.le (by omega)⟩;rw[Yc rfl,Y0];unfold Y1;simp only[iN,IT,sT,By,BY,reduceIte,bx,AX,ln,AK,AJ,c1,lV0]
 have hpos:0<ps.length:=by
  cases ps with
  |nil=>exact absurd rfl h0
  |cons _ _=>exact Nat.succ_pos _
 have c1:iEq (ps.length:Int) 0=false:=B9 (by omega);have pre:∃ e1,Y1 (call AC (m+5)) (As e0 0 [pt A.bs,pv]) h=skS (call AC (m+5)) e1 h1/\J 2 e1=pt h.next/\J 5 e1=.slice none 0 0/\J 11 e1=pv/\J 12 e1=AI AT (ps.length:Int)/\J 13 e1=AI AT ((0:Nat):Int):=by
  unfold Y1;simp only[iN,IT,sT,By,BY,reduceIte,bx,AX,ln,AK,AJ,c1];exact⟨_,rfl,by simp[AG]⟩
 obtain⟨e1,p1,s2,s5,s11,s12,s13⟩:=pre;have run:∃ e' h' v,A4 skB (call AC (m+5)) e1 h1=.exit 0 e' h'/\h.Ext h'/\CS h' A h1.next v (ps.map fun p=>ACQ.w (p*3) Bf)/\h'.Row h.next 0 [pt A.bs]/\h1.next<=h'.next/\J 2 e'=pt h.next/\J 5 e'=v:=by
  refine Bb (I:=fun i e' h'=>∃ v,h.Ext h'/\CS h' A h1.next v ((ps.take i).map fun p=>ACQ.w (p*3) Bf)/\h'.Row h.next 0 [pt A.bs]/\h1.next<=h'.next/\i<=ps.length/\J 2 e'=pt h.next/\J 5 e'=v/\J 11 e'=pv/\J 12 e'=AI AT (ps.length:Int)/\J 13 e'=AI AT (i:Int))
   (Q:=fun x=>∃ e' h' v,x=.exit 0 e' h'/\h.Ext h'/\CS h' A h1.next v (ps.map fun p=>ACQ.w (p*3) Bf)/\h'.Row h.next 0 [pt A.bs]/\h1.next<=h'.next/\J 2 e'=pt h.next/\J 5 e'=v) ps.length (by omega) (fun i e' h' ⟨v,x',dv,R',hn',hi,t2,t5,t11,t12,t13⟩=>?_)
   ⟨_,x1,⟨[],.inl ⟨rfl,rfl⟩,rfl,fun i w x h=>by cases h⟩,R2,If _,uD _,s2,s5,s11,s12,s13⟩
  have W':=x'.wf;by_cases hlt:i<ps.length
  ·left
   have c1:=EP hlt;obtain⟨p,hpi⟩:∃ p,ps[i]? =some p:=⟨_,tW hlt⟩;have hpm:=tq hpi;obtain⟨a,g1,g2⟩:=(V.ext W x').at (i:=i) (by simp[ints];exact hlt);have g2:IY (.pointer (some a)) h'=.ok (AI AT (p:Int)) h':=by
    rw[g2];have:(ints .i64 (ps.map vW)).getD i ABd=AI AT (p:Int):=by
     rw[tY];simp[ints,hpi]
    rw[this]
   obtain⟨h2,al,st,y2,R7,n2,_⟩:=JJ W' cZ (v:=AI AT (p:Int)) rfl rfl;have x2:=x'.trans y2;have nDb:∀ b,h.next<=b->¬ A.D b:=fun b hb=>fX hD hb
   have hvb:∀ b,ABw v b->h1.next<=b/\b<h'.next:=fun b hb=>by
    obtain⟨vs,o1,_⟩:=dv;obtain⟨o,nn,c,hc⟩:=hb;rcases o1 with ⟨h1',_⟩|⟨b',h1',h2',h3',_⟩
    ·rw[h1']at hc;cases hc
    ·rw[h1']at hc
     have:=h2'.lt W';injection hc with hc _ _
     injection hc with hc
     injection hc with hc _ _
     omega
   have ds:IP h2 A (fun b=>¬ A.D b/\¬ ABw v b) (.func (.func 122) ⟨[]⟩ ⟨[pt h.next,pt h'.next]⟩) (.w (p*3) Bf):=.inr ⟨h.next,h'.next,p,rfl,R'.ext W' y2,R7,rfl,by have:=hp p hpm;omega,rfl,⟨nDb _ (If _),fun hb=>by have:=hvb _ hb;omega⟩,⟨nDb _ (by have:=x'.next;omega),fun hb=>by have:=hvb _ hb;omega⟩⟩;obtain⟨h3,v3,k3,x3,dv3,n3,kp3⟩:=(dv.ext W' y2).snoc (f:=122) x2 x1.next (by omega) rfl ds (by rw[OF,uL];omega);have er:(ps.take (i+1)).map (fun p=>ACQ.w (p*3) Bf)=(ps.take i).map (fun p=>ACQ.w (p*3) Bf)++[ACQ.w (p*3) Bf]:=by
    rw[List.take_add_one,hpi,ud];rfl
   rw[<- er]at dv3;have fs:=fun (F:ABZ) (e:Env) (a:J 18 e=.func (.func 122) ⟨[]⟩ ⟨[pt h.next,pt h'.next]⟩)=>JV (F:=F) (e:=e) x2.wf a
   have a3:=Cd (i:=i) (h:=h3) (by omega);have hrun:∃ e2,skB (call AC (m+5)) e' h'=.norm e2 h3/\J 2 e2=pt h.next/\J 5 e2=v3/\J 11 e2=pv/\J 12 e2=AI AT (ps.length:Int)/\J 13 e2=AI AT ((i+1:Nat):Int):=by
    unfold skB;simp only[sT,By,BY,reduceIte,AK,AJ,t13,t12,c1,BA,t11,g1,AN,g2,al,AW,st,Dj,AU,A5,t2,fs,BZ,t5,k3,BR,a3];exact⟨_,rfl,by simp[AG,t2,t11,t12]⟩
   obtain⟨e2,r1,r2,r3,r4,r5,r6⟩:=hrun;exact⟨hlt,e2,h3,r1,v3,x3,dv3,kp3 _ _ _ (fun hb=>by have:=hvb _ hb;omega) (R'.ext W' y2),by omega,by omega,r2,r3,r4,r5,r6⟩
  ·right
   have c1:=Cv (show ps.length<=i by omega);have hrun:∃ e2,skB (call AC (m+5)) e' h'=.exit 0 e2 h'/\J 2 e2=pt h.next/\J 5 e2=v:=by
    unfold skB;simp only[sT,By,BY,reduceIte,AK,AJ,t13,t12,c1];exact⟨_,rfl,by simp[AG,t2,t5]⟩
   obtain⟨e2,r1,r2,r3⟩:=hrun;rw[r1];rw[vX (by omega)]at dv;exact⟨rfl,e2,h',v,rfl,x',dv,R',hn',r2,r3⟩
 obtain⟨e2,h2,v2,r1,x2,dv2,R2',n2,t2,t5⟩:=run;have x2m:=x2.marked;have R2m:h2.marked.Row h.next 0 [pt A.bs]:=R2'.same rfl;have l2:ABa ⟨h.next,0,none⟩ h2.marked=.ok (pt A.bs) h2.marked:=R2m.ABa (off:=0) (by show 0<1;omega);obtain⟨l0,_⟩:=BD (s.row.ext W x2m);have qs:∀ (F:ABZ) (e:Env),J 28 e=.func (.func 124) ⟨[pt A.bd]⟩ ⟨[]⟩->Aa .ABn (Ab 1 (BO SM.zero 1) [(0,1,J 28)]) F e h2.marked=.ok (.slice (some ⟨h2.next,0,none⟩) 1 1) (h2.marked.back (h2.marked.quiet.ABY 0 [.func (.func 124) ⟨[pt A.bd]⟩ ⟨[]⟩])):=fun F e he=>Cp (JV x2m.wf.quiet he) ((Hp.Ext.refl x2m.wf.quiet).ABY _ _) (If _)
 have y3:h2.Ext (h2.marked.back (h2.marked.quiet.ABY 0 [.func (.func 124) ⟨[pt A.bd]⟩ ⟨[]⟩])):=Hp.Ext.ACe (Hp.Ext.refl x2.wf).marked ((Hp.Ext.refl x2.wf).marked.quiet.ABY _ _);have Rw:(h2.marked.back (h2.marked.quiet.ABY 0 [.func (.func 124) ⟨[pt A.bd]⟩ ⟨[]⟩])).Row h2.next 0 [.func (.func 124) ⟨[pt A.bd]⟩ ⟨[]⟩]:=(Hp.Row.new x2m.wf.quiet 0 [.func (.func 124) ⟨[pt A.bd]⟩ ⟨[]⟩]).same rfl;generalize h2.marked.back (h2.marked.quiet.ABY 0 [.func (.func 124) ⟨[pt A.bd]⟩ ⟨[]⟩])=h3 at qs y3 Rw;have x3:=x2.trans y3;obtain⟨h4,v4,k4,x4,dv4,n4⟩:=(dv2.ext x2.wf y3).atB (f:=124) (d:=.f) x3 x1.next (uO n2 y3.next) rfl Rw rfl (by rw[OF];omega);have ck:∀ (K:C) (F:ABZ) (e:Env),J 5 e=v2->J 2 e=pt h.next->Cf (J 5) [J 2] K F e h3=K F e h3:=fun K F e a1 a2=>by
  obtain⟨vs,o1,_⟩:=dv2;rcases o1 with ⟨h1',_⟩|⟨b',h1',h2',h3',_⟩
  ·exact de (b:=0) a1 (.inl h1') a2 (.inl h1')
  ·exact de (b:=b') a1 (.inr ⟨_,_,_,h1'⟩) a2 (.inr (by omega))
 have s4:=s.ext W x4;obtain⟨vs,w1,w2,w3⟩:=dv4.ends fun b hb=>by have:=hD b hb;have:=x1.next;omega
 obtain⟨h5,c5,AG6,k5,f5,d5,ea⟩:=SV (m:=m) x4.wf.quiet (s4.row.same (h':=h4.quiet) rfl) s.nK (s4.dk.same (h':=h4.quiet) rfl) (w1.same (h':=h4.quiet) rfl) w2 (fun i v x a b=>(w3 i v x a b).ACf fun b el L hb _ r=>⟨r.same rfl,hb⟩) (aR ps [] (.inr h0) (by simp only[uR];omega) (fun p hq=>⟨hp p hq,fun x hx=>by cases hx⟩) hnd)
  (by rw[No,OF];exact ha.le (by show ps.length+1<=_;omega)) (by rw[No,OF];show ps.length+1<=_;omega)
 rw[Rp]at d5;have q5:∀ e:Env,J 22 e=pt A.bs->J 30 e=v4->Aa .free (AS 101 [J 22,J 30]) (call AC (m+5)) e h4=.ok (AI AT 0) (h4.back h5):=fun e a1 a2=>by
  refine BF ?_;rw[BP,AU,AU,A5,a1,a2];exact k5
 have f5':Fx A.K h4 (h4.back h5):=(f5.from (h:=h4) rfl rfl).same rfl rfl;refine⟨h4.back h5,c5,AG6,?_,(Fx.of x4).trans f5',((s4.sc.fx x4.wf f5').sl (d5.same rfl)),?_⟩
 ·rw[Yc rfl,Y0,p1,py]
  simp only[A9,An,r1,A8,A3];unfold skE;simp only[sT,By,BY,reduceIte,Az,AN,AQ,t2,l2,Au,Ai,AH,AO,sh,l0,Dj,AU,A5,qs];rw[ck _ _ _ (by simp[AG,t5]) (by simp[AG,t2])];simp only[sT,By,BY,reduceIte];rw[k4 _ _ _ _ (by simp[AG,t5]) (by simp[AG])];simp only[sT,By,BY,reduceIte,q5,lV0]
 ·rw[ea,No,OF]
  exact HX _ k arm ha
end
end
noncomputable section
open Go
set_option maxRecDepth 100000
def Fd(P:Kt->Bool):Nat->List Kt->Int
 |_,[]=> -1
 |i,k::l=>if P k=true then(i:Int)else Fd P (i+1) l
theorem O9(P:Kt->Bool):∀ (l:List Kt) (i:Nat),(l.any P=false/\Fd P i l= -1)\/(l.any P=true/\∃ j k,l[j]? =some k/\P k=true/\Fd P i l=((i+j:Nat):Int))
 |[],i=>.inl ⟨rfl,rfl⟩
 |k::l,i=>by
  unfold Fd;by_cases h:P k=true
  ·rw[if_pos h]
   exact .inr ⟨by rw[zT,h];rfl,0,k,rfl,h,rfl⟩
  ·rw[if_neg h]
   have hf:P k=false:=by simpa using h
   rcases O9 P l (i+1)with ⟨h1,h2⟩|⟨h1,j,k',h2,h3,h4⟩
   ·exact .inl ⟨by rw[zT,hf,h1];rfl,h2⟩
   ·exact .inr ⟨by rw[zT,h1,Bool.or_true],j+1,k',by rw[vB];exact h2,h3,by rw[h4];congr 1;omega⟩
section
variable {F:ABZ}{e:Env}{h h':Hp}{S:Nat->Prop}{A:At}{bad m:Nat}{ks:List Kt}{v lv fv:IN}{ov:Bool}
theorem Zn:kiS=BB (AY 0 (A4 kiB)) kiE:=rfl
theorem Uf:me=Uh:=rfl
theorem PJ{g:Nat}{caps:List IN}{P:Kt->Bool}(W:h.Wf)(K:h.KS S v ks)(hl:ks.length<=100000)(hP:∀ h',h.Ext h'->∀ k∈ks,∃ h'',call AC m g (ktV k::caps) h'=.ok (.bool (P k)) h''/\h'.Ext h''):
  ∃ h',call AC (m+1) 120 [v,.func (.func g) ⟨[]⟩ ⟨caps⟩] h=.ok (AI AT (Fd P 0 ks)) h'/\h.Ext h':=by
 have ln:=K.len h;have pre:∃ e1,Uh (call AC m) (As e0 0 [v,.func (.func g) ⟨[]⟩ ⟨caps⟩]) h=kiS (call AC m) e1 h/\J 0 e1=v/\J 1 e1=.func (.func g) ⟨[]⟩ ⟨caps⟩/\J 7 e1=AI AT (ks.length:Int)/\J 8 e1=AI AT ((0:Nat):Int):=by
  unfold Uh;simp only[iN,IT,sT,By,BY,reduceIte,AX,ln];exact⟨_,rfl,by simp[AG]⟩
 obtain⟨e1,p1,s0,s1,s7,s8⟩:=pre;have run:(∃ e' h',A4 kiB (call AC m) e1 h=.exit 0 e' h'/\h.Ext h'/\Fd P 0 ks= -1)\/(∃ e' h',A4 kiB (call AC m) e1 h=.ret e' h'/\h.Ext h'/\J 4 e'=AI AT (Fd P 0 ks)):=by
  refine Bb (I:=fun i e' h'=>h.Ext h'/\J 0 e'=v/\J 1 e'=.func (.func g) ⟨[]⟩ ⟨caps⟩/\J 7 e'=AI AT (ks.length:Int)/\J 8 e'=AI AT (i:Int)/\i<=ks.length/\Fd P 0 ks=Fd P i (ks.drop i))
   (Q:=fun x=>(∃ e' h',x=.exit 0 e' h'/\h.Ext h'/\Fd P 0 ks= -1)\/(∃ e' h',x=.ret e' h'/\h.Ext h'/\J 4 e'=AI AT (Fd P 0 ks))) ks.length (by omega) (fun i e' h' ⟨x',t0,t1,t7,t8,hi,hr⟩=>?_) ⟨.refl W,s0,s1,s7,s8,uD _,by rw[uv]⟩
  by_cases hlt:i<ks.length
  ·obtain⟨k,hk⟩:∃ k,ks[i]? =some k:=⟨_,tW hlt⟩
   have hd:ks.drop i=k::ks.drop (i+1):=by
    rw[vr hlt];rw[tW hlt]at hk;rw[Option.some.inj hk]
   rw[hd]at hr;have hr:Fd P 0 ks=if P k=true then(i:Int)else Fd P (i+1) (ks.drop (i+1)):=hr
   have c1:=EP hlt;obtain⟨b,_,ix,ld,_⟩:=(K.ext W x').at hk;obtain⟨h2,k2,x2⟩:=hP h' x' k (tq hk);by_cases hp:P k=true
   ·right
    rw[hp]at k2;rw[if_pos hp]at hr;have hrun:∃ e2,kiB (call AC m) e' h'=.ret e2 h2/\J 4 e2=AI AT (i:Int):=by
     unfold kiB;simp only[sT,By,BY,reduceIte,AK,AJ,t8,t7,c1,BA,t0,ix,Ap,Aj,ld,Ck,t1,DC,AU,A5,uN,yD,k2];exact⟨_,rfl,by simp[AG]⟩
    obtain⟨e2,r1,r2⟩:=hrun;rw[r1];exact⟨rfl,.inr ⟨e2,h2,rfl,x'.trans x2,by rw[r2,hr]⟩⟩
   ·left
    have hf:P k=false:=by simpa using hp
    rw[hf]at k2;rw[if_neg hp]at hr;have a3:=Cd (i:=i) (h:=h2) (by omega);have hrun:∃ e2,kiB (call AC m) e' h'=.norm e2 h2/\J 0 e2=v/\J 1 e2=.func (.func g) ⟨[]⟩ ⟨caps⟩/\J 7 e2=AI AT (ks.length:Int)/\J 8 e2=AI AT ((i+1:Nat):Int):=by
     unfold kiB;simp only[sT,By,BY,reduceIte,AK,AJ,t8,t7,c1,BA,t0,ix,Ap,Aj,ld,Ck,t1,DC,AU,A5,uN,yD,k2,BR,a3];exact⟨_,rfl,by simp[AG,t0,t1,t7]⟩
    obtain⟨e2,r1,r2,r3,r4,r5⟩:=hrun;exact⟨hlt,e2,h2,r1,x'.trans x2,r2,r3,r4,r5,by omega,hr⟩
  ·right
   have c1:=Cv (show ks.length<=i by omega);have hrun:∃ e2,kiB (call AC m) e' h'=.exit 0 e2 h':=by
    unfold kiB;simp only[sT,By,BY,reduceIte,AK,AJ,t8,t7,c1];exact⟨_,rfl⟩
   obtain⟨e2,r1⟩:=hrun;rw[r1];exact⟨rfl,.inl ⟨e2,h',rfl,x',by rw[hr,vC (by omega)];rfl⟩⟩
 rcases run with ⟨e2,h2,r1,x2,r2⟩|⟨e2,h2,r1,x2,r2⟩
 ·refine⟨h2,?_,x2⟩
  rw[US rfl,Uf,p1,Zn,r2];simp only[A9,An,r1,A8,A3];unfold kiE;simp only[sT,By,BY,reduceIte,lV0]
 ·refine⟨h2,?_,x2⟩
  rw[US rfl,Uf,p1,Zn];simp only[A9,An,r1,CE,Cq,lV0,r2]
theorem fF{g:Nat}{caps:List IN}{P:Kt->Bool}(W:h.Wf)(K:h.KS S v ks)(hl:ks.length<=100000)(hP:∀ h',h.Ext h'->∀ k∈ks,∃ h'',call AC m g (ktV k::caps) h'=.ok (.bool (P k)) h''/\h'.Ext h''):
  ∃ h',call AC (m+2) 78 [v,.func (.func g) ⟨[]⟩ ⟨caps⟩] h=.ok (.bool (ks.any P)) h'/\h.Ext h':=by
 obtain⟨h2,k2,x2⟩:=PJ W K hl hP;have c1:iGe (Fd P 0 ks) 0=ks.any P:=by
  rcases O9 P ks 0 with ⟨h1,h2⟩|⟨h1,j,k,_,_,h2⟩
  ·rw[h1,h2];exact EK (by omega)
  ·rw[h1,h2];exact F2 (by omega)
 refine⟨h2,?_,x2⟩;rw[lW rfl];unfold d78;simp only[iN,IT,sT,By,BY,reduceIte,cA0,k2,AK,AJ,c1,lV0]
theorem MX(W:h.Wf){k:Kt}{g:O}(hg:g e=ktV k):CW g F e h=.ok (pt h.next) (h.ABY 0 (Af k)):=by rw[Dx,hg,Dt W];rfl
theorem CV{r:Nat}{k:Kt}(R:h.Row r 0 (Af k)):ABa ⟨r,0,none⟩ h=.ok (AI AT k.a) h/\ABa ⟨r,1,none⟩ h=.ok (AI AT k.b) h/\ABa ⟨r,2,none⟩ h=.ok (AI AT k.c) h/\ABa ⟨r,3,none⟩ h=.ok (.int .u8 (k.s:Int)) h/\ABa ⟨r,4,none⟩ h=.ok k.u h/\ABa ⟨r,5,none⟩ h=.ok (AI AT (k.p:Int)) h/\loadN 6 ⟨r,0,none⟩ h=.ok (ktV k) h/\loadN 5 ⟨r,0,none⟩ h=.ok (Bn k.a k.b k.c k.s k.u) h:=
 ⟨R.ABa (off:=0) (by show 0<6;omega),R.ABa (off:=1) (by show 1<6;omega),R.ABa (off:=2) (by show 2<6;omega),R.ABa (off:=3) (by show 3<6;omega),R.ABa (off:=4) (by show 4<6;omega),R.ABa (off:=5) (by show 5<6;omega),R.loadN (off:=0) (n:=6) (by show 0+6<=6;omega),R.loadN (off:=0) (n:=5) (by show 0+5<=6;omega)⟩
def Bp(a b c:Int)(k:Kt):Bool:=decide (k.a=a) && decide (k.b=b) && decide (k.c=c)
def Iw(a b:Int)(k:Kt):Bool:=decide (k.a=a) && decide (k.b=b) && decide (k.s=2)
theorem Dn{r:Nat}{w:IN}(R:h.Row r 0 [w]):ABa ⟨r,0,none⟩ h=.ok w h:=R.ABa (off:=0) (by show 0<1;omega)
theorem oC(W:h.Wf){r1 r2 r3:Nat}{a b c:Int}(R1:h.Row r1 0 [AI AT a])(R2:h.Row r2 0 [AI AT b])(R3:h.Row r3 0 [AI AT c])(k:Kt):
  ∃ h',call AC (m+1) 127 [ktV k,pt r1,pt r2,pt r3] h=.ok (.bool (Bp a b c k)) h'/\h.Ext h':=by
 have bx:=fun (F:ABZ) (e:Env) (he:J 0 e=ktV k)=>MX (F:=F) W he
 have x1:=(Hp.Ext.refl W).ABY 0 (Af k);have R:=Hp.Row.new W 0 (Af k);generalize h.ABY 0 (Af k)=h1 at bx x1 R;obtain⟨l0,l1,l2,l3,_,l5,_⟩:=CV R;have m1:=Dn (R1.ext W x1);have m2:=Dn (R2.ext W x1);have m3:=Dn (R3.ext W x1);refine⟨h1,?_,x1⟩;unfold Bp;rw[dP rfl];unfold mo;by_cases h1:k.a=a
 ·have c1:iEq k.a a=true:=CU h1
  by_cases h2:k.b=b
  ·have c2:iEq k.b b=true:=CU h2
   have c3:iEq k.c c=decide (k.c=c):=by rw[Dh];by_cases h3:k.c=c<;>simp[h3]
   simp only[iN,IT,sT,By,BY,reduceIte,gD,bx,AH,AO,sh,AN,AQ,l0,l1,l2,m1,m2,m3,AK,AJ,c1,c2,c3,lV0];rw[decide_eq_true h1,decide_eq_true h2];rfl
  ·have c2:iEq k.b b=false:=B9 h2
   simp only[iN,IT,sT,By,BY,reduceIte,gD,bx,AH,AO,sh,AN,AQ,l0,l1,l2,m1,m2,m3,AK,AJ,c1,c2,lV0];rw[decide_eq_true h1,decide_eq_false h2];rfl
 ·have c1:iEq k.a a=false:=B9 h1
  simp only[iN,IT,sT,By,BY,reduceIte,gD,bx,AH,AO,sh,AN,AQ,l0,l1,l2,m1,m2,m3,AK,AJ,c1,lV0];rw[decide_eq_false h1];rfl
theorem oD(W:h.Wf){r1 r2:Nat}{a b:Int}(R1:h.Row r1 0 [AI AT a])(R2:h.Row r2 0 [AI AT b])(k:Kt):
  ∃ h',call AC (m+1) 148 [ktV k,pt r1,pt r2] h=.ok (.bool (Iw a b k)) h'/\h.Ext h':=by
 have bx:=fun (F:ABZ) (e:Env) (he:J 0 e=ktV k)=>MX (F:=F) W he
 have x1:=(Hp.Ext.refl W).ABY 0 (Af k);have R:=Hp.Row.new W 0 (Af k);generalize h.ABY 0 (Af k)=h1 at bx x1 R;obtain⟨l0,l1,l2,l3,_,l5,_⟩:=CV R;have m1:=Dn (R1.ext W x1);have m2:=Dn (R2.ext W x1);refine⟨h1,?_,x1⟩;unfold Iw;rw[dY rfl];unfold nG;by_cases h1:k.a=a
 ·have c1:iEq k.a a=true:=CU h1
  by_cases h2:k.b=b
  ·have c2:iEq k.b b=true:=CU h2
   have c3:iEq (k.s:Int) 2=decide (k.s=2):=by
    by_cases h3:k.s=2
    ·rw[decide_eq_true h3];exact CU (by omega)
    ·rw[decide_eq_false h3];exact B9 (by omega)
   simp only[iN,IT,sT,By,BY,reduceIte,gD,bx,AH,AO,sh,AN,AQ,l0,l1,l3,m1,m2,AK,AJ,c1,c2,c3,lV0];rw[decide_eq_true h1,decide_eq_true h2];rfl
  ·have c2:iEq k.b b=false:=B9 h2
   simp only[iN,IT,sT,By,BY,reduceIte,gD,bx,AH,AO,sh,AN,AQ,l0,l1,l3,m1,m2,AK,AJ,c1,c2,lV0];rw[decide_eq_true h1,decide_eq_false h2];rfl
 ·have c1:iEq k.a a=false:=B9 h1
  simp only[iN,IT,sT,By,BY,reduceIte,gD,bx,AH,AO,sh,AN,AQ,l0,l1,l3,m1,m2,AK,AJ,c1,lV0];rw[decide_eq_false h1];rfl
theorem H8(W:h.Wf){z:Int}{g:O}(hg:g e=AI AT z):CW g F e h=.ok (pt h.next) (h.ABY 0 [AI AT z]):=by rw[Dx,hg,Dt W];rfl
theorem F0(W:h.Wf)(R:h.Row A.bs 0 (slL A.bd A.tb lv fv bad ov))(K:h.KS S lv ks)(hl:ks.length<=100000)(a b c:Int):
  ∃ h',call AC (m+3) 95 [pt A.bs,AI AT a,AI AT b,AI AT c] h=.ok (AI AT (Fd (Bp a b c) 0 ks)) h'/\h.Ext h':=by
 have b1:=fun (F:ABZ) (e:Env) (he:J 1 e=AI AT a)=>H8 (F:=F) W he
 have x1:=(Hp.Ext.refl W).ABY 0 [AI AT a];have R1:=Hp.Row.new W 0 [AI AT a];generalize h.ABY 0 [AI AT a]=h1 at b1 x1 R1;have b2:=fun (F:ABZ) (e:Env) (he:J 2 e=AI AT b)=>H8 (F:=F) x1.wf he
 have y2:=(Hp.Ext.refl x1.wf).ABY 0 [AI AT b];have R2:=Hp.Row.new x1.wf 0 [AI AT b];generalize h1.ABY 0 [AI AT b]=h2 at b2 y2 R2;have b3:=fun (F:ABZ) (e:Env) (he:J 3 e=AI AT c)=>H8 (F:=F) y2.wf he
 have y3:=(Hp.Ext.refl y2.wf).ABY 0 [AI AT c];have R3:=Hp.Row.new y2.wf 0 [AI AT c];generalize h2.ABY 0 [AI AT c]=h3 at b3 y3 R3;have x3:=(x1.trans y2).trans y3;obtain⟨_,_,_,l3,_⟩:=BD (R.ext W x3);obtain⟨h4,k4,x4⟩:=PJ (m:=m+1) (g:=127) (caps:=[pt h.next,pt h1.next,pt h2.next]) (P:=Bp a b c) x3.wf (K.ext W x3) hl fun h' x' k _=>oC x'.wf ((R1.ext x1.wf (y2.trans y3)).ext x3.wf x') ((R2.ext y2.wf y3).ext x3.wf x') (R3.ext x3.wf x') k
 refine⟨h4,?_,x3.trans x4⟩;rw[lr rfl];unfold d95;simp only[iN,IT,sT,By,BY,reduceIte,b1,b2,b3,Au,Ai,AH,AO,sh,AN,AQ,l3,Dj,AU,A5,BP,k4,lV0]
theorem pJ(W:h.Wf)(R:h.Row A.bs 0 (slL A.bd A.tb lv fv bad ov))(K:h.KS S lv ks)(hl:ks.length<=100000)(a b:Int):
  ∃ h',call AC (m+3) 128 [pt A.bs,AI AT a,AI AT b] h=.ok (AI AT (Fd (Iw a b) 0 ks)) h'/\h.Ext h':=by
 have b1:=fun (F:ABZ) (e:Env) (he:J 1 e=AI AT a)=>H8 (F:=F) W he
 have x1:=(Hp.Ext.refl W).ABY 0 [AI AT a];have R1:=Hp.Row.new W 0 [AI AT a];generalize h.ABY 0 [AI AT a]=h1 at b1 x1 R1;have b2:=fun (F:ABZ) (e:Env) (he:J 2 e=AI AT b)=>H8 (F:=F) x1.wf he
 have y2:=(Hp.Ext.refl x1.wf).ABY 0 [AI AT b];have R2:=Hp.Row.new x1.wf 0 [AI AT b];generalize h1.ABY 0 [AI AT b]=h2 at b2 y2 R2;have x2:=x1.trans y2;obtain⟨_,_,_,l3,_⟩:=BD (R.ext W x2);obtain⟨h4,k4,x4⟩:=PJ (m:=m+1) (g:=148) (caps:=[pt h.next,pt h1.next]) (P:=Iw a b) x2.wf (K.ext W x2) hl fun h' x' k _=>oD x'.wf ((R1.ext x1.wf y2).ext x2.wf x') (R2.ext x2.wf x') k
 refine⟨h4,?_,x2.trans x4⟩;rw[dQ rfl];unfold mq;simp only[iN,IT,sT,By,BY,reduceIte,b1,b2,Au,Ai,AH,AO,sh,AN,AQ,l3,Dj,AU,A5,BP,k4,lV0]
def Cc(a b c:Int)(ks:List Kt):Bool:=match ks.find? (Iw a b)with
 |some k=>decide (c<=k.c)
 |none=>false
theorem Dw(P:Kt->Bool):∀ (l:List Kt) (i:Nat),(l.find? P=none/\Fd P i l= -1)\/∃ j k,l.find? P=some k/\l[j]? =some k/\Fd P i l=((i+j:Nat):Int)
 |[],i=>.inl ⟨rfl,rfl⟩
 |k::l,i=>by
  unfold Fd;by_cases h:P k=true
  ·rw[if_pos h]
   exact .inr ⟨0,k,by rw[List.find?_cons_of_pos h],rfl,rfl⟩
  ·rw[if_neg h]
   rcases Dw P l (i+1)with ⟨h1,h2⟩|⟨j,k',h1,h2,h4⟩
   ·exact .inl ⟨by rw[zZ h];exact h1,h2⟩
   ·exact .inr ⟨j+1,k',by rw[zZ h];exact h1,by rw[vB];exact h2,by rw[h4];congr 1;omega⟩
theorem Gh(W:h.Wf)(R:h.Row A.bs 0 (slL A.bd A.tb lv fv bad ov))(K:h.KS S lv ks)(hl:ks.length<=100000)(a b c:Int):
  ∃ h',call AC (m+4) 97 [pt A.bs,AI AT a,AI AT b,AI AT c] h=.ok (.bool (Cc a b c ks)) h'/\h.Ext h':=by
 obtain⟨h1,k1,x1⟩:=pJ (m:=m) W R K hl a b;refine⟨h1,?_,x1⟩;unfold Cc;rw[lw rfl];unfold d97;rcases Dw (Iw a b) ks 0 with ⟨e1,e2⟩|⟨j,k,e1,e2,e3⟩
 ·rw[e2]at k1
  have c1:iGe (-1) 0=false:=EK (by omega);simp only[iN,IT,sT,By,BY,reduceIte,gD,cA0,k1,AK,AJ,c1,lV0,e1]
 ·rw[e3,sh]at k1
  have c1:iGe (j:Int) 0=true:=F2 (by omega);obtain⟨b',_,ix,_,ld⟩:=(K.ext W x1).at e2;have l2:=ld 2 (AI AT k.c) rfl;obtain⟨_,_,_,l3,_⟩:=BD (R.ext W x1);have c2:iGe k.c c=decide (c<=k.c):=S6 _ _;simp only[iN,IT,sT,By,BY,reduceIte,gD,cA0,k1,AK,AJ,c1,Au,Ai,AH,AO,sh,vS,AN,AQ,l3,BA,ix,l2,c2,lV0,e1]
end
end
noncomputable section
open Go
set_option maxRecDepth 100000
def DP(a b:Int):Int:=if a<b then -1 else if b<a then 1 else 0
def orZ:List Int->Int
 |[]=>0
 |z::l=>if z=0 then orZ l else z
def Ki(x y:Kt):Int:=orZ [DP x.a y.a,DP x.b y.b,DP x.c y.c,DP x.p y.p]
theorem EU{e:Env}{h:Hp}:El [] e h=.ok ABd h:=rfl
section
variable {F:ABZ}{e:Env}{h h':Hp}{m:Nat}{v:IN}
theorem mJ{a b:Int}:call AC (m+2) 117 [AI AT a,AI AT b] h=.ok (AI AT (DP a b)) h:=by
 have n1:∀ z:Int,call AC (m+1) 146 [AI AT z] h=.ok (.bool false) h:=fun z=>by
  have c1:iNe z z=false:=B5 rfl;rw[UU rfl];unfold eC;simp only[iN,IT,sT,By,BY,reduceIte,AK,AJ,c1,lV0]
 unfold DP;rw[dH rfl];unfold mc;by_cases h1:a<b
 ·have c1:iLt a b=true:=HZ h1
  rw[if_pos h1];simp only[iN,IT,sT,By,BY,reduceIte,cA0,n1,AK,AJ,c1,lV0]
 ·have c1:iLt a b=false:=E5 h1
  rw[if_neg h1];by_cases h2:b<a
  ·have c2:iGt a b=true:=Fc h2
   rw[if_pos h2];simp only[iN,IT,sT,By,BY,reduceIte,cA0,n1,AK,AJ,c1,c2,lV0]
  ·have c2:iGt a b=false:=E4 h2
   rw[if_neg h2];simp only[iN,IT,sT,By,BY,reduceIte,cA0,n1,AK,AJ,c1,c2,lV0]
theorem aV:orS=BB (AY 0 (A4 orB)) orE:=rfl
theorem Ud:ma=Ue:=rfl
theorem sF{zs:List Int}(V:h.ABy v (ints .i64 zs))(hl:zs.length<=1000):call AC (m+1) 116 [v] h=.ok (AI AT (orZ zs)) h:=by
 have hil:(ints .i64 zs).length=zs.length:=OF ..;have ln:=V.len;rw[hil]at ln;have pre:∃ e1,Ue (call AC m) (As e0 0 [v]) h=orS (call AC m) e1 h/\J 3 e1=AI AT 0/\J 6 e1=v/\J 7 e1=AI AT (zs.length:Int)/\J 8 e1=AI AT ((0:Nat):Int):=by
  unfold Ue;simp only[iN,IT,sT,By,BY,reduceIte,AX,ln];exact⟨_,rfl,by simp[AG]⟩
 obtain⟨e1,p1,s3,s6,s7,s8⟩:=pre;have run:(∃ e',A4 orB (call AC m) e1 h=.exit 0 e' h/\orZ zs=0/\J 3 e'=AI AT 0)\/(∃ e',A4 orB (call AC m) e1 h=.ret e' h/\J 2 e'=AI AT (orZ zs)):=by
  refine Bb (I:=fun i e' h'=>h'=h/\J 3 e'=AI AT 0/\J 6 e'=v/\J 7 e'=AI AT (zs.length:Int)/\J 8 e'=AI AT (i:Int)/\i<=zs.length/\orZ zs=orZ (zs.drop i))
   (Q:=fun x=>(∃ e',x=.exit 0 e' h/\orZ zs=0/\J 3 e'=AI AT 0)\/(∃ e',x=.ret e' h/\J 2 e'=AI AT (orZ zs))) zs.length (by omega) (fun i e' h' ⟨hh,t3,t6,t7,t8,hi,hr⟩=>?_) ⟨rfl,s3,s6,s7,s8,uD _,by rw[uv]⟩
  subst hh;by_cases hlt:i<zs.length
  ·obtain⟨a,g1,g2⟩:=V.at (i:=i) (by rw[hil];exact hlt)
   obtain⟨z,hz⟩:∃ z,zs[i]? =some z:=⟨_,tW hlt⟩;have g2:IY (.pointer (some a)) h'=.ok (AI AT z) h':=by
    rw[g2];have:(ints .i64 zs).getD i ABd=AI AT z:=by
     rw[tY];simp[ints,hz]
    rw[this]
   have hd:zs.drop i=z::zs.drop (i+1):=by
    rw[vr hlt];rw[tW hlt]at hz;rw[Option.some.inj hz]
   rw[hd]at hr;have hr:orZ zs=if z=0 then orZ (zs.drop (i+1))else z:=hr
   have c1:=EP hlt;by_cases h0:z=0
   ·left
    rw[if_pos h0]at hr;have c2:iNe z 0=false:=B5 h0;have a3:=Cd (i:=i) (h:=h') (by omega);have hrun:∃ e2,orB (call AC m) e' h'=.norm e2 h'/\J 3 e2=AI AT 0/\J 6 e2=v/\J 7 e2=AI AT (zs.length:Int)/\J 8 e2=AI AT ((i+1:Nat):Int):=by
     unfold orB;simp only[sT,By,BY,reduceIte,AK,AJ,t8,t7,c1,BA,t6,g1,AN,g2,t3,c2,BR,a3];exact⟨_,rfl,by simp[AG,t3,t6,t7]⟩
    obtain⟨e2,r1,r2,r3,r4,r5⟩:=hrun;exact⟨hlt,e2,h',r1,rfl,r2,r3,r4,r5,by omega,hr⟩
   ·right
    rw[if_neg h0]at hr;have c2:iNe z 0=true:=EB h0;have hrun:∃ e2,orB (call AC m) e' h'=.ret e2 h'/\J 2 e2=AI AT z:=by
     unfold orB;simp only[sT,By,BY,reduceIte,AK,AJ,t8,t7,c1,BA,t6,g1,AN,g2,t3,c2];exact⟨_,rfl,by simp[AG]⟩
    obtain⟨e2,r1,r2⟩:=hrun;rw[r1];exact⟨rfl,.inr ⟨e2,rfl,by rw[r2,hr]⟩⟩
  ·right
   have c1:=Cv (show zs.length<=i by omega);have hrun:∃ e2,orB (call AC m) e' h'=.exit 0 e2 h'/\J 3 e2=AI AT 0:=by
    unfold orB;simp only[sT,By,BY,reduceIte,AK,AJ,t8,t7,c1];exact⟨_,rfl,by simp[AG,t3]⟩
   obtain⟨e2,r1,r2⟩:=hrun;rw[r1];exact⟨rfl,.inl ⟨e2,rfl,by rw[hr,vC (by omega)];rfl,r2⟩⟩
 rcases run with ⟨e2,r1,r2,r3⟩|⟨e2,r1,r2⟩
 ·rw[UR rfl,Ud,p1,aV,r2]
  simp only[A9,An,r1,A8,A3];unfold orE;simp only[sT,By,BY,reduceIte,r3,lV0]
 ·rw[UR rfl,Ud,p1,aV]
  simp only[A9,An,r1,CE,Cq,lV0,r2]
theorem qZ:BO ty3.zero 4=[AI AT 0,AI AT 0,AI AT 0,AI AT 0]:=by kernel_rfl
theorem XB(W:h.Wf){g1 g2 g3 g4:O}{a b c d:Int}(h1:g1 e=AI AT a)(h2:g2 e=AI AT b)(h3:g3 e=AI AT c)(h4:g4 e=AI AT d):
  Ab 4 (BO ty3.zero 4) [(0,1,g1),(1,1,g2),(2,1,g3),(3,1,g4)] F e h=.ok (.slice (some ⟨h.next,0,none⟩) 4 4) (h.ABY 0 (ints .i64 [a,b,c,d])):=by
 rw[Bq,qZ,Ad (hk:=by rw[h1];rfl),h1,Ad (hk:=by rw[h2];rfl),h2,Ad (hk:=by rw[h3];rfl),h3,Ad (hk:=by rw[h4];rfl),h4];simp only[CZ,uU,tZ,uR,over,wh,wT,vZ,uN,vM,IT,vR,if_true,Bg,reduceIte];rw[CQ W];rfl
theorem pW(W:h.Wf)(x y:Kt):∃ h',call AC (m+3) 75 [ktV x,ktV y] h=.ok (AI AT (Ki x y)) h'/\h.Ext h':=by
 have b1:=fun (F:ABZ) (e:Env) (he:J 0 e=ktV x)=>MX (F:=F) W he
 have x1:=(Hp.Ext.refl W).ABY 0 (Af x);have R1:=Hp.Row.new W 0 (Af x);have n1:(h.ABY 0 (Af x)).next=h.next+1:=rfl;generalize h.ABY 0 (Af x)=h1 at b1 x1 R1 n1;have b2:=fun (F:ABZ) (e:Env) (he:J 1 e=ktV y)=>MX (F:=F) x1.wf he
 have y2:=(Hp.Ext.refl x1.wf).ABY 0 (Af y);have R2:=Hp.Row.new x1.wf 0 (Af y);have n2:(h1.ABY 0 (Af y)).next=h1.next+1:=rfl;generalize h1.ABY 0 (Af y)=h2 at b2 y2 R2 n2;have x2:=(x1.trans y2).marked;have R1m:h2.marked.Row h.next 0 (Af x):=(R1.ext x1.wf y2).same rfl;have R2m:h2.marked.Row h1.next 0 (Af y):=R2.same rfl;have mk:h2.marked.mark=h2.next:=rfl;have nx:h2.marked.next=h2.next:=rfl;generalize hg0:h2.marked=g0 at x2 R1m R2m mk nx;have wk:∀ (g:Hp) (W:g.Wf) (hm:g.mark<=g.next) (mm:Qm) (i j:Nat) (a b:Int) (e:Env),J i e=AI AT a->J j e=AI AT b->Aa mm (AS 117 [J i,J j]) (call AC (m+2)) e g=.ok (AI AT (DP a b)) (g.back g.quiet):=fun g W hm mm i j a b e e1 e2=>by
  refine Hn W ?_ hm;rw[BP,AU,AU,A5,e1,e2];exact mJ
 have bk:∀ g:Hp,g.Wf->g.Ext (g.back g.quiet)/\(g.back g.quiet).next=g.next/\(g.back g.quiet).mark=g.mark:=fun g W=>⟨Hp.Ext.ACe (.refl W) (Hp.Ext.refl W).quiet,rfl,rfl⟩
 have ol:∀ (g:Hp) (hm:g.mark=h2.next) (r off:Nat) (kk:C) (F:ABZ) (e:Env),r<h2.next->I5 (.pointer (some ⟨r,off,none⟩)) kk F e g=kk F e g:=fun g hm r off kk F e hr=>Dm (by rw[hm];exact hr)
 obtain⟨l0,_⟩:=CV R1m;obtain⟨k0,_⟩:=CV R2m;have w1:=wk g0 x2.wf (by omega) .weak 7 10 x.a y.a;obtain⟨z1,v1,u1⟩:=bk g0 x2.wf;generalize g0.back g0.quiet=g1 at w1 z1 v1 u1;have o1:=ol g1 (u1.trans mk);obtain⟨_,l1,_⟩:=CV (R1m.ext x2.wf z1);obtain⟨_,k1,_⟩:=CV (R2m.ext x2.wf z1);have w2:=wk g1 z1.wf (by omega) .weak 14 17 x.b y.b;obtain⟨z2',v2,u2⟩:=bk g1 z1.wf;generalize g1.back g1.quiet=g2 at w2 z2' v2 u2;have z2:=z1.trans z2';have o2:=ol g2 (by omega);obtain⟨_,_,l2,_⟩:=CV (R1m.ext x2.wf z2);obtain⟨_,_,k2,_⟩:=CV (R2m.ext x2.wf z2);have w3:=wk g2 z2.wf (by omega) .weak 21 24 x.c y.c;obtain⟨z3',v3,u3⟩:=bk g2 z2.wf;generalize g2.back g2.quiet=g3 at w3 z3' v3 u3;have z3:=z2.trans z3';have o3:=ol g3 (by omega);obtain⟨_,_,_,_,_,l5,_⟩:=CV (R1m.ext x2.wf z3);obtain⟨_,_,_,_,_,k5,_⟩:=CV (R2m.ext x2.wf z3);have w4:=wk g3 z3.wf (by omega) .free 27 29 x.p y.p;obtain⟨z4',v4,u4⟩:=bk g3 z3.wf;generalize g3.back g3.quiet=g4 at w4 z4' v4 u4;have z4:=z3.trans z4';have q5:∀ (F:ABZ) (e:Env),J 11 e=AI AT (DP x.a y.a)->J 18 e=AI AT (DP x.b y.b)->J 25 e=AI AT (DP x.c y.c)->J 30 e=AI AT (DP x.p y.p)->Aa .ABn (Ab 4 (BO ty3.zero 4) [(0,1,J 11),(1,1,J 18),(2,1,J 25),(3,1,J 30)]) F e g4=.ok (.slice (some ⟨g4.next,0,none⟩) 4 4) (g4.back (g4.quiet.ABY 0 (ints .i64 [DP x.a y.a,DP x.b y.b,DP x.c y.c,DP x.p y.p]))):=fun F e e1 e2 e3 e4=>Cp (XB z4.wf.quiet e1 e2 e3 e4) ((Hp.Ext.refl z4.wf.quiet).ABY _ _) (by omega)
 have y5:g4.Ext (g4.back (g4.quiet.ABY 0 (ints .i64 [DP x.a y.a,DP x.b y.b,DP x.c y.c,DP x.p y.p]))):=.back ((Hp.Ext.refl z4.wf.quiet).ABY _ _);have R5:(g4.back (g4.quiet.ABY 0 (ints .i64 [DP x.a y.a,DP x.b y.b,DP x.c y.c,DP x.p y.p]))).Row g4.next 0 (ints .i64 [DP x.a y.a,DP x.b y.b,DP x.c y.c,DP x.p y.p]):=(Hp.Row.new z4.wf.quiet 0 (ints .i64 [DP x.a y.a,DP x.b y.b,DP x.c y.c,DP x.p y.p])).same rfl;generalize g4.back (g4.quiet.ABY 0 (ints .i64 [DP x.a y.a,DP x.b y.b,DP x.c y.c,DP x.p y.p]))=g5 at q5 y5 R5;have z5:=z4.trans y5;have k6:=sF (m:=m+1) (h:=g5.quiet) (v:=.slice (some ⟨g4.next,0,none⟩) 4 4) (zs:=[DP x.a y.a,DP x.b y.b,DP x.c y.c,DP x.p y.p]) (.inr ⟨g4.next,0,4,0,_,rfl,R5.same rfl,If _,rfl⟩) (by show 4<=1000;omega);have q6:∀ e:Env,J 31 e=.slice (some ⟨g4.next,0,none⟩) 4 4->Aa .free (AS 116 [J 31]) (call AC (m+2)) e g5=.ok (AI AT (Ki x y)) (g5.back g5.quiet):=fun e e1=>by
  refine BF ?_;rw[BP,AU,A5,e1];exact k6
 refine⟨g5.back g5.quiet,?_,(x2.trans z5).trans (bk g5 z5.wf).1⟩;rw[lT rfl];unfold d75;have hx1:h.next<h2.next:=by omega
 have hx2:h1.next<h2.next:=by omega
 have o11:=fun off kk F e=>o1 h.next off kk F e hx1
 have o12:=fun off kk F e=>o1 h1.next off kk F e hx2
 have o21:=fun off kk F e=>o2 h.next off kk F e hx1
 have o22:=fun off kk F e=>o2 h1.next off kk F e hx2
 have o31:=fun off kk F e=>o3 h.next off kk F e hx1
 have o32:=fun off kk F e=>o3 h1.next off kk F e hx2
 simp only[iN,IT,sT,By,BY,reduceIte,b1,b2,Az,hg0,AH,AO,sh,vS,AN,AQ,l0,k0,w1,EG,o11,o12,DU,l1,k1,w2,o21,o22,l2,k2,w3,o31,o32,l5,k5,w4,q5,q6,lV0]
theorem Ka{body:C}{i:Nat}{e':Env}(hb:body F e h=.exit i e' h'):A4 body F e h=.exit i e' h':=by
 show iter body (8796093022207+1) F e h=_;unfold iter;rw[hb]
theorem TB:jsB=Zl:=rfl
theorem Um:nC=Un:=rfl
theorem Ub:mY=Uc:=rfl
theorem ai:pdB=gh:=rfl
theorem Mb{body:C}{e':Env}(hb:body F e h=.ret e' h'):A4 body F e h=.ret e' h':=by
 show iter body (8796093022207+1) F e h=_;unfold iter;rw[hb]
theorem YE{x y:O}{n:Nat}{s:ByteArray}(hx:x e=.string s)(hy:y e=.int .u8 (n:Int))(hn:n<s.data.toList.length):∃ b:Nat,Iy x y F e h=.ok (.int .u8 (b:Int)) h/\b<256:=by
 have e1:Iy x y F e h=J6 (x e) (DS (y e)) h:=rfl;have e2:nth s.data.toList n=some (s.data.toList[n]'hn):=by rw[GI,tW hn]
 refine⟨(s.data.toList[n]'hn).toNat,?_,UInt8.toNat_lt _⟩;rw[e1,hx,hy,Db];unfold J6;simp only[e2];exact Eq ..
theorem Oh{n:Nat}(hn:n<256):∃ k:Nat,call AC (m+2) 115 [.int .u64 (n:Int)] h=.ok (AI AT (k:Int)) h:=by
 have c1:iGe (n:Int) 4294967296=false:=EK (by omega);have c2:iGe (n:Int) 65536=false:=EK (by omega);have c3:iGe (n:Int) 256=false:=EK (by omega);have v1:C3 .u8 (.int .u64 (n:Int)) h=.ok (.int .u8 (n:Int)) h:=by rw[B4,G9,Nat.mod_eq_of_lt hn]
 have key:∃ k:Nat,call AC (m+1) 145 [.int .u64 (n:Int)] h=.ok (AI AT (k:Int)) h:=by
  rw[dW rfl];unfold nE;simp only[iN,IT,sT,By,BY,reduceIte,AK,AJ,c1,c2,c3,Bl,v1];obtain⟨b,hb,hlt⟩:=YE (F:=call AC m) (h:=h) (e:=Env.set 21 (.int .u8 (n:Int)) (Env.set 14 (.bool false) (Env.set 8 (.bool false) (Env.set 4 (.bool false) (Env.set 2 (AI AT 0) (Env.set 0 (.int .u64 (n:Int)) e0)))))) (x:=(kV (.string ⟨#[0,1,2,2,3,3,3,3,4,4,4,4,4,4,4,4,5,5,5,5,5,5,5,5,5,5,5,5,5,5,5,5,6,6,6,6,6,6,6,6,6,6,6,6,6,6,6,6,6,6,6,6,6,6,6,6,6,6,6,6,6,6,6,6,7,7,7,7,7,7,7,7,7,7,7,7,7,7,7,7,7,7,7,7,7,7,7,7,7,7,7,7,7,7,7,7,7,7,7,7,7,7,7,7,7,7,7,7,7,7,7,7,7,7,7,7,7,7,7,7,7,7,7,7,7,7,7,7,8,8,8,8,8,8,8,8,8,8,8,8,8,8,8,8,8,8,8,8,8,8,8,8,8,8,8,8,8,8,8,8,8,8,8,8,8,8,8,8,8,8,8,8,8,8,8,8,8,8,8,8,8,8,8,8,8,8,8,8,8,8,8,8,8,8,8,8,8,8,8,8,8,8,8,8,8,8,8,8,8,8,8,8,8,8,8,8,8,8,8,8,8,8,8,8,8,8,8,8,8,8,8,8,8,8,8,8,8,8,8,8,8,8,8,8,8,8,8,8,8,8,8,8,8,8,8,8]⟩))) (y:=J 21) (n:=n) rfl (by simp[AG]) (by
   refine Nat.lt_of_lt_of_eq hn ?_
   kernel_rfl)
  rw[hb];have v2:C3 .i64 (.int .u8 (b:Int)) h=.ok (AI AT (b:Int)) h:=by rw[B4,Bc (by omega)]
  have a2:Fs .i64 (AI AT 0) (AI AT (b:Int)) h=.ok (AI AT (b:Int)) h:=by
   have:=UG (h:=h) (a:=0) (b:=b) (by omega);rw[sh]at this;exact this
  simp only[sT,By,BY,reduceIte,Bl,v2,BR,a2,lV0];exact⟨b,rfl⟩
 obtain⟨k,hk⟩:=key;refine⟨k,?_⟩;rw[dG rfl];unfold mZ;simp only[iN,IT,sT,By,BY,reduceIte,cA0,hk,lV0]
end
end
noncomputable section
open Go
set_option maxRecDepth 100000
theorem rB{k:IntKind}{Z:List Int}:(ints k Z).length=Z.length:=OF ..
theorem sY{k:IntKind}{Z:List Int}{i:Nat}(hi:i<Z.length):(ints k Z).getD i ABd=.int k (Z.getD i 0):=by
 unfold ints;rw[tY,List.getElem?_map,tY,tW hi];rfl
theorem oy:ixS=BB (AY 0 (A4 ixB)) ixE:=rfl
theorem dz:mf=Ui:=rfl
section
variable {F:ABZ}{e:Env}{h h' h0:Hp}{k:Nat}{ks:List Kt}{v:IN}
def Hp.KO(h:Hp)(k:Nat)(v:IN)(ks:List Kt):Prop:=(v=.slice none 0 0/\ks=[])\/∃ b,v=.slice (some ⟨b,0,none⟩) ks.length ks.length/\h.Row b 124 (flK ks)/\k<=b/\256<=b
theorem Hp.KO.lst(o:h.KO k v ks):h.KS (fun b=>k<=b) v ks:=by
 rcases o with h1|⟨b,h1,h2,h3,h4⟩
 ·exact .inl h1
 ·exact .inr ⟨b,_,_,_,h1,If _,h2,by rw[Cj];omega,by rw[<- Cj,vF],.inl rfl,h3⟩
theorem Hp.KO.keep(o:h.KO k v ks)(hk:∀ b el L,ABw v b->h.Row b el L->h'.Row b el L):h'.KO k v ks:=by
 rcases o with h1|⟨b,h1,h2,h3,h4⟩
 ·exact .inl h1
 ·exact .inr ⟨b,h1,hk b _ _ ⟨0,_,_,h1⟩ h2,h3,h4⟩
theorem Hp.KO.ext(o:h.KO k v ks)(W:h.Wf)(x:h.Ext h'):h'.KO k v ks:=o.keep fun _ _ _ _ r=>r.ext W x
theorem Hp.KO.same(o:h.KO k v ks)(hb:h'.bl=h.bl):h'.KO k v ks:=o.keep fun _ _ _ _ r=>r.same hb
theorem Hp.KO.blk(o:h.KO k v ks)(W:h.Wf){b:Nat}(hb:ABw v b):k<=b/\b<h.next:=by
 obtain⟨off,n,c,e1⟩:=hb;rcases o with ⟨h1,h2⟩|⟨b',h1,h2,h3,h4⟩
 ·rw[h1]at e1;cases e1
 ·have:=h2.lt W
  rw[h1]at e1;injection e1 with e1 _ _
  injection e1 with e1
  injection e1 with e1 _ _
  omega
theorem Wb:BO Dr.zero 1=Af K0:=by kernel_rfl
theorem Zr(W:h.Wf){g:O}{x:Kt}(hg:g e=ktV x):Ab 1 (BO Dr.zero 1) [(0,6,g)] F e h=.ok (.slice (some ⟨h.next,0,none⟩) 1 1) (h.ABY 0 (Af x)):=by
 rw[Wb,Bq,Ad (hk:=by rw[hg];rfl),hg,show cellsOf (ktV x)=Af x from rfl,if_pos (show(Af x).length=6 from rfl),if_pos (show 0+6<=(Af K0).length from If _),Bg,CQ W];rfl
theorem Gq{x:Kt}(hu:oneCell x.u=true):BX (Af x)=true:=by
 show(bif oneCell x.u then true else false)=true;rw[hu];rfl
theorem o7(x0:h0.Ext h)(hk:h0.next<=k)(hk2:k<=h.next)(o:h.KO k v ks){x:Kt}(hu:oneCell x.u=true)(hl:ks.length<=100000):
  ∃ h' v',DN 6 64 123 v (.slice (some ⟨h.next,0,none⟩) 1 1) (h.ABY 0 (Af x))=.ok v' h'/\h0.Ext h'/\h'.KO k v' (ks++[x])/\h.next<=h'.next/\∀ b el L,¬ ABw v b->h.Row b el L->h'.Row b el L:=by
 have W:=x0.wf;have x1:=x0.ABY 0 (Af x);have y1:=(Hp.Ext.refl W).ABY 0 (Af x);have Rw:=Hp.Row.new W 0 (Af x);have n1:(h.ABY 0 (Af x)).next=h.next+1:=rfl;have o1:=o.ext W y1;generalize h.ABY 0 (Af x)=h1 at x1 y1 Rw n1 o1;have hs:∀ K:List IN->R,BI h1 6 (.slice (some ⟨h.next,0,none⟩) 1 1) 1 K=K (Af x):=fun K=>Rw.ADZ (es:=6) (off:=0) (n:=1) (by show 0+1 * 6<=6;omega)
 have ha:=Gq hu;rcases o1 with ⟨rfl,rfl⟩|⟨b,rfl,r,hb,ABj⟩
 ·obtain⟨h5,a1,a2,a3,a4,_,a6⟩:=Jd (eb:=64) (en:=123) x1 hs rfl rfl ha (by omega)
  refine⟨h5,_,a1,a2,.inr ⟨h1.next,rfl,?_,by omega,by have:=W.big;omega⟩,by omega,fun b el L _ r=>(r.ext W y1).ext x1.wf a6⟩;show h5.Row h1.next 124 (Af x++[]);rw[uH];exact a3
 ·obtain⟨h5,a1,a2,a3,a4,_,a6⟩:=JZ (eb:=64) (en:=123) (n:=ks.length) x1 hs rfl rfl (by omega) ha r (by rw[Cj];omega) (by omega) ABj (by omega)
  refine⟨h5,_,a1,a2,.inr ⟨h1.next,by rw[No];rfl,?_,by omega,by have:=W.big;omega⟩,by omega,fun b' el L hne r'=>a6 b' el L (fun e=>hne ⟨0,ks.length,ks.length,by rw[e]⟩) (r'.ext W y1)⟩;rw[LY,show flK [x]=Af x from uH _];exact a3
def tB(x y:Kt):Prop:=y.a=x.a/\y.b=x.b/\y.p≠x.p/\y.s=2/\(x.c<y.c\/y.c=x.c/\x.s=1)
theorem qz(a b:Int):(iEq a b=true/\a=b)\/(iEq a b=false/\a≠b):=by
 by_cases h:a=b
 ·exact .inl ⟨CU h,h⟩
 ·exact .inr ⟨B9 h,h⟩
theorem mL:coS=BB (AY 0 (A4 coB)) coE:=rfl
theorem nW:d76=eN:=rfl
end
end
noncomputable section
open Go
set_option maxRecDepth 100000
structure Kc where
 a:Int
 b:Int
 c:Int
 s:Nat
 l:List Nat
 p:Nat
def Kt.core(k:Kt):Kc:=⟨k.a,k.b,k.c,k.s,k.l,k.p⟩
def lkN(T M:List Nat)(p:Nat):Option (List Nat):=match xC (∃ ns,HC T M p ns)with
 |.isTrue h=>some (ABE h)
 |.isFalse _=>none
def IX(T M:List Nat)(p:Nat):Bool:=match xC ((¬ ∃ ns,HC T M p ns)/\((∃ x∈sec M (3*p),x≠0)\/∃ ns,LF T (sec M (3*p)) ns/\at6 ns 4<=100))with
 |.isTrue _=>true
 |.isFalse _=>false
theorem Qw{T M:List Nat}{p:Nat}{ns:List Nat}(h:HC T M p ns):lkN T M p=some ns:=by
 unfold lkN;split
 ·rename_i h' _
  rw[Gc (ABO h').1 h.1]
 ·rename_i h' _;exact absurd ⟨ns,h⟩ h'
theorem Zu{T M:List Nat}{p:Nat}(h:¬ ∃ ns,HC T M p ns):lkN T M p=none:=by
 unfold lkN;split
 ·rename_i h' _;exact absurd h' h
 ·rfl
theorem MZ{T M:List Nat}{p:Nat}:IX T M p=true↔((¬ ∃ ns,HC T M p ns)/\((∃ x∈sec M (3*p),x≠0)\/∃ ns,LF T (sec M (3*p)) ns/\at6 ns 4<=100)):=by
 unfold IX;split
 ·rename_i h _;exact⟨fun _=>h,fun _=>rfl⟩
 ·rename_i h _;exact⟨fun e=>(by cases e),fun e=>absurd e h⟩
def o0(M:List Nat)(p:Nat)(ns:List Nat):Kc:=⟨at6 ns 1,at6 ns 2,at6 ns 3,at6 ns 0,dat M p (at6 ns 4),p⟩
def kcs(T M:List Nat)(i:Nat):List Kc:=(vG i).filterMap fun p=>(lkN T M p).map (o0 M p)
def AGF(T M:List Nat)(i:Nat):List Nat:=(vG i).filter (IX T M)
def mrk(T M:List Nat)(i:Nat):List Nat:=(vG i).filter fun p=>(lkN T M p).isSome || IX T M p
theorem Zh(a b:List Nat):ints .i64 ((a++b).map vW)=ints .i64 (a.map vW)++ints .i64 (b.map vW):=by unfold ints;rw[ud,ud]
theorem qY:BO ty3.zero 1=[AI AT 0]:=by kernel_rfl
section
variable {F:ABZ}{e:Env}{h g:Hp}{T M:List Nat}{bs r9 k1 bd tb i:Nat}{v mv:IN}{ks:List Kt}
theorem H9(W:h.Wf){x:O}{z:Int}(hx:x e=AI AT z):Ab 1 (BO ty3.zero 1) [(0,1,x)] F e h=.ok (.slice (some ⟨h.next,0,none⟩) 1 1) (h.ABY 0 [AI AT z]):=by
 rw[qY];exact Gb W hx rfl rfl
theorem Hp.KO.nb{k b el:Nat}{L:List IN}(o:h.KO k v ks)(r:h.Row b el L)(he:el≠124):¬ ABw v b:=fun⟨off,nn,c,e1⟩=>by
 rcases o with ⟨h1,h2⟩|⟨b',h1,h2,h3,h4⟩
 ·rw[h1]at e1;cases e1
 ·rw[h1]at e1
  injection e1 with e1 _ _
  injection e1 with e1
  injection e1 with e1 _ _
  rw[e1]at h2;exact FJ r h2 he rfl
theorem Hp.Own.nb{k b el en:Nat}{xs L:List IN}(o:h.Own k en v xs)(r:h.Row b el L)(he:el≠en+1):¬ ABw v b:=fun⟨off,nn,c,e1⟩=>by
 rcases o with ⟨h1,h2⟩|⟨b',h1,h2,h3,h4⟩
 ·rw[h1]at e1;cases e1
 ·rw[h1]at e1
  injection e1 with e1 _ _
  injection e1 with e1
  injection e1 with e1 _ _
  rw[e1]at h2;exact FJ r h2 he rfl
structure O1 (h g:Hp)(T M:List Nat)(bs r9 k1 bd tb i:Nat)(v mv:IN)(ks:List Kt):Prop where
 x:h.Ext g
 row:g.Row bs 0 (slL bd tb ABc ABc (AGF T M i).length false)
 rb:g.Row r9 0 [pt bs]
 ko:g.KO k1 v ks
 cs:ks.map Kt.core=kcs T M i
 ok:∀ k∈ks,AEI g (fun b=>r9<b) k
 ms:g.Own k1 3 mv (ints .i64 ((mrk T M i).map vW))
 le:k1<=g.next
theorem gY:pU=BB (AY 1 (A4 RG)) pS:=rfl
theorem nP:d47=eH:=rfl
end
end
noncomputable section
open Go
set_option maxRecDepth 100000
section
variable {F:ABZ}{e:Env}{h g g' h0:Hp}{bs r9 k1 bd tb n i bad k:Nat}{v mv fv:IN}{ks:List Kt}{S:Nat->Prop}
theorem MK(W:g.Wf){L:List IN}(R:g.Row bs 0 L){off:Nat}(ho:off<L.length)(ABj:256<=bs)(h1:cellsOf v=[v])(h2:oneCell v=true):
  ∃ g',(∀ (F:ABZ) (e:Env) (x y:O),x e=.pointer (some ⟨bs,off,none⟩)->y e=v->Aa .free (Ac 1 x y) F e g=.ok ABd g')/\g'.Row bs 0 (over L off [v])/\g'.next=g.next/\g'.mark=g.mark/\Fx (fun b=>b=bs) g g'/\∀ h0:Hp,h0.Ext g->h0.next<=bs->h0.Ext g':=by
 have Rq:g.quiet.Row bs 0 L:=R.same rfl;have hoo:off+[v].length<=L.length:=ho;have ha:BX [v]=true:=by
  show(bif oneCell v then true else false)=true;rw[h2];rfl
 have st:=Rq.ABg (n:=1) (off:=off) (v:=v) W.quiet ABj (by rw[h1];rfl) (by rw[h1];exact hoo) (by rw[h1];exact ha);rw[h1]at st;have wr:=Rq.ABl W.quiet hoo;have fx:=Fx.wr (S:=fun b=>b=bs) W.quiet Rq hoo rfl;have wx:=fun (h0:Hp) (x:h0.Ext g.quiet) (hb:h0.next<=bs)=>Rq.AB3 x hb hoo
 have wn:=Rq.ACH hoo;generalize g.quiet.wr bs off [v]=q at st wr fx wx wn;refine⟨g.back q,fun F e x y hx hy=>BF (by rw[AW,hx,hy];exact st),wr.same rfl,wn,rfl,(fx.from (h:=g) rfl rfl).same rfl rfl,fun h0 x hb=>x.ACe (wx h0 x.quiet hb)⟩
theorem FI(W:g.Wf){L:List IN}(R:g.Row bs 0 L){off:Nat}(ho:off<L.length)(ABj:256<=bs)(h1:cellsOf v=[v])(h2:oneCell v=true):
  ∃ g',ABg 1 (.pointer (some ⟨bs,off,none⟩)) v g=.ok ABd g'/\g'.Row bs 0 (over L off [v])/\g'.next=g.next/\Fx (fun b=>b=bs) g g'/\∀ h0:Hp,h0.Ext g->h0.next<=bs->h0.Ext g':=by
 have hoo:off+[v].length<=L.length:=ho;have ha:BX [v]=true:=by
  show(bif oneCell v then true else false)=true;rw[h2];rfl
 have st:=R.ABg (n:=1) (off:=off) (v:=v) W ABj (by rw[h1];rfl) (by rw[h1];exact hoo) (by rw[h1];exact ha);rw[h1]at st;exact⟨_,st,R.ABl W hoo,R.ACH hoo,Fx.wr (S:=fun b=>b=bs) W R hoo rfl,fun h0 x hb=>R.AB3 x hb hoo⟩
theorem gd(x0:h0.Ext h)(hk:h0.next<=k)(hk2:k<=h.next){xs:List IN}(o:h.Own k 3 v xs){bw:Nat}{z:Int}(Rw:h.Row bw 0 [AI AT z])(hl:xs.length<=1000000):
  ∃ h' v',(∀ (F:ABZ) (e:Env) (x y:O),x e=v->y e=.slice (some ⟨bw,0,none⟩) 1 1->Ix x (Bk 1 8 3 x y) F e h=.ok v' h')/\h0.Ext h'/\h'.Own k 3 v' (xs++[AI AT z])/\h.next<h'.next/\h'.mark=h.mark/\(∀ b el L,¬ ABw v b->h.Row b el L->h'.Row b el L)/\(∀ b,ABw v' b->b=h.next):=by
 have W:=x0.wf;have cl:h.quiet.Cl (ABw v) 3 v xs:=by
  rcases o with ⟨h1,h2⟩|⟨b,h1,h2,h3,h4⟩
  ·exact .inl ⟨h1,h2⟩
  ·exact .inr ⟨b,4,h1,h2.same rfl,.inl rfl,⟨0,_,_,h1⟩,h4⟩
 have kb:∀ b,ABw v b->h0.next<=b:=fun b hb=>by
  obtain⟨off,n,c,e1⟩:=hb;rcases o with ⟨h1,h2⟩|⟨b',h1,h2,h3,h4⟩
  ·rw[h1]at e1;cases e1
  ·rw[h1]at e1
   injection e1 with e1 _ _
   injection e1 with e1
   injection e1 with e1 _ _
   omega
 obtain⟨h5,b5,a1,a2,a3,a4,a5,a6,a7,a8,a9⟩:=Yj (eb:=8) (en:=3) x0.quiet cl kb (Rw.same (h':=h.quiet) rfl) rfl hl (by omega);have a4:b5=h.next:=a4;have a5:h5.next=h.next+1:=a5;have ABj:=W.big;refine⟨h.back h5,.slice (some ⟨b5,0,none⟩) (xs.length+1) (xs.length+1),fun F e x y hx hy=>UI hx hy a1 (a9 rfl rfl h rfl),x0.ACe a2,.inr ⟨b5,by rw[No];rfl,a3.same rfl,by omega,by omega⟩,by show h.next<h5.next;omega,rfl,fun b el L hb r=>(a7 b el L hb (r.same rfl)).same rfl,fun b ⟨off,nn,c,e1⟩=>?_⟩;injection e1 with e1 _ _
 injection e1 with e1
 injection e1 with e1 _ _
 omega
theorem gZ:pV=BB (AY 4 (A4 RH)) pT:=rfl
theorem gX:pS=Vq:=rfl
def AFW(ks:List Kt)(i:Nat):List Nat:=(vG i).filter fun p=> !(ks.any fun x=>decide (x.p=p))
def AG7(ks:List Kt)(mk:List Nat)(i:Nat):List Nat:=(vG i).filter fun p=> !(ks.any fun x=>decide (x.p=p)) && decide (p∈mk)
structure O2 (h g:Hp)(mk:List Nat)(bs r9 k1 bd tb i bad:Nat)(w mv fv ou:IN)(ks:List Kt):Prop where
 x:h.Ext g
 row:g.Row bs 0 (slL bd tb w fv bad false)
 rb:g.Row r9 0 [pt bs]
 ko:g.KO k1 w ks
 ok:∀ k∈ks,AEI g (fun b=>r9<b) k
 fs:g.Own k1 3 fv (ints .i64 ((AFW ks i).map vW))
 os:g.Own k1 3 ou (ints .i64 ((AG7 ks mk i).map vW))
 ms:g.Own k1 3 mv (ints .i64 (mk.map vW))
 ap:∀ b,(ABw fv b->¬ ABw ou b/\¬ ABw mv b)/\(ABw ou b->¬ ABw mv b)
 le:k1<=g.next
end
end
noncomputable section
open Go
set_option maxRecDepth 100000
theorem qd:SI.zero=[.pointer none,.pointer none,AI AT 0,.slice none 0 0,.slice none 0 0,AI AT 0,.bool false]:=by kernel_rfl
theorem io:Bo .mt 0 [.pointer none]=some sX:=by kernel_rfl
section
variable {F:ABZ}{e:Env}{h:Hp}{n:Nat}
theorem cu{g1 g2 g3:O}{a b:Nat}(h1:g1 e=pt a)(h2:g2 e=pt b)(h3:g3 e=AI AT 100):BH SI.zero [(0,1,g1),(1,1,g2),(2,1,g3)] F e h=.ok (.agg ⟨slL a b ABc ABc 0 false⟩) h:=by
 rw[Cb,qd,Ad (hk:=by rw[h1];rfl),h1,Ad (hk:=by rw[h2];rfl),h2,Ad (hk:=by rw[h3];rfl),h3];simp only[show ∀ a,cellsOf (pt a)=[pt a]from fun _=>rfl,CZ,uU,tZ,uR,over,wh,wT,vZ,uN,vM,IT,vR,if_true,Bg,reduceIte];rfl
theorem tA{n:Nat}(hn:n<=1000000):Sw .i64 (AI AT (n:Int)) (AI AT 3) h=.ok (AI AT ((n/3:Nat):Int)) h:=by
 have:((n:Nat):Int).tdiv 3=((n/3:Nat):Int):=rfl;rw[LX (by omega),this,Bc (by omega)]
end
end
noncomputable section
open Go
set_option maxRecDepth 100000
theorem WT:Hu.k=.ptr 121:=by kernel_rfl
theorem WU:Tq.k=.slice 3:=by kernel_rfl
theorem Tp:OY.k=.slice 123:=by kernel_rfl
def AB1(T:List Nat)(a b c:Int)(s:Nat)(l:List Nat):List Nat:=Ec T (LJ (CN a.toNat b.toNat c.toNat s l.length (CG T l)))
theorem EN{a b c:Int}{s n:Nat}(h:ABp a b c s n=true):0<=a/\a<=1099511627776/\0<=b/\b<255/\1<=c/\c<=1099511627776/\(s=1\/s=2)/\n<=65536:=of_decide_eq_true h
theorem GV{T:List Nat}{a b c:Int}{s:Nat}{l:List Nat}(h:ABp a b c s l.length=true):(AB1 T a b c s l).length=64:=by
 obtain⟨h1,h2,h3,h4,h5,h6,h7,h8⟩:=EN h;unfold AB1 LJ;rw[Gg,Mr];have:=OE (a:=a.toNat) (b:=b.toNat) (c:=c.toNat) (s:=s) (m:=l.length) (t:=CG T l) (by omega) (by omega) (by omega) (by omega) h8 (IJ T l);omega
theorem MP{T:List Nat}{a b c:Int}{s:Nat}{l:List Nat}:∀ x∈AB1 T a b c s l,x<256:=M5 (Vv Oa)
theorem QE{l:List Nat}(h:l.length=64):C7 l 0=l:=by
 unfold C7;rw[zK,uv,vX (by omega),h];exact uH l
def J0(p:Nat)(l:List Nat):List ACQ:=(vG ((l.length+63)/64)).map (fun j=>ACQ.w (p*3+1+j) (C7 l j))++[.f]
def GF(p:Nat)(H:List Nat):List ACQ:=[.w (p*3) H,.f]
theorem M4:∀ (ds:List ACQ) (M:List Nat) (cs:List (Nat×List Nat)),(Gf M cs (ds++[.f])).2=[]
 |[],M,cs=>rfl
 |.w i l::ds,M,cs=>M4 ds _ _
 |.f::ds,M,cs=>M4 ds _ _
theorem gV{n p:Nat}{l:List Nat}(hp:3*p+3<=n)(hl:1<=l.length/\l.length<=100)(hb:∀ x∈l,x<256){H:List Nat}(hH:H.length=64)(hHb:∀ x∈H,x<256):FL n [] (J0 p l++GF p H):=by
 have hk:(l.length+63)/64=1\/(l.length+63)/64=2:=by omega
 unfold J0 GF;rcases hk with hk|hk<;>rw[hk]
 ·exact⟨fun x hx=>(by cases hx),by show p*3+1+0<n;omega,Cw _ _,L7 hb _,by simp,by simp,fun x hx=>(by cases hx),by omega,hH,hHb,by simp,by simp,trivial⟩
 ·refine⟨fun x hx=>(by cases hx),by show p*3+1+0<n;omega,Cw _ _,L7 hb _,fun x hx=>?_,by show p*3+1+1<n;omega,Cw _ _,L7 hb _,by simp,by simp,fun x hx=>(by cases hx),by omega,hH,hHb,by simp,by simp,trivial⟩
  have:=uF.1 hx;rw[this];show p*3+1+0≠p*3+1+1;omega
theorem Vo{n p:Nat}(hp:3*p+3<=n){H:List Nat}(hH:H.length=64)(hHb:∀ x∈H,x<256):FL n [] (GF p H):=⟨fun x hx=>(by cases hx),by omega,hH,hHb,by simp,by simp,trivial⟩
def EA(T M:List Nat)(p:Nat)(l H:List Nat):List Nat:=(Gf M [] (J0 p l++GF p H)).1
def HF(M:List Nat)(p:Nat)(H:List Nat):List Nat:=(Gf M [] (GF p H)).1
section
variable {F:ABZ}{e:Env}{h h' h0:Hp}{S:Nat->Prop}{A:At}{T M:List Nat}{c0 bad m k p:Nat}{arm:Int}{ks:List Kt}{fr:List Nat}{v lv fv:IN}{ov:Bool}
theorem NO(R:h.Row A.bs 0 (slL A.bd A.tb lv fv bad false)):call AC (m+1) 92 [pt A.bs] h=.ok (AI AT 0) h:=by
 obtain⟨l0,_,_,_,_,_,l6⟩:=BD R;have n1:∀ e:Env,J 0 e=pt A.bs->oEq Hu.k false (J 0) (kV (.pointer none)) (call AC m) e h=.ok (.bool false) h:=fun e he=>FM WT he
 have n2:∀ e:Env,J 10 e=pt A.bd->oEq Xy.k false (J 10) (kV (.pointer none)) (call AC m) e h=.ok (.bool false) h:=fun e he=>FM jF he
 rw[lm rfl];unfold d92;simp only[iN,IT,sT,By,BY,reduceIte,gD,n1,Au,Ai,AH,AO,sh,AN,AQ,l0,n2,l6,lV0]
theorem mE{n:Nat}{h:Hp}(W:h.Wf){u:IN}{xs:List IN}(V:h.ABy u xs)(ha:BX xs=true)(hl:xs.length<=1000000):
  ∃ h' v,call AC (n+1) 102 [u] h=.ok v h'/\h.Ext h'/\h'.WI (fun b=>h.next<=b) v xs:=by
 rcases V with ⟨rfl,rfl⟩|⟨b,off,c,el,L,h1,h2,h3,h4⟩
 ·have ne:∀ e:Env,J 0 e=.slice none 0 0->oEq Tq.k false (J 0) (kV (.slice none 0 0)) (call AC n) e h=.ok (.bool true) h:=fun e he=>Jf (t:=0) WU he
  refine⟨h,ABc,?_,.refl W,.inl ⟨rfl,rfl⟩⟩;rw[H0 rfl];unfold QK;simp only[iN,IT,sT,By,BY,reduceIte,ne,lV0]
 ·have V:h.ABy u xs:=.inr ⟨b,off,c,el,L,h1,h2,h3,h4⟩
  have x1:=(Hp.Ext.refl W).ABY 0 [];have R:=Hp.Row.new W 0 [];have es:=fun (e:Env) (t:List IN)=>KI (F:=call AC n) (e:=e) (t:=t) W
  have n1:(h.ABY 0 []).next=h.next+1:=rfl;generalize h.ABY 0 []=g at x1 R es n1;have ne:∀ e:Env,J 0 e=u->oEq Tq.k false (J 0) (kV (.slice none 0 0)) (call AC n) e h=.ok (.bool false) h:=fun e he=>Je (t:=0) WU (he.trans h1)
  have V1:=V.ext W x1;have big:=W.big;rcases ug xs.length with hz|hz
  ·obtain rfl:xs=[]:=vJ hz
   have ap:DN 1 8 3 (.slice (some ⟨h.next,0,none⟩) 0 0) u g=.ok (.slice (some ⟨h.next,0,none⟩) 0 0) (g.wr h.next 0 []):=Hh x1.wf big R (fun k=>V1.src rfl k) V1.lenV;have R2:=R.ABl x1.wf (off:=0) (vs:=[]) (If _);refine⟨_,.slice (some ⟨h.next,0,none⟩) 0 0,?_,R.AB3 x1 (If _) (off:=0) (vs:=[]) (If _),.inr ⟨h.next,0,rfl,R2,.inr rfl,If _⟩⟩;rw[H0 rfl];unfold QK;simp only[iN,IT,sT,By,BY,reduceIte,ne,es,BZ,ap,lV0]
  ·obtain⟨h2,a1,a2,a3,a4,a5⟩:=En (eb:=8) (en:=3) x1 R (es:=1) (fun k=>V1.src rfl k) V1.lenV (by omega) hz ha (by omega)
   refine⟨h2,_,?_,a2,.inr ⟨g.next,3+1,rfl,a3,.inl rfl,by omega⟩⟩;rw[H0 rfl];unfold QK;simp only[iN,IT,sT,By,BY,reduceIte,ne,es,BZ,a1,lV0]
theorem So(W:h.Wf)(K:h.KS S v ks)(hu:∀ k∈ks,oneCell k.u=true)(h0:ks=[]->v=.slice none 0 0)(hl:ks.length<=10000):
  ∃ h' w,call AC (m+1) 103 [v] h=.ok w h'/\h.Ext h'/\h'.KO h.next w ks:=by
 rcases K with ⟨rfl,rfl⟩|⟨b,c,el,L,h1,hcc,h2,hL,ht,hel,h3⟩
 ·have ne:∀ e:Env,J 0 e=.slice none 0 0->oEq OY.k false (J 0) (kV (.slice none 0 0)) (call AC m) e h=.ok (.bool true) h:=fun e he=>Jf (t:=0) Tp he
  refine⟨h,ABc,?_,.refl W,.inl ⟨rfl,rfl⟩⟩;rw[Ok rfl];unfold Yr;simp only[iN,IT,sT,By,BY,reduceIte,ne,lV0]
 ·have hpos:0<ks.length:=by
   rcases ug ks.length with hz|hz
   ·have:=h0 (vJ hz)
    rw[this]at h1;cases h1
   ·exact hz
  have x1:=(Hp.Ext.refl W).ABY 0 [];have R:=Hp.Row.new W 0 [];have es:=fun (e:Env) (t:List IN)=>KI (F:=call AC m) (e:=e) (t:=t) W
  have n1:(h.ABY 0 []).next=h.next+1:=rfl;generalize h.ABY 0 []=g at x1 R es n1;have ne:∀ e:Env,J 0 e=v->oEq OY.k false (J 0) (kV (.slice none 0 0)) (call AC m) e h=.ok (.bool false) h:=fun e he=>Je (t:=0) Tp (he.trans h1)
  have R1:=h2.ext W x1;have ha:BX (flK ks)=true:=by
   clear h1 h2 R1 hl hpos h0 hcc hL ht
   induction ks with
   |nil=>rfl
   |cons k l ih=>
    refine PW fun x hx=>?_
    obtain⟨y,hy,hxy⟩:=List.mem_flatMap.1 hx;have huy:=hu y hy;have hxy:x∈[Value.int .i64 y.a,AI AT y.b,AI AT y.c,.int .u8 (y.s:Int),y.u,AI AT (y.p:Int)]:=hxy;simp only[uA,List.mem_nil_iff,or_false]at hxy;rcases hxy with rfl|rfl|rfl|rfl|rfl|rfl
    all_goals first|exact huy|rfl
  have big:=W.big;obtain⟨h2',a1,a2,a3,a4,a5⟩:=En (eb:=64) (en:=123) (u:=v) (cs:=flK ks) (n:=ks.length) x1 R (es:=6) (fun K=>by
   have e1:=R1.ADZ (es:=6) (off:=0) (n:=ks.length) (sl:=ks.length) (c:=c) (k:=K) (by omega);rw[h1,e1,uv,wP ks.length 6,ht]) (by rw[h1];rfl) (by rw[Cj];omega) hpos ha (by omega)
  refine⟨h2',_,?_,a2,.inr ⟨g.next,rfl,a3,by omega,by omega⟩⟩;rw[Ok rfl];unfold Yr;simp only[iN,IT,sT,By,BY,reduceIte,ne,es,BZ,a1,lV0]
def Hp.KN(h:Hp)(k:Nat)(v:IN)(ks:List Kt):Prop:=h.KO k v ks\/(ks=[]/\∃ b,v=.slice (some ⟨b,0,none⟩) 0 0/\h.Row b 0 []/\k<=b/\256<=b)
theorem UW(W:h.Wf)(K:h.KS S v ks)(hu:∀ k∈ks,oneCell k.u=true)(hl:ks.length<=10000):
  ∃ h' w,call AC (m+1) 103 [v] h=.ok w h'/\h.Ext h'/\h'.KN h.next w ks:=by
 have K0:=K;rcases K with ⟨rfl,rfl⟩|⟨b,c,el,L,h1,hcc,h2,hL,ht,hel,h3⟩
 ·obtain⟨h',w,a,b,c⟩:=So (m:=m) W K0 hu (fun _=>rfl) hl
  exact⟨h',w,a,b,.inl c⟩
 ·rcases ug ks.length with hz|hz
  ·obtain rfl:ks=[]:=vJ hz
   have x1:=(Hp.Ext.refl W).ABY 0 [];have R:=Hp.Row.new W 0 [];have es:=fun (e:Env) (t:List IN)=>KI (F:=call AC m) (e:=e) (t:=t) W
   generalize h.ABY 0 []=g at x1 R es;have ne:∀ e:Env,J 0 e=v->oEq OY.k false (J 0) (kV (.slice none 0 0)) (call AC m) e h=.ok (.bool false) h:=fun e he=>Je (t:=0) Tp (he.trans h1)
   have R1:=h2.ext W x1;have ap:DN 6 64 123 (.slice (some ⟨h.next,0,none⟩) 0 0) v g=.ok (.slice (some ⟨h.next,0,none⟩) 0 0) (g.wr h.next 0 []):=Hh x1.wf W.big R (fun K=>by
    have e1:=R1.ADZ (es:=6) (off:=0) (n:=0) (sl:=0) (c:=c) (k:=K) (by omega);rw[h1];exact e1) (by rw[h1];rfl)
   have R2:=R.ABl x1.wf (off:=0) (vs:=[]) (If _);refine⟨_,.slice (some ⟨h.next,0,none⟩) 0 0,?_,R.AB3 x1 (If _) (off:=0) (vs:=[]) (If _),.inr ⟨rfl,h.next,rfl,R2,If _,W.big⟩⟩;rw[Ok rfl];unfold Yr;simp only[iN,IT,sT,By,BY,reduceIte,ne,es,BZ,ap,lV0]
  ·obtain⟨h',w,a,b,c⟩:=So (m:=m) W K0 hu (fun h=>by rw[h]at hz;exact absurd hz (Nat.lt_irrefl 0)) hl
   exact⟨h',w,a,b,.inl c⟩
theorem dj{xs:List IN}{z:IN}(o:h.WI S v (z::xs)):∃ w,h.ABy w xs/\∀ (F:ABZ) (e:Env) (x:O),x e=v->Dd 3 1 x (some (kV (AI AT 1))) none none F e h=.ok w h:=by
 rcases o with ⟨_,h2⟩|⟨b,el,hv,Rb,hel,_⟩
 ·cases h2
 ·have hl:(z::xs).length=xs.length+1:=rfl
  have key:∀ (F:ABZ) (e:Env) (x:O),x e=v->Dd 3 1 x (some (kV (AI AT 1))) none none F e h=Bv (some ⟨b,0,none⟩) 1 1 (xs.length+1) (xs.length+1) h:=fun F e x hx=>by
   show(match x e with|.slice a n c=>DO e n c (some (kV (AI AT 1))) none none (fun l hh m=>EH 3 1 a false l hh m h)|_=>.no)=_;rw[hx,hv,hl];show(bif Nat.ble 1 (xs.length+1)then EH 3 1 (some ⟨b,0,none⟩) false 1 (xs.length+1) (xs.length+1) h else .no)=_;rw[Ar.2 (show 1<=xs.length+1 by omega)];show(bif Ez 3 (some ⟨b,0,none⟩) h then Bv (some ⟨b,0,none⟩) 1 1 (xs.length+1) (xs.length+1) h else .no)=_;have:Ez 3 (some ⟨b,0,none⟩) h=true:=by
    obtain⟨cc,hcc,_⟩:=Rb.rowOf;unfold Ez;simp only[hcc];rcases hel with rfl|rfl<;>rfl
   rw[this];rfl
  cases xs with
  |nil=>
   refine⟨.slice (some ⟨b,0,none⟩) 0 0,.inr ⟨b,0,0,el,_,rfl,Rb,uD _,rfl⟩,fun F e x hx=>?_⟩;rw[key F e x hx];rfl
  |cons y ys=>
   refine⟨.slice (some ⟨b,1,none⟩) (ys.length+1) (ys.length+1),.inr ⟨b,1,ys.length+1,el,_,rfl,Rb,?_,?_⟩,fun F e x hx=>?_⟩
   ·show 1+(ys.length+1)<=ys.length+1+1
    omega
   ·show((z::y::ys).drop 1).take (y::ys).length=y::ys
    exact vF
   ·rw[key F e x hx]
    show Bv (some ⟨b,0,none⟩) 1 1 (ys.length+1+1) (ys.length+1+1) h=_;unfold Bv;simp only[Am];have e1:tm (ys.length+1+1) 1=false:=rfl;have e2:Nat.sub (ys.length+1+1) 1=ys.length+1:=rfl;simp only[e1,e2]
theorem QA{g1 g2 g3 g5:O}{a b c:Int}{u:IN}(h1:g1 e=AI AT a)(h2:g2 e=AI AT b)(h3:g3 e=AI AT c)(h5:g5 e=u)(hc:cellsOf u=[u])(hk:known u=true):
  BH IO.zero [(0,1,g1),(1,1,g2),(2,1,g3),(3,1,kV (.int .u8 1)),(4,1,g5)] F e h=.ok (Bn a b c 1 u) h:=by
 rw[Cb,Tu,Ad (hk:=by rw[h1];rfl),h1,Ad (hk:=by rw[h2];rfl),h2,Ad (hk:=by rw[h3];rfl),h3,Ad,Ad (hk:=by rw[h5];exact hk),h5,hc];simp only[E6,CZ,uU,tZ,uR,A7,over,wh,wT,vZ,uN,vM,IT,vR,if_true,Bg,reduceIte];rfl
theorem Sl.bsx{ks':List Kt}{fr':List Nat}{lv' fv':IN}{AFX:Nat}{ov':Bool}(s:Sl h A T M c0 arm ks fr lv fv bad ov)(W:h.Wf)(x:Fx (fun b=>b=A.bs) h h')(row:h'.Row A.bs 0 (slL A.bd A.tb lv' fv' AFX ov'))(ls:h'.KS (fun b=>¬ A.D b) lv' ks')(ko:∀ k∈ks',AEI h' (fun b=>¬ A.D b) k)
  (fs:h'.WI (fun b=>¬ A.D b) fv' (ints .i64 (fr'.map vW)))(le:ks'.length<=1000/\fr'.length<=1000/\AFX<=1000/\∀ p∈fr',3*p+3<=A.n):Sl h' A T M c0 arm ks' fr' lv' fv' AFX ov':=
 ⟨row,s.dk.fr W x (fun h=>s.ne.1 h.symm) (fun h=>s.ne.2.1 h.symm) (fun h=>s.ne.2.2.1 h.symm),x.row W s.tab (fun h=>s.ne.2.2.2.1 (.inl h)),s.tok,ls,ko,fs,s.ne,le⟩
end
end
noncomputable section
open Go
set_option maxRecDepth 100000
theorem O0:∀ (ks:List Kt) (j:Nat) (x:Kt),j<ks.length->over (flK ks) (6*j) (Af x)=flK (ks.set j x)
 |[],j,x,h=>by cases h
 |k::ks,0,x,h=>by
  show over (Af k++flK ks) 0 (Af x)=Af x++flK ks;exact Mq rfl
 |k::ks,j+1,x,h=>by
  have ih:=O0 ks j x (by simpa using h);show over (Af k++flK ks) (6*(j+1)) (Af x)=Af k++flK (ks.set j x);rw[<- ih];unfold over;have e1:6*(j+1)=(Af k).length+6*j:=by show _=6+_;omega
  have e2:6*(j+1)+(Af x).length=(Af k).length+(6*j+(Af x).length):=by rw[e1];omega
  rw[e2,List.drop_length_add_append,e1,List.take_length_add_append,uC,uC,uC]
def In(x:Kt):List Kt->List Kt
 |[]=>[x]
 |y::r=>if Ki x y<0 then y::In x r else x::y::r
def Io(A:List Kt)(x:Kt):List Kt:=(In x A.reverse).reverse
def srt:List Kt->List Kt->List Kt
 |A,[]=>A
 |A,x::B=>srt (Io A x) B
theorem N4(x y:Kt)(r:List Kt):In x (y::r)=if Ki x y<0 then y::In x r else x::y::r:=rfl
theorem Qk(x:Kt):∀ l:List Kt,(In x l).length=l.length+1
 |[]=>rfl
 |y::r=>by
  unfold In;split
  ·rw[tZ,Qk x r,tZ]
  ·rfl
theorem MT(A:List Kt)(x:Kt):(Io A x).length=A.length+1:=by
 unfold Io;rw[xG,Qk,xG]
theorem Ql{x z:Kt}:∀ {l:List Kt},z∈In x l↔z=x\/z∈l
 |[]=>by simp[In]
 |y::r=>by
  unfold In;split
  ·rw[uA,Ql,uA]
   constructor
   ·rintro (h|h|h)
    ·exact .inr (.inl h)
    ·exact .inl h
    ·exact .inr (.inr h)
   ·rintro (h|h|h)
    ·exact .inr (.inl h)
    ·exact .inl h
    ·exact .inr (.inr h)
  ·exact uA
theorem Qn{A:List Kt}{x z:Kt}:z∈Io A x↔z=x\/z∈A:=by
 unfold Io;rw[yf,Ql,yf]
theorem N5{x:Kt}:∀ {R Q:List Kt},(∀ y∈R,Ki x y<0)->In x (R++Q)=R++In x Q
 |[],Q,_=>rfl
 |y::R,Q,h=>by
  rw[vM,N4,if_pos (h y te),N5 fun z hz=>h z (td _ hz)];rfl
theorem VN{x:Kt}{P Q:List Kt}(hQ:∀ y∈Q,Ki x y<0)(hP:P=[]\/∃ P' y,P=P'++[y]/\¬ Ki x y<0):Io (P++Q) x=P++x::Q:=by
 unfold Io;rw[wL,N5 fun y hy=>hQ y (yf.1 hy)];have e:In x P.reverse=x::P.reverse:=by
  rcases hP with rfl|⟨P',y,rfl,hy⟩
  ·rfl
  ·rw[wL]
   show In x (y::P'.reverse)=_;unfold In;rw[if_neg hy];rfl
 rw[e,wL,List.reverse_cons,yM,yM,uC];rfl
theorem Js{α:Type}{x y:α}:∀ {P R:List α},(P++x::R).set P.length y=P++y::R
 |[],R=>rfl
 |z::P,R=>by
  show z::(P++x::R).set P.length y=_;rw[Js];rfl
theorem OK{l Z vs:List IN}{o:Nat}(h:o+vs.length<=l.length):over (l++Z) o vs=over l o vs++Z:=by
 unfold over;rw[ye (by omega),List.drop_append_of_le_length h,uC,uC,uC]
theorem F7{α:Type}{x:α}{P R:List α}:(P++x::R)[P.length]? =some x:=by
 rw[uI (If _),Nat.sub_self];rfl
theorem Jg{α:Type}{x y:α}{P R:List α}:(P++y::x::R)[P.length+1]? =some x:=by
 rw[uI (by omega),show P.length+1 - P.length=1 by omega];rfl
section
variable {F:ABZ}{e:Env}{h h':Hp}{S:Nat->Prop}{bl n c:Nat}{ks:List Kt}{Z:List IN}
theorem Pc(R:h.Row bl 124 (flK ks++Z))(hn:n=ks.length)(hc:ks.length<=c):h.KS (fun b=>b=bl) (.slice (some ⟨bl,0,none⟩) n c) ks:=by
 subst hn;exact .inr ⟨bl,c,_,_,rfl,hc,R,by rw[No,Cj];omega,by rw[ye (by rw[Cj];omega),<- Cj,vF],.inl rfl,rfl⟩
theorem Zq(W:h.Wf)(R:h.Row bl 124 (flK ks++Z))(ABj:256<=bl){j:Nat}(hj:j<ks.length){x:Kt}(hu:oneCell x.u=true):
  ∃ h',(∀ (F:ABZ) (e:Env) (g g':O),g e=.pointer (some ⟨bl,6*j,none⟩)->g' e=ktV x->Aa .free (Ac 6 g g') F e h=.ok ABd h')/\Fx (fun b=>b=bl) h h'/\h'.Row bl 124 (flK (ks.set j x)++Z)/\h'.next=h.next/\h'.mark=h.mark:=by
 have Rq:h.quiet.Row bl 124 (flK ks++Z):=R.same rfl;have AFY:6*j+(Af x).length<=(flK ks).length:=by rw[Cj];show 6*j+6<=_;omega
 have hoo:6*j+(Af x).length<=(flK ks++Z).length:=by rw[No];omega
 have st:=Rq.ABg (n:=6) (off:=6 * j) (v:=ktV x) W.quiet ABj rfl hoo (Gq hu);have wr:=Rq.ABl W.quiet hoo;rw[OK AFY,O0 ks j x hj]at wr;have fx:=Fx.wr (S:=fun b=>b=bl) W.quiet Rq hoo rfl;have wn:=Rq.ACH hoo;have st:ABg 6 (.pointer (some ⟨bl,6 * j,none⟩)) (ktV x) h.quiet=.ok ABd (h.quiet.wr bl (6 * j) (Af x)):=st;generalize h.quiet.wr bl (6 * j) (Af x)=q at st wr fx wn;exact⟨h.back q,fun F e g g' e1 e2=>BF (by rw[AW,e1,e2];exact st),(fx.from (h:=h) rfl rfl).same rfl rfl,wr.same rfl,wn,rfl⟩
theorem TA:jnB=Zk:=rfl
theorem iI(W:h.Wf){P R:List Kt}{x y:Kt}(hks:ks=P++y::x::R)(Rw:h.Row bl 124 (flK ks++Z))(ABj:256<=bl)(hn:n=ks.length)(hc:ks.length<=c)(hl:ks.length<=100000)(ux:oneCell x.u=true)(uy:oneCell y.u=true)
  (s0:J 0 e=.slice (some ⟨bl,0,none⟩) n c)(s9:J 9 e=AI AT ((P.length+1:Nat):Int)):
  ∃ e' h',swB F e h=.norm e' h'/\Fx (fun b=>b=bl) h h'/\h'.Row bl 124 (flK (P++x::y::R)++Z)/\∀ j,j=0\/j=1\/j=2\/j=3\/j=8\/j=9->J j e'=J j e:=by
 have lk:ks.length=P.length+1+1+R.length:=by rw[hks,No,tZ,tZ];omega
 have K:=Pc (Rw.same (h':=h.marked) rfl) hn hc;obtain⟨b,rfl,ix,ld,_⟩:=K.at (i:=P.length+1) (k:=x) (by rw[hks];exact Jg);obtain⟨b',hb',iy,ldy,_⟩:=K.at (i:=P.length) (k:=y) (by rw[hks];exact F7);have hb':b'=b:=hb';subst hb';have a1:FX Int.sub .i64 (AI AT ((P.length+1:Nat):Int)) (AI AT 1) h.marked=.ok (AI AT (P.length:Int)) h.marked:=by
  have:Int.sub ((P.length+1:Nat):Int) 1=(P.length:Int):=by
   show((P.length+1:Nat):Int) - 1=_;omega
  rw[Ce,this,Bc (by omega)]
 obtain⟨h1,q1,f1,R1,n1,mk1⟩:=Zq (j:=P.length+1) W.marked (Rw.same (h':=h.marked) rfl) ABj (by omega) uy;have e1:ks.set (P.length+1) y=P++y::y::R:=by
  rw[hks,show P++y::x::R=(P++[y])++x::R by simp,show P.length+1=(P++[y]).length by simp,Js];simp
 rw[e1]at R1;have ix1:ACN 6 (.slice (some ⟨b',0,none⟩) n c) (AI AT (P.length:Int)) h1=.ok (.pointer (some ⟨b',6*P.length,none⟩)) h1:=by
  have:=Ch (h:=h1) (n:=n) (c:=c) (es:=6) (b:=b') (off:=0) (i:=P.length) (k:=.i64) (by omega)
  rwa [sh,wP]at this
 obtain⟨h2,q2,f2,R2,n2,mk2⟩:=Zq (j:=P.length) f1.wf R1 ABj (by rw[No];simp) ux;rw[Js]at R2;have fm:Fx (fun b=>b=b') h h1:=f1.from (h:=h) rfl rfl;have hrun:∃ e',swB F e h=.norm e' h2/\∀ j,j=0\/j=1\/j=2\/j=3\/j=8\/j=9->J j e'=J j e:=by
  have q1':∀ (F:ABZ) (e:Env),J 51 e=.pointer (some ⟨b',6*(P.length+1),none⟩)->J 46 e=ktV y->Aa .free (Ac 6 (J 51) (J 46)) F e h.marked=.ok ABd h1:=fun F e a b=>q1 F e _ _ a b
  have q2':∀ (F:ABZ) (e:Env),J 52 e=.pointer (some ⟨b',6*P.length,none⟩)->J 50 e=ktV x->Aa .free (Ac 6 (J 52) (J 50)) F e h1=.ok ABd h2:=fun F e a b=>q2 F e _ _ a b
  unfold swB;simp only[sT,By,BY,reduceIte,Az,Bz,s9,a1,BA,s0,iy,Ap,Aj,ldy,ix,ld,q1',ix1,q2'];refine⟨_,rfl,fun j hj=>?_⟩;rcases hj with rfl|rfl|rfl|rfl|rfl|rfl<;>simp only[AG,By,BY,reduceIte]
 obtain⟨e',r1,r2⟩:=hrun;exact⟨e',h2,r1,fm.trans f2,R2,r2⟩
end
end
end Go.Proofs.YtbjadbhkogcfeaaGreat

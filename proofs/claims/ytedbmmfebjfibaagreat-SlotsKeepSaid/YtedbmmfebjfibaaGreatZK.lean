/-
  Part ZK of what Lawke stands on: printed by program, names and spaces cut.
-/
import Derived.Test.YtedbmmfebjfibaaGreatZJ
open Go.Value renaming int→AI
open Go.IntKind renaming i64→AT
open Nat renaming reduceEqDiff→BY,reduceLT→By,reduceAdd→IS,le_refl→IT,zero_add→vk,succ→vo,ble→vx,beq→wB,lt_or_ge→wN,zero_le→wP,mul→wY,le_trans→wd,eq_zero_or_pos→wg,add_eq→xZ,beq_refl→xu,min_le_right→yX,mul_one→yk,mod_eq_of_lt→zc,min_eq_left→zo,reduceLeDiff→ABR,sub_zero→ACg,le_succ→AC4,sub_self→ADV
open Go renaming Value→IN
open List renaming length_append→No,length_map→OF,getElem?_eq_getElem→sh,getD_eq_getElem?_getD→vm,length_cons→vw,replicate→v8,append_nil→wF,append_assoc→wG,length_take→wT,map_append→wa,eq_nil_of_length_eq_zero→wh,length_nil→wl,length_drop→xC,nil_append→xE,drop_zero→xF,getElem?_map→xH,mem_of_mem_take→xK,drop_of_length_le→xL,length_singleton→xR,length_replicate→xh,getElem_mem→ym,take_of_length_le→yz,mem_of_mem_drop→zY,map_map→zb,cons_append→zy,drop_length→AAq,drop_left→ABs,append_eq→ABt,drop→AC7,take→ADX
open Int renaming sub→wi,toNat_natCast→xI,eq_ofNat_of_zero_le→yl,lt_or_le→ADY
open Bool renaming not_true→xJ,not_false→yA
open Go.Value renaming int→xY
open Go.IntKind renaming i64→yK
open UInt8 renaming ofNat→zF,toNat→ABx
set_option linter.unusedVariables false
set_option linter.unusedSimpArgs false
namespace Go.Proofs.YtedbmmfebjfibaaGreat
noncomputable section
open Go
set_option maxRecDepth 100000
def Mk(h:Hp)(k:Nat)(v:IN)(l:List Nat):Prop:=∃ b el,v=.slice (some ⟨b,0,none⟩) l.length l.length/\(el=0\/el=6)/\h.Row b el (l.map bv)/\k<=b
theorem Mk.vals{h:Hp}{k:Nat}{v:IN}{l:List Nat}(m:Mk h k v l):h.AEb v (l.map bv):=by
 obtain⟨b,el,h1,h2,h3,h4⟩:=m;exact .inr ⟨b,0,l.length,el,_,by rw[OF];exact h1,h3,by simp,by rw[xF,List.take_length]⟩
theorem Mk.ext{h h':Hp}{k:Nat}{v:IN}{l:List Nat}(m:Mk h k v l)(W:h.Wf)(x:h.Ext h'):Mk h' k v l:=by
 obtain⟨b,el,h1,h2,h3,h4⟩:=m;exact⟨b,el,h1,h2,h3.ext W x,h4⟩
theorem Mk.same{h h':Hp}{k:Nat}{v:IN}{l:List Nat}(m:Mk h k v l)(hb:h'.bl=h.bl):Mk h' k v l:=by
 obtain⟨b,el,h1,h2,h3,h4⟩:=m;exact⟨b,el,h1,h2,h3.same hb,h4⟩
theorem Mk.le{h:Hp}{k k':Nat}{v:IN}{l:List Nat}(m:Mk h k v l)(hk:k'<=k):Mk h k' v l:=by
 obtain⟨b,el,h1,h2,h3,h4⟩:=m;exact⟨b,el,h1,h2,h3,by omega⟩
theorem Hp.Own.mk{h:Hp}{k:Nat}{v:IN}{l:List Nat}(o:h.Own k 5 v (l.map bv))(hl:0<l.length):Mk h k v l:=by
 rcases o with ⟨_,h2⟩|⟨b,h1,h2,h3,h4⟩
 ·have:=congrArg List.length h2
  rw[OF,wl]at this;omega
 ·rw[OF]at h1
  exact⟨b,6,h1,.inr rfl,h2,h3⟩
theorem ME:∀ n:Nat,BQ ty5.zero n=(v8 n 0).map bv:=fun n=>by
 have hz:ty5.zero=[bv 0]:=by kernel_rfl
 rw[hz]
 induction n with
 |zero=>rfl
 |succ n ih=>show [bv 0]++BQ [bv 0] n=_;rw[ih];rfl
theorem SX{A B:List IN}{x y:IN}:over (A++x::B) A.length [y]=A++y::B:=by
 unfold over;have e:A++x::B=(A++[x])++B:=by simp
 rw[List.take_left,e,show A.length+[y].length=(A++[x]).length by simp,ABs];simp
theorem NW{A B V:List IN}(h:A.length=V.length):over (A++B) 0 V=V++B:=by
 unfold over;rw[vk,<- h,ABs];simp
theorem Yn{s i:Nat}(hi:i<4):(HC s).drop (3 - i)=(s/2 ^ min (8*i) 32) % 256::(HC s).drop (4 - i):=by
 have:i=0\/i=1\/i=2\/i=3:=by omega
 rcases this with rfl|rfl|rfl|rfl
 ·show [s % 256]=s/1 % 256::[]
  rw[Nat.div_one]
 ·rfl
 ·rfl
 ·rfl
theorem Qg{a b:List Nat}(ha:∀ x∈a,x<256)(hb:∀ x∈b,x<256):bEq (a.map zF) (b.map zF)=decide (a=b):=by
 rw[MS,Bool.eq_iff_iff,beq_iff_eq,decide_eq_true_eq];refine⟨fun h=>?_,fun h=>by rw[h]⟩;have h1:=congrArg (List.map ABx) h;rw[zb,zb]at h1;have e:∀ l:List Nat,(∀ x∈l,x<256)->l.map (ABx∘zF)=l:=fun l hl=>by
  have:l.map (ABx∘zF)=l.map id:=List.map_congr_left fun x hx=>by
   show(zF x).toNat=x;rw[UInt8.toNat_ofNat',zc (hl x hx)]
  rw[this,List.map_id]
 rwa [e a ha,e b hb]at h1
theorem uo{n:Nat}{h:Hp}{u v:IN}{a b:List Nat}(AKz:h.AEb u (a.map bv))(V:h.AEb v (b.map bv))(ha:∀ x∈a,x<256)(hb:∀ x∈b,x<256):call AC (n+1) 24 [u,v] h=.ok (.bool (decide (a=b))) h:=by
 have hbe:=Qg ha hb;rw[nW rfl];unfold d24;simp only[iN,IS,sT,By,BY,reduceIte,K7,AKz.bytes.str,V.bytes.str,P7,PX,hbe,lV0]
theorem rI:slS=BI (AY 0 (Aw slB)) slE:=rfl
theorem pP:d73=gG:=rfl
theorem jg{F:AEB}{h h0:Hp}(W0:h0.Wf)(x:h0.Ext h){r s N:Nat}(hr:h0.next<=r){u:IN}{l:List Nat}(V:h0.AEb u (l.map bv))(hN:N=l.length+4)(hl:l.length<=900000)(hs:s<4294967296)(R:h.Row r 0 ((v8 N 0).map bv)){e:Env}
  (s1:J 1 e=u)(s5:J 5 e=.slice (some ⟨r,0,none⟩) N N)(s6:J 6 e=.int .u32 (s:Int))(s15:J 15 e=AI AT ((0:Nat):Int)):
  ∃ e' h',Aw slB F e h=.exit 0 e' h'/\h0.Ext h'/\h'.Row r 0 ((v8 l.length 0++HC s).map bv)/\J 1 e'=u/\J 5 e'=.slice (some ⟨r,0,none⟩) N N:=by
 refine BU (I:=fun i e' h'=>h0.Ext h'/\h'.Row r 0 ((v8 (N - i) 0++(HC s).drop (4 - i)).map bv)/\J 1 e'=u/\J 5 e'=.slice (some ⟨r,0,none⟩) N N/\J 6 e'=.int .u32 (s:Int)/\J 15 e'=AI AT (i:Int)/\i<=4)
  (Q:=fun x=>∃ e' h',x=.exit 0 e' h'/\h0.Ext h'/\h'.Row r 0 ((v8 l.length 0++HC s).map bv)/\J 1 e'=u/\J 5 e'=.slice (some ⟨r,0,none⟩) N N) 4 (by omega) (fun i e' h' ⟨x',R',t1,t5,t6,t15,hi⟩=>?_)
  ⟨x,by rw[ACg,xL (show(HC s).length<=4 - 0 from IT _),wF];exact R,s1,s5,s6,s15,by omega⟩
 by_cases hlt:i<4
 ·left
  have W:=x'.wf;have Vl:=V.bl h';have c1:iLt (i:Int) 4=true:=EF hlt;have a1:Fs .i64 (AI AT (l.length:Int)) (AI AT 4) h'=.ok (AI AT (N:Int)) h':=by
   rw[Er,show(l.length:Int)+4=(N:Int)by omega,Bb (by omega)]
  have a2:Ft wi .i64 (AI AT (N:Int)) (AI AT 1) h'=.ok (AI AT ((N - 1:Nat):Int)) h':=by
   have:wi (N:Int) 1=((N - 1:Nat):Int):=by show(N:Int) - 1=_;omega
   rw[CV,this,Bb (by omega)]
  have a3:Ft wi .i64 (AI AT ((N - 1:Nat):Int)) (AI AT (i:Int)) h'=.ok (AI AT ((N - (i+1):Nat):Int)) h':=by
   have:wi ((N - 1:Nat):Int) (i:Int)=((N - (i+1):Nat):Int):=by show((N - 1:Nat):Int) - (i:Int)=_;omega
   rw[CV,this,Bb (by omega)]
  have a4:Ft Int.mul .i64 (AI AT 8) (AI AT (i:Int)) h'=.ok (AI AT ((8*i:Nat):Int)) h':=by
   have:Int.mul 8 (i:Int)=((8*i:Nat):Int):=by show(8:Int)*(i:Int)=_;omega
   rw[CV,this,Bb (by omega)]
  have r1:dS .u32 (.int .u32 (s:Int)) (AI AT ((8*i:Nat):Int)) h'=.ok (.int .u32 ((s/2 ^ min (8*i) 32:Nat):Int)) h':=Wy (j:=.u32) (q:=.i64) (m:=s) (n:=8*i);have v1:DS .u8 (.int .u32 ((s/2 ^ min (8*i) 32:Nat):Int)) h'=.ok (.int .u8 ((s/2 ^ min (8*i) 32 % 256:Nat):Int)) h':=by rw[Cd,Ii]
  have i1:AE0 1 (.slice (some ⟨r,0,none⟩) N N) (AI AT ((N - (i+1):Nat):Int)) h'=.ok (.pointer (some ⟨r,N - (i+1),none⟩)) h':=by
   have:=Cy (h:=h') (n:=N) (c:=N) (es:=1) (b:=r) (off:=0) (i:=N - (i+1)) (k:=.i64) (by omega)
   rwa [vk,yk]at this
  have AIt:=Yn (s:=s) hlt;generalize s / 2 ^ min (8 * i) 32 % 256=c at v1 AIt;have AIB:(v8 (N - i) 0++(HC s).drop (4 - i)).map bv=(v8 (N - (i+1)) 0).map bv++bv 0::((HC s).drop (4 - i)).map bv:=by
   rw[show N - i=(N - (i+1))+1 by omega,List.replicate_succ',wa,wa,wG];rfl
  rw[AIB]at R';have hAl:((v8 (N - (i+1)) 0).map bv).length=N - (i+1):=by simp
  have ho:N - (i+1)+[xY .u8 (c:Int)].length<=((v8 (N - (i+1)) 0).map bv++bv 0::((HC s).drop (4 - i)).map bv).length:=by
   simp only[No,vw,wl,hAl];omega
  have AEO:256<=r:=by have:=W0.big;omega
  have st:=R'.AER (n:=1) (off:=N - (i+1)) W AEO (v:=.int .u8 (c:Int)) rfl ho rfl;have wr:=R'.AET W (off:=N - (i+1)) (vs:=[.int .u8 (c:Int)]) ho;have xw:=R'.AEi x' hr (off:=N - (i+1)) (vs:=[.int .u8 (c:Int)]) ho;have a5:=CF (i:=i) (h:=h'.wr r (N - (i+1)) [.int .u8 (c:Int)]) (by omega);have hov:over ((v8 (N - (i+1)) 0).map bv++bv 0::((HC s).drop (4 - i)).map bv) (N - (i+1)) [.int .u8 (c:Int)]=(v8 (N - (i+1)) 0++(HC s).drop (4 - (i+1))).map bv:=by
   have:=SX (A:=(v8 (N - (i+1)) 0).map bv) (B:=((HC s).drop (4 - i)).map bv) (x:=bv 0) (y:=bv c);rw[hAl]at this;rw[show 4 - (i+1)=3 - i by omega,AIt,wa,List.map_cons];exact this
  rw[hov]at wr;rw[Dl]at st;have hrun:∃ e2,slB F e' h'=.norm e2 (h'.wr r (N - (i+1)) [.int .u8 (c:Int)])/\J 1 e2=u/\J 5 e2=.slice (some ⟨r,0,none⟩) N N/\J 6 e2=.int .u32 (s:Int)/\J 15 e2=AI AT ((i+1:Nat):Int):=by
   unfold slB;simp only[sT,By,BY,reduceIte,AJ,AH,t15,c1,AX,t1,Vl,BG,a1,Bu,a2,a3,a4,Wc,t6,r1,CH,v1,Ay,t5,i1,Ab,st,a5];exact⟨_,rfl,by simp[AD,t1,t5,t6]⟩
  obtain⟨e2,q1,q2,q3,q4,q5⟩:=hrun;exact⟨hlt,e2,_,q1,xw,wr,q2,q3,q4,q5,hlt⟩
 ·right
  have hi4:i=4:=by omega
  subst hi4;have c1:=Cz (show 4<=4 by omega);have hrun:∃ e2,slB F e' h'=.exit 0 e2 h'/\J 1 e2=u/\J 5 e2=.slice (some ⟨r,0,none⟩) N N:=by
   unfold slB;have c1:iLt ((4:Nat):Int) 4=false:=c1;simp only[sT,By,BY,reduceIte,AJ,AH,t15,c1];exact⟨_,rfl,by simp[AD,t1,t5]⟩
  obtain⟨e2,q1,q2,q3⟩:=hrun;rw[q1];refine⟨rfl,e2,h',rfl,x',?_,q2,q3⟩;have e1:N - 4=l.length:=by omega
  have e2:4 - 4=0:=rfl;rw[e1,e2,xF]at R';exact R'
theorem L9{F:AEB}{e:Env}{h:Hp}(W:h.Wf){x y:O}{N:Nat}(hx:x e=AI AT (N:Int))(hy:y e=AI AT (N:Int))(hN:N<=1000000):Gb 1 ty5.zero x y F e h=.ok (.slice (some ⟨h.next,0,none⟩) N N) (h.AEA 0 ((v8 N 0).map bv)):=by
 unfold Gb;rw[hx,hy,C9];unfold Ru;have e1:vx N N=true:=Ac.2 (IT N);have e2:vx (wY (vo N) (vo 1)) most=true:=Ac.2 (by
  show(N+1)*2<=1099511627776;omega)
 simp only[e1,e2,cond_true];rw[Cw W,ME];rfl
theorem fU{F:AEB}{e:Env}{h:Hp}(W:h.Wf){x y:O}{r N:Nat}{u:IN}{l A B:List Nat}(hx:x e=.slice (some ⟨r,0,none⟩) N N)(hy:y e=u)(V:h.AEb u (l.map bv))(AEO:256<=r)(hA:A.length=l.length)(hN:N=(A++B).length)(R:h.Row r 0 ((A++B).map bv)):
  Jq 1 x y F e h=.ok (AI AT (l.length:Int)) (h.wr r 0 (l.map bv))/\(h.wr r 0 (l.map bv)).Row r 0 ((l++B).map bv):=by
 have ho:0+(l.map bv).length<=((A++B).map bv).length:=by simp;omega
 have h1:Bc (l.map bv)=true:=C6 l;refine⟨?_,?_⟩
 ·unfold Jq Qt
  rw[hx,hy];simp only[V.lenV,AZ,BM,OF];rw[zo (show l.length<=N by rw[hN,No];omega)];rw[V.src (n:=l.length) (by rw[OF])];rw[R.store W AEO ho h1];rfl
 ·have:=R.AET W ho
  rw[wa,NW (by simp[hA])]at this;rw[wa];exact this
theorem Wx{n:Nat}{h:Hp}(W:h.Wf){tb:Nat}{T:List Nat}(R:h.Row tb 0 (T.map wv))(hT:AE1 T){u:IN}{l:List Nat}(V:h.AEb u (l.map bv))(hb:∀ x∈l,x<256)(hl:l.length<=900000):
  ∃ h' v,call AC (n+2) 73 [pt tb,u] h=.ok v h'/\h.Ext h'/\Mk h' h.next v (EY T l):=by
 have x1:=(Hp.Ext.refl W).AEA 0 ((v8 (l.length+4) 0).map bv);have R1:=Hp.Row.new W 0 ((v8 (l.length+4) 0).map bv);have mk:=fun (e:Env) (hx:J 10 e=AI AT ((l.length+4:Nat):Int))=>L9 (F:=call AC (n+1)) (e:=e) W (x:=J 10) (y:=J 10) hx hx (by omega)
 generalize h.AEA 0 ((v8 (l.length+4) 0).map bv)=h1 at x1 R1 mk;obtain⟨h2,k1,k2⟩:=U4 (n:=n) (R.ext W x1) hT (V.ext W x1) hb hl;have hbl:h2.bl=h1.bl:=by rcases k2 with rfl|rfl<;>rfl
 have x2:h.Ext h2:=by
  rcases k2 with rfl|rfl
  ·exact x1
  ·exact x1.marked
 have Vl:=V.bl h;have a1:Fs .i64 (AI AT (l.length:Int)) (AI AT 4) h=.ok (AI AT ((l.length+4:Nat):Int)) h:=by
  rw[Er,show(l.length:Int)+4=((l.length+4:Nat):Int)by omega,Bb (by omega)]
 have pre:∃ e1,gG (call AC (n+1)) (AQ e0 0 [pt tb,u]) h=slS (call AC (n+1)) e1 h2/\J 1 e1=u/\J 5 e1=.slice (some ⟨h.next,0,none⟩) (l.length+4) (l.length+4)/\J 6 e1=.int .u32 ((B9 T l:Nat):Int)/\J 15 e1=AI AT ((0:Nat):Int):=by
  unfold gG;simp only[iN,IS,sT,By,BY,reduceIte,AX,Vl,BG,a1,mk,cA0,k1];exact⟨_,rfl,by simp[AD]⟩
 obtain⟨e1,p1,p2,p3,p4,p5⟩:=pre;obtain⟨e2,h3,q1,x3,R3,q2,q3⟩:=jg (F:=call AC (n+1)) W x2 (IT _) V rfl hl (Ih T l) (R1.same hbl) p2 p3 p4 p5;have AEO:=W.big;obtain⟨c1,c2⟩:=fU (F:=call AC (n+1)) (e:=e2) x3.wf (x:=J 5) (y:=J 1) q3 q2 (V.ext W x3) AEO (A:=v8 l.length 0) (B:=HC (B9 T l)) (by simp) (by rw[No,xh];rfl) R3;have x4:=R3.AEi x3 (IT _) (off:=0) (vs:=l.map bv) (by rw[OF,OF,No,xh];omega);refine⟨_,.slice (some ⟨h.next,0,none⟩) (l.length+4) (l.length+4),?_,x4,⟨h.next,0,by rw[Ic],.inl rfl,c2,IT _⟩⟩;rw[oR rfl,pP,p1,rI];simp only[BB,Ap,q1,Az,A8];unfold slE;simp only[sT,By,BY,reduceIte,c1,q3,lV0]
end
noncomputable section
open Go
set_option maxRecDepth 100000
theorem dr:Lo.k=.slice 5:=by kernel_rfl
theorem qe{F:AEB}{e:Env}{h:Hp}{a:Addr}{n c:Nat}{g:O}(hg:g e=.slice (some a) n c):oEq Lo.k false g (kV (.slice none 0 0)) F e h=.ok (.bool false) h:=by
 show(match eqV Lo.k (g e) (.slice none 0 0)with|some r=>okB (false != r) h|none=>.no)=_;rw[dr,hg];exact Ff
theorem Pd{h0 h:Hp}{eb en k b:Nat}{u:IN}{ys:List IN}(x0:h0.Ext h)(hk2:k<=h.next)(r:h.Row b 0 [])(y:h.AEb u ys)(hy:0<ys.length)(ha:Bc ys=true)(hm:(ys.length+1)*(eb+1)<=1099511627776):
  ∃ h' v',DQ 1 eb en (.slice (some ⟨b,0,none⟩) 0 0) u h=.ok v' h'/\h0.Ext h'/\h'.Own k en v' ys:=by
 have W:=x0.wf;obtain⟨cc,hcc,hl⟩:=r.rowOf;obtain⟨t,h2,h3⟩:=EC ys cc [] 0 hl (.inr rfl);have h3:t.Is ys:=by simpa using h3
 refine⟨h.push (.cells t ys.length (en+1)),.slice (some ⟨h.next,0,none⟩) ys.length ys.length,?_,x0.push _,.inr ⟨h.next,rfl,⟨t,by rw[W.AEa,if_pos rfl],h3⟩,hk2,W.big⟩⟩;unfold DQ Dj;simp only[y.lenV,y.src rfl,AZ,xZ,vk];have e1:vx ys.length 0=false:=by
  cases e:vx ys.length 0
  ·rfl
  ·have:=Ac.1 e;omega
 have e2:vx (wY (vo ys.length) (vo eb)) Jm=true:=Ac.2 (IR hm);rw[e1];simp only[e2,cond_true,ha];unfold HJ;have hcc:rowOf h b=.ok cc 0 0:=hcc;have e3:wB 0 (wY 0 1)=true:=rfl;simp only[hcc,e3,h2];unfold E5;simp only[hcc,BL,xZ,vk];unfold CL;rw[AZ,Cv W];rfl
theorem Q0{F:AEB}{e:Env}{h:Hp}(W:h.Wf):Aj 0 (BQ ty5.zero 0) [] F e h=.ok (.slice (some ⟨h.next,0,none⟩) 0 0) (h.AEA 0 []):=by
 have:BQ ty5.zero 0=[]:=rfl;rw[this,CT,CO,Cw W];rfl
theorem Ql{n:Nat}{h:Hp}(W:h.Wf){a:Addr}{c:Nat}{l:List Nat}(V:h.AEb (.slice (some a) l.length c) (l.map bv))(hl:l.length<=900000):∃ h' v,call AC (n+1) 39 [.slice (some a) l.length c] h=.ok v h'/\h.Ext h'/\Mk h' h.next v l:=by
 have y1:=(Hp.Ext.refl W).AEA 0 [];have R:=Hp.Row.new W 0 [];have es:=fun (e:Env)=>Q0 (F:=call AC n) (e:=e) W
 have n1:(h.AEA 0 []).next=h.next+1:=rfl;generalize h.AEA 0 []=h1 at y1 R es n1;have ne:∀ e:Env,J 0 e=.slice (some a) l.length c->oEq Lo.k false (J 0) (kV (.slice none 0 0)) (call AC n) e h=.ok (.bool false) h:=fun e he=>qe he
 rcases wg l.length with hz|hz
 ·have hl0:l=[]:=wh hz
  subst hl0;have AEO:=W.big;have ap:DQ 1 1 5 (.slice (some ⟨h.next,0,none⟩) 0 0) (.slice (some a) 0 c) h1=.ok (.slice (some ⟨h.next,0,none⟩) 0 0) (h1.wr h.next 0 []):=Qd (l:=[]) y1.wf AEO R (V.ext W y1).bytes (IT _) (IT _);have R2:=R.AET y1.wf (off:=0) (vs:=[]) (IT _);have x2:=R.AEi y1 (IT _) (off:=0) (vs:=[]) (IT _);refine⟨_,.slice (some ⟨h.next,0,none⟩) 0 0,?_,x2,⟨h.next,0,rfl,.inl rfl,R2,IT _⟩⟩;rw[Iv rfl];unfold d39;have ne:∀ e:Env,J 0 e=.slice (some a) 0 c->oEq Lo.k false (J 0) (kV (.slice none 0 0)) (call AC n) e h=.ok (.bool false) h:=ne;simp only[iN,IS,sT,By,BY,reduceIte,wl,ne,es,BF,ap,lV0]
 ·obtain⟨h2,v,a1,a2,a3⟩:=Pd (eb:=1) (en:=5) (k:=h.next) y1 (by omega) R (V.ext W y1) (by rw[OF];exact hz) (C6 l) (by rw[OF];omega)
  refine⟨h2,v,?_,a2,a3.mk hz⟩;rw[Iv rfl];unfold d39;simp only[iN,IS,sT,By,BY,reduceIte,ne,es,BF,a1,lV0]
theorem Zr{F:AEB}{e:Env}{h:Hp}{x y:O}{a:Addr}{el N C m:Nat}(hx:x e=.slice (some a) N C)(hy:y e=AI AT (m:Int))(hm:m<=C):D5 el 1 x none (some y) none F e h=.ok (.slice (some a) m C) h:=by
 show(match x e with|.slice a n c=>DR e n c none (some y) none (fun l hh m=>EL el 1 a false l hh m h)|_=>.no)=_;rw[hx];show Ck e (some y) N C (fun hh=>Ck e none 0 hh fun l=>EL el 1 (some a) false l hh C h)=_;have hb:∀ K:Nat->R,Ck e (some y) N C K=K m:=fun K=>by
  show(match DE (y e)with|.ok n=>(bif vx n C then K n else .no)|.no=>.no)=_;rw[hy,C9];simp only;rw[Ac.2 hm];rfl
 rw[hb];show Bn (some a) 1 0 m C h=_;unfold Bn;simp only[AZ];cases C with
 |zero=>rfl
 |succ C=>rfl
theorem cY{F:AEB}{e:Env}{h:Hp}{k:C}{o:Addr}{n c:Nat}(hb:o.block<h.mark):JA (.slice (some o) n c) k F e h=k F e h:=by
 show(bif Nat.blt o.block h.mark then k F e h else .no)=_;rw[BD.2 hb];rfl
theorem Hp.AEb.blt{h:Hp}(W:h.Wf){o:Addr}{n c:Nat}{xs:List IN}(V:h.AEb (.slice (some o) n c) xs):o.block<h.next:=by
 rcases V with ⟨h1,_⟩|⟨b,off,c',el,L,h1,h2,_⟩
 ·cases h1
 ·cases h1;exact h2.lt W
def Yv(u:IN):Prop:=∀ o n c,u=.slice o n c->n<=c
theorem Mk.cap{h:Hp}{k:Nat}{v:IN}{l:List Nat}(m:Mk h k v l):Yv v:=fun o n c e=>by
 obtain⟨b,el,h1,_⟩:=m;rw[h1]at e;cases e;exact IT _
def vM(T l:List Nat)(h h':Hp)(r:R):Prop:=(∃ body v,Ew T l=some body/\r=.ok (.tuple ⟨[v,AI AT 0]⟩) h'/\Mk h' h.next v body)\/(Ew T l=none/\∃ c:Int,c≠0/\r=.ok (.tuple ⟨[.slice none 0 0,AI AT c]⟩) h')
theorem Yu{n:Nat}{h:Hp}(W:h.Wf){tb:Nat}{T:List Nat}(R:h.Row tb 0 (T.map wv))(hT:AE1 T){u:IN}{l:List Nat}(V:h.AEb u (l.map bv))(hC:Yv u)(hb:∀ x∈l,x<256)(hl:l.length<=900000):
  ∃ h',h.Ext h'/\vM T l h h' (call AC (n+3) 110 [pt tb,u] h):=by
 have Vl:=V.bl h;by_cases h4:l.length<4
 ·have c1:iLt (l.length:Int) 4=true:=EF h4
  refine⟨h,.refl W,.inr ⟨by unfold Ew;rw[if_pos h4],11,by omega,?_⟩⟩;rw[PP rfl];unfold Xl;simp only[iN,IS,sT,By,BY,reduceIte,AX,Vl,AJ,AH,c1,Bg,C7]
 ·have c1:iLt (l.length:Int) 4=false:=Cz (a:=l.length) (b:=4) (by omega)
  have a1:Ft wi .i64 (AI AT (l.length:Int)) (AI AT 4) h=.ok (AI AT ((l.length - 4:Nat):Int)) h:=by
   have:wi (l.length:Int) 4=((l.length - 4:Nat):Int):=by show(l.length:Int) - 4=_;omega
   rw[CV,this,Bb (by omega)]
  have hlm:(l.map bv).length=l.length:=OF ..;obtain⟨o,c,hu,V1⟩:=V.cut (n:=l.length - 4) (by rw[hlm];omega);rw[hlm]at hu;have hlen:(l.take (l.length - 4)).length=l.length - 4:=by rw[wT];omega
  have V1:h.AEb (.slice (some o) (l.take (l.length - 4)).length c) ((l.take (l.length - 4)).map bv):=by rw[hlen,List.map_take];exact V1
  obtain⟨h1,v,k1,x1,m1⟩:=Ql (n:=n+1) W V1 (by omega);rw[hlen]at k1;have hbb:∀ x∈l.take (l.length - 4),x<256:=fun x hx=>hb x (xK hx)
  have xm:=x1.marked;have Wm:=xm.wf;have xq:h.Ext h1.marked.quiet:=xm.quiet;obtain⟨h2,w,k2,x2,m2⟩:=Wx (n:=n) xq.wf (R.ext W xq) hT ((m1.same (h':=h1.marked.quiet) rfl).vals) hbb (by omega);have q1:∀ (F:AEB) (e:Env),F=call AC (n+2)->J 0 e=pt tb->J 6 e=v->Al .weak (AS 73 [J 0,J 6]) F e h1.marked=.ok w (h1.marked.back h2):=fun F e hF h0 h6=>by
   subst hF;refine DP ?_ x2 (IT _);rw[Ba,AV,AV,A1,h0,h6];exact k2
  have x3:h1.marked.Ext (h1.marked.back h2):=Hp.Ext.back x2;have xb:=xm.trans x3;have m3:Mk (h1.marked.back h2) h1.marked.quiet.next w (EY T (l.take (l.length - 4))):=m2.same rfl;have m4:Mk (h1.marked.back h2) h.next v (l.take (l.length - 4)):=(m1.same (h':=h1.marked) rfl).ext Wm x3;have Ve:=V.ext W xb;have st1:=m3.vals.bytes.str;have st2:=Ve.bytes.str;have hbs:=Qg (S0 (T:=T) hbb) hb;have hmk:o.block<(h1.marked.back h2).mark:=by
   have h5:o.block<h.next:=by rw[hu]at V;exact V.blt W
   have h6:=x1.next;show o.block<h1.next;omega
  have old:∀ (k:C) (F:AEB) (e:Env),JA u k F e (h1.marked.back h2)=k F e (h1.marked.back h2):=fun k F e=>by rw[hu];exact cY hmk
  have ct:∀ (F:AEB) (e:Env),J 1 e=u->J 13 e=AI AT ((l.length - 4:Nat):Int)->D5 5 1 (J 1) none (some (J 13)) none F e h=.ok (.slice (some o) (l.length - 4) c) h:=fun F e e1 e2=>by
   have:=hC _ _ _ hu;exact Zr (e1.trans hu) e2 (by omega)
  by_cases hs:EY T (l.take (l.length - 4))=l
  ·refine⟨_,xb,.inl ⟨_,v,by unfold Ew;rw[if_neg h4,if_pos hs],?_,m4⟩⟩
   rw[decide_eq_true hs]at hbs;rw[PP rfl];unfold Xl;simp only[iN,IS,sT,By,BY,reduceIte,AX,Vl,AJ,AH,c1,Bu,a1,ct,cA0,k1,A3,q1,K7,st1,EH,old,Da,st2,P7,PX,hbs,xJ,Bg,C7]
  ·refine⟨_,xb,.inr ⟨by unfold Ew;rw[if_neg h4,if_neg hs],12,by omega,?_⟩⟩
   rw[decide_eq_false hs]at hbs;rw[PP rfl];unfold Xl;simp only[iN,IS,sT,By,BY,reduceIte,AX,Vl,AJ,AH,c1,Bu,a1,ct,cA0,k1,A3,q1,K7,st1,EH,old,Da,st2,P7,PX,hbs,yA,Bg,C7]
end
noncomputable section
open Go
set_option maxRecDepth 100000
def Bv(a b c:Int)(s:Nat)(u:IN):IN:=.agg ⟨[AI AT a,AI AT b,AI AT c,.int .u8 (s:Int),u]⟩
def A4(a b c:Int)(s:Nat)(u:IN):List IN:=[AI AT a,AI AT b,AI AT c,.int .u8 (s:Int),u]
theorem S5{F:AEB}{h:Hp}(W:h.Wf){a b c:Int}{s:Nat}{u:IN}{g:O}{e:Env}(he:g e=Bv a b c s u):DA g F e h=.ok (.pointer (some ⟨h.next,0,none⟩)) (h.AEA 0 (A4 a b c s u)):=by
 rw[Ev,he,Es W];rfl
theorem CC{h:Hp}{r:Nat}{a b c:Int}{s:Nat}{u:IN}(R:h.Row r 0 (A4 a b c s u)):AEF ⟨r,0,none⟩ h=.ok (AI AT a) h/\AEF ⟨r,1,none⟩ h=.ok (AI AT b) h/\AEF ⟨r,2,none⟩ h=.ok (AI AT c) h/\AEF ⟨r,3,none⟩ h=.ok (.int .u8 (s:Int)) h/\AEF ⟨r,4,none⟩ h=.ok u h/\loadN 5 ⟨r,0,none⟩ h=.ok (Bv a b c s u) h:=
 ⟨R.AEF (off:=0) (by show 0<5;omega),R.AEF (off:=1) (by show 1<5;omega),R.AEF (off:=2) (by show 2<5;omega),R.AEF (off:=3) (by show 3<5;omega),R.AEF (off:=4) (by show 4<5;omega),R.loadN (off:=0) (n:=5) (by show 0+5<=5;omega)⟩
theorem Hi{a b:Int}(h:b<=a):iGe a b=true:=(Pf a b).trans (decide_eq_true h)
theorem FZ{a b:Int}(h:¬ b<=a):iGe a b=false:=(Pf a b).trans (decide_eq_false h)
theorem LP{a b:Int}(h:a<=b):iLe a b=true:=(UJ a b).trans (decide_eq_true h)
theorem RM{a b:Int}(h:¬ a<=b):iLe a b=false:=(UJ a b).trans (decide_eq_false h)
theorem LQ{a b:Int}(h:a<b):iLt a b=true:=(C4 a b).trans (decide_eq_true h)
theorem HL{a b:Int}(h:¬ a<b):iLt a b=false:=(C4 a b).trans (decide_eq_false h)
theorem GV{a b:Int}(h:b<a):iGt a b=true:=(Hj a b).trans (decide_eq_true h)
theorem Fa{a b:Int}(h:¬ b<a):iGt a b=false:=(Hj a b).trans (decide_eq_false h)
theorem Ci{a b:Int}(h:a=b):iEq a b=true:=by rw[EM];simpa using h
theorem Bj{a b:Int}(h:¬ a=b):iEq a b=false:=by rw[EM];simpa using h
theorem FH{a b:Int}(h:¬ a=b):iNe a b=true:=by rw[Hl];simpa using h
theorem CY{a b:Int}(h:a=b):iNe a b=false:=by rw[Hl];simpa using h
theorem Uu{F:AEB}{h:Hp}(W:h.Wf){a b c:Int}{s n:Nat}{u:IN}(hu:∀ g,AE5 u g=.ok (AI AT (n:Int)) g):A5 [.t (J 2)] (d40 F (AQ e0 0 [Bv a b c s u]) h)=.ok (.bool (AEN a b c s n)) (h.AEA 0 (A4 a b c s u)):=by
 have R:=Hp.Row.new W 0 (A4 a b c s u);have bx:∀ e:Env,J 0 e=Bv a b c s u->DA (J 0) F e h=.ok (.pointer (some ⟨h.next,0,none⟩)) (h.AEA 0 (A4 a b c s u)):=fun e he=>S5 W he
 generalize h.AEA 0 (A4 a b c s u)=h1 at R bx;obtain⟨l0,l1,l2,l3,l4,_⟩:=CC R;unfold d40;by_cases k1:0<=a
 ·have c1:iGe a 0=true:=Hi k1
  by_cases k2:a<=1099511627776
  ·have c2:iLe a 1099511627776=true:=LP k2
   by_cases k3:0<=b
   ·have c3:iGe b 0=true:=Hi k3
    by_cases k4:b<255
    ·have c4:iLt b 255=true:=LQ k4
     by_cases k5:1<=c
     ·have c5:iGe c 1=true:=Hi k5
      by_cases k6:c<=1099511627776
      ·have c6:iLe c 1099511627776=true:=LP k6
       by_cases k7:(s:Int)=1
       ·have c7:iEq (s:Int) 1=true:=Ci k7
        by_cases k9:(n:Int)<=65536
        ·have c9:iLe (n:Int) 65536=true:=LP k9
         rw[show AEN a b c s n=true from decide_eq_true (by omega)];simp only[iN,IS,sT,By,BY,reduceIte,gD,bx,AG,AM,AK,AO,l0,l1,l2,l3,l4,AJ,AH,AX,hu,c1,c2,c3,c4,c5,c6,c7,c9,lV0]
        ·have c9:iLe (n:Int) 65536=false:=RM k9
         rw[show AEN a b c s n=false from decide_eq_false (by omega)];simp only[iN,IS,sT,By,BY,reduceIte,gD,bx,AG,AM,AK,AO,l0,l1,l2,l3,l4,AJ,AH,AX,hu,c1,c2,c3,c4,c5,c6,c7,c9,lV0]
       ·have c7:iEq (s:Int) 1=false:=Bj k7
        by_cases k8:(s:Int)=2
        ·have c8:iEq (s:Int) 2=true:=Ci k8
         by_cases k9:(n:Int)<=65536
         ·have c9:iLe (n:Int) 65536=true:=LP k9
          rw[show AEN a b c s n=true from decide_eq_true (by omega)];simp only[iN,IS,sT,By,BY,reduceIte,gD,bx,AG,AM,AK,AO,l0,l1,l2,l3,l4,AJ,AH,AX,hu,c1,c2,c3,c4,c5,c6,c7,c8,c9,lV0]
         ·have c9:iLe (n:Int) 65536=false:=RM k9
          rw[show AEN a b c s n=false from decide_eq_false (by omega)];simp only[iN,IS,sT,By,BY,reduceIte,gD,bx,AG,AM,AK,AO,l0,l1,l2,l3,l4,AJ,AH,AX,hu,c1,c2,c3,c4,c5,c6,c7,c8,c9,lV0]
        ·have c8:iEq (s:Int) 2=false:=Bj k8
         rw[show AEN a b c s n=false from decide_eq_false (by omega)];simp only[iN,IS,sT,By,BY,reduceIte,gD,bx,AG,AM,AK,AO,l0,l1,l2,l3,l4,AJ,AH,AX,hu,c1,c2,c3,c4,c5,c6,c7,c8,lV0]
      ·have c6:iLe c 1099511627776=false:=RM k6
       rw[show AEN a b c s n=false from decide_eq_false (by omega)];simp only[iN,IS,sT,By,BY,reduceIte,gD,bx,AG,AM,AK,AO,l0,l1,l2,l3,l4,AJ,AH,AX,hu,c1,c2,c3,c4,c5,c6,lV0]
     ·have c5:iGe c 1=false:=FZ k5
      rw[show AEN a b c s n=false from decide_eq_false (by omega)];simp only[iN,IS,sT,By,BY,reduceIte,gD,bx,AG,AM,AK,AO,l0,l1,l2,l3,l4,AJ,AH,AX,hu,c1,c2,c3,c4,c5,lV0]
    ·have c4:iLt b 255=false:=HL k4
     rw[show AEN a b c s n=false from decide_eq_false (by omega)];simp only[iN,IS,sT,By,BY,reduceIte,gD,bx,AG,AM,AK,AO,l0,l1,l2,l3,l4,AJ,AH,AX,hu,c1,c2,c3,c4,lV0]
   ·have c3:iGe b 0=false:=FZ k3
    rw[show AEN a b c s n=false from decide_eq_false (by omega)];simp only[iN,IS,sT,By,BY,reduceIte,gD,bx,AG,AM,AK,AO,l0,l1,l2,l3,l4,AJ,AH,AX,hu,c1,c2,c3,lV0]
  ·have c2:iLe a 1099511627776=false:=RM k2
   rw[show AEN a b c s n=false from decide_eq_false (by omega)];simp only[iN,IS,sT,By,BY,reduceIte,gD,bx,AG,AM,AK,AO,l0,l1,l2,l3,l4,AJ,AH,AX,hu,c1,c2,lV0]
 ·have c1:iGe a 0=false:=FZ k1
  rw[show AEN a b c s n=false from decide_eq_false (by omega)];simp only[iN,IS,sT,By,BY,reduceIte,gD,bx,AG,AM,AK,AO,l0,l1,l2,l3,l4,AJ,AH,AX,hu,c1,lV0]
theorem Jz{n:Nat}{h:Hp}(W:h.Wf){a b c:Int}{s m:Nat}{u:IN}(hu:∀ g,AE5 u g=.ok (AI AT (m:Int)) g):call AC (n+1) 40 [Bv a b c s u] h=.ok (.bool (AEN a b c s m)) (h.AEA 0 (A4 a b c s u)):=by
 rw[nk rfl];exact Uu W hu
def Oz(z:Int):Nat:=if z<0\/65536<z then 0 else 1+(z.toNat+63)/64
theorem qd{F:AEB}{e:Env}{h:Hp}{x y:O}{k j:IntKind}{a b:Int}(hx:x e=.int k a)(hy:y e=.int j b):YU x y F e h=.ok (.int k (min a b)) h:=by
 show Ht true (x e) (y e) h=_;rw[hx,hy];show(bif iLt b a then R.ok (.int k b) h else .ok (.int k a) h)=_;rw[C4];rcases ADY b a with hlt|hle
 ·rw[decide_eq_true hlt,Int.min_eq_right (by omega)];rfl
 ·rw[decide_eq_false (by omega),Int.min_eq_left hle];rfl
theorem W7{n:Nat}{h:Hp}{z:Int}:call AC (n+1) 57 [AI AT z] h=.ok (AI AT (Oz z:Nat)) h:=by
 rw[oE rfl];unfold d57;by_cases k1:z<0
 ·have c1:iLt z 0=true:=LQ k1
  rw[show Oz z=0 from if_pos (by omega)];simp only[iN,IS,sT,By,BY,reduceIte,gD,AJ,AH,c1,lV0];rfl
 ·have c1:iLt z 0=false:=HL k1
  by_cases k2:65536<z
  ·have c2:iGt z 65536=true:=GV k2
   rw[show Oz z=0 from if_pos (by omega)];simp only[iN,IS,sT,By,BY,reduceIte,gD,AJ,AH,c1,c2,lV0];rfl
  ·have c2:iGt z 65536=false:=Fa k2
   obtain⟨m,rfl⟩:=yl (show 0<=z by omega);have a1:Fs .i64 (AI AT (m:Int)) (AI AT 64) h=.ok (AI AT ((m+64:Nat):Int)) h:=by
    rw[Er,show(m:Int)+64=((m+64:Nat):Int)by omega,Bb (by omega)]
   have a2:Ft wi .i64 (AI AT ((m+64:Nat):Int)) (AI AT 1) h=.ok (AI AT ((m+63:Nat):Int)) h:=by
    have:wi ((m+64:Nat):Int) 1=((m+63:Nat):Int):=by show((m+64:Nat):Int) - 1=_;omega
    rw[CV,this,Bb (by omega)]
   have a3:UA .i64 (AI AT ((m+63:Nat):Int)) (AI AT 64) h=.ok (AI AT (((m+63)/64:Nat):Int)) h:=by
    have:yK.wrap (((m+63:Nat):Int).tdiv 64)=(((m+63)/64:Nat):Int):=Bb (n:=(m+63)/64) (by omega);rw[Lu (by omega),this]
   have a4:Fs .i64 (AI AT 1) (AI AT (((m+63)/64:Nat):Int)) h=.ok (AI AT ((Oz (m:Int):Nat):Int)) h:=by
    rw[show Oz (m:Int)=1+((m:Int).toNat+63)/64 from if_neg (by omega),xI,Er,show(1:Int)+(((m+63)/64:Nat):Int)=((1+(m+63)/64:Nat):Int)by omega,Bb (by omega)]
   simp only[iN,IS,sT,By,BY,reduceIte,gD,AJ,AH,c1,c2,BG,a1,Bu,a2,Jr,a3,a4,lV0]
end
noncomputable section
open Go
set_option maxRecDepth 100000
def CE(a b c s m t:Nat):List Nat:=[s,a,b,c,m,t]
theorem bi{a b c s m t:Nat}(ha:a<=1099511627776)(hb:b<255)(hc:c<=1099511627776)(hs:s<256)(hm:m<=65536)(ht:t<4294967296):∀ v∈CE a b c s m t,v<18446744073709551616:=fun v hv=>by
 unfold CE at hv;simp only[List.mem_cons,List.mem_nil_iff,or_false]at hv;omega
theorem Oj{a b c s m t:Nat}(ha:a<=1099511627776)(hb:b<255)(hc:c<=1099511627776)(hs:s<256)(hm:m<=65536)(ht:t<4294967296):(Bw (CE a b c s m t)).length<=40:=by
 have h1:=EE 1 s (by show s<16384;omega);have h2:=EE 5 a (by show a<4398046511104;omega);have h3:=EE 1 b (by show b<16384;omega);have h4:=EE 5 c (by show c<4398046511104;omega);have h5:=EE 2 m (by show m<2097152;omega);have h6:=EE 4 t (by show t<34359738368;omega);show(B8 s++(B8 a++(B8 b++(B8 c++(B8 m++(B8 t++[])))))).length<=40;simp only[No,wl];omega
theorem KY{k:IntKind}{n:Nat}(hn:n<=18446744073709551615){h:Hp}:DS .u64 (.int k (n:Int)) h=.ok (.int .u64 (n:Int)) h:=by rw[Cd,EV hn]
def vJ(T:List Nat)(a b c:Int)(s:Nat)(l:List Nat)(h h':Hp)(r:R):Prop:=(AEN a b c s l.length=true/\∃ v,r=.ok (.tuple ⟨[v,AI AT 0]⟩) h'/\Mk h' h.next v (EY T (Li (CE a.toNat b.toNat c.toNat s l.length (B9 T l)))))\/(AEN a b c s l.length=false/\r=.ok (.tuple ⟨[.slice none 0 0,AI AT 2]⟩) h')
end
noncomputable section
open Go
set_option maxRecDepth 100000
def nv(n:Nat):IN:=.int .u64 (n:Int)
theorem Hp.Own.apart{h:Hp}{k en b:Nat}{v:IN}{xs:List IN}(o:h.Own k en v xs)(hb:b<k):¬ AEe v b:=by
 rcases o with ⟨rfl,_⟩|⟨c,rfl,_,h3,_⟩
 ·exact GN
 ·exact Lq (by omega)
theorem Ya{h0 h:Hp}{k n:Nat}{v:IN}{xs:List Nat}(x0:h0.Ext h)(hk:h0.next<=k)(hk2:k<=h.next)(o:h.Own k 5 v (xs.map bv))(hn:0<n)(hm:xs.length+n<=1000000):
  ∃ h' v',IC 1 1 5 ty5.zero v (.ok n) h=.ok v' h'/\h0.Ext h'/\h'.Own k 5 v' ((xs++v8 n 0).map bv)/\h.next<=h'.next:=by
 have W:=x0.wf;have hz:Bc ty5.zero=true:=by kernel_rfl
 have hyl:((v8 n 0).map bv).length=n:=by simp
 rw[wa];have hx:(xs.map bv).length=xs.length:=OF ..;generalize hY:(v8 n 0).map bv=ys at hyl;rcases o with ⟨rfl,AGq⟩|⟨b,rfl,r,hb,hb2⟩
 ·rw[AGq]
  obtain⟨t1,t2⟩:=Hx ys;refine⟨h.push (.cells (ofL ys) ys.length 6),.slice (some ⟨h.next,0,none⟩) ys.length ys.length,?_,x0.push _,.inr ⟨h.next,rfl,⟨ofL ys,by rw[W.AEa,if_pos rfl];rfl,t2⟩,hk2,W.big⟩,AC4 _⟩;unfold IC;simp only[AZ,xZ,vk];have e1:vx n 0=false:=by
   cases e:vx n 0
   ·rfl
   ·have:=Ac.1 e;omega
  have e2:vx (wY (vo n) (vo 1)) Jm=true:=Ac.2 (IR (by show(n+1)*2<=1099511627776;omega));rw[e1];simp only[e2,cond_true,hz,ME,hY];unfold HJ BJ Jf;simp only[xE,t1];unfold E5;simp only[BL];unfold CL;rw[AZ,Cv W,hyl];rfl
 ·obtain⟨cc,hcc,hl⟩:=r.rowOf
  rw[hx]at hcc;obtain⟨t,h2,h3⟩:=EC ys cc (xs.map bv) xs.length hl (.inr hx.symm);have h3:t.Is (xs.map bv++ys):=by
   have e:(xs.map bv).drop (xs.length+ys.length)=[]:=xL (by omega);have e':(xs.map bv).take xs.length=xs.map bv:=yz (by omega);rw[e,e']at h3
   simpa using h3
  have hlen:(xs.map bv++ys).length=xs.length+n:=by rw[No,hx,hyl]
  have hlt:=r.lt W;have W1:(h.put b .dead).Wf:=W.put hlt _;have x1:h0.Ext (h.put b .dead):=x0.put (by omega) hlt _;refine⟨(h.put b .dead).push (.cells t (xs.length+n) 6),.slice (some ⟨h.next,0,none⟩) (xs.length+n) (xs.length+n),?_,x1.push _,.inr ⟨h.next,by rw[hlen],⟨t,by
   have:=W1.AEa (.cells t (xs.length+n) 6) h.next;rw[this,if_pos (show h.next=(h.put b .dead).next from rfl),hlen],h3⟩,hk2,W.big⟩,AC4 _⟩
  rw[hx];unfold IC;simp only[AZ,xZ];have e1:vx (xs.length+n) xs.length=false:=by
   cases e:vx (xs.length+n) xs.length
   ·rfl
   ·have:=Ac.1 e;omega
  have e2:vx (wY (vo (xs.length+n)) (vo 1)) Jm=true:=Ac.2 (IR (by show(xs.length+n+1)*2<=1099511627776;omega));rw[e1];simp only[e2,cond_true,hz,ME,hY];unfold HJ;have e3:wB xs.length (wY xs.length 1)=true:=Am.2 (yk _).symm;simp only[hcc,e3,h2];unfold E5;have e4:LJ 0 xs.length 1 xs.length=true:=by
   unfold LJ;cases xs.length with
   |zero=>rfl
   |succ n=>exact Am.2 (by show 0+(n+1)*1=n+1;omega)
  simp only[hcc,BL,xZ,xu,cond_true,e4];rw[Do W hb2 hlt];unfold CL;rw[AZ,Cv W1,hyl];rfl
theorem SB{F:AEB}{e:Env}{h:Hp}{x y:O}{n:Nat}{v:IN}(hx:x e=v)(hy:y e=AI AT (n:Int)):Fd 1 1 5 ty5.zero x y F e h=IC 1 1 5 ty5.zero v (.ok n) h:=by
 unfold Fd;rw[hx,hy,C9]
theorem j0:BQ TO.zero 6=[nv 0,nv 0,nv 0,nv 0,nv 0,nv 0]:=by kernel_rfl
theorem Ze{n:Nat}:cellsOf (nv n)=[nv n]:=rfl
theorem Yi{F:AEB}{e:Env}{h:Hp}(W:h.Wf){g1 g2 g3 g4 g5 g6:O}{a b c d i j:Nat}(h1:g1 e=nv a)(h2:g2 e=nv b)(h3:g3 e=nv c)(h4:g4 e=nv d)(h5:g5 e=nv i)(h6:g6 e=nv j):
  Aj 6 (BQ TO.zero 6) [(0,1,g1),(1,1,g2),(2,1,g3),(3,1,g4),(4,1,g5),(5,1,g6)] F e h=.ok (.slice (some ⟨h.next,0,none⟩) 6 6) (h.AEA 0 ([a,b,c,d,i,j].map nv)):=by
 rw[CT,j0,BE (hk:=by rw[h1];rfl),h1,BE (hk:=by rw[h2];rfl),h2,BE (hk:=by rw[h3];rfl),h3,BE (hk:=by rw[h4];rfl),h4,BE (hk:=by rw[h5];rfl),h5,BE (hk:=by rw[h6];rfl),h6];simp only[Ze,xR,vw,wl,over,ADX,AC7,ABt,xE,zy,IS,ABR,if_true,CO,reduceIte];rw[Cw W];rfl
theorem pp:heS=BI (AY 0 (Aw heB)) heE:=rfl
theorem Z1:d44=Z2:=rfl
theorem gh{n:Nat}{h0 h:Hp}(x0:h0.Ext h){b6:Nat}(hb6:b6<h.next)(hk:h0.next<=h.next){ns:List Nat}(R6:h.Row b6 0 (ns.map nv))(hns:∀ v∈ns,v<18446744073709551616)(h6:ns.length=6){p:IN}{e:Env}
  (s0:J 0 e=p)(s6:J 6 e=.slice none 0 0)(s33:J 33 e=.slice (some ⟨b6,0,none⟩) 6 6)(s34:J 34 e=AI AT 6)(s35:J 35 e=AI AT ((0:Nat):Int)):
  ∃ e' h' v,Aw heB (call AC (n+1)) e h=.exit 0 e' h'/\h0.Ext h'/\h'.Own h.next 5 v ((Bw ns).map bv)/\J 0 e'=p/\J 6 e'=v/\h.next<=h'.next:=by
 refine BU (I:=fun i e' h'=>∃ v,h0.Ext h'/\h'.Own h.next 5 v ((Bw (ns.take i)).map bv)/\h'.Row b6 0 (ns.map nv)/\J 0 e'=p/\J 6 e'=v/\J 33 e'=.slice (some ⟨b6,0,none⟩) 6 6/\J 34 e'=AI AT 6/\J 35 e'=AI AT (i:Int)/\h.next<=h'.next/\i<=6)
  (Q:=fun x=>∃ e' h' v,x=.exit 0 e' h'/\h0.Ext h'/\h'.Own h.next 5 v ((Bw ns).map bv)/\J 0 e'=p/\J 6 e'=v/\h.next<=h'.next) 6 (by omega) (fun i e' h' ⟨v,x',o',R',t0,t6,t33,t34,t35,hn,hi⟩=>?_)
  ⟨_,x0,.inl ⟨rfl,rfl⟩,R6,s0,s6,s33,s34,s35,IT _,by omega⟩
 by_cases hlt:i<6
 ·left
  have c1:iLt (i:Int) 6=true:=EF (b:=6) hlt;have hil:i<ns.length:=by omega
  have i1:AE0 1 (.slice (some ⟨b6,0,none⟩) 6 6) (AI AT (i:Int)) h'=.ok (.pointer (some ⟨b6,i,none⟩)) h':=by
   have:=Cy (h:=h') (n:=6) (c:=6) (es:=1) (b:=b6) (off:=0) (i:=i) (k:=.i64) hlt
   rwa [vk,yk]at this
  have l1:AEF ⟨b6,i,none⟩ h'=.ok (.int .u64 ((ns[i]'hil:Nat):Int)) h':=by
   rw[R'.AEF (off:=i) (by rw[OF];exact hil),vm,xH,sh hil];rfl
  have htl:(Bw (ns.take i)).length<=1000000:=by
   have h1:=JI (ns:=ns.take i) fun v hv=>hns v (xK hv)
   rw[wT]at h1;omega
  obtain⟨h2,v2,k2,x2,o2,hn2,fr⟩:=jv (n:=n) x' hk hn o' htl (hns _ (ym hil));have a3:=CF (i:=i) (h:=h2) (by omega);have R2:=(fr b6 0 _ (o'.apart hb6) R').1;have htk:Bw (ns.take i)++B8 (ns[i]'hil)=Bw (ns.take (i+1)):=by
   rw[List.take_succ_eq_append_getElem hil,VB];show _=_++(B8 _++[]);rw[wF]
  rw[htk]at o2;have hrun:∃ e2,heB (call AC (n+1)) e' h'=.norm e2 h2/\J 0 e2=p/\J 6 e2=v2/\J 33 e2=.slice (some ⟨b6,0,none⟩) 6 6/\J 34 e2=AI AT 6/\J 35 e2=AI AT ((i+1:Nat):Int):=by
   unfold heB;simp only[sT,By,BY,reduceIte,AJ,AH,t35,t34,c1,Ay,t33,i1,AK,AO,l1,cA0,t6,k2,BG,a3];exact⟨_,rfl,by simp[AD,t0,t33,t34]⟩
  obtain⟨e2,q1,q2,q3,q4,q5,q6⟩:=hrun;exact⟨by omega,e2,h2,q1,v2,x2,o2,R2,q2,q3,q4,q5,q6,by omega,by omega⟩
 ·right
  have hi6:i=6:=by omega
  subst hi6;have c1:iLt ((6:Nat):Int) 6=false:=Cz (a:=6) (b:=6) (by omega);have hrun:∃ e2,heB (call AC (n+1)) e' h'=.exit 0 e2 h'/\J 0 e2=p/\J 6 e2=v:=by
   unfold heB;simp only[sT,By,BY,reduceIte,AJ,AH,t35,t34,c1];exact⟨_,rfl,by simp[AD,t0,t6]⟩
  obtain⟨e2,q1,q2,q3⟩:=hrun;rw[q1];rw[yz (by omega)]at o';exact⟨rfl,e2,h',v,rfl,x',o',q2,q3,hn⟩
theorem WD{n:Nat}{h:Hp}(W:h.Wf){tb:Nat}{T:List Nat}(R:h.Row tb 0 (T.map wv))(hT:AE1 T){a b c:Int}{s:Nat}{u:IN}{l:List Nat}(V:h.AEb u (l.map bv))(hb:∀ x∈l,x<256)(hs:s<256)(hl:l.length<=900000):
  ∃ h',h.Ext h'/\vJ T a b c s l h h' (call AC (n+3) 44 [pt tb,Bv a b c s u] h):=by
 have x1:=(Hp.Ext.refl W).AEA 0 (A4 a b c s u);have R1:=Hp.Row.new W 0 (A4 a b c s u);have bx:∀ e:Env,J 1 e=Bv a b c s u->DA (J 1) (call AC (n+2)) e h=.ok (.pointer (some ⟨h.next,0,none⟩)) (h.AEA 0 (A4 a b c s u)):=fun e he=>S5 W he
 have n1:(h.AEA 0 (A4 a b c s u)).next=h.next+1:=rfl;generalize h.AEA 0 (A4 a b c s u)=h1 at x1 R1 bx n1;obtain⟨_,_,_,_,_,ln⟩:=CC R1;have k1:=Jz (n:=n+1) x1.wf (a:=a) (b:=b) (c:=c) (s:=s) (u:=u) V.bl;have y2:=(Hp.Ext.refl x1.wf).AEA 0 (A4 a b c s u);have n2:(h1.AEA 0 (A4 a b c s u)).next=h1.next+1:=rfl;generalize h1.AEA 0 (A4 a b c s u)=h2 at y2 k1 n2;have x2:=x1.trans y2;cases hr:AEN a b c s l.length with
 |false=>
  rw[hr]at k1;refine⟨h2,x2,.inr ⟨hr,?_⟩⟩;rw[ZO rfl,Z1];unfold Z2;simp only[iN,IS,sT,By,BY,reduceIte,bx,Aq,As,ln,cA0,k1,Bi,Bh,yA,Bg,C7]
 |true=>
  rw[hr]at k1;obtain⟨ha1,ha2,hb1,hb2,hc1,hc2,hs2,hm⟩:=of_decide_eq_true hr;have xm:=x2.marked;have R2:h2.marked.Row h.next 0 (A4 a b c s u):=(R1.ext x1.wf y2).same rfl;obtain⟨m0,m1,m2,m3,m4,_⟩:=CC R2;have hmk:h.next<h2.marked.mark:=by show h.next<h2.next;omega
  have old:∀ (off:Nat) (k:C) (F:AEB) (e:Env),JA (.pointer (some ⟨h.next,off,none⟩)) k F e h2.marked=k F e h2.marked:=fun off k F e=>Dg hmk
  have Vl:=V.bl h2.marked;obtain⟨a',rfl⟩:=yl ha1;obtain⟨b',rfl⟩:=yl hb1;obtain⟨c',rfl⟩:=yl (show 0<=c by omega);have cs:=KY (k:=.u8) (n:=s) (by omega) (h:=h2.marked);have ca:=KY (k:=.i64) (n:=a') (by omega) (h:=h2.marked);have cb:=KY (k:=.i64) (n:=b') (by omega) (h:=h2.marked);have cc:=KY (k:=.i64) (n:=c') (by omega) (h:=h2.marked);have cm:=KY (k:=.i64) (n:=l.length) (by omega) (h:=h2.marked);obtain⟨hq,kq,hq2⟩:=U4 (n:=n+1) (h:=h2.marked.quiet) (R.ext W xm.quiet) hT (V.ext W xm.quiet) hb hl;have yq:h2.marked.quiet.Ext hq:=by
   rcases hq2 with rfl|rfl
   ·exact Hp.Ext.refl xm.quiet.wf
   ·exact(Hp.Ext.refl xm.quiet.wf).marked
  have nq:hq.next=h2.next:=by rcases hq2 with rfl|rfl<;>rfl
  have q1:∀ e:Env,J 0 e=pt tb->J 30 e=u->Al .weak (AS 71 [J 0,J 30]) (call AC (n+2)) e h2.marked=.ok (.int .u32 ((B9 T l:Nat):Int)) (h2.marked.back hq):=fun e h0 h6=>by
   refine DP ?_ yq (IT _);rw[Ba,AV,AV,A1,h0,h6];exact kq
  have yb:h2.marked.Ext (h2.marked.back hq):=Hp.Ext.back yq;have nb:(h2.marked.back hq).next=h2.next:=nq;have mb:(h2.marked.back hq).mark=h2.next:=rfl;generalize h2.marked.back hq=h3 at q1 yb nb mb;have x3:=xm.trans yb;have ct:=KY (k:=.u32) (n:=B9 T l) (by have:=Ih T l;omega) (h:=h3);have y4:h3.quiet.Ext (h3.quiet.AEA 0 ((CE a' b' c' s l.length (B9 T l)).map nv)):=(Hp.Ext.refl x3.quiet.wf).AEA _ _;have R4:=Hp.Row.new x3.quiet.wf 0 ((CE a' b' c' s l.length (B9 T l)).map nv);have q2:∀ (F:AEB) (e:Env),J 14 e=nv s->J 17 e=nv a'->J 20 e=nv b'->J 23 e=nv c'->J 27 e=nv l.length->J 32 e=nv (B9 T l)->
    Al .AEV (Aj 6 (BQ TO.zero 6) [(0,1,J 14),(1,1,J 17),(2,1,J 20),(3,1,J 23),(4,1,J 27),(5,1,J 32)]) F e h3=.ok (.slice (some ⟨h3.next,0,none⟩) 6 6) (h3.back (h3.quiet.AEA 0 ((CE a' b' c' s l.length (B9 T l)).map nv))):=fun F e e1 e2 e3 e4 e5 e6=>
   DP (Yi x3.quiet.wf e1 e2 e3 e4 e5 e6) y4 (by omega)
  have z4:h3.Ext (h3.back (h3.quiet.AEA 0 ((CE a' b' c' s l.length (B9 T l)).map nv))):=Hp.Ext.back y4;have n4:(h3.back (h3.quiet.AEA 0 ((CE a' b' c' s l.length (B9 T l)).map nv))).next=h3.next+1:=rfl;have R5:(h3.back (h3.quiet.AEA 0 ((CE a' b' c' s l.length (B9 T l)).map nv))).Row h3.next 0 ((CE a' b' c' s l.length (B9 T l)).map nv):=R4.same rfl;generalize h3.back (h3.quiet.AEA 0 ((CE a' b' c' s l.length (B9 T l)).map nv))=h4 at q2 z4 n4 R5;have x4:=x3.trans z4;have hnl:=bi (a:=a') (b:=b') (c:=c') (s:=s) (m:=l.length) (t:=B9 T l) (by omega) (by omega) (by omega) hs (by omega) (Ih T l);have hl7:=Oj (a:=a') (b:=b') (c:=c') (s:=s) (m:=l.length) (t:=B9 T l) (by omega) (by omega) (by omega) hs (by omega) (Ih T l);have pre:∃ e1,Z2 (call AC (n+2)) (AQ e0 0 [pt tb,Bv (a':Int) (b':Int) (c':Int) s u]) h=heS (call AC (n+2)) e1 h4/\J 0 e1=pt tb/\J 6 e1=.slice none 0 0/\J 33 e1=.slice (some ⟨h3.next,0,none⟩) 6 6/\J 34 e1=AI AT 6/\J 35 e1=AI AT ((0:Nat):Int):=by
   have cs:DS .u64 (.int .u8 (s:Int)) h2.marked=.ok (nv s) h2.marked:=cs;have ca:DS .u64 (AI AT (a':Int)) h2.marked=.ok (nv a') h2.marked:=ca;have cb:DS .u64 (AI AT (b':Int)) h2.marked=.ok (nv b') h2.marked:=cb;have cc:DS .u64 (AI AT (c':Int)) h2.marked=.ok (nv c') h2.marked:=cc;have cm:DS .u64 (AI AT (l.length:Int)) h2.marked=.ok (nv l.length) h2.marked:=cm;have ct:DS .u64 (.int .u32 ((B9 T l:Nat):Int)) h3=.ok (nv (B9 T l)) h3:=ct;unfold Z2;simp only[iN,IS,sT,By,BY,reduceIte,bx,Aq,As,ln,cA0,k1,Bi,Bh,xJ,A3,AG,AM,EH,old,Da,AK,AO,m0,m1,m2,m3,m4,CH,cs,ca,cb,cc,AX,Vl,cm,q1,ct,q2,Dv];exact⟨_,rfl,by simp[AD]⟩
  obtain⟨e1,p1,p2,p3,p4,p5,p6⟩:=pre;obtain⟨e2,h5,v5,r1,x5,o5,r2,r3,n5⟩:=gh (n:=n+1) x4 (b6:=h3.next) (by omega) x4.next R5 hnl rfl p2 p3 p4 p5 p6;have Vl5:=o5.vals.bl h5;have a1:Ft wi .i64 (AI AT 60) (AI AT ((Bw (CE a' b' c' s l.length (B9 T l))).length:Int)) h5=.ok (AI AT ((60 - (Bw (CE a' b' c' s l.length (B9 T l))).length:Nat):Int)) h5:=by
   have:wi 60 ((Bw (CE a' b' c' s l.length (B9 T l))).length:Int)=((60 - (Bw (CE a' b' c' s l.length (B9 T l))).length:Nat):Int):=by
    show(60:Int) - _=_;omega
   rw[CV,this,Bb (by omega)]
  obtain⟨h6,v6,k6,x6,o6,n6⟩:=Ya x5 (k:=h4.next) x4.next n5 o5 (n:=60 - (Bw (CE a' b' c' s l.length (B9 T l))).length) (by omega) (by omega);have ap:∀ (F:AEB) (e:Env),J 6 e=v5->J 47 e=AI AT ((60 - (Bw (CE a' b' c' s l.length (B9 T l))).length:Nat):Int)->Fd 1 1 5 ty5.zero (J 6) (J 47) F e h5=.ok v6 h6:=fun F e e1 e2=>(SB e1 e2).trans k6
  have hpl:=NX (l:=Bw (CE a' b' c' s l.length (B9 T l))) (by omega);have Vp:h6.AEb v6 ((QE (Bw (CE a' b' c' s l.length (B9 T l)))).map bv):=o6.vals;obtain⟨h7,w,k7,y7,m7⟩:=Wx (n:=n) x6.wf (R.ext W x6) hT Vp (Wr PB) (by omega);refine⟨h7,x6.trans y7,.inl ⟨hr,w,?_,?_⟩⟩
  ·rw[ZO rfl,Z1,p1,pp]
   simp only[BB,Ap,r1,Az,A8];unfold heE;simp only[sT,By,BY,reduceIte,AX,r3,Vl5,Bu,a1,ap,cA0,r2,k7,Bg,C7]
  ·rw[xI,xI,xI]
   exact m7.le x6.next
end
noncomputable section
open Go
set_option maxRecDepth 100000
abbrev AEP:IN:=.slice none 0 0
def okT(ns:List Nat):IN:=.tuple ⟨[Bv (at6 ns 1) (at6 ns 2) (at6 ns 3) (at6 ns 0) AEP,AI AT (at6 ns 4:Nat),.int .u32 (at6 ns 5:Nat),.bool true]⟩
def noT:IN:=.tuple ⟨[Bv 0 0 0 0 AEP,AI AT 0,.int .u32 0,.bool false]⟩
theorem VD:Il.zero=A4 0 0 0 0 AEP:=by kernel_rfl
theorem Ij:B3 .mt 0 (A4 0 0 0 0 AEP)=some Dz:=by kernel_rfl
theorem eS:B3 .mt 0 ([0,0,0,0,0,0].map nv)=some PF:=by kernel_rfl
theorem Ki{e:Env}{h:Hp}{g g1 g2 g3:O}{n:Nat}{v:IN}(hv:Kv n (g e) h=.ok v h):FF [.cN g n,.t g1,.t g2,.t g3] e h=.ok (.tuple ⟨[v,g1 e,g2 e,g3 e]⟩) h:=by
 have h1:G4 e h (.cN g n)=.ok v h:=hv;show(match G4 e h (.cN g n)with|.ok v _=>AEQ v fun v=>AEQ (g1 e) (fun x=>AEQ (g2 e) fun y=>AEQ (g3 e) fun z=>Lx h [v,x,y,z])|.no=>.no)=_;rw[h1];simp only[BH];rfl
theorem QH{h g:Hp}(W0:h.Wf)(x:h.Ext g){r:Nat}(hr:h.next<=r){L:List IN}(R:g.Row r 0 L)(hL:L.length=5){a b c:Int}{s:Nat}{u:IN}(hu:oneCell u=true):
  AER 5 (pt r) (Bv a b c s u) g=.ok AEE (g.wr r 0 (A4 a b c s u))/\loadN 5 ⟨r,0,none⟩ (g.wr r 0 (A4 a b c s u))=.ok (Bv a b c s u) (g.wr r 0 (A4 a b c s u))/\h.Ext (g.wr r 0 (A4 a b c s u))/\(g.wr r 0 (A4 a b c s u)).Row r 0 (A4 a b c s u)/\(g.wr r 0 (A4 a b c s u)).next=g.next:=by
 have AEO:256<=r:=by have:=W0.big;omega
 have ho:0+(A4 a b c s u).length<=L.length:=by rw[hL];show 0+5<=5;omega
 have h1:Bc (A4 a b c s u)=true:=by
  show(bif oneCell u then true else false)=true;rw[hu];rfl
 have st:=R.AER (n:=5) (off:=0) x.wf AEO (v:=Bv a b c s u) rfl ho h1;have wr:=R.AET x.wf ho;rw[Hy (show L.length=(A4 a b c s u).length from hL)]at wr;exact⟨st,(CC wr).2.2.2.2.2,R.AEi x hr ho,wr,R.AEt ho⟩
theorem fD{F:AEB}{e:Env}{h:Hp}{g1 g2 g3 g4:O}{a b c:Int}{s:Nat}(h1:g1 e=.int .u8 (s:Int))(h2:g2 e=AI AT a)(h3:g3 e=AI AT b)(h4:g4 e=AI AT c):
  B5 Il.zero [(3,1,g1),(0,1,g2),(1,1,g3),(2,1,g4)] F e h=.ok (Bv a b c s AEP) h:=by
 rw[Ej,VD,BE (hk:=by rw[h1];rfl),h1,BE (hk:=by rw[h2];rfl),h2,BE (hk:=by rw[h3];rfl),h3,BE (hk:=by rw[h4];rfl),h4];simp only[Dl,xR,vw,wl,A4,over,ADX,AC7,ABt,xE,zy,IS,ABR,if_true,CO,reduceIte];rfl
theorem EA{F:AEB}{e:Env}{h:Hp}:B5 Il.zero [] F e h=.ok (Bv 0 0 0 0 AEP) h:=by
 rw[Ej,CO,VD];rfl
theorem RN{r k:Nat}(hk:k<6){g:Hp}:Nv 6 1 (pt r) (AI AT (k:Int)) g=.ok (.pointer (some ⟨r,k,none⟩)) g:=by
 have:=WJ (h:=g) (n:=6) (es:=1) (b:=r) (off:=0) (i:=k) (k:=.i64) hk
 rwa [vk,yk]at this
theorem Ry{g:Hp}{r k:Nat}{ns:List Nat}(R:g.Row r 0 (ns.map nv))(h6:ns.length=6)(hk:k<6):AEF ⟨r,k,none⟩ g=.ok (.int .u64 ((at6 ns k:Nat):Int)) g:=by
 have hil:k<ns.length:=by omega
 unfold at6;rw[R.AEF (off:=k) (by rw[OF];exact hil),vm,xH,vm,sh hil];rfl
abbrev f112:IN:=.func (.func 112) ⟨[]⟩ ⟨[]⟩
theorem ZG{n:Nat}{h:Hp}{c:Nat}:call AC (n+1) 112 [.int .u8 (c:Int)] h=.ok (.bool (iNe (c:Int) 0)) h:=by
 rw[fL rfl];unfold fh;simp only[iN,IS,sT,By,BY,reduceIte,AJ,AH,lV0]
theorem Ph:ifS=BI (AY 0 (Aw ifB)) ifE:=rfl
theorem Lt:ff=OE:=rfl
theorem gm{n:Nat}{h:Hp}{u:IN}{l:List Nat}(V:h.AEb u (l.map bv))(hl:l.length<=900000){e:Env}(s0:J 0 e=u)(s1:J 1 e=f112)(s7:J 7 e=AI AT (l.length:Int))(s8:J 8 e=AI AT ((0:Nat):Int)):
  (∃ e',Aw ifB (call AC (n+1)) e h=.exit 0 e' h/\∀ x∈l,x=0)\/(∃ e' i,Aw ifB (call AC (n+1)) e h=.ret e' h/\J 4 e'=AI AT ((i:Nat):Int)/\∃ x∈l,x≠0):=by
 refine BU (I:=fun i e' h'=>h'=h/\J 0 e'=u/\J 1 e'=f112/\J 7 e'=AI AT (l.length:Int)/\J 8 e'=AI AT (i:Int)/\i<=l.length/\((∀ x∈l,x=0)↔∀ x∈l.drop i,x=0))
  (Q:=fun x=>(∃ e',x=.exit 0 e' h/\∀ x∈l,x=0)\/(∃ e' i,x=.ret e' h/\J 4 e'=AI AT ((i:Nat):Int)/\∃ x∈l,x≠0)) l.length (by omega) (fun i e' h' ⟨hh,t0,t1,t7,t8,hi,hr⟩=>?_) ⟨rfl,s0,s1,s7,s8,wP _,by simp⟩
 subst hh;by_cases hlt:i<l.length
 ·obtain⟨a,g1,g2⟩:=JL V hlt
  have hmem:l.getD i 0∈l:=by
   rw[vm,sh hlt];exact ym hlt
  rw[GP hlt]at hr;generalize l.getD i 0=c at g2 hr hmem;have c1:=EF hlt;have k1:=ZG (n:=n) (h:=h') (c:=c);by_cases hc:c=0
  ·left
   subst hc;have k1:call AC (n+1) 112 [.int .u8 ((0:Nat):Int)] h'=.ok (.bool false) h':=k1;have a3:=CF (i:=i) (h:=h') (by omega);have hrun:∃ e2,ifB (call AC (n+1)) e' h'=.norm e2 h'/\J 0 e2=u/\J 1 e2=f112/\J 7 e2=AI AT (l.length:Int)/\J 8 e2=AI AT ((i+1:Nat):Int):=by
    unfold ifB;simp only[sT,By,BY,reduceIte,AJ,AH,t8,t7,c1,Ay,t0,g1,AK,g2,Ca,t1,CI,AV,A1,xE,wF,k1,BG,a3];exact⟨_,rfl,by simp[AD,t0,t1,t7]⟩
   obtain⟨e2,q1,q2,q3,q4,q5⟩:=hrun;refine⟨hlt,e2,h',q1,rfl,q2,q3,q4,q5,hlt,hr.trans ?_⟩;simp
  ·right
   have c2:iNe (c:Int) 0=true:=by rw[Hl];simpa using hc
   rw[c2]at k1;have hrun:∃ e2,ifB (call AC (n+1)) e' h'=.ret e2 h'/\J 4 e2=AI AT (i:Int):=by
    unfold ifB;simp only[sT,By,BY,reduceIte,AJ,AH,t8,t7,c1,Ay,t0,g1,AK,g2,Ca,t1,CI,AV,A1,xE,wF,k1];exact⟨_,rfl,by simp[AD]⟩
   obtain⟨e2,q1,q2⟩:=hrun;rw[q1];exact⟨rfl,.inr ⟨e2,i,rfl,q2,c,hmem,hc⟩⟩
 ·right
  have c1:=Cz (show l.length<=i by omega);have hrun:∃ e2,ifB (call AC (n+1)) e' h'=.exit 0 e2 h':=by
   unfold ifB;simp only[sT,By,BY,reduceIte,AJ,AH,t8,t7,c1];exact⟨_,rfl⟩
  obtain⟨e2,q1⟩:=hrun;rw[q1];refine⟨rfl,.inl ⟨e2,rfl,hr.2 ?_⟩⟩;rw[xL (by omega)];intro x hx;cases hx
theorem Xe{n:Nat}{h:Hp}{u:IN}{l:List Nat}(V:h.AEb u (l.map bv))(hl:l.length<=900000):∃ r:Bool,call AC (n+3) 85 [u,f112] h=.ok (.bool r) h/\(r=true↔∃ x∈l,x≠0):=by
 have Vl:=V.bl h;have pre:∃ e1,OE (call AC (n+1)) (AQ e0 0 [u,f112]) h=ifS (call AC (n+1)) e1 h/\J 0 e1=u/\J 1 e1=f112/\J 7 e1=AI AT (l.length:Int)/\J 8 e1=AI AT ((0:Nat):Int):=by
  unfold OE;simp only[iN,IS,sT,By,BY,reduceIte,AX,Vl];exact⟨_,rfl,by simp[AD]⟩
 obtain⟨e1,p1,p2,p3,p4,p5⟩:=pre;rcases gm (n:=n) V hl p2 p3 p4 p5 with ⟨e2,q1,q2⟩|⟨e2,i,q1,q2,q3⟩
 ·have k1:call AC (n+2) 109 [u,f112] h=.ok (AI AT (-1)) h:=by
   rw[Lr rfl,Lt,p1,Ph];simp only[BB,Ap,q1,Az,A8];unfold ifE;simp only[sT,By,BY,reduceIte,lV0]
  refine⟨false,?_,by simp;exact q2⟩;have c1:iGe (-1) 0=false:=FZ (by omega);rw[PQ rfl];unfold d85;simp only[iN,IS,sT,By,BY,reduceIte,cA0,k1,AJ,AH,c1,lV0]
 ·have k1:call AC (n+2) 109 [u,f112] h=.ok (AI AT (i:Int)) h:=by
   rw[Lr rfl,Lt,p1,Ph];simp only[BB,Ap,q1,Bz,CU,lV0,q2]
  refine⟨true,?_,by simp only[true_iff];exact q3⟩;have c1:iGe (i:Int) 0=true:=Hi (by omega);rw[PQ rfl];unfold d85;simp only[iN,IS,sT,By,BY,reduceIte,cA0,k1,AJ,AH,c1,lV0]
theorem Qw{h:Hp}{k m:Nat}{v:IN}{l:List Nat}(M:Mk h k v l)(hm:m<=l.length):∃ w,(∀ (F:AEB) (e:Env) (x y:O),x e=v->y e=AI AT (m:Int)->D5 5 1 x (some y) none none F e h=.ok w h)/\h.AEb w ((l.drop m).map bv):=by
 obtain⟨b,el,hv,hel,Rb,_⟩:=M;have hdl:(l.drop m).length=l.length - m:=xC;have key:∀ (F:AEB) (e:Env) (x y:O),x e=v->y e=AI AT (m:Int)->D5 5 1 x (some y) none none F e h=EL 5 1 (some ⟨b,0,none⟩) false m l.length l.length h:=fun F e x y hx hy=>by
  have hb:∀ K:Nat->R,Ck e (some y) 0 l.length K=K m:=fun K=>by
   show(match DE (y e)with|.ok n=>(bif vx n l.length then K n else .no)|.no=>.no)=_;rw[hy,C9];simp only;rw[Ac.2 hm];rfl
  show(match x e with|.slice a n c=>DR e n c (some y) none none (fun l hh m=>EL 5 1 a false l hh m h)|_=>.no)=_;rw[hx,hv];show Ck e none l.length l.length (fun hh=>Ck e (some y) 0 hh fun l'=>EL 5 1 (some ⟨b,0,none⟩) false l' hh l.length h)=_;show Ck e (some y) 0 l.length (fun l'=>EL 5 1 (some ⟨b,0,none⟩) false l' l.length l.length h)=_;rw[hb]
 have AIu:EL 5 1 (some ⟨b,0,none⟩) false m l.length l.length h=Bn (some ⟨b,0,none⟩) 1 m l.length l.length h:=by
  cases m with
  |zero=>rfl
  |succ m=>
   show(bif E0 5 (some ⟨b,0,none⟩) h then Bn (some ⟨b,0,none⟩) 1 (m+1) l.length l.length h else .no)=_;have:E0 5 (some ⟨b,0,none⟩) h=true:=by
    obtain⟨cc,hcc,_⟩:=Rb.rowOf;unfold E0;simp only[hcc];rcases hel with rfl|rfl<;>rfl
   rw[this];rfl
 rcases wN m l.length with hlt|hge
 ·refine⟨.slice (some ⟨b,m,none⟩) (l.length - m) (l.length - m),?_,.inr ⟨b,m,l.length - m,el,_,by rw[OF,hdl],Rb,by rw[OF,OF,hdl];omega,?_⟩⟩
  ·intro F e x y hx hy
   rw[key F e x y hx hy,AIu];unfold Bn;simp only[AZ];have e1:wB l.length m=false:=by
    cases e:wB l.length m
    ·rfl
    ·have:=Am.1 e;omega
   rw[e1];cases m with
   |zero=>rfl
   |succ m=>
    have e2:wY (m+1) 1=vo m:=yk _;simp only[e2,xZ,vk];rfl
  ·rw[OF,hdl,<- List.map_drop,yz (by rw[OF,hdl];exact IT _)]
 ·have hml:m=l.length:=by omega
  subst hml;refine⟨.slice (some ⟨b,0,none⟩) 0 0,?_,.inr ⟨b,0,0,el,_,by rw[AAq];rfl,Rb,by rw[AAq];exact wP _,by rw[AAq];rfl⟩⟩;intro F e x y hx hy;rw[key F e x y hx hy,AIu];unfold Bn;simp only[AZ,Nat.sub_eq,ADV,xu]
end
noncomputable section
open Go
set_option maxRecDepth 100000
theorem Us:paS=BI (AY 0 (Aw paB)) paE:=rfl
theorem Mh:d87=Qy:=rfl
theorem So(k:Nat)(l:List Nat)(p:Nat):rdN (k+1) l p=(match Fz 0 0 (l.drop p)with
 |none=>none
 |some (v,j)=>if v<=1099511627776 then(match rdN k l (p+j)with
  |none=>none
  |some (vs,q)=>some (v::vs,q))else none):=rfl
def Y1(h:Hp)(r4:Nat)(e:Env)(g:Hp):Prop:=h.Ext g/\J 4 e=pt r4/\J 5 e=AI AT 0/\J 6 e=.int .u32 0/\J 7 e=.bool false/\loadN 5 ⟨r4,0,none⟩ g=.ok (Bv 0 0 0 0 AEP) g
theorem jR{n:Nat}{h hB g:Hp}(W0:h.Wf)(xB:h.Ext hB)(x:hB.Ext g){r4 r10:Nat}(hr4:h.next<=r4)(AJw:hB.next<=r10)(R4:hB.Row r4 0 (A4 0 0 0 0 AEP)){v:IN}{l:List Nat}(V:hB.AEb v (l.map bv))(hb:∀ x∈l,x<256)(hl:l.length<=900000)
  (R10:g.Row r10 0 ([0,0,0,0,0,0].map nv)){e:Env}(s4:J 4 e=pt r4)(s8:J 8 e=v)(s10:J 10 e=pt r10)(s11:J 11 e=AI AT ((0:Nat):Int))(s29:J 29 e=AI AT ((0:Nat):Int)):
  (∃ e' g' ns q,Aw paB (call AC (n+1)) e g=.exit 0 e' g'/\hB.Ext g'/\g'.Row r10 0 (ns.map nv)/\rdN 6 l 0=some (ns,q)/\J 4 e'=pt r4/\J 8 e'=v/\J 10 e'=pt r10/\J 11 e'=AI AT (q:Int))\/
  (∃ e' g',Aw paB (call AC (n+1)) e g=.ret e' g'/\rdN 6 l 0=none/\Y1 h r4 e' g'):=by
 have WB:=xB.wf;refine BU (I:=fun i e' g'=>hB.Ext g'/\∃ (ns:List Nat) (Z:List IN) (p:Nat),ns.length=i/\Z.length=6 - i/\g'.Row r10 0 (ns.map nv++Z)/\J 4 e'=pt r4/\J 8 e'=v/\J 10 e'=pt r10/\J 11 e'=AI AT (p:Int)/\J 29 e'=AI AT (i:Int)/\p<=l.length/\i<=6/\
   rdN 6 l 0=(match rdN (6 - i) l p with|none=>none|some (vs,q)=>some (ns++vs,q)))
  (Q:=fun x=>(∃ e' g' ns q,x=.exit 0 e' g'/\hB.Ext g'/\g'.Row r10 0 (ns.map nv)/\rdN 6 l 0=some (ns,q)/\J 4 e'=pt r4/\J 8 e'=v/\J 10 e'=pt r10/\J 11 e'=AI AT (q:Int))\/
   (∃ e' g',x=.ret e' g'/\rdN 6 l 0=none/\Y1 h r4 e' g')) 6 (by omega) (fun i e' g' ⟨x',ns,Z,p,hns,hZ,R',t4,t8,t10,t11,t29,hp,hi,hr⟩=>?_)
  ⟨x,[],_,0,rfl,rfl,R10,s4,s8,s10,s11,s29,wP _,by omega,by
   rw[ACg];cases rdN 6 l 0 with
   |none=>rfl
   |some y=>rfl⟩
 by_cases hlt:i<6
 ·have W:=x'.wf
  obtain⟨k,hk⟩:∃ k,6 - i=k+1:=⟨5 - i,by omega⟩;obtain⟨z,Z',rfl⟩:∃ z Z',Z=z::Z':=by
   cases Z with
   |nil=>rw[wl]at hZ;omega
   |cons z Z'=>exact⟨z,Z',rfl⟩
  rw[hk,So k l p]at hr;have c1:iLt (i:Int) 6=true:=EF (b:=6) hlt;obtain⟨a,b,c,k1,AKy⟩:=po (n:=n) (V.ext WB x') hb hp (by omega);have i1:=RN (r:=r10) hlt (g:=g');have hal:(ns.map nv).length=i:=by rw[OF];exact hns
  have ho:i+[xY .u64 a].length<=(ns.map nv++z::Z').length:=by
   simp only[No,vw,wl,hal];omega
  have AEO:256<=r10:=by have:=WB.big;omega
  have st:=R'.AER (n:=1) (off:=i) W AEO (v:=.int .u64 a) rfl ho rfl;rw[Dl]at st;have wr:=R'.AET W (off:=i) (vs:=[.int .u64 a]) ho;have x2:=R'.AEi x' AJw (off:=i) (vs:=[.int .u64 a]) ho;have hov:over (ns.map nv++z::Z') i [.int .u64 a]=ns.map nv++.int .u64 a::Z':=by
   have:=SX (A:=ns.map nv) (B:=Z') (x:=z) (y:=.int .u64 a)
   rwa [hal]at this
  rw[hov]at wr;generalize g'.wr r10 i [.int .u64 a]=g2 at st wr x2;have i2:=RN (r:=r10) hlt (g:=g2);have l2:AEF ⟨r10,i,none⟩ g2=.ok (.int .u64 a) g2:=by
   rw[wr.AEF (off:=i) (by simp only[No,vw,hal];omega),vm,List.getElem?_append_right (by rw[hal];exact IT _),hal,ADV];rfl
  have a3:=CF (i:=i) (h:=g2) (by omega);obtain⟨w1,w2,w3,_,_⟩:=QH W0 (xB.trans x2) hr4 (R4.ext WB x2) rfl (a:=0) (b:=0) (c:=0) (s:=0) (u:=AEP) rfl;have fail:rdN 6 l 0=none->(iNe c 0=true\/iNe c 0=false/\iGt a 1099511627776=true)->∃ e2,paB (call AC (n+1)) e' g'=.ret e2 (g2.wr r4 0 (A4 0 0 0 0 AEP))/\J 4 e2=pt r4/\J 5 e2=AI AT 0/\J 6 e2=.int .u32 0/\J 7 e2=.bool false:=fun _ hc=>by
   unfold paB;rcases hc with c2|⟨c2,c3⟩
   ·simp only[sT,By,BY,reduceIte,gD,AJ,AH,t29,c1,cA0,t8,t11,k1,BK,BW,BZ,C3,DL,t10,i1,Ab,st,c2,EA,t4,w1]
    exact⟨_,rfl,by simp[AD,t4]⟩
   ·simp only[sT,By,BY,reduceIte,gD,AJ,AH,t29,c1,cA0,t8,t11,k1,BK,BW,BZ,C3,DL,t10,i1,Ab,st,c2,i2,AK,AO,l2,c3,EA,t4,w1]
    exact⟨_,rfl,by simp[AD,t4]⟩
  rcases AKy with ⟨vv,j,hu,rfl,rfl,rfl⟩|⟨hu,hc⟩
  ·rw[hu]at hr
   simp only at hr;have c2:iNe 0 0=false:=CY rfl;by_cases hv:vv<=1099511627776
   ·left
    rw[if_pos hv]at hr;have c3:iGt (vv:Int) 1099511627776=false:=Fa (by omega);have hbd:∀ x∈l.drop p,x<256:=fun x hx=>hb x (zY hx)
    have hj:=kY hbd hu;rw[xC]at hj;have hrun:∃ e2,paB (call AC (n+1)) e' g'=.norm e2 g2/\J 4 e2=pt r4/\J 8 e2=v/\J 10 e2=pt r10/\J 11 e2=AI AT ((p+j:Nat):Int)/\J 29 e2=AI AT ((i+1:Nat):Int):=by
     unfold paB;simp only[sT,By,BY,reduceIte,gD,AJ,AH,t29,c1,cA0,t8,t11,k1,BK,BW,BZ,C3,DL,t10,i1,Ab,st,c2,i2,AK,AO,l2,c3,BG,a3];exact⟨_,rfl,by simp[AD,t4,t8,t10]⟩
    obtain⟨e2,q1,q2,q3,q4,q5,q6⟩:=hrun;refine⟨hlt,e2,g2,q1,x2,ns++[vv],Z',p+j,by rw[No,hns];rfl,by rw[vw]at hZ;omega,?_,q2,q3,q4,q5,q6,by omega,by omega,?_⟩
    ·rw[wa,wG];exact wr
    ·rw[hr,show 6 - (i+1)=k by omega]
     cases rdN k l (p+j)with
     |none=>rfl
     |some y=>
      obtain⟨vs,q⟩:=y;show some (ns++vv::vs,q)=some (ns++[vv]++vs,q);rw[wG];rfl
   ·right
    rw[if_neg hv]at hr;have hr:rdN 6 l 0=none:=hr;obtain⟨e2,q1,q2,q3,q4,q5⟩:=fail hr (.inr ⟨c2,GV (by omega)⟩);rw[q1];exact⟨rfl,.inr ⟨e2,_,rfl,hr,w3,q2,q3,q4,q5,w2⟩⟩
  ·right
   rw[hu]at hr;have hr:rdN 6 l 0=none:=hr;obtain⟨e2,q1,q2,q3,q4,q5⟩:=fail hr (.inl (FH hc));rw[q1];exact⟨rfl,.inr ⟨e2,_,rfl,hr,w3,q2,q3,q4,q5,w2⟩⟩
 ·right
  have hi6:i=6:=by omega
  subst hi6;have c1:iLt ((6:Nat):Int) 6=false:=Cz (a:=6) (b:=6) (by omega);have hrun:∃ e2,paB (call AC (n+1)) e' g'=.exit 0 e2 g'/\J 4 e2=pt r4/\J 8 e2=v/\J 10 e2=pt r10/\J 11 e2=AI AT (p:Int):=by
   unfold paB;simp only[sT,By,BY,reduceIte,AJ,AH,t29,c1];exact⟨_,rfl,by simp[AD,t4,t8,t10,t11]⟩
  obtain⟨e2,q1,q2,q3,q4,q5⟩:=hrun;rw[q1];have hZ0:Z=[]:=wh hZ;rw[hZ0,wF]at R';have hr:rdN 6 l 0=some (ns++[],p):=hr;rw[wF]at hr;exact⟨rfl,.inl ⟨e2,g',ns,p,rfl,x',R',hr,q2,q3,q4,q5⟩⟩
theorem nO{F:AEB}{e:Env}{h:Hp}{x y z:O}{k:C}{a b c i j m:Nat}(hx:x e=.pointer (some ⟨a,i,none⟩))(hy:y e=.pointer (some ⟨b,j,none⟩))(hz:z e=.pointer (some ⟨c,m,none⟩))(h1:b≠a)(h2:c≠a):DI x [y,z] k F e h=k F e h:=by
 have n1:wB b a=false:=by
  cases e:wB b a
  ·rfl
  ·exact absurd (Am.1 e) h1
 have n2:wB c a=false:=by
  cases e:wB c a
  ·rfl
  ·exact absurd (Am.1 e) h2
 unfold DI;rw[hx];show(bif DZ a e [y,z]then k F e h else .no)=_;have:DZ a e [y,z]=true:=by
  unfold DZ;rw[hy];show(bif wB b a then false else DZ a e [z])=true;rw[n1];unfold DZ;rw[hz];show(bif wB c a then false else DZ a e [])=true;rw[n2];rfl
 rw[this];rfl
theorem iS{F:AEB}{e:Env}{h:Hp}(W:h.Wf){x y:O}{r:Nat}{L:List IN}{a b c:Int}{s:Nat}{u:IN}(hx:x e=pt r)(hy:y e=Bv a b c s u)(R:h.Row r 0 L)(hL:L.length=5)(AEO:256<=r)(hu:oneCell u=true):
  Nx x (Av 5 x y) F e h=.ok AEE (h.back (h.quiet.wr r 0 (A4 a b c s u))):=by
 have Rq:h.quiet.Row r 0 L:=R.same rfl;have ho:0+(A4 a b c s u).length<=L.length:=by rw[hL];show 0+5<=5;omega
 have h1:Bc (A4 a b c s u)=true:=by
  show(bif oneCell u then true else false)=true;rw[hu];rfl
 have st:=Rq.AER (n:=5) (off:=0) W.quiet AEO (v:=Bv a b c s u) rfl ho h1;have st:AER 5 (pt r) (Bv a b c s u) h.quiet=.ok AEE (h.quiet.wr r 0 (A4 a b c s u)):=st;obtain⟨cc,_,hw,_⟩:=Rq.AFT ho;have AIC:(h.quiet.wr r 0 (A4 a b c s u)).low=r:=by
  rw[hw];show B6 h.next r=r;have:=R.lt W;rw[BM];omega
 have AGr:(h.quiet.wr r 0 (A4 a b c s u)).high=r:=by
  rw[hw];show Cq 0 r=r;rw[B4];omega
 show(match Av 5 x y F e h.quiet with|.ok v h'=>bif Lg (AEn (x e)) h h'.low h'.high then EG h v h' else .no|.no=>.no)=_;rw[Ab,hx,hy,st];show(bif Lg (.ok r) h (h.quiet.wr r 0 (A4 a b c s u)).low (h.quiet.wr r 0 (A4 a b c s u)).high then EG h AEE (h.quiet.wr r 0 (A4 a b c s u))else .no)=_;rw[AIC,AGr];have:Lg (.ok r) h r r=true:=by
  show(bif vx r r then vx r r else false)=true;rw[Ac.2 (IT r)];rfl
 rw[this];show EG h AEE (h.quiet.wr r 0 (A4 a b c s u))=_;unfold EG;simp only[AZ];rfl
end
noncomputable section
open Go
set_option maxRecDepth 100000
def Ok4(h:Hp)(r4:Nat)(ns:List Nat)(e:Env)(g:Hp):Prop:=h.Ext g/\J 4 e=pt r4/\J 5 e=AI AT (at6 ns 4:Nat)/\J 6 e=.int .u32 (at6 ns 5:Nat)/\J 7 e=.bool true/\loadN 5 ⟨r4,0,none⟩ g=.ok (Bv (at6 ns 1) (at6 ns 2) (at6 ns 3) (at6 ns 0) AEP) g
theorem MD{h g:Hp}{r4:Nat}{e:Env}(D:Y1 h r4 e g):A5 [.cN (J 4) 5,.t (J 5),.t (J 6),.t (J 7)] (.ret e g)=.ok noT g:=by
 obtain⟨_,h4,h5,h6,h7,hl⟩:=D;rw[Bg,Ki (v:=Bv 0 0 0 0 AEP) (by rw[h4];exact hl),h5,h6,h7];rfl
theorem qo{h g:Hp}{r4:Nat}{ns:List Nat}{e:Env}(D:Ok4 h r4 ns e g):A5 [.cN (J 4) 5,.t (J 5),.t (J 6),.t (J 7)] (.ret e g)=.ok (okT ns) g:=by
 obtain⟨_,h4,h5,h6,h7,hl⟩:=D;rw[Bg,Ki (v:=Bv (at6 ns 1) (at6 ns 2) (at6 ns 3) (at6 ns 0) AEP) (by rw[h4];exact hl),h5,h6,h7];rfl
theorem uk{n:Nat}{h hB g:Hp}(W0:h.Wf)(xB:h.Ext hB)(x:hB.Ext g){r4 r10 k q:Nat}(hr4:h.next<=r4)(AHL:r10≠r4)(R4:hB.Row r4 0 (A4 0 0 0 0 AEP)){v:IN}{l ns:List Nat}(M:Mk hB k v l)(hl:l.length<=900000)(hq:q<=l.length)
  (R10:g.Row r10 0 (ns.map nv))(h6:ns.length=6)(hns:∀ v∈ns,v<=1099511627776){e:Env}(s4:J 4 e=pt r4)(s8:J 8 e=v)(s10:J 10 e=pt r10)(s11:J 11 e=AI AT (q:Int)):
  (P8 ns/\(∀ x∈l.drop q,x=0)/\∃ e2 g2,paE (call AC (n+3)) e g=.ret e2 g2/\Ok4 h r4 ns e2 g2)\/(¬ (P8 ns/\∀ x∈l.drop q,x=0)/\∃ e2 g2,paE (call AC (n+3)) e g=.ret e2 g2/\Y1 h r4 e2 g2):=by
 have W:=x.wf;have WB:=xB.wf;have hat:∀ i,at6 ns i<=1099511627776:=fun i=>by
  unfold at6;rw[vm];cases h:ns[i]? with
  |none=>exact wP _
  |some y=>exact hns y (List.mem_of_getElem? h)
 have i0:∀ g:Hp,Nv 6 1 (pt r10) (AI AT 0) g=.ok (.pointer (some ⟨r10,0,none⟩)) g:=fun g=>RN (k:=0) (by omega)
 have i1:∀ g:Hp,Nv 6 1 (pt r10) (AI AT 1) g=.ok (.pointer (some ⟨r10,1,none⟩)) g:=fun g=>RN (k:=1) (by omega)
 have i2:∀ g:Hp,Nv 6 1 (pt r10) (AI AT 2) g=.ok (.pointer (some ⟨r10,2,none⟩)) g:=fun g=>RN (k:=2) (by omega)
 have i3:∀ g:Hp,Nv 6 1 (pt r10) (AI AT 3) g=.ok (.pointer (some ⟨r10,3,none⟩)) g:=fun g=>RN (k:=3) (by omega)
 have i4:∀ g:Hp,Nv 6 1 (pt r10) (AI AT 4) g=.ok (.pointer (some ⟨r10,4,none⟩)) g:=fun g=>RN (k:=4) (by omega)
 have i5:∀ g:Hp,Nv 6 1 (pt r10) (AI AT 5) g=.ok (.pointer (some ⟨r10,5,none⟩)) g:=fun g=>RN (k:=5) (by omega)
 have l0:=Ry R10 h6 (k:=0) (by omega);have l1:=Ry R10 h6 (k:=1) (by omega);have l2:=Ry R10 h6 (k:=2) (by omega);have l3:=Ry R10 h6 (k:=3) (by omega);have a0:=hat 0;have a1:=hat 1;have a2:=hat 2;have a3:=hat 3;have a4:=hat 4;have a5:=hat 5;have hcast:min ((at6 ns 0:Nat):Int) 9=((min (at6 ns 0) 9:Nat):Int):=by omega
 have mn:∀ (F:AEB) (e:Env),J 52 e=.int .u64 ((at6 ns 0:Nat):Int)->YU (J 52) (kV (.int .u64 9)) F e g=.ok (.int .u64 ((min (at6 ns 0) 9:Nat):Int)) g:=fun F e he=>by rw[qd he rfl,hcast]
 have v0:DS .u8 (.int .u64 ((min (at6 ns 0) 9:Nat):Int)) g=.ok (.int .u8 ((min (at6 ns 0) 9:Nat):Int)) g:=by rw[Cd,Ii,zc (by omega)]
 have cv:∀ (i:Nat) (g:Hp),DS .i64 (.int .u64 ((at6 ns i:Nat):Int)) g=.ok (AI AT ((at6 ns i:Nat):Int)) g:=fun i g=>by rw[Cd,Bb (by have:=hat i;omega)]
 have bd:∀ (F:AEB) (e:Env),J 54 e=.int .u8 ((min (at6 ns 0) 9:Nat):Int)->J 57 e=AI AT ((at6 ns 1:Nat):Int)->J 60 e=AI AT ((at6 ns 2:Nat):Int)->J 63 e=AI AT ((at6 ns 3:Nat):Int)->
   B5 Il.zero [(3,1,J 54),(0,1,J 57),(1,1,J 60),(2,1,J 63)] F e g=.ok (Bv (at6 ns 1) (at6 ns 2) (at6 ns 3) (min (at6 ns 0) 9) AEP) g:=fun F e h1 h2 h3 h4=>fD h1 h2 h3 h4
 have f1:=fun (F:AEB) (e:Env)=>Bx (F:=F) (e:=e) (n:=5) (t:=Dz) W
 have x1:=(Hp.Ext.refl W).push (.cells Dz 5 0);have R13:(g.push (.cells Dz 5 0)).Row g.next 0 (A4 0 0 0 0 AEP):=Hp.Row.alloc W Ij rfl;generalize g.push (.cells Dz 5 0)=g1 at f1 x1 R13;obtain⟨st,ld,x2,AIv,_⟩:=QH W x1 (IT _) R13 rfl (a:=at6 ns 1) (b:=at6 ns 2) (c:=at6 ns 3) (s:=min (at6 ns 0) 9) (u:=AEP) rfl;generalize g1.wr g.next 0 (A4 (at6 ns 1) (at6 ns 2) (at6 ns 3) (min (at6 ns 0) 9) AEP)=g2 at st ld x2 AIv;have k24:=Jz (n:=n+2) x2.wf (a:=at6 ns 1) (b:=at6 ns 2) (c:=at6 ns 3) (s:=min (at6 ns 0) 9) (m:=0) (u:=AEP) (fun _=>rfl);have y3:=(Hp.Ext.refl x2.wf).AEA 0 (A4 (at6 ns 1) (at6 ns 2) (at6 ns 3) (min (at6 ns 0) 9) AEP);generalize g2.AEA 0 (A4 (at6 ns 1) (at6 ns 2) (at6 ns 3) (min (at6 ns 0) 9) AEP)=g3 at k24 y3;have x3:=x2.trans y3;have xB3:=x.trans x3;have xh3:=xB.trans xB3;obtain⟨w1,w2,w3,_,_⟩:=QH W0 xh3 hr4 (R4.ext WB xB3) rfl (a:=0) (b:=0) (c:=0) (s:=0) (u:=AEP) rfl;have AHM:=R10.ext W x3;have l4:=Ry AHM h6 (k:=4) (by omega);have l5:=Ry AHM h6 (k:=5) (by omega);have nok:¬ (P8 ns/\∀ x∈l.drop q,x=0)->(∃ e2,paE (call AC (n+3)) e g=.ret e2 (g3.wr r4 0 (A4 0 0 0 0 AEP))/\J 4 e2=pt r4/\J 5 e2=AI AT 0/\J 6 e2=.int .u32 0/\J 7 e2=.bool false)->
   (P8 ns/\(∀ x∈l.drop q,x=0)/\∃ e2 g2,paE (call AC (n+3)) e g=.ret e2 g2/\Ok4 h r4 ns e2 g2)\/(¬ (P8 ns/\∀ x∈l.drop q,x=0)/\∃ e2 g2,paE (call AC (n+3)) e g=.ret e2 g2/\Y1 h r4 e2 g2):=fun hn ⟨e2,q1,q2,q3,q4,q5⟩=>.inr ⟨hn,e2,_,q1,w3,q2,q3,q4,q5,w2⟩
 cases hr:AEN (at6 ns 1) (at6 ns 2) (at6 ns 3) (min (at6 ns 0) 9) 0 with
 |false=>
  rw[hr]at k24;refine nok (fun hh=>by rw[hh.1.1]at hr;cases hr) ?_;unfold paE;simp only[sT,By,BY,reduceIte,gD,DL,s10,i0,i1,i2,i3,AK,AO,l0,l1,l2,l3,mn,CH,v0,cv,bd,f1,Ab,st,Aq,As,ld,cA0,k24,Bi,Bh,yA,EA,s4,w1];exact⟨_,rfl,by simp[AD,s4]⟩
 |true=>
  rw[hr]at k24;by_cases h4:at6 ns 4<=65536
  ·have c4:iGt ((at6 ns 4:Nat):Int) 65536=false:=Fa (by omega)
   by_cases h5:at6 ns 5<=4294967295
   ·have c5:iGt ((at6 ns 5:Nat):Int) 4294967295=false:=Fa (by omega)
    have M3:=M.ext WB xB3;obtain⟨w,ct,Vw⟩:=Qw M3 hq;obtain⟨rb,kb,hrb⟩:=Xe (n:=n) Vw (by rw[xC];omega);have kb:call AC (n+3) 85 [w,.func (.func 112) #[] #[]] g3=.ok (.bool rb) g3:=kb;cases rb with
    |true=>
     obtain⟨y,hy1,hy2⟩:=hrb.1 rfl;refine nok (fun hh=>hy2 (hh.2 y hy1)) ?_;unfold paE;simp only[sT,By,BY,reduceIte,gD,DL,s10,i0,i1,i2,i3,i4,i5,AK,AO,l0,l1,l2,l3,l4,l5,mn,CH,v0,cv,bd,f1,Ab,st,Aq,As,ld,cA0,k24,Bi,Bh,xJ,AJ,AH,c4,c5,s8,s11,ct,kb,EA,s4,w1];exact⟨_,rfl,by simp[AD,s4]⟩
    |false=>
     have hz:∀ x∈l.drop q,x=0:=fun y hy=>by
      rcases wg y with h0|h0
      ·exact h0
      ·have:=hrb.2 ⟨y,hy,by omega⟩;cases this
     have hok:P8 ns:=⟨hr,h4,h5⟩;have hmin:min (at6 ns 0) 9=at6 ns 0:=zo (wd (jI.1 hok).1 (by decide));left;refine⟨hok,hz,?_⟩;have xm:=x3.marked;have AIw:g3.marked.Row r10 0 (ns.map nv):=AHM.same rfl;have m4:=Ry AIw h6 (k:=4) (by omega);have m5:=Ry AIw h6 (k:=5) (by omega);have AJx:g3.marked.Row g.next 0 (A4 (at6 ns 1) (at6 ns 2) (at6 ns 3) (min (at6 ns 0) 9) AEP):=(AIv.ext x2.wf y3).same rfl;have mld:=(CC AJx).2.2.2.2.2;have v5:DS .u32 (.int .u64 ((at6 ns 5:Nat):Int)) g3.marked=.ok (.int .u32 ((at6 ns 5:Nat):Int)) g3.marked:=by rw[Cd,TV h5]
     have ck:∀ (k:C) (F:AEB) (e:Env),J 4 e=pt r4->J 87 e=.pointer (some ⟨r10,4,none⟩)->J 90 e=.pointer (some ⟨r10,5,none⟩)->DI (J 4) [J 87,J 90] k F e g3.marked=k F e g3.marked:=fun k F e e1 e2 e3=>nO e1 e2 e3 AHL AHL
     have AEO:256<=r4:=by have:=W0.big;omega
     have R4m:g3.marked.Row r4 0 (A4 0 0 0 0 AEP):=(R4.ext WB xB3).same rfl;have ta:∀ (F:AEB) (e:Env),J 4 e=pt r4->J 86 e=Bv (at6 ns 1) (at6 ns 2) (at6 ns 3) (min (at6 ns 0) 9) AEP->Nx (J 4) (Av 5 (J 4) (J 86)) F e g3.marked=.ok AEE (g3.marked.back (g3.marked.quiet.wr r4 0 (A4 (at6 ns 1) (at6 ns 2) (at6 ns 3) (min (at6 ns 0) 9) AEP))):=fun F e e1 e2=>iS xm.wf e1 e2 R4m rfl AEO rfl
     have xhm:=xh3.marked;obtain⟨_,z2,z3,z4,_⟩:=QH W0 xhm.quiet hr4 (R4m.same (h':=g3.marked.quiet) rfl) rfl (a:=at6 ns 1) (b:=at6 ns 2) (c:=at6 ns 3) (s:=min (at6 ns 0) 9) (u:=AEP) rfl;have xf:h.Ext (g3.marked.back (g3.marked.quiet.wr r4 0 (A4 (at6 ns 1) (at6 ns 2) (at6 ns 3) (min (at6 ns 0) 9) AEP))):=Hp.Ext.AFK xhm z3;have Rf:(g3.marked.back (g3.marked.quiet.wr r4 0 (A4 (at6 ns 1) (at6 ns 2) (at6 ns 3) (min (at6 ns 0) 9) AEP))).Row r4 0 (A4 (at6 ns 1) (at6 ns 2) (at6 ns 3) (min (at6 ns 0) 9) AEP):=z4.same rfl;generalize g3.marked.back (g3.marked.quiet.wr r4 0 (A4 (at6 ns 1) (at6 ns 2) (at6 ns 3) (min (at6 ns 0) 9) AEP))=g4 at ta xf Rf;have ldf:=(CC Rf).2.2.2.2.2;rw[hmin]at ldf;have hrun:∃ e2,paE (call AC (n+3)) e g=.ret e2 g4/\J 4 e2=pt r4/\J 5 e2=AI AT (at6 ns 4:Nat)/\J 6 e2=.int .u32 (at6 ns 5:Nat)/\J 7 e2=.bool true:=by
      unfold paE;simp only[sT,By,BY,reduceIte,gD,DL,s10,i0,i1,i2,i3,i4,i5,AK,AO,l0,l1,l2,l3,l4,l5,mn,CH,v0,cv,bd,f1,Ab,st,Aq,As,ld,cA0,k24,Bi,Bh,xJ,AJ,AH,c4,c5,s8,s11,ct,kb,A3,mld,m4,m5,v5,s4,ck,ta];exact⟨_,rfl,by simp[AD,s4]⟩
     obtain⟨e2,q1,q2,q3,q4,q5⟩:=hrun;exact⟨e2,g4,q1,xf,q2,q3,q4,q5,ldf⟩
   ·have c5:iGt ((at6 ns 5:Nat):Int) 4294967295=true:=GV (by omega)
    refine nok (fun hh=>h5 hh.1.2.2) ?_;unfold paE;simp only[sT,By,BY,reduceIte,gD,DL,s10,i0,i1,i2,i3,i4,i5,AK,AO,l0,l1,l2,l3,l4,l5,mn,CH,v0,cv,bd,f1,Ab,st,Aq,As,ld,cA0,k24,Bi,Bh,xJ,AJ,AH,c4,c5,EA,s4,w1];exact⟨_,rfl,by simp[AD,s4]⟩
  ·have c4:iGt ((at6 ns 4:Nat):Int) 65536=true:=GV (by omega)
   refine nok (fun hh=>h4 hh.1.2.1) ?_;unfold paE;simp only[sT,By,BY,reduceIte,gD,DL,s10,i0,i1,i2,i3,i4,i5,AK,AO,l0,l1,l2,l3,l4,mn,CH,v0,cv,bd,f1,Ab,st,Aq,As,ld,cA0,k24,Bi,Bh,xJ,AJ,AH,c4,EA,s4,w1];exact⟨_,rfl,by simp[AD,s4]⟩
theorem cq{n:Nat}{h:Hp}(W:h.Wf){tb:Nat}{T:List Nat}(R:h.Row tb 0 (T.map wv))(hT:AE1 T){u:IN}{l:List Nat}(V:h.AEb u (l.map bv))(hC:Yv u)(hb:∀ x∈l,x<256)(hl:l.length<=900000):
  ∃ h',h.Ext h'/\((∃ ns,Ld T l ns/\call AC (n+4) 87 [pt tb,u] h=.ok (okT ns) h')\/((¬ ∃ ns,Ld T l ns)/\call AC (n+4) 87 [pt tb,u] h=.ok noT h')):=by
 have f1:=fun (F:AEB) (e:Env)=>Bx (F:=F) (e:=e) (n:=5) (t:=Dz) W
 have x1:=(Hp.Ext.refl W).push (.cells Dz 5 0);have R4:(h.push (.cells Dz 5 0)).Row h.next 0 (A4 0 0 0 0 AEP):=Hp.Row.alloc W Ij rfl;have nA:(h.push (.cells Dz 5 0)).next=h.next+1:=rfl;generalize h.push (.cells Dz 5 0)=hA at f1 x1 R4 nA;obtain⟨hB,yB,AKz⟩:=Yu (n:=n) x1.wf (R.ext W x1) hT (V.ext W x1) hC hb hl;have xB:=x1.trans yB;have R4B:=R4.ext x1.wf yB;obtain⟨w1,w2,w3,_,_⟩:=QH W xB (IT _) R4B rfl (a:=0) (b:=0) (c:=0) (s:=0) (u:=AEP) rfl;rcases AKz with ⟨body,v,hu,k1,M⟩|⟨hu,c,hc,k1⟩
 ·have c2:iNe 0 0=false:=CY rfl
  have Vl:=M.vals.bl hB;by_cases h60:body.length=60
  ·have c3:iNe (body.length:Int) 60=false:=CY (by omega)
   have f2:=fun (F:AEB) (e:Env)=>Bx (F:=F) (e:=e) (n:=6) (t:=PF) xB.wf
   have y2:=(Hp.Ext.refl xB.wf).push (.cells PF 6 0);have R10:(hB.push (.cells PF 6 0)).Row hB.next 0 ([0,0,0,0,0,0].map nv):=Hp.Row.alloc xB.wf eS rfl;generalize hB.push (.cells PF 6 0)=hC' at f2 y2 R10;have pre:∃ e1,Qy (call AC (n+3)) (AQ e0 0 [pt tb,u]) h=paS (call AC (n+3)) e1 hC'/\J 4 e1=pt h.next/\J 8 e1=v/\J 10 e1=pt hB.next/\J 11 e1=AI AT ((0:Nat):Int)/\J 29 e1=AI AT ((0:Nat):Int):=by
    unfold Qy;simp only[iN,IS,sT,By,BY,reduceIte,gD,f1,cA0,k1,BK,BW,BZ,AJ,AH,c2,AX,Vl,c3,f2];exact⟨_,rfl,by simp[AD]⟩
   obtain⟨e1,p1,p2,p3,p4,p5,p6⟩:=pre;obtain⟨hsl,hbt⟩:=KC hu;have hbb:∀ x∈body,x<256:=fun x hx=>hb x (by rw[hbt]at hx;exact xK hx)
   rcases jR (n:=n+2) W xB y2 (IT h.next) (IT _) R4B M.vals hbb (by omega) R10 p2 p3 p4 p5 p6 with ⟨e2,g,ns,q,q1,x2,AHM,hrd,t4,t8,t10,t11⟩|⟨e2,g,q1,hrd,D⟩
   ·obtain⟨g1,g2,g3,g4,g5⟩:=MB 6 body 0 ns q hbb (wP _) hrd
    have hn2:hB.next≠h.next:=by have:=yB.next;omega
    rcases uk (n:=n) W xB x2 (IT _) hn2 R4B M (by omega) g4 AHM g1 g5 t4 t8 t10 t11 with ⟨ho,hz,e3,g',r1,D⟩|⟨hno,e3,g',r1,D⟩
    ·refine⟨g',D.1,.inl ⟨ns,⟨body,q,hu,h60,hrd,ho,hz⟩,?_⟩⟩
     rw[MZ rfl,Mh,p1,Us];simp only[BB,Ap,q1,Az,A8,r1];exact qo D
    ·refine⟨g',D.1,.inr ⟨?_,?_⟩⟩
     ·rintro⟨ms,body',q',j1,j2,j3,j4,j5⟩
      rw[hu]at j1;cases j1;rw[hrd]at j3;cases j3;exact hno ⟨j4,j5⟩
     ·rw[MZ rfl,Mh,p1,Us]
      simp only[BB,Ap,q1,Az,A8,r1];exact MD D
   ·refine⟨g,D.1,.inr ⟨?_,?_⟩⟩
    ·rintro⟨ms,body',q',j1,j2,j3,j4,j5⟩
     rw[hu]at j1;cases j1;rw[hrd]at j3;cases j3
    ·rw[MZ rfl,Mh,p1,Us]
     simp only[BB,Ap,q1,Bz,CU];exact MD D
  ·have c3:iNe (body.length:Int) 60=true:=FH (by omega)
   have hrun:∃ e2,Qy (call AC (n+3)) (AQ e0 0 [pt tb,u]) h=.ret e2 (hB.wr h.next 0 (A4 0 0 0 0 AEP))/\J 4 e2=pt h.next/\J 5 e2=AI AT 0/\J 6 e2=.int .u32 0/\J 7 e2=.bool false:=by
    unfold Qy;simp only[iN,IS,sT,By,BY,reduceIte,gD,f1,cA0,k1,BK,BW,BZ,AJ,AH,c2,AX,Vl,c3,EA,Ab,w1];exact⟨_,rfl,by simp[AD]⟩
   obtain⟨e2,q1,q2,q3,q4,q5⟩:=hrun;refine⟨_,w3,.inr ⟨?_,?_⟩⟩
   ·rintro⟨ms,body',q',j1,j2,_⟩
    rw[hu]at j1;cases j1;exact h60 j2
   ·rw[MZ rfl,Mh,q1]
    exact MD (h:=h) ⟨w3,q2,q3,q4,q5,w2⟩
 ·have c2:iNe c 0=true:=FH hc
  have hrun:∃ e2,Qy (call AC (n+3)) (AQ e0 0 [pt tb,u]) h=.ret e2 (hB.wr h.next 0 (A4 0 0 0 0 AEP))/\J 4 e2=pt h.next/\J 5 e2=AI AT 0/\J 6 e2=.int .u32 0/\J 7 e2=.bool false:=by
   unfold Qy;simp only[iN,IS,sT,By,BY,reduceIte,gD,f1,cA0,k1,BK,BW,BZ,AJ,AH,c2,EA,Ab,w1];exact⟨_,rfl,by simp[AD]⟩
  obtain⟨e2,q1,q2,q3,q4,q5⟩:=hrun;refine⟨_,w3,.inr ⟨?_,?_⟩⟩
  ·rintro⟨ms,body',q',j1,_⟩
   rw[hu]at j1;cases j1
  ·rw[MZ rfl,Mh,q1]
   exact MD (h:=h) ⟨w3,q2,q3,q4,q5,w2⟩
end
noncomputable section
open Go
set_option maxRecDepth 100000
structure Fx (S:Nat->Prop)(h h':Hp):Prop where
 next:h.next<=h'.next
 get:∀ i,i<h.next->¬ S i->h'.bl.get i=h.bl.get i
 wf:h'.Wf
 low:∀ L,L<=h.low->L<=h.next->(∀ b,S b->L<=b)->L<=h'.low
theorem ZB{h g:Hp}:(h.back g).low=min h.low g.low:=BM _ _
section
variable {S T:Nat->Prop}{h h' h1 h2:Hp}
theorem Fx.refl(W:h.Wf):Fx S h h:=⟨IT _,fun _ _ _=>rfl,W,fun _ h1 _ _=>h1⟩
theorem Fx.of(x:h.Ext h'):Fx S h h':=⟨x.next,fun i hi _=>x.get i hi,x.wf,fun L h1 h2 _=>by have:=x.low;omega⟩
theorem Fx.trans(a:Fx S h h1)(b:Fx S h1 h2):Fx S h h2:=⟨wd a.next b.next,fun i hi hs=>by rw[b.get i (Nat.lt_of_lt_of_le hi a.next) hs,a.get i hi hs],b.wf,fun L h1 h2 h3=>b.low L (a.low L h1 h2 h3) (wd h2 a.next) h3⟩
theorem Fx.mono(a:Fx S h h')(hs:∀ i,S i->T i):Fx T h h':=⟨a.next,fun i hi ht=>a.get i hi fun s=>ht (hs i s),a.wf,fun L h1 h2 h3=>a.low L h1 h2 fun b hb=>h3 b (hs b hb)⟩
theorem jw(W:h.Wf)(hb:h'.bl=h.bl)(hn:h'.next=h.next):h'.Wf:=⟨by rw[hn];exact W.big,by rw[hn,hb];exact W.has,by rw[hn,hb];exact W.fresh⟩
theorem Fx.same(a:Fx S h h1)(hb:h2.bl=h1.bl)(hn:h2.next=h1.next)(hl:min h.low h1.low<=h2.low:=by first|exact Nat.le_of_eq ZB.symm|exact Nat.min_le_right _ _):Fx S h h2:=⟨by rw[hn];exact a.next,fun i hi hs=>by rw[hb];exact a.get i hi hs,jw a.wf hb hn,fun L q1 q2 q3=>by have:=a.low L q1 q2 q3;omega⟩
theorem Fx.from(a:Fx S h1 h')(hb:h1.bl=h.bl)(hn:h1.next=h.next)(hl:min h.low h.next<=h1.low:=by first|exact Nat.min_le_left _ _|exact Nat.min_le_right _ _):Fx S h h':=⟨by rw[<- hn];exact a.next,fun i hi hs=>by rw[<- hb];exact a.get i (by rw[hn];exact hi) hs,a.wf,fun L q1 q2 q3=>a.low L (by omega) (by omega) q3⟩
theorem Fx.row(x:Fx S h h')(W:h.Wf){b el:Nat}{l:List IN}(r:h.Row b el l)(hb:¬ S b):h'.Row b el l:=by
 have:=r.lt W;obtain⟨c,hc,hl⟩:=r;exact⟨c,(x.get b this hb).trans hc,hl⟩
theorem Fx.put(W:h.Wf){b:Nat}(hb:b<h.next)(hs:S b)(o:Blk):Fx S h (h.put b o):=⟨IT _,fun i hi hn=>by
 rw[W.AEk hb];exact if_neg fun e=>hn (by rw[e];exact hs),W.put hb o,fun L h1 _ h3=>by
 have:=h3 b hs;have e:(h.put b o).low=min h.low b:=BM _ _;omega⟩
theorem Fx.wr(W:h.Wf){b el off:Nat}{l vs:List IN}(r:h.Row b el l)(ho:off+vs.length<=l.length)(hs:S b):Fx S h (h.wr b off vs):=by
 obtain⟨c,_,e,_⟩:=r.AFT ho;rw[e];exact Fx.put W (r.lt W) hs _
theorem rW{b el off bc:Nat}{l vs:List IN}{es:List Ent}{k:Nat}(W:h.Wf)(r:h.Row b el l)(ho:off+vs.length<=l.length)(m:h.bl.get bc=.map es k):(h.wr b off vs).bl.get bc=.map es k:=by
 obtain⟨c,_,e,_⟩:=r.AFT ho;rw[e,W.AEk (r.lt W),if_neg]
 ·exact m
 ·rintro rfl
  obtain⟨c,hc,_⟩:=r;rw[m]at hc;cases hc
end
def Hp.VS(h:Hp)(S:Nat->Prop)(v:IN)(xs:List IN):Prop:=(v=AEP/\xs=[])\/∃ b off c el L,v=.slice (some ⟨b,off,none⟩) xs.length c/\xs.length<=c/\h.Row b el L/\off+xs.length<=L.length/\(L.drop off).take xs.length=xs/\S b
section
variable {h h':Hp}{S S':Nat->Prop}{v:IN}{xs:List IN}
theorem Hp.VS.vals(o:h.VS S v xs):h.AEb v xs:=by
 rcases o with h1|⟨b,off,c,el,L,h1,h2,h3,h4,h5,_⟩
 ·exact .inl h1
 ·exact .inr ⟨b,off,c,el,L,h1,h3,h4,h5⟩
theorem Hp.VS.keep(o:h.VS S v xs)(hk:∀ b el L,S b->h.Row b el L->h'.Row b el L):h'.VS S v xs:=by
 rcases o with h1|⟨b,off,c,el,L,h1,h2,h3,h4,h5,h6⟩
 ·exact .inl h1
 ·exact .inr ⟨b,off,c,el,L,h1,h2,hk _ _ _ h6 h3,h4,h5,h6⟩
theorem Hp.VS.same(o:h.VS S v xs)(hb:h'.bl=h.bl):h'.VS S v xs:=o.keep fun _ _ _ _ r=>r.same hb
theorem Hp.VS.mono(o:h.VS S v xs)(hs:∀ b,S b->S' b):h.VS S' v xs:=by
 rcases o with h1|⟨b,off,c,el,L,h1,h2,h3,h4,h5,h6⟩
 ·exact .inl h1
 ·exact .inr ⟨b,off,c,el,L,h1,h2,h3,h4,h5,hs _ h6⟩
theorem Hp.VS.one(o:h.VS S v xs):cellsOf v=[v]/\oneCell v=true/\known v=true:=by
 rcases o with ⟨rfl,_⟩|⟨b,off,c,el,L,rfl,_⟩<;>exact⟨rfl,rfl,rfl⟩
theorem Hp.VS.fx(o:h.VS S v xs)(W:h.Wf){T:Nat->Prop}(x:Fx T h h')(hs:∀ b,S b->¬ T b):h'.VS S v xs:=o.keep fun b _ _ hb r=>x.row W r (hs b hb)
theorem QA{l:List IN}(h:∀ x∈l,oneCell x=true):Bc l=true:=by
 induction l with
 |nil=>rfl
 |cons a l ih=>
  show(bif oneCell a then Bc l else false)=true;rw[h a List.mem_cons_self,ih fun x hx=>h x (List.mem_cons_of_mem _ hx)];rfl
end
def Hp.BS(h:Hp)(S:Nat->Prop)(v:IN)(xs:List IN):Prop:=(v=AEP/\xs=[])\/∃ b off c el L,v=.slice (some ⟨b,off,none⟩) xs.length c/\xs.length<=c/\h.Row b el L/\off+xs.length<=L.length/\(L.drop off).take xs.length=xs/\S b/\(el=0\/el=6)
section
variable {h h':Hp}{S S':Nat->Prop}{v:IN}{xs:List IN}
theorem Hp.BS.vs(o:h.BS S v xs):h.VS S v xs:=by
 rcases o with h1|⟨b,off,c,el,L,h1,h2,h3,h4,h5,h6,_⟩
 ·exact .inl h1
 ·exact .inr ⟨b,off,c,el,L,h1,h2,h3,h4,h5,h6⟩
theorem Hp.BS.keep(o:h.BS S v xs)(hk:∀ b el L,S b->(el=0\/el=6)->h.Row b el L->h'.Row b el L):h'.BS S v xs:=by
 rcases o with h1|⟨b,off,c,el,L,h1,h2,h3,h4,h5,h6,h7⟩
 ·exact .inl h1
 ·exact .inr ⟨b,off,c,el,L,h1,h2,hk _ _ _ h6 h7 h3,h4,h5,h6,h7⟩
theorem Hp.BS.ext(o:h.BS S v xs)(W:h.Wf)(x:h.Ext h'):h'.BS S v xs:=o.keep fun _ _ _ _ _ r=>r.ext W x
theorem Hp.BS.same(o:h.BS S v xs)(hb:h'.bl=h.bl):h'.BS S v xs:=o.keep fun _ _ _ _ _ r=>r.same hb
theorem Hp.BS.mono(o:h.BS S v xs)(hs:∀ b,S b->S' b):h.BS S' v xs:=by
 rcases o with h1|⟨b,off,c,el,L,h1,h2,h3,h4,h5,h6,h7⟩
 ·exact .inl h1
 ·exact .inr ⟨b,off,c,el,L,h1,h2,h3,h4,h5,hs _ h6,h7⟩
end
def DD(l:List Nat):IN:=.agg ⟨l.map bv⟩
def AEL:Nat->List (Nat×List Nat)->List Ent
 |_,[]=>[]
 |i,x::r=>⟨AI AT (x.1:Int),DD x.2,i⟩::AEL (i+1) r
def sec(M:List Nat)(i:Nat):List Nat:=(M.drop (64*i)).take 64
theorem J3{M:List Nat}{n i:Nat}(hM:M.length=64*n)(hi:i<n):(sec M i).length=64:=by
 unfold sec;rw[wT,xC];omega
theorem rF{M:List Nat}(hb:∀ x∈M,x<256)(i:Nat):∀ x∈sec M i,x<256:=fun x hx=>hb x (zY (xK hx))
def dkL(bm bc n:Nat)(arm:Int)(dn:Bool):List IN:=[.slice (some ⟨bm,0,none⟩) n n,.map (some bc),AI AT arm,.bool dn]
structure Dk (h:Hp)(bd bm bc n:Nat)(M:List Nat)(c0:Nat)(cs:List (Nat×List Nat))(arm:Int)(dn:Bool):Prop where
 disk:h.Row bd 0 (dkL bm bc n arm dn)
 med:h.Row bm 0 (M.map bv)
 len:M.length=64*n
 byt:∀ x∈M,x<256
 map:h.bl.get bc=.map (AEL c0 cs) (c0+cs.length)
 big:256<=bd/\256<=bm/\256<=bc
 n1:1<=n/\n<=65536
section
variable {F:AEB}{e:Env}{h h':Hp}{S:Nat->Prop}{bd bm bc n c0:Nat}{M:List Nat}{cs:List (Nat×List Nat)}{arm:Int}{dn:Bool}
theorem hU{h:Hp}{b b' el el':Nat}{L L':List IN}(r:h.Row b el L)(r':h.Row b' el' L')(he:L.length≠L'.length):b≠b':=fun hb=>by
 subst hb;obtain⟨_,e1,_⟩:=r;obtain⟨_,e2,_⟩:=r';rw[e1]at e2;injection e2 with _ e3 _
 exact he e3
theorem Dk.bdm(d:Dk h bd bm bc n M c0 cs arm dn):bd≠bm:=hU d.disk d.med (by
 rw[OF,d.len];show 4≠_;have:=d.n1;omega)
theorem G6{h:Hp}{b bc el k:Nat}{L:List IN}{es:List Ent}(r:h.Row b el L)(m:h.bl.get bc=.map es k):b≠bc:=fun hb=>by
 subst hb;obtain⟨_,e1,_⟩:=r;rw[e1]at m;cases m
theorem Dk.bdc(d:Dk h bd bm bc n M c0 cs arm dn):bd≠bc:=G6 d.disk d.map
theorem Dk.bmc(d:Dk h bd bm bc n M c0 cs arm dn):bm≠bc:=G6 d.med d.map
theorem Dk.lt(d:Dk h bd bm bc n M c0 cs arm dn)(W:h.Wf):bd<h.next/\bm<h.next/\bc<h.next:=⟨d.disk.lt W,d.med.lt W,by
 rcases wN bc h.next with h1|h1
 ·exact h1
 ·have:=W.fresh bc h1
  rw[d.map]at this;cases this⟩
theorem Dk.same(d:Dk h bd bm bc n M c0 cs arm dn)(hb:h'.bl=h.bl):Dk h' bd bm bc n M c0 cs arm dn:=⟨d.disk.same hb,d.med.same hb,d.len,d.byt,by rw[hb];exact d.map,d.big,d.n1⟩
theorem Dk.fr(d:Dk h bd bm bc n M c0 cs arm dn)(W:h.Wf)(x:Fx S h h')(h1:¬ S bd)(h2:¬ S bm)(h3:¬ S bc):Dk h' bd bm bc n M c0 cs arm dn:=⟨x.row W d.disk h1,x.row W d.med h2,d.len,d.byt,by rw[x.get bc (d.lt W).2.2 h3];exact d.map,d.big,d.n1⟩
theorem Dk.ext(d:Dk h bd bm bc n M c0 cs arm dn)(W:h.Wf)(x:h.Ext h'):Dk h' bd bm bc n M c0 cs arm dn:=d.fr (S:=fun _=>False) W (.of x) (fun h=>h) (fun h=>h) (fun h=>h)
theorem CR(R:h.Row bd 0 (dkL bm bc n arm dn)):AEF ⟨bd,0,none⟩ h=.ok (.slice (some ⟨bm,0,none⟩) n n) h/\AEF ⟨bd,1,none⟩ h=.ok (.map (some bc)) h/\AEF ⟨bd,2,none⟩ h=.ok (AI AT arm) h/\AEF ⟨bd,3,none⟩ h=.ok (.bool dn) h:=
 ⟨R.AEF (off:=0) (by show 0<4;omega),R.AEF (off:=1) (by show 1<4;omega),R.AEF (off:=2) (by show 2<4;omega),R.AEF (off:=3) (by show 3<4;omega)⟩
theorem G1{k:TK}{t:Nat}{a:Addr}{g:O}(hk:k=.ptr t)(hg:g e=.pointer (some a)):oEq k false g (kV (.pointer none)) F e h=.ok (.bool false) h:=by
 subst hk;show(match eqV (.ptr t) (g e) (.pointer none)with|some r=>okB (false != r) h|none=>.no)=_;rw[hg];exact Ff
theorem iC{k:TK}{a b r:Nat}{g:O}(hk:k=.map a b)(hg:g e=.map (some r)):oEq k false g (kV (.map none)) F e h=.ok (.bool false) h:=by
 subst hk;show(match eqV (.map a b) (g e) (.map none)with|some r=>okB (false != r) h|none=>.no)=_;rw[hg];exact Ff
theorem dw:U9.k=.ptr 98:=by kernel_rfl
theorem vC:js.k=.map 3 100:=by kernel_rfl
theorem IV{m:Nat}(d:Dk h bd bm bc n M c0 cs arm dn):call AC (m+1) 54 [pt bd] h=.ok (.bool false) h:=by
 obtain⟨_,l1,_,_⟩:=CR d.disk;have e1:∀ e:Env,J 0 e=pt bd->oEq U9.k false (J 0) (kV (.pointer none)) (call AC m) e h=.ok (.bool false) h:=fun e he=>G1 dw he
 have e2:∀ e:Env,J 9 e=.map (some bc)->oEq js.k false (J 9) (kV (.map none)) (call AC m) e h=.ok (.bool false) h:=fun e he=>iC vC he
 rw[oB rfl];unfold d54;simp only[iN,IS,sT,By,BY,reduceIte,gD,e1,Ao,Ad,AG,AM,AK,AO,l1,e2,lV0]
theorem H9{m:Nat}(d:Dk h bd bm bc n M c0 cs arm false){i:Nat}(hi:i<n):call AC (m+2) 95 [pt bd,AI AT (i:Int)] h=.ok (AI AT 0) h:=by
 obtain⟨l0,_,_,l3⟩:=CR d.disk;have k1:=IV (m:=m) d;have c1:iLt (i:Int) 0=false:=HL (by omega);have c2:iGe (i:Int) (n:Int)=false:=FZ (by omega);rw[oo rfl];unfold d95;simp only[iN,IS,sT,By,BY,reduceIte,gD,cA0,k1,Ao,Ad,AG,AM,AK,AO,l0,l3,AX,Dv,AJ,AH,c1,c2,lV0]
theorem jf{m:Nat}(d:Dk h bd bm bc n M c0 cs arm dn):call AC (m+2) 56 [pt bd] h=.ok (AI AT (n:Int)) h:=by
 obtain⟨l0,_,_,l3⟩:=CR d.disk;have k1:=IV (m:=m) d;rw[oD rfl];unfold d56;simp only[iN,IS,sT,By,BY,reduceIte,gD,cA0,k1,Ao,Ad,AG,AM,AK,AO,l0,l3,AX,Dv,lV0]
theorem gP{m:Nat}(d:Dk h bd bm bc n M c0 cs arm dn):call AC (m+2) 58 [pt bd] h=.ok (.bool dn) h:=by
 obtain⟨l0,_,_,l3⟩:=CR d.disk;have k1:=IV (m:=m) d;rw[oF rfl];unfold d58;simp only[iN,IS,sT,By,BY,reduceIte,gD,cA0,k1,Bi,Bh,yA,Ao,Ad,AG,AM,AK,AO,l0,l3,lV0]
theorem bV{x y:O}{k j:IntKind}{a b:Int}(hx:x e=.int k a)(hy:y e=.int j b):Ur x y F e h=.ok (.int k (max a b)) h:=by
 show Ht false (x e) (y e) h=_;rw[hx,hy];show(bif iLt a b then R.ok (.int k b) h else .ok (.int k a) h)=_;rw[C4];by_cases hab:a<b
 ·rw[decide_eq_true hab,Int.max_eq_right (by omega)];rfl
 ·rw[decide_eq_false hab,Int.max_eq_left (by omega)];rfl
def AFN(a:Int):Int:=max (a - 1) (-1)
def HF(a:Int)(k:Nat):Prop:=a<=1099511627776/\-1<=a/\(a<0\/(k:Int)<=a)
theorem HF.one{a:Int}{k:Nat}(h:HF a (k+1)):HF (AFN a) k/\a≠0:=by
 unfold HF AFN at *;omega
theorem Wl{m:Nat}(W:h.Wf)(d:Dk h bd bm bc n M c0 cs arm false){k:Nat}(ha:HF arm (k+1)):
  ∃ h',call AC (m+1) 96 [pt bd] h=.ok (AI AT 0) h'/\Fx (fun i=>i=bd) h h'/\Dk h' bd bm bc n M c0 cs (AFN arm) false:=by
 obtain⟨_,_,l2,_⟩:=CR d.disk;obtain⟨_,hne⟩:=ha.one;have c1:iEq arm 0=false:=Bj hne;have hs:=d.disk.AER (n:=1) (off:=2) W d.big.1 (v:=AI AT (AFN arm)) rfl (by show 2+1<=4;omega) rfl;have fr:=Fx.wr (S:=fun i=>i=bd) W d.disk (off:=2) (vs:=[AI AT (AFN arm)]) (by show 2+1<=4;omega) rfl;have r1:=d.disk.AET W (off:=2) (vs:=[AI AT (AFN arm)]) (by show 2+1<=4;omega);have hw:yK.wrap (wi arm 1)=arm - 1:=by
  obtain⟨h1,h2,h3⟩:=ha;show yK.wrap (arm - 1)=_;rcases ADY arm 1 with hlt|hge
  ·have:arm= -1\/arm=0:=by omega
   rcases this with rfl|rfl<;>rfl
  ·exact eJ (by omega) (by omega)
 have mx:∀ e:Env,J 19 e=AI AT (arm - 1)->Ur (J 19) (kV (AI AT (-1))) (call AC m) e h=.ok (AI AT (AFN arm)) h:=fun e he=>bV he rfl
 have hs:AER 1 (.pointer (some ⟨bd,2,none⟩)) (AI AT (AFN arm)) h=.ok AEE (h.wr bd 2 [AI AT (AFN arm)]):=hs;refine⟨_,?_,fr,⟨r1,fr.row W d.med (fun h=>d.bdm h.symm),d.len,d.byt,rW W d.disk (by show 2+1<=4;omega) d.map,d.big,d.n1⟩⟩;rw[Zb rfl];unfold d96;simp only[iN,IS,sT,By,BY,reduceIte,Ao,Ad,AG,AM,AK,AO,vk,l2,AJ,AH,c1,Bu,CV,hw,mx,Ab,hs,lV0]
end
end
end Go.Proofs.YtedbmmfebjfibaaGreat

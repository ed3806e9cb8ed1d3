/-
  Part ZK of what Lawru stands on: printed by program, names and spaces cut.
-/
import Derived.Test.YtedbmmfebjfibaaGreatZJ
open Nat renaming reduceEqDiff→AI,reduceLT→AT,reduceAdd→By,le_refl→IN,zero_add→sh,succ→vD,ble→vJ,beq→vO,lt_or_ge→vd,zero_le→vi,mul→vr,le_trans→vw,eq_zero_or_pos→vy,add_eq→wd,beq_refl→wz,min_le_right→xS,mul_one→xd,mod_eq_of_lt→yi,min_eq_left→yz,reduceLeDiff→AAl,sub_zero→ABv,le_succ→ACM,sub_self→ACm
open Go renaming Value→BY
open List renaming length_append→IT,length_map→If,getElem?_eq_getElem→No,getD_eq_getElem?_getD→OF,length_cons→vI,replicate→vL,append_nil→vR,append_assoc→vX,length_take→vp,eq_nil_of_length_eq_zero→vz,map_append→v8,length_nil→wB,length_drop→wG,nil_append→wL,drop_zero→wM,getElem?_map→wN,drop_of_length_le→wR,length_singleton→wU,mem_of_mem_take→wu,length_replicate→xC,take_of_length_le→xy,map_map→zA,getElem_mem→zJ,cons_append→zK,mem_of_mem_drop→ze,drop_length→AAB,drop_left→ABA,append_eq→ABB,drop→ACP,take→ACp
open Int renaming sub→wA,toNat_natCast→wP,eq_ofNat_of_zero_le→xe,lt_or_le→ACq
open Bool renaming not_true→wQ,not_false→wm
open Go.Value renaming int→wb
open Go.IntKind renaming i64→xH
open UInt8 renaming ofNat→yE,toNat→ABG
set_option linter.unusedVariables false
set_option linter.unusedSimpArgs false
namespace Go.Proofs.YtedbmmfebjfibaaGreat
noncomputable section
open Go
set_option maxRecDepth 100000
def Mk(h:Hp)(k:Nat)(v:BY)(l:List Nat):Prop:=∃ b el,v=.slice (some ⟨b,0,none⟩) l.length l.length∧(el=0∨el=6)∧h.Row b el (l.map bv)∧k≤b
theorem Mk.vals{h:Hp}{k:Nat}{v:BY}{l:List Nat}(m:Mk h k v l):h.ADo v (l.map bv):=by
 obtain⟨b,el,h1,h2,h3,h4⟩:=m;exact .inr ⟨b,0,l.length,el,_,by rw[If];exact h1,h3,by simp,by rw[wM,List.take_length]⟩
theorem Mk.ext{h h':Hp}{k:Nat}{v:BY}{l:List Nat}(m:Mk h k v l)(W:h.Wf)(x:h.Ext h'):Mk h' k v l:=by
 obtain⟨b,el,h1,h2,h3,h4⟩:=m;exact⟨b,el,h1,h2,h3.ext W x,h4⟩
theorem Mk.same{h h':Hp}{k:Nat}{v:BY}{l:List Nat}(m:Mk h k v l)(hb:h'.bl=h.bl):Mk h' k v l:=by
 obtain⟨b,el,h1,h2,h3,h4⟩:=m;exact⟨b,el,h1,h2,h3.same hb,h4⟩
theorem Mk.le{h:Hp}{k k':Nat}{v:BY}{l:List Nat}(m:Mk h k v l)(hk:k'≤k):Mk h k' v l:=by
 obtain⟨b,el,h1,h2,h3,h4⟩:=m;exact⟨b,el,h1,h2,h3,by omega⟩
theorem Hp.Own.mk{h:Hp}{k:Nat}{v:BY}{l:List Nat}(o:h.Own k 5 v (l.map bv))(hl:0<l.length):Mk h k v l:=by
 rcases o with ⟨_,h2⟩|⟨b,h1,h2,h3,h4⟩
 ·have:=congrArg List.length h2
  rw[If,wB]at this;omega
 ·rw[If]at h1
  exact⟨b,6,h1,.inr rfl,h2,h3⟩
theorem LV:∀ n:Nat,BO ty5.zero n=(vL n 0).map bv:=fun n=>by
 have hz:ty5.zero=[bv 0]:=by kernel_rfl
 rw[hz]
 induction n with
 |zero=>rfl
 |succ n ih=>show [bv 0]++BO [bv 0] n=_;rw[ih];rfl
theorem Q4{A B:List BY}{x y:BY}:over (A++x::B) A.length [y]=A++y::B:=by
 unfold over;have e:A++x::B=(A++[x])++B:=by simp
 rw[List.take_left,e,show A.length+[y].length=(A++[x]).length by simp,ABA];simp
theorem Mg{A B V:List BY}(h:A.length=V.length):over (A++B) 0 V=V++B:=by
 unfold over;rw[sh,← h,ABA];simp
theorem Wz{s i:Nat}(hi:i<4):(Gn s).drop (3 - i)=(s/2 ^ min (8*i) 32) % 256::(Gn s).drop (4 - i):=by
 have:i=0∨i=1∨i=2∨i=3:=by omega
 rcases this with rfl|rfl|rfl|rfl
 ·show [s % 256]=s/1 % 256::[]
  rw[Nat.div_one]
 ·rfl
 ·rfl
 ·rfl
theorem PX{a b:List Nat}(ha:∀ x∈a,x<256)(hb:∀ x∈b,x<256):bEq (a.map yE) (b.map yE)=decide (a=b):=by
 rw[Lh,Bool.eq_iff_iff,beq_iff_eq,decide_eq_true_eq];refine⟨fun h=>?_,fun h=>by rw[h]⟩;have h1:=congrArg (List.map ABG) h;rw[zA,zA]at h1;have e:∀ l:List Nat,(∀ x∈l,x<256)→l.map (ABG∘yE)=l:=fun l hl=>by
  have:l.map (ABG∘yE)=l.map id:=List.map_congr_left fun x hx=>by
   show(yE x).toNat=x;rw[UInt8.toNat_ofNat',yi (hl x hx)]
  rw[this,List.map_id]
 rwa [e a ha,e b hb]at h1
theorem qu{n:Nat}{h:Hp}{u v:BY}{a b:List Nat}(U:h.ADo u (a.map bv))(V:h.ADo v (b.map bv))(ha:∀ x∈a,x<256)(hb:∀ x∈b,x<256):call AD (n+1) 24 [u,v] h=.ok (.bool (decide (a=b))) h:=by
 have hbe:=PX ha hb;rw[kC rfl];unfold d24;simp only[iN,By,sT,AT,AI,reduceIte,KP,U.bytes.str,V.bytes.str,Oy,OT,hbe,lV0]
theorem nf:slS=BK (Ad 0 (Ay slB)) slE:=rfl
theorem lx:d73=cj:=rfl
theorem gE{F:ADS}{h h0:Hp}(W0:h0.Wf)(x:h0.Ext h){r s N:Nat}(hr:h0.next≤r){u:BY}{l:List Nat}(V:h0.ADo u (l.map bv))(hN:N=l.length+4)(hl:l.length≤900000)(hs:s<4294967296)(R:h.Row r 0 ((vL N 0).map bv)){e:Env}
  (s1:AB 1 e=u)(s5:AB 5 e=.slice (some ⟨r,0,none⟩) N N)(s6:AB 6 e=.int .u32 (s:Int))(s15:AB 15 e=.int .i64 ((0:Nat):Int)):
  ∃ e' h',Ay slB F e h=.exit 0 e' h'∧h0.Ext h'∧h'.Row r 0 ((vL l.length 0++Gn s).map bv)∧AB 1 e'=u∧AB 5 e'=.slice (some ⟨r,0,none⟩) N N:=by
 refine BU (I:=fun i e' h'=>h0.Ext h'∧h'.Row r 0 ((vL (N - i) 0++(Gn s).drop (4 - i)).map bv)∧AB 1 e'=u∧AB 5 e'=.slice (some ⟨r,0,none⟩) N N∧AB 6 e'=.int .u32 (s:Int)∧AB 15 e'=.int .i64 (i:Int)∧i≤4)
  (Q:=fun x=>∃ e' h',x=.exit 0 e' h'∧h0.Ext h'∧h'.Row r 0 ((vL l.length 0++Gn s).map bv)∧AB 1 e'=u∧AB 5 e'=.slice (some ⟨r,0,none⟩) N N) 4 (by omega) (fun i e' h' ⟨x',R',t1,t5,t6,t15,hi⟩=>?_)
  ⟨x,by rw[ABv,wR (show(Gn s).length≤4 - 0 from IN _),vR];exact R,s1,s5,s6,s15,by omega⟩
 by_cases hlt:i<4
 ·left
  have W:=x'.wf;have Vl:=V.bl h';have c1:iLt (i:Int) 4=true:=Es hlt;have a1:FH .i64 (.int .i64 (l.length:Int)) (.int .i64 4) h'=.ok (.int .i64 (N:Int)) h':=by
   rw[Ee,show(l.length:Int)+4=(N:Int)by omega,BW (by omega)]
  have a2:Fc wA .i64 (.int .i64 (N:Int)) (.int .i64 1) h'=.ok (.int .i64 ((N - 1:Nat):Int)) h':=by
   have:wA (N:Int) 1=((N - 1:Nat):Int):=by show(N:Int) - 1=_;omega
   rw[CZ,this,BW (by omega)]
  have a3:Fc wA .i64 (.int .i64 ((N - 1:Nat):Int)) (.int .i64 (i:Int)) h'=.ok (.int .i64 ((N - (i+1):Nat):Int)) h':=by
   have:wA ((N - 1:Nat):Int) (i:Int)=((N - (i+1):Nat):Int):=by show((N - 1:Nat):Int) - (i:Int)=_;omega
   rw[CZ,this,BW (by omega)]
  have a4:Fc Int.mul .i64 (.int .i64 8) (.int .i64 (i:Int)) h'=.ok (.int .i64 ((8*i:Nat):Int)) h':=by
   have:Int.mul 8 (i:Int)=((8*i:Nat):Int):=by show(8:Int)*(i:Int)=_;omega
   rw[CZ,this,BW (by omega)]
  have r1:aO .u32 (.int .u32 (s:Int)) (.int .i64 ((8*i:Nat):Int)) h'=.ok (.int .u32 ((s/2 ^ min (8*i) 32:Nat):Int)) h':=U6 (j:=.u32) (q:=.i64) (m:=s) (n:=8*i);have v1:DH .u8 (.int .u32 ((s/2 ^ min (8*i) 32:Nat):Int)) h'=.ok (.int .u8 ((s/2 ^ min (8*i) 32 % 256:Nat):Int)) h':=by rw[CU,Gp]
  have i1:AEP 1 (.slice (some ⟨r,0,none⟩) N N) (.int .i64 ((N - (i+1):Nat):Int)) h'=.ok (.pointer (some ⟨r,N - (i+1),none⟩)) h':=by
   have:=DD (h:=h') (n:=N) (c:=N) (es:=1) (b:=r) (off:=0) (i:=N - (i+1)) (k:=.i64) (by omega)
   rwa [sh,xd]at this
  have AH6:=Wz (s:=s) hlt;generalize s / 2 ^ min (8 * i) 32 % 256=c at v1 AH6;have AHP:(vL (N - i) 0++(Gn s).drop (4 - i)).map bv=(vL (N - (i+1)) 0).map bv++bv 0::((Gn s).drop (4 - i)).map bv:=by
   rw[show N - i=(N - (i+1))+1 by omega,List.replicate_succ',v8,v8,vX];rfl
  rw[AHP]at R';have hAl:((vL (N - (i+1)) 0).map bv).length=N - (i+1):=by simp
  have ho:N - (i+1)+[wb .u8 (c:Int)].length≤((vL (N - (i+1)) 0).map bv++bv 0::((Gn s).drop (4 - i)).map bv).length:=by
   simp only[IT,vI,wB,hAl];omega
  have ADg:256≤r:=by have:=W0.big;omega
  have st:=R'.ADl (n:=1) (off:=N - (i+1)) W ADg (v:=.int .u8 (c:Int)) rfl ho rfl;have wr:=R'.ADm W (off:=N - (i+1)) (vs:=[.int .u8 (c:Int)]) ho;have xw:=R'.AD5 x' hr (off:=N - (i+1)) (vs:=[.int .u8 (c:Int)]) ho;have a5:=CH (i:=i) (h:=h'.wr r (N - (i+1)) [.int .u8 (c:Int)]) (by omega);have hov:over ((vL (N - (i+1)) 0).map bv++bv 0::((Gn s).drop (4 - i)).map bv) (N - (i+1)) [.int .u8 (c:Int)]=(vL (N - (i+1)) 0++(Gn s).drop (4 - (i+1))).map bv:=by
   have:=Q4 (A:=(vL (N - (i+1)) 0).map bv) (B:=((Gn s).drop (4 - i)).map bv) (x:=bv 0) (y:=bv c);rw[hAl]at this;rw[show 4 - (i+1)=3 - i by omega,AH6,v8,List.map_cons];exact this
  rw[hov]at wr;rw[Dc]at st;have hrun:∃ e2,slB F e' h'=.norm e2 (h'.wr r (N - (i+1)) [.int .u8 (c:Int)])∧AB 1 e2=u∧AB 5 e2=.slice (some ⟨r,0,none⟩) N N∧AB 6 e2=.int .u32 (s:Int)∧AB 15 e2=.int .i64 ((i+1:Nat):Int):=by
   unfold slB;simp only[sT,AT,AI,reduceIte,AM,AK,t15,c1,Af,t1,Vl,BF,a1,Br,a2,a3,a4,Uq,t6,r1,B8,v1,A1,t5,i1,Aa,st,a5];exact⟨_,rfl,by simp[AF,t1,t5,t6]⟩
  obtain⟨e2,q1,q2,q3,q4,q5⟩:=hrun;exact⟨hlt,e2,_,q1,xw,wr,q2,q3,q4,q5,hlt⟩
 ·right
  have hi4:i=4:=by omega
  subst hi4;have c1:=DE (show 4≤4 by omega);have hrun:∃ e2,slB F e' h'=.exit 0 e2 h'∧AB 1 e2=u∧AB 5 e2=.slice (some ⟨r,0,none⟩) N N:=by
   unfold slB;have c1:iLt ((4:Nat):Int) 4=false:=c1;simp only[sT,AT,AI,reduceIte,AM,AK,t15,c1];exact⟨_,rfl,by simp[AF,t1,t5]⟩
  obtain⟨e2,q1,q2,q3⟩:=hrun;rw[q1];refine⟨rfl,e2,h',rfl,x',?_,q2,q3⟩;have e1:N - 4=l.length:=by omega
  have e2:4 - 4=0:=rfl;rw[e1,e2,wM]at R';exact R'
theorem LR{F:ADS}{e:Env}{h:Hp}(W:h.Wf){x y:O}{N:Nat}(hx:x e=.int .i64 (N:Int))(hy:y e=.int .i64 (N:Int))(hN:N≤1000000):GJ 1 ty5.zero x y F e h=.ok (.slice (some ⟨h.next,0,none⟩) N N) (h.ADR 0 ((vL N 0).map bv)):=by
 unfold GJ;rw[hx,hy,Cu];unfold Qf;have e1:vJ N N=true:=Ab.2 (IN N);have e2:vJ (vr (vD N) (vD 1)) most=true:=Ab.2 (by
  show(N+1)*2≤1099511627776;omega)
 simp only[e1,e2,cond_true];rw[Cv W,LV];rfl
theorem cH{F:ADS}{e:Env}{h:Hp}(W:h.Wf){x y:O}{r N:Nat}{u:BY}{l A B:List Nat}(hx:x e=.slice (some ⟨r,0,none⟩) N N)(hy:y e=u)(V:h.ADo u (l.map bv))(ADg:256≤r)(hA:A.length=l.length)(hN:N=(A++B).length)(R:h.Row r 0 ((A++B).map bv)):
  JR 1 x y F e h=.ok (.int .i64 (l.length:Int)) (h.wr r 0 (l.map bv))∧(h.wr r 0 (l.map bv)).Row r 0 ((l++B).map bv):=by
 have ho:0+(l.map bv).length≤((A++B).map bv).length:=by simp;omega
 have h1:Bd (l.map bv)=true:=Ct l;refine⟨?_,?_⟩
 ·unfold JR Pj
  rw[hx,hy];simp only[V.lenV,AZ,BJ,If];rw[yz (show l.length≤N by rw[hN,IT];omega)];rw[V.src (n:=l.length) (by rw[If])];rw[R.store W ADg ho h1];rfl
 ·have:=R.ADm W ho
  rw[v8,Mg (by simp[hA])]at this;rw[v8];exact this
theorem U5{n:Nat}{h:Hp}(W:h.Wf){tb:Nat}{T:List Nat}(R:h.Row tb 0 (T.map wv))(hT:AEM T){u:BY}{l:List Nat}(V:h.ADo u (l.map bv))(hb:∀ x∈l,x<256)(hl:l.length≤900000):
  ∃ h' v,call AD (n+2) 73 [pt tb,u] h=.ok v h'∧h.Ext h'∧Mk h' h.next v (EM T l):=by
 have x1:=(Hp.Ext.refl W).ADR 0 ((vL (l.length+4) 0).map bv);have R1:=Hp.Row.new W 0 ((vL (l.length+4) 0).map bv);have mk:=fun (e:Env) (hx:AB 10 e=.int .i64 ((l.length+4:Nat):Int))=>LR (F:=call AD (n+1)) (e:=e) W (x:=AB 10) (y:=AB 10) hx hx (by omega)
 generalize h.ADR 0 ((vL (l.length+4) 0).map bv)=h1 at x1 R1 mk;obtain⟨h2,k1,k2⟩:=TT (n:=n) (R.ext W x1) hT (V.ext W x1) hb hl;have hbl:h2.bl=h1.bl:=by rcases k2 with rfl|rfl<;>rfl
 have x2:h.Ext h2:=by
  rcases k2 with rfl|rfl
  ·exact x1
  ·exact x1.marked
 have Vl:=V.bl h;have a1:FH .i64 (.int .i64 (l.length:Int)) (.int .i64 4) h=.ok (.int .i64 ((l.length+4:Nat):Int)) h:=by
  rw[Ee,show(l.length:Int)+4=((l.length+4:Nat):Int)by omega,BW (by omega)]
 have pre:∃ e1,cj (call AD (n+1)) (AS e0 0 [pt tb,u]) h=slS (call AD (n+1)) e1 h2∧AB 1 e1=u∧AB 5 e1=.slice (some ⟨h.next,0,none⟩) (l.length+4) (l.length+4)∧AB 6 e1=.int .u32 ((B5 T l:Nat):Int)∧AB 15 e1=.int .i64 ((0:Nat):Int):=by
  unfold cj;simp only[iN,By,sT,AT,AI,reduceIte,Af,Vl,BF,a1,mk,cA0,k1];exact⟨_,rfl,by simp[AF]⟩
 obtain⟨e1,p1,p2,p3,p4,p5⟩:=pre;obtain⟨e2,h3,q1,x3,R3,q2,q3⟩:=gE (F:=call AD (n+1)) W x2 (IN _) V rfl hl (IC T l) (R1.same hbl) p2 p3 p4 p5;have ADg:=W.big;obtain⟨c1,c2⟩:=cH (F:=call AD (n+1)) (e:=e2) x3.wf (x:=AB 5) (y:=AB 1) q3 q2 (V.ext W x3) ADg (A:=vL l.length 0) (B:=Gn (B5 T l)) (by simp) (by rw[IT,xC];rfl) R3;have x4:=R3.AD5 x3 (IN _) (off:=0) (vs:=l.map bv) (by rw[If,If,IT,xC];omega);refine⟨_,.slice (some ⟨h.next,0,none⟩) (l.length+4) (l.length+4),?_,x4,⟨h.next,0,by rw[H9],.inl rfl,c2,IN _⟩⟩;rw[lC rfl,lx,p1,nf];simp only[BE,Ax,q1,A2,BA];unfold slE;simp only[sT,AT,AI,reduceIte,c1,q3,lV0]
end
noncomputable section
open Go
set_option maxRecDepth 100000
theorem ai:LD.k=.slice 5:=by kernel_rfl
theorem mo{F:ADS}{e:Env}{h:Hp}{a:Addr}{n c:Nat}{g:O}(hg:g e=.slice (some a) n c):oEq LD.k false g (kV (.slice none 0 0)) F e h=.ok (.bool false) h:=by
 show(match eqV LD.k (g e) (.slice none 0 0)with|some r=>okB (false != r) h|none=>.no)=_;rw[ai,hg];exact F7
theorem OY{h0 h:Hp}{eb en k b:Nat}{u:BY}{ys:List BY}(x0:h0.Ext h)(hk2:k≤h.next)(r:h.Row b 0 [])(y:h.ADo u ys)(hy:0<ys.length)(ha:Bd ys=true)(hm:(ys.length+1)*(eb+1)≤1099511627776):
  ∃ h' v',DQ 1 eb en (.slice (some ⟨b,0,none⟩) 0 0) u h=.ok v' h'∧h0.Ext h'∧h'.Own k en v' ys:=by
 have W:=x0.wf;obtain⟨cc,hcc,hl⟩:=r.rowOf;obtain⟨t,h2,h3⟩:=Dw ys cc [] 0 hl (.inr rfl);have h3:t.Is ys:=by simpa using h3
 refine⟨h.push (.cells t ys.length (en+1)),.slice (some ⟨h.next,0,none⟩) ys.length ys.length,?_,x0.push _,.inr ⟨h.next,rfl,⟨t,by rw[W.ADs,if_pos rfl],h3⟩,hk2,W.big⟩⟩;unfold DQ Db;simp only[y.lenV,y.src rfl,AZ,wd,sh];have e1:vJ ys.length 0=false:=by
  cases e:vJ ys.length 0
  ·rfl
  ·have:=Ab.1 e;omega
 have e2:vJ (vr (vD ys.length) (vD eb)) JN=true:=Ab.2 (Hw hm);rw[e1];simp only[e2,cond_true,ha];unfold Gw;have hcc:rowOf h b=.ok cc 0 0:=hcc;have e3:vO 0 (vr 0 1)=true:=rfl;simp only[hcc,e3,h2];unfold Ep;simp only[hcc,BI,wd,sh];unfold CE;rw[AZ,Cp W];rfl
theorem Pp{F:ADS}{e:Env}{h:Hp}(W:h.Wf):Ak 0 (BO ty5.zero 0) [] F e h=.ok (.slice (some ⟨h.next,0,none⟩) 0 0) (h.ADR 0 []):=by
 have:BO ty5.zero 0=[]:=rfl;rw[this,Ce,CP,Cv W];rfl
theorem Pc{n:Nat}{h:Hp}(W:h.Wf){a:Addr}{c:Nat}{l:List Nat}(V:h.ADo (.slice (some a) l.length c) (l.map bv))(hl:l.length≤900000):∃ h' v,call AD (n+1) 39 [.slice (some a) l.length c] h=.ok v h'∧h.Ext h'∧Mk h' h.next v l:=by
 have y1:=(Hp.Ext.refl W).ADR 0 [];have R:=Hp.Row.new W 0 [];have es:=fun (e:Env)=>Pp (F:=call AD n) (e:=e) W
 have n1:(h.ADR 0 []).next=h.next+1:=rfl;generalize h.ADR 0 []=h1 at y1 R es n1;have ne:∀ e:Env,AB 0 e=.slice (some a) l.length c→oEq LD.k false (AB 0) (kV (.slice none 0 0)) (call AD n) e h=.ok (.bool false) h:=fun e he=>mo he
 rcases vy l.length with hz|hz
 ·have hl0:l=[]:=vz hz
  subst hl0;have ADg:=W.big;have ap:DQ 1 1 5 (.slice (some ⟨h.next,0,none⟩) 0 0) (.slice (some a) 0 c) h1=.ok (.slice (some ⟨h.next,0,none⟩) 0 0) (h1.wr h.next 0 []):=PT (l:=[]) y1.wf ADg R (V.ext W y1).bytes (IN _) (IN _);have R2:=R.ADm y1.wf (off:=0) (vs:=[]) (IN _);have x2:=R.AD5 y1 (IN _) (off:=0) (vs:=[]) (IN _);refine⟨_,.slice (some ⟨h.next,0,none⟩) 0 0,?_,x2,⟨h.next,0,rfl,.inl rfl,R2,IN _⟩⟩;rw[IO rfl];unfold d39;have ne:∀ e:Env,AB 0 e=.slice (some a) 0 c→oEq LD.k false (AB 0) (kV (.slice none 0 0)) (call AD n) e h=.ok (.bool false) h:=ne;simp only[iN,By,sT,AT,AI,reduceIte,wB,ne,es,BG,ap,lV0]
 ·obtain⟨h2,v,a1,a2,a3⟩:=OY (eb:=1) (en:=5) (k:=h.next) y1 (by omega) R (V.ext W y1) (by rw[If];exact hz) (Ct l) (by rw[If];omega)
  refine⟨h2,v,?_,a2,a3.mk hz⟩;rw[IO rfl];unfold d39;simp only[iN,By,sT,AT,AI,reduceIte,ne,es,BG,a1,lV0]
theorem X5{F:ADS}{e:Env}{h:Hp}{x y:O}{a:Addr}{el N C m:Nat}(hx:x e=.slice (some a) N C)(hy:y e=.int .i64 (m:Int))(hm:m≤C):Dp el 1 x none (some y) none F e h=.ok (.slice (some a) m C) h:=by
 show(match x e with|.slice a n c=>DG e n c none (some y) none (fun l hh m=>D7 el 1 a false l hh m h)|_=>.no)=_;rw[hx];show Cd e (some y) N C (fun hh=>Cd e none 0 hh fun l=>D7 el 1 (some a) false l hh C h)=_;have hb:∀ K:Nat→R,Cd e (some y) N C K=K m:=fun K=>by
  show(match Cz (y e)with|.ok n=>(bif vJ n C then K n else .no)|.no=>.no)=_;rw[hy,Cu];simp only;rw[Ab.2 hm];rfl
 rw[hb];show Bg (some a) 1 0 m C h=_;unfold Bg;simp only[AZ];cases C with
 |zero=>rfl
 |succ C=>rfl
theorem Zl{F:ADS}{e:Env}{h:Hp}{k:C}{o:Addr}{n c:Nat}(hb:o.block<h.mark):Ih (.slice (some o) n c) k F e h=k F e h:=by
 show(bif Nat.blt o.block h.mark then k F e h else .no)=_;rw[A9.2 hb];rfl
theorem Hp.ADo.blt{h:Hp}(W:h.Wf){o:Addr}{n c:Nat}{xs:List BY}(V:h.ADo (.slice (some o) n c) xs):o.block<h.next:=by
 rcases V with ⟨h1,_⟩|⟨b,off,c',el,L,h1,h2,_⟩
 ·cases h1
 ·cases h1;exact h2.lt W
def XE(u:BY):Prop:=∀ o n c,u=.slice o n c→n≤c
theorem Mk.cap{h:Hp}{k:Nat}{v:BY}{l:List Nat}(m:Mk h k v l):XE v:=fun o n c e=>by
 obtain⟨b,el,h1,_⟩:=m;rw[h1]at e;cases e;exact IN _
def tH(T l:List Nat)(h h':Hp)(r:R):Prop:=(∃ body v,Eh T l=some body∧r=.ok (.tuple ⟨[v,.int .i64 0]⟩) h'∧Mk h' h.next v body)∨(Eh T l=none∧∃ c:Int,c≠0∧r=.ok (.tuple ⟨[.slice none 0 0,.int .i64 c]⟩) h')
theorem XD{n:Nat}{h:Hp}(W:h.Wf){tb:Nat}{T:List Nat}(R:h.Row tb 0 (T.map wv))(hT:AEM T){u:BY}{l:List Nat}(V:h.ADo u (l.map bv))(hC:XE u)(hb:∀ x∈l,x<256)(hl:l.length≤900000):
  ∃ h',h.Ext h'∧tH T l h h' (call AD (n+3) 110 [pt tb,u] h):=by
 have Vl:=V.bl h;by_cases h4:l.length<4
 ·have c1:iLt (l.length:Int) 4=true:=Es h4
  refine⟨h,.refl W,.inr ⟨by unfold Eh;rw[if_pos h4],11,by omega,?_⟩⟩;rw[ON rfl];unfold Vn;simp only[iN,By,sT,AT,AI,reduceIte,Af,Vl,AM,AK,c1,Be,DB]
 ·have c1:iLt (l.length:Int) 4=false:=DE (a:=l.length) (b:=4) (by omega)
  have a1:Fc wA .i64 (.int .i64 (l.length:Int)) (.int .i64 4) h=.ok (.int .i64 ((l.length - 4:Nat):Int)) h:=by
   have:wA (l.length:Int) 4=((l.length - 4:Nat):Int):=by show(l.length:Int) - 4=_;omega
   rw[CZ,this,BW (by omega)]
  have hlm:(l.map bv).length=l.length:=If ..;obtain⟨o,c,hu,V1⟩:=V.cut (n:=l.length - 4) (by rw[hlm];omega);rw[hlm]at hu;have hlen:(l.take (l.length - 4)).length=l.length - 4:=by rw[vp];omega
  have V1:h.ADo (.slice (some o) (l.take (l.length - 4)).length c) ((l.take (l.length - 4)).map bv):=by rw[hlen,List.map_take];exact V1
  obtain⟨h1,v,k1,x1,m1⟩:=Pc (n:=n+1) W V1 (by omega);rw[hlen]at k1;have hbb:∀ x∈l.take (l.length - 4),x<256:=fun x hx=>hb x (wu hx)
  have xm:=x1.marked;have Wm:=xm.wf;have xq:h.Ext h1.marked.quiet:=xm.quiet;obtain⟨h2,w,k2,x2,m2⟩:=U5 (n:=n) xq.wf (R.ext W xq) hT ((m1.same (h':=h1.marked.quiet) rfl).vals) hbb (by omega);have q1:∀ (F:ADS) (e:Env),F=call AD (n+2)→AB 0 e=pt tb→AB 6 e=v→Al .weak (AU 73 [AB 0,AB 6]) F e h1.marked=.ok w (h1.marked.back h2):=fun F e hF h0 h6=>by
   subst hF;refine DF ?_ x2 (IN _);rw[BV,AW,AW,Az,h0,h6];exact k2
  have x3:h1.marked.Ext (h1.marked.back h2):=Hp.Ext.back x2;have xb:=xm.trans x3;have m3:Mk (h1.marked.back h2) h1.marked.quiet.next w (EM T (l.take (l.length - 4))):=m2.same rfl;have m4:Mk (h1.marked.back h2) h.next v (l.take (l.length - 4)):=(m1.same (h':=h1.marked) rfl).ext Wm x3;have Ve:=V.ext W xb;have st1:=m3.vals.bytes.str;have st2:=Ve.bytes.str;have hbs:=PX (RR (T:=T) hbb) hb;have hmk:o.block<(h1.marked.back h2).mark:=by
   have h5:o.block<h.next:=by rw[hu]at V;exact V.blt W
   have h6:=x1.next;show o.block<h1.next;omega
  have old:∀ (k:C) (F:ADS) (e:Env),Ih u k F e (h1.marked.back h2)=k F e (h1.marked.back h2):=fun k F e=>by rw[hu];exact Zl hmk
  have ct:∀ (F:ADS) (e:Env),AB 1 e=u→AB 13 e=.int .i64 ((l.length - 4:Nat):Int)→Dp 5 1 (AB 1) none (some (AB 13)) none F e h=.ok (.slice (some o) (l.length - 4) c) h:=fun F e e1 e2=>by
   have:=hC _ _ _ hu;exact X5 (e1.trans hu) e2 (by omega)
  by_cases hs:EM T (l.take (l.length - 4))=l
  ·refine⟨_,xb,.inl ⟨_,v,by unfold Eh;rw[if_neg h4,if_pos hs],?_,m4⟩⟩
   rw[decide_eq_true hs]at hbs;rw[ON rfl];unfold Vn;simp only[iN,By,sT,AT,AI,reduceIte,Af,Vl,AM,AK,c1,Br,a1,ct,cA0,k1,A3,q1,KP,st1,D0,old,DT,st2,Oy,OT,hbs,wQ,Be,DB]
  ·refine⟨_,xb,.inr ⟨by unfold Eh;rw[if_neg h4,if_neg hs],12,by omega,?_⟩⟩
   rw[decide_eq_false hs]at hbs;rw[ON rfl];unfold Vn;simp only[iN,By,sT,AT,AI,reduceIte,Af,Vl,AM,AK,c1,Br,a1,ct,cA0,k1,A3,q1,KP,st1,D0,old,DT,st2,Oy,OT,hbs,wm,Be,DB]
end
noncomputable section
open Go
set_option maxRecDepth 100000
def Bz(a b c:Int)(s:Nat)(u:BY):BY:=.agg ⟨[.int .i64 a,.int .i64 b,.int .i64 c,.int .u8 (s:Int),u]⟩
def Aq(a b c:Int)(s:Nat)(u:BY):List BY:=[.int .i64 a,.int .i64 b,.int .i64 c,.int .u8 (s:Int),u]
theorem RX{F:ADS}{h:Hp}(W:h.Wf){a b c:Int}{s:Nat}{u:BY}{g:O}{e:Env}(he:g e=Bz a b c s u):C7 g F e h=.ok (.pointer (some ⟨h.next,0,none⟩)) (h.ADR 0 (Aq a b c s u)):=by
 rw[E6,he,E3 W];rfl
theorem Bc{h:Hp}{r:Nat}{a b c:Int}{s:Nat}{u:BY}(R:h.Row r 0 (Aq a b c s u)):ADW ⟨r,0,none⟩ h=.ok (.int .i64 a) h∧ADW ⟨r,1,none⟩ h=.ok (.int .i64 b) h∧ADW ⟨r,2,none⟩ h=.ok (.int .i64 c) h∧ADW ⟨r,3,none⟩ h=.ok (.int .u8 (s:Int)) h∧ADW ⟨r,4,none⟩ h=.ok u h∧loadN 5 ⟨r,0,none⟩ h=.ok (Bz a b c s u) h:=
 ⟨R.ADW (off:=0) (by show 0<5;omega),R.ADW (off:=1) (by show 1<5;omega),R.ADW (off:=2) (by show 2<5;omega),R.ADW (off:=3) (by show 3<5;omega),R.ADW (off:=4) (by show 4<5;omega),R.loadN (off:=0) (n:=5) (by show 0+5≤5;omega)⟩
theorem HG{a b:Int}(h:b≤a):iGe a b=true:=(Oa a b).trans (decide_eq_true h)
theorem FL{a b:Int}(h:¬ b≤a):iGe a b=false:=(Oa a b).trans (decide_eq_false h)
theorem Kk{a b:Int}(h:a≤b):iLe a b=true:=(Sh a b).trans (decide_eq_true h)
theorem QH{a b:Int}(h:¬ a≤b):iLe a b=false:=(Sh a b).trans (decide_eq_false h)
theorem MH{a b:Int}(h:a<b):iLt a b=true:=(Cs a b).trans (decide_eq_true h)
theorem HI{a b:Int}(h:¬ a<b):iLt a b=false:=(Cs a b).trans (decide_eq_false h)
theorem FM{a b:Int}(h:b<a):iGt a b=true:=(HH a b).trans (decide_eq_true h)
theorem Eq{a b:Int}(h:¬ b<a):iGt a b=false:=(HH a b).trans (decide_eq_false h)
theorem DM{a b:Int}(h:a=b):iEq a b=true:=by rw[D9];simpa using h
theorem DL{a b:Int}(h:¬ a=b):iEq a b=false:=by rw[D9];simpa using h
theorem EL{a b:Int}(h:¬ a=b):iNe a b=true:=by rw[HJ];simpa using h
theorem CV{a b:Int}(h:a=b):iNe a b=false:=by rw[HJ];simpa using h
theorem TL{F:ADS}{h:Hp}(W:h.Wf){a b c:Int}{s n:Nat}{u:BY}(hu:∀ g,AEL u g=.ok (.int .i64 (n:Int)) g):A4 [.t (AB 2)] (d40 F (AS e0 0 [Bz a b c s u]) h)=.ok (.bool (ADc a b c s n)) (h.ADR 0 (Aq a b c s u)):=by
 have R:=Hp.Row.new W 0 (Aq a b c s u);have bx:∀ e:Env,AB 0 e=Bz a b c s u→C7 (AB 0) F e h=.ok (.pointer (some ⟨h.next,0,none⟩)) (h.ADR 0 (Aq a b c s u)):=fun e he=>RX W he
 generalize h.ADR 0 (Aq a b c s u)=h1 at R bx;obtain⟨l0,l1,l2,l3,l4,_⟩:=Bc R;unfold d40;by_cases k1:0≤a
 ·have c1:iGe a 0=true:=HG k1
  by_cases k2:a≤1099511627776
  ·have c2:iLe a 1099511627776=true:=Kk k2
   by_cases k3:0≤b
   ·have c3:iGe b 0=true:=HG k3
    by_cases k4:b<255
    ·have c4:iLt b 255=true:=MH k4
     by_cases k5:1≤c
     ·have c5:iGe c 1=true:=HG k5
      by_cases k6:c≤1099511627776
      ·have c6:iLe c 1099511627776=true:=Kk k6
       by_cases k7:(s:Int)=1
       ·have c7:iEq (s:Int) 1=true:=DM k7
        by_cases k9:(n:Int)≤65536
        ·have c9:iLe (n:Int) 65536=true:=Kk k9
         rw[show ADc a b c s n=true from decide_eq_true (by omega)];simp only[iN,By,sT,AT,AI,reduceIte,gD,bx,AJ,AO,AN,AQ,l0,l1,l2,l3,l4,AM,AK,Af,hu,c1,c2,c3,c4,c5,c6,c7,c9,lV0]
        ·have c9:iLe (n:Int) 65536=false:=QH k9
         rw[show ADc a b c s n=false from decide_eq_false (by omega)];simp only[iN,By,sT,AT,AI,reduceIte,gD,bx,AJ,AO,AN,AQ,l0,l1,l2,l3,l4,AM,AK,Af,hu,c1,c2,c3,c4,c5,c6,c7,c9,lV0]
       ·have c7:iEq (s:Int) 1=false:=DL k7
        by_cases k8:(s:Int)=2
        ·have c8:iEq (s:Int) 2=true:=DM k8
         by_cases k9:(n:Int)≤65536
         ·have c9:iLe (n:Int) 65536=true:=Kk k9
          rw[show ADc a b c s n=true from decide_eq_true (by omega)];simp only[iN,By,sT,AT,AI,reduceIte,gD,bx,AJ,AO,AN,AQ,l0,l1,l2,l3,l4,AM,AK,Af,hu,c1,c2,c3,c4,c5,c6,c7,c8,c9,lV0]
         ·have c9:iLe (n:Int) 65536=false:=QH k9
          rw[show ADc a b c s n=false from decide_eq_false (by omega)];simp only[iN,By,sT,AT,AI,reduceIte,gD,bx,AJ,AO,AN,AQ,l0,l1,l2,l3,l4,AM,AK,Af,hu,c1,c2,c3,c4,c5,c6,c7,c8,c9,lV0]
        ·have c8:iEq (s:Int) 2=false:=DL k8
         rw[show ADc a b c s n=false from decide_eq_false (by omega)];simp only[iN,By,sT,AT,AI,reduceIte,gD,bx,AJ,AO,AN,AQ,l0,l1,l2,l3,l4,AM,AK,Af,hu,c1,c2,c3,c4,c5,c6,c7,c8,lV0]
      ·have c6:iLe c 1099511627776=false:=QH k6
       rw[show ADc a b c s n=false from decide_eq_false (by omega)];simp only[iN,By,sT,AT,AI,reduceIte,gD,bx,AJ,AO,AN,AQ,l0,l1,l2,l3,l4,AM,AK,Af,hu,c1,c2,c3,c4,c5,c6,lV0]
     ·have c5:iGe c 1=false:=FL k5
      rw[show ADc a b c s n=false from decide_eq_false (by omega)];simp only[iN,By,sT,AT,AI,reduceIte,gD,bx,AJ,AO,AN,AQ,l0,l1,l2,l3,l4,AM,AK,Af,hu,c1,c2,c3,c4,c5,lV0]
    ·have c4:iLt b 255=false:=HI k4
     rw[show ADc a b c s n=false from decide_eq_false (by omega)];simp only[iN,By,sT,AT,AI,reduceIte,gD,bx,AJ,AO,AN,AQ,l0,l1,l2,l3,l4,AM,AK,Af,hu,c1,c2,c3,c4,lV0]
   ·have c3:iGe b 0=false:=FL k3
    rw[show ADc a b c s n=false from decide_eq_false (by omega)];simp only[iN,By,sT,AT,AI,reduceIte,gD,bx,AJ,AO,AN,AQ,l0,l1,l2,l3,l4,AM,AK,Af,hu,c1,c2,c3,lV0]
  ·have c2:iLe a 1099511627776=false:=QH k2
   rw[show ADc a b c s n=false from decide_eq_false (by omega)];simp only[iN,By,sT,AT,AI,reduceIte,gD,bx,AJ,AO,AN,AQ,l0,l1,l2,l3,l4,AM,AK,Af,hu,c1,c2,lV0]
 ·have c1:iGe a 0=false:=FL k1
  rw[show ADc a b c s n=false from decide_eq_false (by omega)];simp only[iN,By,sT,AT,AI,reduceIte,gD,bx,AJ,AO,AN,AQ,l0,l1,l2,l3,l4,AM,AK,Af,hu,c1,lV0]
theorem JY{n:Nat}{h:Hp}(W:h.Wf){a b c:Int}{s m:Nat}{u:BY}(hu:∀ g,AEL u g=.ok (.int .i64 (m:Int)) g):call AD (n+1) 40 [Bz a b c s u] h=.ok (.bool (ADc a b c s m)) (h.ADR 0 (Aq a b c s u)):=by
 rw[kI rfl];exact TL W hu
def N2(z:Int):Nat:=if z<0∨65536<z then 0 else 1+(z.toNat+63)/64
theorem ml{F:ADS}{e:Env}{h:Hp}{x y:O}{k j:IntKind}{a b:Int}(hx:x e=.int k a)(hy:y e=.int j b):Wh x y F e h=.ok (.int k (min a b)) h:=by
 show HS true (x e) (y e) h=_;rw[hx,hy];show(bif iLt b a then R.ok (.int k b) h else .ok (.int k a) h)=_;rw[Cs];rcases ACq b a with hlt|hle
 ·rw[decide_eq_true hlt,Int.min_eq_right (by omega)];rfl
 ·rw[decide_eq_false (by omega),Int.min_eq_left hle];rfl
theorem VA{n:Nat}{h:Hp}{z:Int}:call AD (n+1) 57 [.int .i64 z] h=.ok (.int .i64 (N2 z:Nat)) h:=by
 rw[kS rfl];unfold d57;by_cases k1:z<0
 ·have c1:iLt z 0=true:=MH k1
  rw[show N2 z=0 from if_pos (by omega)];simp only[iN,By,sT,AT,AI,reduceIte,gD,AM,AK,c1,lV0];rfl
 ·have c1:iLt z 0=false:=HI k1
  by_cases k2:65536<z
  ·have c2:iGt z 65536=true:=FM k2
   rw[show N2 z=0 from if_pos (by omega)];simp only[iN,By,sT,AT,AI,reduceIte,gD,AM,AK,c1,c2,lV0];rfl
  ·have c2:iGt z 65536=false:=Eq k2
   obtain⟨m,rfl⟩:=xe (show 0≤z by omega);have a1:FH .i64 (.int .i64 (m:Int)) (.int .i64 64) h=.ok (.int .i64 ((m+64:Nat):Int)) h:=by
    rw[Ee,show(m:Int)+64=((m+64:Nat):Int)by omega,BW (by omega)]
   have a2:Fc wA .i64 (.int .i64 ((m+64:Nat):Int)) (.int .i64 1) h=.ok (.int .i64 ((m+63:Nat):Int)) h:=by
    have:wA ((m+64:Nat):Int) 1=((m+63:Nat):Int):=by show((m+64:Nat):Int) - 1=_;omega
    rw[CZ,this,BW (by omega)]
   have a3:OR .i64 (.int .i64 ((m+63:Nat):Int)) (.int .i64 64) h=.ok (.int .i64 (((m+63)/64:Nat):Int)) h:=by
    have:xH.wrap (((m+63:Nat):Int).tdiv 64)=(((m+63)/64:Nat):Int):=BW (n:=(m+63)/64) (by omega);rw[I5 (by omega),this]
   have a4:FH .i64 (.int .i64 1) (.int .i64 (((m+63)/64:Nat):Int)) h=.ok (.int .i64 ((N2 (m:Int):Nat):Int)) h:=by
    rw[show N2 (m:Int)=1+((m:Int).toNat+63)/64 from if_neg (by omega),wP,Ee,show(1:Int)+(((m+63)/64:Nat):Int)=((1+(m+63)/64:Nat):Int)by omega,BW (by omega)]
   simp only[iN,By,sT,AT,AI,reduceIte,gD,AM,AK,c1,c2,BF,a1,Br,a2,H3,a3,a4,lV0]
end
noncomputable section
open Go
set_option maxRecDepth 100000
def B7(a b c s m t:Nat):List Nat:=[s,a,b,c,m,t]
theorem ZI{a b c s m t:Nat}(ha:a≤1099511627776)(hb:b<255)(hc:c≤1099511627776)(hs:s<256)(hm:m≤65536)(ht:t<4294967296):∀ v∈B7 a b c s m t,v<18446744073709551616:=fun v hv=>by
 unfold B7 at hv;simp only[List.mem_cons,List.mem_nil_iff,or_false]at hv;omega
theorem Np{a b c s m t:Nat}(ha:a≤1099511627776)(hb:b<255)(hc:c≤1099511627776)(hs:s<256)(hm:m≤65536)(ht:t<4294967296):(Bt (B7 a b c s m t)).length≤40:=by
 have h1:=Dx 1 s (by show s<16384;omega);have h2:=Dx 5 a (by show a<4398046511104;omega);have h3:=Dx 1 b (by show b<16384;omega);have h4:=Dx 5 c (by show c<4398046511104;omega);have h5:=Dx 2 m (by show m<2097152;omega);have h6:=Dx 4 t (by show t<34359738368;omega);show(B3 s++(B3 a++(B3 b++(B3 c++(B3 m++(B3 t++[])))))).length≤40;simp only[IT,wB];omega
theorem J1{k:IntKind}{n:Nat}(hn:n≤18446744073709551615){h:Hp}:DH .u64 (.int k (n:Int)) h=.ok (.int .u64 (n:Int)) h:=by rw[CU,EI hn]
def tF(T:List Nat)(a b c:Int)(s:Nat)(l:List Nat)(h h':Hp)(r:R):Prop:=(ADc a b c s l.length=true∧∃ v,r=.ok (.tuple ⟨[v,.int .i64 0]⟩) h'∧Mk h' h.next v (EM T (K7 (B7 a.toNat b.toNat c.toNat s l.length (B5 T l)))))∨(ADc a b c s l.length=false∧r=.ok (.tuple ⟨[.slice none 0 0,.int .i64 2]⟩) h')
end
noncomputable section
open Go
set_option maxRecDepth 100000
def nv(n:Nat):BY:=.int .u64 (n:Int)
theorem Hp.Own.apart{h:Hp}{k en b:Nat}{v:BY}{xs:List BY}(o:h.Own k en v xs)(hb:b<k):¬ ADv v b:=by
 rcases o with ⟨rfl,_⟩|⟨c,rfl,_,h3,_⟩
 ·exact F9
 ·exact LG (by omega)
theorem Wo{h0 h:Hp}{k n:Nat}{v:BY}{xs:List Nat}(x0:h0.Ext h)(hk:h0.next≤k)(hk2:k≤h.next)(o:h.Own k 5 v (xs.map bv))(hn:0<n)(hm:xs.length+n≤1000000):
  ∃ h' v',Hj 1 1 5 ty5.zero v (.ok n) h=.ok v' h'∧h0.Ext h'∧h'.Own k 5 v' ((xs++vL n 0).map bv)∧h.next≤h'.next:=by
 have W:=x0.wf;have hz:Bd ty5.zero=true:=by kernel_rfl
 have hyl:((vL n 0).map bv).length=n:=by simp
 rw[v8];have hx:(xs.map bv).length=xs.length:=If ..;generalize hY:(vL n 0).map bv=ys at hyl;rcases o with ⟨rfl,AF3⟩|⟨b,rfl,r,hb,hb2⟩
 ·rw[AF3]
  obtain⟨t1,t2⟩:=HV ys;refine⟨h.push (.cells (ofL ys) ys.length 6),.slice (some ⟨h.next,0,none⟩) ys.length ys.length,?_,x0.push _,.inr ⟨h.next,rfl,⟨ofL ys,by rw[W.ADs,if_pos rfl];rfl,t2⟩,hk2,W.big⟩,ACM _⟩;unfold Hj;simp only[AZ,wd,sh];have e1:vJ n 0=false:=by
   cases e:vJ n 0
   ·rfl
   ·have:=Ab.1 e;omega
  have e2:vJ (vr (vD n) (vD 1)) JN=true:=Ab.2 (Hw (by show(n+1)*2≤1099511627776;omega));rw[e1];simp only[e2,cond_true,hz,LV,hY];unfold Gw BH JH;simp only[wL,t1];unfold Ep;simp only[BI];unfold CE;rw[AZ,Cp W,hyl];rfl
 ·obtain⟨cc,hcc,hl⟩:=r.rowOf
  rw[hx]at hcc;obtain⟨t,h2,h3⟩:=Dw ys cc (xs.map bv) xs.length hl (.inr hx.symm);have h3:t.Is (xs.map bv++ys):=by
   have e:(xs.map bv).drop (xs.length+ys.length)=[]:=wR (by omega);have e':(xs.map bv).take xs.length=xs.map bv:=xy (by omega);rw[e,e']at h3
   simpa using h3
  have hlen:(xs.map bv++ys).length=xs.length+n:=by rw[IT,hx,hyl]
  have hlt:=r.lt W;have W1:(h.put b .dead).Wf:=W.put hlt _;have x1:h0.Ext (h.put b .dead):=x0.put (by omega) hlt _;refine⟨(h.put b .dead).push (.cells t (xs.length+n) 6),.slice (some ⟨h.next,0,none⟩) (xs.length+n) (xs.length+n),?_,x1.push _,.inr ⟨h.next,by rw[hlen],⟨t,by
   have:=W1.ADs (.cells t (xs.length+n) 6) h.next;rw[this,if_pos (show h.next=(h.put b .dead).next from rfl),hlen],h3⟩,hk2,W.big⟩,ACM _⟩
  rw[hx];unfold Hj;simp only[AZ,wd];have e1:vJ (xs.length+n) xs.length=false:=by
   cases e:vJ (xs.length+n) xs.length
   ·rfl
   ·have:=Ab.1 e;omega
  have e2:vJ (vr (vD (xs.length+n)) (vD 1)) JN=true:=Ab.2 (Hw (by show(xs.length+n+1)*2≤1099511627776;omega));rw[e1];simp only[e2,cond_true,hz,LV,hY];unfold Gw;have e3:vO xs.length (vr xs.length 1)=true:=Am.2 (xd _).symm;simp only[hcc,e3,h2];unfold Ep;have e4:Kf 0 xs.length 1 xs.length=true:=by
   unfold Kf;cases xs.length with
   |zero=>rfl
   |succ n=>exact Am.2 (by show 0+(n+1)*1=n+1;omega)
  simp only[hcc,BI,wd,wz,cond_true,e4];rw[Df W hb2 hlt];unfold CE;rw[AZ,Cp W1,hyl];rfl
theorem Ql{F:ADS}{e:Env}{h:Hp}{x y:O}{n:Nat}{v:BY}(hx:x e=v)(hy:y e=.int .i64 (n:Int)):FQ 1 1 5 ty5.zero x y F e h=Hj 1 1 5 ty5.zero v (.ok n) h:=by
 unfold FQ;rw[hx,hy,Cu]
theorem gW:BO Ru.zero 6=[nv 0,nv 0,nv 0,nv 0,nv 0,nv 0]:=by kernel_rfl
theorem Xu{n:Nat}:cellsOf (nv n)=[nv n]:=rfl
theorem Wu{F:ADS}{e:Env}{h:Hp}(W:h.Wf){g1 g2 g3 g4 g5 g6:O}{a b c d i j:Nat}(h1:g1 e=nv a)(h2:g2 e=nv b)(h3:g3 e=nv c)(h4:g4 e=nv d)(h5:g5 e=nv i)(h6:g6 e=nv j):
  Ak 6 (BO Ru.zero 6) [(0,1,g1),(1,1,g2),(2,1,g3),(3,1,g4),(4,1,g5),(5,1,g6)] F e h=.ok (.slice (some ⟨h.next,0,none⟩) 6 6) (h.ADR 0 ([a,b,c,d,i,j].map nv)):=by
 rw[Ce,gW,BD (hk:=by rw[h1];rfl),h1,BD (hk:=by rw[h2];rfl),h2,BD (hk:=by rw[h3];rfl),h3,BD (hk:=by rw[h4];rfl),h4,BD (hk:=by rw[h5];rfl),h5,BD (hk:=by rw[h6];rfl),h6];simp only[Xu,wU,vI,wB,over,ACp,ACP,ABB,wL,zK,By,AAl,if_true,CP,reduceIte];rw[Cv W];rfl
theorem mM:heS=BK (Ad 0 (Ay heB)) heE:=rfl
theorem YC:d44=YD:=rfl
theorem dS{n:Nat}{h0 h:Hp}(x0:h0.Ext h){b6:Nat}(hb6:b6<h.next)(hk:h0.next≤h.next){ns:List Nat}(R6:h.Row b6 0 (ns.map nv))(hns:∀ v∈ns,v<18446744073709551616)(h6:ns.length=6){p:BY}{e:Env}
  (s0:AB 0 e=p)(s6:AB 6 e=.slice none 0 0)(s33:AB 33 e=.slice (some ⟨b6,0,none⟩) 6 6)(s34:AB 34 e=.int .i64 6)(s35:AB 35 e=.int .i64 ((0:Nat):Int)):
  ∃ e' h' v,Ay heB (call AD (n+1)) e h=.exit 0 e' h'∧h0.Ext h'∧h'.Own h.next 5 v ((Bt ns).map bv)∧AB 0 e'=p∧AB 6 e'=v∧h.next≤h'.next:=by
 refine BU (I:=fun i e' h'=>∃ v,h0.Ext h'∧h'.Own h.next 5 v ((Bt (ns.take i)).map bv)∧h'.Row b6 0 (ns.map nv)∧AB 0 e'=p∧AB 6 e'=v∧AB 33 e'=.slice (some ⟨b6,0,none⟩) 6 6∧AB 34 e'=.int .i64 6∧AB 35 e'=.int .i64 (i:Int)∧h.next≤h'.next∧i≤6)
  (Q:=fun x=>∃ e' h' v,x=.exit 0 e' h'∧h0.Ext h'∧h'.Own h.next 5 v ((Bt ns).map bv)∧AB 0 e'=p∧AB 6 e'=v∧h.next≤h'.next) 6 (by omega) (fun i e' h' ⟨v,x',o',R',t0,t6,t33,t34,t35,hn,hi⟩=>?_)
  ⟨_,x0,.inl ⟨rfl,rfl⟩,R6,s0,s6,s33,s34,s35,IN _,by omega⟩
 by_cases hlt:i<6
 ·left
  have c1:iLt (i:Int) 6=true:=Es (b:=6) hlt;have hil:i<ns.length:=by omega
  have i1:AEP 1 (.slice (some ⟨b6,0,none⟩) 6 6) (.int .i64 (i:Int)) h'=.ok (.pointer (some ⟨b6,i,none⟩)) h':=by
   have:=DD (h:=h') (n:=6) (c:=6) (es:=1) (b:=b6) (off:=0) (i:=i) (k:=.i64) hlt
   rwa [sh,xd]at this
  have l1:ADW ⟨b6,i,none⟩ h'=.ok (.int .u64 ((ns[i]'hil:Nat):Int)) h':=by
   rw[R'.ADW (off:=i) (by rw[If];exact hil),OF,wN,No hil];rfl
  have htl:(Bt (ns.take i)).length≤1000000:=by
   have h1:=Io (ns:=ns.take i) fun v hv=>hns v (wu hv)
   rw[vp]at h1;omega
  obtain⟨h2,v2,k2,x2,o2,hn2,fr⟩:=gR (n:=n) x' hk hn o' htl (hns _ (zJ hil));have a3:=CH (i:=i) (h:=h2) (by omega);have R2:=(fr b6 0 _ (o'.apart hb6) R').1;have htk:Bt (ns.take i)++B3 (ns[i]'hil)=Bt (ns.take (i+1)):=by
   rw[List.take_succ_eq_append_getElem hil,TY];show _=_++(B3 _++[]);rw[vR]
  rw[htk]at o2;have hrun:∃ e2,heB (call AD (n+1)) e' h'=.norm e2 h2∧AB 0 e2=p∧AB 6 e2=v2∧AB 33 e2=.slice (some ⟨b6,0,none⟩) 6 6∧AB 34 e2=.int .i64 6∧AB 35 e2=.int .i64 ((i+1:Nat):Int):=by
   unfold heB;simp only[sT,AT,AI,reduceIte,AM,AK,t35,t34,c1,A1,t33,i1,AN,AQ,l1,cA0,t6,k2,BF,a3];exact⟨_,rfl,by simp[AF,t0,t33,t34]⟩
  obtain⟨e2,q1,q2,q3,q4,q5,q6⟩:=hrun;exact⟨by omega,e2,h2,q1,v2,x2,o2,R2,q2,q3,q4,q5,q6,by omega,by omega⟩
 ·right
  have hi6:i=6:=by omega
  subst hi6;have c1:iLt ((6:Nat):Int) 6=false:=DE (a:=6) (b:=6) (by omega);have hrun:∃ e2,heB (call AD (n+1)) e' h'=.exit 0 e2 h'∧AB 0 e2=p∧AB 6 e2=v:=by
   unfold heB;simp only[sT,AT,AI,reduceIte,AM,AK,t35,t34,c1];exact⟨_,rfl,by simp[AF,t0,t6]⟩
  obtain⟨e2,q1,q2,q3⟩:=hrun;rw[q1];rw[xy (by omega)]at o';exact⟨rfl,e2,h',v,rfl,x',o',q2,q3,hn⟩
theorem UP{n:Nat}{h:Hp}(W:h.Wf){tb:Nat}{T:List Nat}(R:h.Row tb 0 (T.map wv))(hT:AEM T){a b c:Int}{s:Nat}{u:BY}{l:List Nat}(V:h.ADo u (l.map bv))(hb:∀ x∈l,x<256)(hs:s<256)(hl:l.length≤900000):
  ∃ h',h.Ext h'∧tF T a b c s l h h' (call AD (n+3) 44 [pt tb,Bz a b c s u] h):=by
 have x1:=(Hp.Ext.refl W).ADR 0 (Aq a b c s u);have R1:=Hp.Row.new W 0 (Aq a b c s u);have bx:∀ e:Env,AB 1 e=Bz a b c s u→C7 (AB 1) (call AD (n+2)) e h=.ok (.pointer (some ⟨h.next,0,none⟩)) (h.ADR 0 (Aq a b c s u)):=fun e he=>RX W he
 have n1:(h.ADR 0 (Aq a b c s u)).next=h.next+1:=rfl;generalize h.ADR 0 (Aq a b c s u)=h1 at x1 R1 bx n1;obtain⟨_,_,_,_,_,ln⟩:=Bc R1;have k1:=JY (n:=n+1) x1.wf (a:=a) (b:=b) (c:=c) (s:=s) (u:=u) V.bl;have y2:=(Hp.Ext.refl x1.wf).ADR 0 (Aq a b c s u);have n2:(h1.ADR 0 (Aq a b c s u)).next=h1.next+1:=rfl;generalize h1.ADR 0 (Aq a b c s u)=h2 at y2 k1 n2;have x2:=x1.trans y2;cases hr:ADc a b c s l.length with
 |false=>
  rw[hr]at k1;refine⟨h2,x2,.inr ⟨hr,?_⟩⟩;rw[Xc rfl,YC];unfold YD;simp only[iN,By,sT,AT,AI,reduceIte,bx,Aw,Ar,ln,cA0,k1,Bj,Bh,wm,Be,DB]
 |true=>
  rw[hr]at k1;obtain⟨ha1,ha2,hb1,hb2,hc1,hc2,hs2,hm⟩:=of_decide_eq_true hr;have xm:=x2.marked;have R2:h2.marked.Row h.next 0 (Aq a b c s u):=(R1.ext x1.wf y2).same rfl;obtain⟨m0,m1,m2,m3,m4,_⟩:=Bc R2;have hmk:h.next<h2.marked.mark:=by show h.next<h2.next;omega
  have old:∀ (off:Nat) (k:C) (F:ADS) (e:Env),Ih (.pointer (some ⟨h.next,off,none⟩)) k F e h2.marked=k F e h2.marked:=fun off k F e=>DZ hmk
  have Vl:=V.bl h2.marked;obtain⟨a',rfl⟩:=xe ha1;obtain⟨b',rfl⟩:=xe hb1;obtain⟨c',rfl⟩:=xe (show 0≤c by omega);have cs:=J1 (k:=.u8) (n:=s) (by omega) (h:=h2.marked);have ca:=J1 (k:=.i64) (n:=a') (by omega) (h:=h2.marked);have cb:=J1 (k:=.i64) (n:=b') (by omega) (h:=h2.marked);have cc:=J1 (k:=.i64) (n:=c') (by omega) (h:=h2.marked);have cm:=J1 (k:=.i64) (n:=l.length) (by omega) (h:=h2.marked);obtain⟨hq,kq,hq2⟩:=TT (n:=n+1) (h:=h2.marked.quiet) (R.ext W xm.quiet) hT (V.ext W xm.quiet) hb hl;have yq:h2.marked.quiet.Ext hq:=by
   rcases hq2 with rfl|rfl
   ·exact Hp.Ext.refl xm.quiet.wf
   ·exact(Hp.Ext.refl xm.quiet.wf).marked
  have nq:hq.next=h2.next:=by rcases hq2 with rfl|rfl<;>rfl
  have q1:∀ e:Env,AB 0 e=pt tb→AB 30 e=u→Al .weak (AU 71 [AB 0,AB 30]) (call AD (n+2)) e h2.marked=.ok (.int .u32 ((B5 T l:Nat):Int)) (h2.marked.back hq):=fun e h0 h6=>by
   refine DF ?_ yq (IN _);rw[BV,AW,AW,Az,h0,h6];exact kq
  have yb:h2.marked.Ext (h2.marked.back hq):=Hp.Ext.back yq;have nb:(h2.marked.back hq).next=h2.next:=nq;have mb:(h2.marked.back hq).mark=h2.next:=rfl;generalize h2.marked.back hq=h3 at q1 yb nb mb;have x3:=xm.trans yb;have ct:=J1 (k:=.u32) (n:=B5 T l) (by have:=IC T l;omega) (h:=h3);have y4:h3.quiet.Ext (h3.quiet.ADR 0 ((B7 a' b' c' s l.length (B5 T l)).map nv)):=(Hp.Ext.refl x3.quiet.wf).ADR _ _;have R4:=Hp.Row.new x3.quiet.wf 0 ((B7 a' b' c' s l.length (B5 T l)).map nv);have q2:∀ (F:ADS) (e:Env),AB 14 e=nv s→AB 17 e=nv a'→AB 20 e=nv b'→AB 23 e=nv c'→AB 27 e=nv l.length→AB 32 e=nv (B5 T l)→
    Al .ADk (Ak 6 (BO Ru.zero 6) [(0,1,AB 14),(1,1,AB 17),(2,1,AB 20),(3,1,AB 23),(4,1,AB 27),(5,1,AB 32)]) F e h3=.ok (.slice (some ⟨h3.next,0,none⟩) 6 6) (h3.back (h3.quiet.ADR 0 ((B7 a' b' c' s l.length (B5 T l)).map nv))):=fun F e e1 e2 e3 e4 e5 e6=>
   DF (Wu x3.quiet.wf e1 e2 e3 e4 e5 e6) y4 (by omega)
  have z4:h3.Ext (h3.back (h3.quiet.ADR 0 ((B7 a' b' c' s l.length (B5 T l)).map nv))):=Hp.Ext.back y4;have n4:(h3.back (h3.quiet.ADR 0 ((B7 a' b' c' s l.length (B5 T l)).map nv))).next=h3.next+1:=rfl;have R5:(h3.back (h3.quiet.ADR 0 ((B7 a' b' c' s l.length (B5 T l)).map nv))).Row h3.next 0 ((B7 a' b' c' s l.length (B5 T l)).map nv):=R4.same rfl;generalize h3.back (h3.quiet.ADR 0 ((B7 a' b' c' s l.length (B5 T l)).map nv))=h4 at q2 z4 n4 R5;have x4:=x3.trans z4;have hnl:=ZI (a:=a') (b:=b') (c:=c') (s:=s) (m:=l.length) (t:=B5 T l) (by omega) (by omega) (by omega) hs (by omega) (IC T l);have hl7:=Np (a:=a') (b:=b') (c:=c') (s:=s) (m:=l.length) (t:=B5 T l) (by omega) (by omega) (by omega) hs (by omega) (IC T l);have pre:∃ e1,YD (call AD (n+2)) (AS e0 0 [pt tb,Bz (a':Int) (b':Int) (c':Int) s u]) h=heS (call AD (n+2)) e1 h4∧AB 0 e1=pt tb∧AB 6 e1=.slice none 0 0∧AB 33 e1=.slice (some ⟨h3.next,0,none⟩) 6 6∧AB 34 e1=.int .i64 6∧AB 35 e1=.int .i64 ((0:Nat):Int):=by
   have cs:DH .u64 (.int .u8 (s:Int)) h2.marked=.ok (nv s) h2.marked:=cs;have ca:DH .u64 (.int .i64 (a':Int)) h2.marked=.ok (nv a') h2.marked:=ca;have cb:DH .u64 (.int .i64 (b':Int)) h2.marked=.ok (nv b') h2.marked:=cb;have cc:DH .u64 (.int .i64 (c':Int)) h2.marked=.ok (nv c') h2.marked:=cc;have cm:DH .u64 (.int .i64 (l.length:Int)) h2.marked=.ok (nv l.length) h2.marked:=cm;have ct:DH .u64 (.int .u32 ((B5 T l:Nat):Int)) h3=.ok (nv (B5 T l)) h3:=ct;unfold YD;simp only[iN,By,sT,AT,AI,reduceIte,bx,Aw,Ar,ln,cA0,k1,Bj,Bh,wQ,A3,AJ,AO,D0,old,DT,AN,AQ,m0,m1,m2,m3,m4,B8,cs,ca,cb,cc,Af,Vl,cm,q1,ct,q2,FO];exact⟨_,rfl,by simp[AF]⟩
  obtain⟨e1,p1,p2,p3,p4,p5,p6⟩:=pre;obtain⟨e2,h5,v5,r1,x5,o5,r2,r3,n5⟩:=dS (n:=n+1) x4 (b6:=h3.next) (by omega) x4.next R5 hnl rfl p2 p3 p4 p5 p6;have Vl5:=o5.vals.bl h5;have a1:Fc wA .i64 (.int .i64 60) (.int .i64 ((Bt (B7 a' b' c' s l.length (B5 T l))).length:Int)) h5=.ok (.int .i64 ((60 - (Bt (B7 a' b' c' s l.length (B5 T l))).length:Nat):Int)) h5:=by
   have:wA 60 ((Bt (B7 a' b' c' s l.length (B5 T l))).length:Int)=((60 - (Bt (B7 a' b' c' s l.length (B5 T l))).length:Nat):Int):=by
    show(60:Int) - _=_;omega
   rw[CZ,this,BW (by omega)]
  obtain⟨h6,v6,k6,x6,o6,n6⟩:=Wo x5 (k:=h4.next) x4.next n5 o5 (n:=60 - (Bt (B7 a' b' c' s l.length (B5 T l))).length) (by omega) (by omega);have ap:∀ (F:ADS) (e:Env),AB 6 e=v5→AB 47 e=.int .i64 ((60 - (Bt (B7 a' b' c' s l.length (B5 T l))).length:Nat):Int)→FQ 1 1 5 ty5.zero (AB 6) (AB 47) F e h5=.ok v6 h6:=fun F e e1 e2=>(Ql e1 e2).trans k6
  have hpl:=Mh (l:=Bt (B7 a' b' c' s l.length (B5 T l))) (by omega);have Vp:h6.ADo v6 ((O6 (Bt (B7 a' b' c' s l.length (B5 T l)))).map bv):=o6.vals;obtain⟨h7,w,k7,y7,m7⟩:=U5 (n:=n) x6.wf (R.ext W x6) hT Vp (Uy N9) (by omega);refine⟨h7,x6.trans y7,.inl ⟨hr,w,?_,?_⟩⟩
  ·rw[Xc rfl,YC,p1,mM]
   simp only[BE,Ax,r1,A2,BA];unfold heE;simp only[sT,AT,AI,reduceIte,Af,r3,Vl5,Br,a1,ap,cA0,r2,k7,Be,DB]
  ·rw[wP,wP,wP]
   exact m7.le x6.next
end
noncomputable section
open Go
set_option maxRecDepth 100000
abbrev ADj:BY:=.slice none 0 0
def okT(ns:List Nat):BY:=.tuple ⟨[Bz (at6 ns 1) (at6 ns 2) (at6 ns 3) (at6 ns 0) ADj,.int .i64 (at6 ns 4:Nat),.int .u32 (at6 ns 5:Nat),.bool true]⟩
def noT:BY:=.tuple ⟨[Bz 0 0 0 0 ADj,.int .i64 0,.int .u32 0,.bool false]⟩
theorem Ta:G1.zero=Aq 0 0 0 0 ADj:=by kernel_rfl
theorem Ei:Bx .mt 0 (Aq 0 0 0 0 ADj)=some Cc:=by kernel_rfl
theorem bM:Bx .mt 0 ([0,0,0,0,0,0].map nv)=some OC:=by kernel_rfl
theorem J8{e:Env}{h:Hp}{g g1 g2 g3:O}{n:Nat}{v:BY}(hv:Oq n (g e) h=.ok v h):E0 [.cN g n,.t g1,.t g2,.t g3] e h=.ok (.tuple ⟨[v,g1 e,g2 e,g3 e]⟩) h:=by
 have h1:Gh e h (.cN g n)=.ok v h:=hv;show(match Gh e h (.cN g n)with|.ok v _=>ADf v fun v=>ADf (g1 e) (fun x=>ADf (g2 e) fun y=>ADf (g3 e) fun z=>LJ h [v,x,y,z])|.no=>.no)=_;rw[h1];simp only[BC];rfl
theorem KU{h g:Hp}(W0:h.Wf)(x:h.Ext g){r:Nat}(hr:h.next≤r){L:List BY}(R:g.Row r 0 L)(hL:L.length=5){a b c:Int}{s:Nat}{u:BY}(hu:oneCell u=true):
  ADl 5 (pt r) (Bz a b c s u) g=.ok ADV (g.wr r 0 (Aq a b c s u))∧loadN 5 ⟨r,0,none⟩ (g.wr r 0 (Aq a b c s u))=.ok (Bz a b c s u) (g.wr r 0 (Aq a b c s u))∧h.Ext (g.wr r 0 (Aq a b c s u))∧(g.wr r 0 (Aq a b c s u)).Row r 0 (Aq a b c s u)∧(g.wr r 0 (Aq a b c s u)).next=g.next:=by
 have ADg:256≤r:=by have:=W0.big;omega
 have ho:0+(Aq a b c s u).length≤L.length:=by rw[hL];show 0+5≤5;omega
 have h1:Bd (Aq a b c s u)=true:=by
  show(bif oneCell u then true else false)=true;rw[hu];rfl
 have st:=R.ADl (n:=5) (off:=0) x.wf ADg (v:=Bz a b c s u) rfl ho h1;have wr:=R.ADm x.wf ho;rw[KT (show L.length=(Aq a b c s u).length from hL)]at wr;exact⟨st,(Bc wr).2.2.2.2.2,R.AD5 x hr ho,wr,R.AD9 ho⟩
theorem bo{F:ADS}{e:Env}{h:Hp}{g1 g2 g3 g4:O}{a b c:Int}{s:Nat}(h1:g1 e=.int .u8 (s:Int))(h2:g2 e=.int .i64 a)(h3:g3 e=.int .i64 b)(h4:g4 e=.int .i64 c):
  Bs G1.zero [(3,1,g1),(0,1,g2),(1,1,g3),(2,1,g4)] F e h=.ok (Bz a b c s ADj) h:=by
 rw[EZ,Ta,BD (hk:=by rw[h1];rfl),h1,BD (hk:=by rw[h2];rfl),h2,BD (hk:=by rw[h3];rfl),h3,BD (hk:=by rw[h4];rfl),h4];simp only[Dc,wU,vI,wB,Aq,over,ACp,ACP,ABB,wL,zK,By,AAl,if_true,CP,reduceIte];rfl
theorem Dt{F:ADS}{e:Env}{h:Hp}:Bs G1.zero [] F e h=.ok (Bz 0 0 0 0 ADj) h:=by
 rw[EZ,CP,Ta];rfl
theorem QI{r k:Nat}(hk:k<6){g:Hp}:M8 6 1 (pt r) (.int .i64 (k:Int)) g=.ok (.pointer (some ⟨r,k,none⟩)) g:=by
 have:=UU (h:=g) (n:=6) (es:=1) (b:=r) (off:=0) (i:=k) (k:=.i64) hk
 rwa [sh,xd]at this
theorem Qi{g:Hp}{r k:Nat}{ns:List Nat}(R:g.Row r 0 (ns.map nv))(h6:ns.length=6)(hk:k<6):ADW ⟨r,k,none⟩ g=.ok (.int .u64 ((at6 ns k:Nat):Int)) g:=by
 have hil:k<ns.length:=by omega
 unfold at6;rw[R.ADW (off:=k) (by rw[If];exact hil),OF,wN,OF,No hil];rfl
abbrev f112:BY:=.func (.func 112) ⟨[]⟩ ⟨[]⟩
theorem XT{n:Nat}{h:Hp}{c:Nat}:call AD (n+1) 112 [.int .u8 (c:Int)] h=.ok (.bool (iNe (c:Int) 0)) h:=by
 rw[bz rfl];unfold cV;simp only[iN,By,sT,AT,AI,reduceIte,AM,AK,lV0]
theorem Oc:ifS=BK (Ad 0 (Ay ifB)) ifE:=rfl
theorem LI:cT=NO:=rfl
theorem dW{n:Nat}{h:Hp}{u:BY}{l:List Nat}(V:h.ADo u (l.map bv))(hl:l.length≤900000){e:Env}(s0:AB 0 e=u)(s1:AB 1 e=f112)(s7:AB 7 e=.int .i64 (l.length:Int))(s8:AB 8 e=.int .i64 ((0:Nat):Int)):
  (∃ e',Ay ifB (call AD (n+1)) e h=.exit 0 e' h∧∀ x∈l,x=0)∨(∃ e' i,Ay ifB (call AD (n+1)) e h=.ret e' h∧AB 4 e'=.int .i64 ((i:Nat):Int)∧∃ x∈l,x≠0):=by
 refine BU (I:=fun i e' h'=>h'=h∧AB 0 e'=u∧AB 1 e'=f112∧AB 7 e'=.int .i64 (l.length:Int)∧AB 8 e'=.int .i64 (i:Int)∧i≤l.length∧((∀ x∈l,x=0)↔∀ x∈l.drop i,x=0))
  (Q:=fun x=>(∃ e',x=.exit 0 e' h∧∀ x∈l,x=0)∨(∃ e' i,x=.ret e' h∧AB 4 e'=.int .i64 ((i:Nat):Int)∧∃ x∈l,x≠0)) l.length (by omega) (fun i e' h' ⟨hh,t0,t1,t7,t8,hi,hr⟩=>?_) ⟨rfl,s0,s1,s7,s8,vi _,by simp⟩
 subst hh;by_cases hlt:i<l.length
 ·obtain⟨a,g1,g2⟩:=Ir V hlt
  have hmem:l.getD i 0∈l:=by
   rw[OF,No hlt];exact zJ hlt
  rw[GB hlt]at hr;generalize l.getD i 0=c at g2 hr hmem;have c1:=Es hlt;have k1:=XT (n:=n) (h:=h') (c:=c);by_cases hc:c=0
  ·left
   subst hc;have k1:call AD (n+1) 112 [.int .u8 ((0:Nat):Int)] h'=.ok (.bool false) h':=k1;have a3:=CH (i:=i) (h:=h') (by omega);have hrun:∃ e2,ifB (call AD (n+1)) e' h'=.norm e2 h'∧AB 0 e2=u∧AB 1 e2=f112∧AB 7 e2=.int .i64 (l.length:Int)∧AB 8 e2=.int .i64 ((i+1:Nat):Int):=by
    unfold ifB;simp only[sT,AT,AI,reduceIte,AM,AK,t8,t7,c1,A1,t0,g1,AN,g2,CR,t1,B9,AW,Az,wL,vR,k1,BF,a3];exact⟨_,rfl,by simp[AF,t0,t1,t7]⟩
   obtain⟨e2,q1,q2,q3,q4,q5⟩:=hrun;refine⟨hlt,e2,h',q1,rfl,q2,q3,q4,q5,hlt,hr.trans ?_⟩;simp
  ·right
   have c2:iNe (c:Int) 0=true:=by rw[HJ];simpa using hc
   rw[c2]at k1;have hrun:∃ e2,ifB (call AD (n+1)) e' h'=.ret e2 h'∧AB 4 e2=.int .i64 (i:Int):=by
    unfold ifB;simp only[sT,AT,AI,reduceIte,AM,AK,t8,t7,c1,A1,t0,g1,AN,g2,CR,t1,B9,AW,Az,wL,vR,k1];exact⟨_,rfl,by simp[AF]⟩
   obtain⟨e2,q1,q2⟩:=hrun;rw[q1];exact⟨rfl,.inr ⟨e2,i,rfl,q2,c,hmem,hc⟩⟩
 ·right
  have c1:=DE (show l.length≤i by omega);have hrun:∃ e2,ifB (call AD (n+1)) e' h'=.exit 0 e2 h':=by
   unfold ifB;simp only[sT,AT,AI,reduceIte,AM,AK,t8,t7,c1];exact⟨_,rfl⟩
  obtain⟨e2,q1⟩:=hrun;rw[q1];refine⟨rfl,.inl ⟨e2,rfl,hr.2 ?_⟩⟩;rw[wR (by omega)];intro x hx;cases hx
theorem Vg{n:Nat}{h:Hp}{u:BY}{l:List Nat}(V:h.ADo u (l.map bv))(hl:l.length≤900000):∃ r:Bool,call AD (n+3) 85 [u,f112] h=.ok (.bool r) h∧(r=true↔∃ x∈l,x≠0):=by
 have Vl:=V.bl h;have pre:∃ e1,NO (call AD (n+1)) (AS e0 0 [u,f112]) h=ifS (call AD (n+1)) e1 h∧AB 0 e1=u∧AB 1 e1=f112∧AB 7 e1=.int .i64 (l.length:Int)∧AB 8 e1=.int .i64 ((0:Nat):Int):=by
  unfold NO;simp only[iN,By,sT,AT,AI,reduceIte,Af,Vl];exact⟨_,rfl,by simp[AF]⟩
 obtain⟨e1,p1,p2,p3,p4,p5⟩:=pre;rcases dW (n:=n) V hl p2 p3 p4 p5 with ⟨e2,q1,q2⟩|⟨e2,i,q1,q2,q3⟩
 ·have k1:call AD (n+2) 109 [u,f112] h=.ok (.int .i64 (-1)) h:=by
   rw[LH rfl,LI,p1,Oc];simp only[BE,Ax,q1,A2,BA];unfold ifE;simp only[sT,AT,AI,reduceIte,lV0]
  refine⟨false,?_,by simp;exact q2⟩;have c1:iGe (-1) 0=false:=FL (by omega);rw[OP rfl];unfold d85;simp only[iN,By,sT,AT,AI,reduceIte,cA0,k1,AM,AK,c1,lV0]
 ·have k1:call AD (n+2) 109 [u,f112] h=.ok (.int .i64 (i:Int)) h:=by
   rw[LH rfl,LI,p1,Oc];simp only[BE,Ax,q1,B0,CY,lV0,q2]
  refine⟨true,?_,by simp only[true_iff];exact q3⟩;have c1:iGe (i:Int) 0=true:=HG (by omega);rw[OP rfl];unfold d85;simp only[iN,By,sT,AT,AI,reduceIte,cA0,k1,AM,AK,c1,lV0]
theorem Pm{h:Hp}{k m:Nat}{v:BY}{l:List Nat}(M:Mk h k v l)(hm:m≤l.length):∃ w,(∀ (F:ADS) (e:Env) (x y:O),x e=v→y e=.int .i64 (m:Int)→Dp 5 1 x (some y) none none F e h=.ok w h)∧h.ADo w ((l.drop m).map bv):=by
 obtain⟨b,el,hv,hel,Rb,_⟩:=M;have hdl:(l.drop m).length=l.length - m:=wG;have key:∀ (F:ADS) (e:Env) (x y:O),x e=v→y e=.int .i64 (m:Int)→Dp 5 1 x (some y) none none F e h=D7 5 1 (some ⟨b,0,none⟩) false m l.length l.length h:=fun F e x y hx hy=>by
  have hb:∀ K:Nat→R,Cd e (some y) 0 l.length K=K m:=fun K=>by
   show(match Cz (y e)with|.ok n=>(bif vJ n l.length then K n else .no)|.no=>.no)=_;rw[hy,Cu];simp only;rw[Ab.2 hm];rfl
  show(match x e with|.slice a n c=>DG e n c (some y) none none (fun l hh m=>D7 5 1 a false l hh m h)|_=>.no)=_;rw[hx,hv];show Cd e none l.length l.length (fun hh=>Cd e (some y) 0 hh fun l'=>D7 5 1 (some ⟨b,0,none⟩) false l' hh l.length h)=_;show Cd e (some y) 0 l.length (fun l'=>D7 5 1 (some ⟨b,0,none⟩) false l' l.length l.length h)=_;rw[hb]
 have AH7:D7 5 1 (some ⟨b,0,none⟩) false m l.length l.length h=Bg (some ⟨b,0,none⟩) 1 m l.length l.length h:=by
  cases m with
  |zero=>rfl
  |succ m=>
   show(bif En 5 (some ⟨b,0,none⟩) h then Bg (some ⟨b,0,none⟩) 1 (m+1) l.length l.length h else .no)=_;have:En 5 (some ⟨b,0,none⟩) h=true:=by
    obtain⟨cc,hcc,_⟩:=Rb.rowOf;unfold En;simp only[hcc];rcases hel with rfl|rfl<;>rfl
   rw[this];rfl
 rcases vd m l.length with hlt|hge
 ·refine⟨.slice (some ⟨b,m,none⟩) (l.length - m) (l.length - m),?_,.inr ⟨b,m,l.length - m,el,_,by rw[If,hdl],Rb,by rw[If,If,hdl];omega,?_⟩⟩
  ·intro F e x y hx hy
   rw[key F e x y hx hy,AH7];unfold Bg;simp only[AZ];have e1:vO l.length m=false:=by
    cases e:vO l.length m
    ·rfl
    ·have:=Am.1 e;omega
   rw[e1];cases m with
   |zero=>rfl
   |succ m=>
    have e2:vr (m+1) 1=vD m:=xd _;simp only[e2,wd,sh];rfl
  ·rw[If,hdl,← List.map_drop,xy (by rw[If,hdl];exact IN _)]
 ·have hml:m=l.length:=by omega
  subst hml;refine⟨.slice (some ⟨b,0,none⟩) 0 0,?_,.inr ⟨b,0,0,el,_,by rw[AAB];rfl,Rb,by rw[AAB];exact vi _,by rw[AAB];rfl⟩⟩;intro F e x y hx hy;rw[key F e x y hx hy,AH7];unfold Bg;simp only[AZ,Nat.sub_eq,ACm,wz]
end
noncomputable section
open Go
set_option maxRecDepth 100000
theorem TH:paS=BK (Ad 0 (Ay paB)) paE:=rfl
theorem Lx:d87=Pn:=rfl
theorem RI(k:Nat)(l:List Nat)(p:Nat):rdN (k+1) l p=(match Fg 0 0 (l.drop p)with
 |none=>none
 |some (v,j)=>if v≤1099511627776 then(match rdN k l (p+j)with
  |none=>none
  |some (vs,q)=>some (v::vs,q))else none):=rfl
def XF(h:Hp)(r4:Nat)(e:Env)(g:Hp):Prop:=h.Ext g∧AB 4 e=pt r4∧AB 5 e=.int .i64 0∧AB 6 e=.int .u32 0∧AB 7 e=.bool false∧loadN 5 ⟨r4,0,none⟩ g=.ok (Bz 0 0 0 0 ADj) g
theorem fZ{n:Nat}{h hB g:Hp}(W0:h.Wf)(xB:h.Ext hB)(x:hB.Ext g){r4 r10:Nat}(hr4:h.next≤r4)(AI4:hB.next≤r10)(R4:hB.Row r4 0 (Aq 0 0 0 0 ADj)){v:BY}{l:List Nat}(V:hB.ADo v (l.map bv))(hb:∀ x∈l,x<256)(hl:l.length≤900000)
  (R10:g.Row r10 0 ([0,0,0,0,0,0].map nv)){e:Env}(s4:AB 4 e=pt r4)(s8:AB 8 e=v)(s10:AB 10 e=pt r10)(s11:AB 11 e=.int .i64 ((0:Nat):Int))(s29:AB 29 e=.int .i64 ((0:Nat):Int)):
  (∃ e' g' ns q,Ay paB (call AD (n+1)) e g=.exit 0 e' g'∧hB.Ext g'∧g'.Row r10 0 (ns.map nv)∧rdN 6 l 0=some (ns,q)∧AB 4 e'=pt r4∧AB 8 e'=v∧AB 10 e'=pt r10∧AB 11 e'=.int .i64 (q:Int))∨
  (∃ e' g',Ay paB (call AD (n+1)) e g=.ret e' g'∧rdN 6 l 0=none∧XF h r4 e' g'):=by
 have WB:=xB.wf;refine BU (I:=fun i e' g'=>hB.Ext g'∧∃ (ns:List Nat) (Z:List BY) (p:Nat),ns.length=i∧Z.length=6 - i∧g'.Row r10 0 (ns.map nv++Z)∧AB 4 e'=pt r4∧AB 8 e'=v∧AB 10 e'=pt r10∧AB 11 e'=.int .i64 (p:Int)∧AB 29 e'=.int .i64 (i:Int)∧p≤l.length∧i≤6∧
   rdN 6 l 0=(match rdN (6 - i) l p with|none=>none|some (vs,q)=>some (ns++vs,q)))
  (Q:=fun x=>(∃ e' g' ns q,x=.exit 0 e' g'∧hB.Ext g'∧g'.Row r10 0 (ns.map nv)∧rdN 6 l 0=some (ns,q)∧AB 4 e'=pt r4∧AB 8 e'=v∧AB 10 e'=pt r10∧AB 11 e'=.int .i64 (q:Int))∨
   (∃ e' g',x=.ret e' g'∧rdN 6 l 0=none∧XF h r4 e' g')) 6 (by omega) (fun i e' g' ⟨x',ns,Z,p,hns,hZ,R',t4,t8,t10,t11,t29,hp,hi,hr⟩=>?_)
  ⟨x,[],_,0,rfl,rfl,R10,s4,s8,s10,s11,s29,vi _,by omega,by
   rw[ABv];cases rdN 6 l 0 with
   |none=>rfl
   |some y=>rfl⟩
 by_cases hlt:i<6
 ·have W:=x'.wf
  obtain⟨k,hk⟩:∃ k,6 - i=k+1:=⟨5 - i,by omega⟩;obtain⟨z,Z',rfl⟩:∃ z Z',Z=z::Z':=by
   cases Z with
   |nil=>rw[wB]at hZ;omega
   |cons z Z'=>exact⟨z,Z',rfl⟩
  rw[hk,RI k l p]at hr;have c1:iLt (i:Int) 6=true:=Es (b:=6) hlt;obtain⟨a,b,c,k1,G⟩:=mL (n:=n) (V.ext WB x') hb hp (by omega);have i1:=QI (r:=r10) hlt (g:=g');have hal:(ns.map nv).length=i:=by rw[If];exact hns
  have ho:i+[wb .u64 a].length≤(ns.map nv++z::Z').length:=by
   simp only[IT,vI,wB,hal];omega
  have ADg:256≤r10:=by have:=WB.big;omega
  have st:=R'.ADl (n:=1) (off:=i) W ADg (v:=.int .u64 a) rfl ho rfl;rw[Dc]at st;have wr:=R'.ADm W (off:=i) (vs:=[.int .u64 a]) ho;have x2:=R'.AD5 x' AI4 (off:=i) (vs:=[.int .u64 a]) ho;have hov:over (ns.map nv++z::Z') i [.int .u64 a]=ns.map nv++.int .u64 a::Z':=by
   have:=Q4 (A:=ns.map nv) (B:=Z') (x:=z) (y:=.int .u64 a)
   rwa [hal]at this
  rw[hov]at wr;generalize g'.wr r10 i [.int .u64 a]=g2 at st wr x2;have i2:=QI (r:=r10) hlt (g:=g2);have l2:ADW ⟨r10,i,none⟩ g2=.ok (.int .u64 a) g2:=by
   rw[wr.ADW (off:=i) (by simp only[IT,vI,hal];omega),OF,List.getElem?_append_right (by rw[hal];exact IN _),hal,ACm];rfl
  have a3:=CH (i:=i) (h:=g2) (by omega);obtain⟨w1,w2,w3,_,_⟩:=KU W0 (xB.trans x2) hr4 (R4.ext WB x2) rfl (a:=0) (b:=0) (c:=0) (s:=0) (u:=ADj) rfl;have fail:rdN 6 l 0=none→(iNe c 0=true∨iNe c 0=false∧iGt a 1099511627776=true)→∃ e2,paB (call AD (n+1)) e' g'=.ret e2 (g2.wr r4 0 (Aq 0 0 0 0 ADj))∧AB 4 e2=pt r4∧AB 5 e2=.int .i64 0∧AB 6 e2=.int .u32 0∧AB 7 e2=.bool false:=fun _ hc=>by
   unfold paB;rcases hc with c2|⟨c2,c3⟩
   ·simp only[sT,AT,AI,reduceIte,gD,AM,AK,t29,c1,cA0,t8,t11,k1,BL,BR,Ba,C5,C8,t10,i1,Aa,st,c2,Dt,t4,w1]
    exact⟨_,rfl,by simp[AF,t4]⟩
   ·simp only[sT,AT,AI,reduceIte,gD,AM,AK,t29,c1,cA0,t8,t11,k1,BL,BR,Ba,C5,C8,t10,i1,Aa,st,c2,i2,AN,AQ,l2,c3,Dt,t4,w1]
    exact⟨_,rfl,by simp[AF,t4]⟩
  rcases G with ⟨vv,j,hu,rfl,rfl,rfl⟩|⟨hu,hc⟩
  ·rw[hu]at hr
   simp only at hr;have c2:iNe 0 0=false:=CV rfl;by_cases hv:vv≤1099511627776
   ·left
    rw[if_pos hv]at hr;have c3:iGt (vv:Int) 1099511627776=false:=Eq (by omega);have hbd:∀ x∈l.drop p,x<256:=fun x hx=>hb x (ze hx)
    have hj:=iF hbd hu;rw[wG]at hj;have hrun:∃ e2,paB (call AD (n+1)) e' g'=.norm e2 g2∧AB 4 e2=pt r4∧AB 8 e2=v∧AB 10 e2=pt r10∧AB 11 e2=.int .i64 ((p+j:Nat):Int)∧AB 29 e2=.int .i64 ((i+1:Nat):Int):=by
     unfold paB;simp only[sT,AT,AI,reduceIte,gD,AM,AK,t29,c1,cA0,t8,t11,k1,BL,BR,Ba,C5,C8,t10,i1,Aa,st,c2,i2,AN,AQ,l2,c3,BF,a3];exact⟨_,rfl,by simp[AF,t4,t8,t10]⟩
    obtain⟨e2,q1,q2,q3,q4,q5,q6⟩:=hrun;refine⟨hlt,e2,g2,q1,x2,ns++[vv],Z',p+j,by rw[IT,hns];rfl,by rw[vI]at hZ;omega,?_,q2,q3,q4,q5,q6,by omega,by omega,?_⟩
    ·rw[v8,vX];exact wr
    ·rw[hr,show 6 - (i+1)=k by omega]
     cases rdN k l (p+j)with
     |none=>rfl
     |some y=>
      obtain⟨vs,q⟩:=y;show some (ns++vv::vs,q)=some (ns++[vv]++vs,q);rw[vX];rfl
   ·right
    rw[if_neg hv]at hr;have hr:rdN 6 l 0=none:=hr;obtain⟨e2,q1,q2,q3,q4,q5⟩:=fail hr (.inr ⟨c2,FM (by omega)⟩);rw[q1];exact⟨rfl,.inr ⟨e2,_,rfl,hr,w3,q2,q3,q4,q5,w2⟩⟩
  ·right
   rw[hu]at hr;have hr:rdN 6 l 0=none:=hr;obtain⟨e2,q1,q2,q3,q4,q5⟩:=fail hr (.inl (EL hc));rw[q1];exact⟨rfl,.inr ⟨e2,_,rfl,hr,w3,q2,q3,q4,q5,w2⟩⟩
 ·right
  have hi6:i=6:=by omega
  subst hi6;have c1:iLt ((6:Nat):Int) 6=false:=DE (a:=6) (b:=6) (by omega);have hrun:∃ e2,paB (call AD (n+1)) e' g'=.exit 0 e2 g'∧AB 4 e2=pt r4∧AB 8 e2=v∧AB 10 e2=pt r10∧AB 11 e2=.int .i64 (p:Int):=by
   unfold paB;simp only[sT,AT,AI,reduceIte,AM,AK,t29,c1];exact⟨_,rfl,by simp[AF,t4,t8,t10,t11]⟩
  obtain⟨e2,q1,q2,q3,q4,q5⟩:=hrun;rw[q1];have hZ0:Z=[]:=vz hZ;rw[hZ0,vR]at R';have hr:rdN 6 l 0=some (ns++[],p):=hr;rw[vR]at hr;exact⟨rfl,.inl ⟨e2,g',ns,p,rfl,x',R',hr,q2,q3,q4,q5⟩⟩
theorem jz{F:ADS}{e:Env}{h:Hp}{x y z:O}{k:C}{a b c i j m:Nat}(hx:x e=.pointer (some ⟨a,i,none⟩))(hy:y e=.pointer (some ⟨b,j,none⟩))(hz:z e=.pointer (some ⟨c,m,none⟩))(h1:b≠a)(h2:c≠a):C3 x [y,z] k F e h=k F e h:=by
 have n1:vO b a=false:=by
  cases e:vO b a
  ·rfl
  ·exact absurd (Am.1 e) h1
 have n2:vO c a=false:=by
  cases e:vO c a
  ·rfl
  ·exact absurd (Am.1 e) h2
 unfold C3;rw[hx];show(bif DS a e [y,z]then k F e h else .no)=_;have:DS a e [y,z]=true:=by
  unfold DS;rw[hy];show(bif vO b a then false else DS a e [z])=true;rw[n1];unfold DS;rw[hz];show(bif vO c a then false else DS a e [])=true;rw[n2];rfl
 rw[this];rfl
theorem eK{F:ADS}{e:Env}{h:Hp}(W:h.Wf){x y:O}{r:Nat}{L:List BY}{a b c:Int}{s:Nat}{u:BY}(hx:x e=pt r)(hy:y e=Bz a b c s u)(R:h.Row r 0 L)(hL:L.length=5)(ADg:256≤r)(hu:oneCell u=true):
  NA x (Au 5 x y) F e h=.ok ADV (h.back (h.quiet.wr r 0 (Aq a b c s u))):=by
 have Rq:h.quiet.Row r 0 L:=R.same rfl;have ho:0+(Aq a b c s u).length≤L.length:=by rw[hL];show 0+5≤5;omega
 have h1:Bd (Aq a b c s u)=true:=by
  show(bif oneCell u then true else false)=true;rw[hu];rfl
 have st:=Rq.ADl (n:=5) (off:=0) W.quiet ADg (v:=Bz a b c s u) rfl ho h1;have st:ADl 5 (pt r) (Bz a b c s u) h.quiet=.ok ADV (h.quiet.wr r 0 (Aq a b c s u)):=st;obtain⟨cc,_,hw,_⟩:=Rq.AEh ho;have AHQ:(h.quiet.wr r 0 (Aq a b c s u)).low=r:=by
  rw[hw];show B4 h.next r=r;have:=R.lt W;rw[BJ];omega
 have AF4:(h.quiet.wr r 0 (Aq a b c s u)).high=r:=by
  rw[hw];show Co 0 r=r;rw[Bw];omega
 show(match Au 5 x y F e h.quiet with|.ok v h'=>bif K5 (AD3 (x e)) h h'.low h'.high then Dz h v h' else .no|.no=>.no)=_;rw[Aa,hx,hy,st];show(bif K5 (.ok r) h (h.quiet.wr r 0 (Aq a b c s u)).low (h.quiet.wr r 0 (Aq a b c s u)).high then Dz h ADV (h.quiet.wr r 0 (Aq a b c s u))else .no)=_;rw[AHQ,AF4];have:K5 (.ok r) h r r=true:=by
  show(bif vJ r r then vJ r r else false)=true;rw[Ab.2 (IN r)];rfl
 rw[this];show Dz h ADV (h.quiet.wr r 0 (Aq a b c s u))=_;unfold Dz;simp only[AZ];rfl
end
noncomputable section
open Go
set_option maxRecDepth 100000
def Ok4(h:Hp)(r4:Nat)(ns:List Nat)(e:Env)(g:Hp):Prop:=h.Ext g∧AB 4 e=pt r4∧AB 5 e=.int .i64 (at6 ns 4:Nat)∧AB 6 e=.int .u32 (at6 ns 5:Nat)∧AB 7 e=.bool true∧loadN 5 ⟨r4,0,none⟩ g=.ok (Bz (at6 ns 1) (at6 ns 2) (at6 ns 3) (at6 ns 0) ADj) g
theorem LU{h g:Hp}{r4:Nat}{e:Env}(D:XF h r4 e g):A4 [.cN (AB 4) 5,.t (AB 5),.t (AB 6),.t (AB 7)] (.ret e g)=.ok noT g:=by
 obtain⟨_,h4,h5,h6,h7,hl⟩:=D;rw[Be,J8 (v:=Bz 0 0 0 0 ADj) (by rw[h4];exact hl),h5,h6,h7];rfl
theorem nB{h g:Hp}{r4:Nat}{ns:List Nat}{e:Env}(D:Ok4 h r4 ns e g):A4 [.cN (AB 4) 5,.t (AB 5),.t (AB 6),.t (AB 7)] (.ret e g)=.ok (okT ns) g:=by
 obtain⟨_,h4,h5,h6,h7,hl⟩:=D;rw[Be,J8 (v:=Bz (at6 ns 1) (at6 ns 2) (at6 ns 3) (at6 ns 0) ADj) (by rw[h4];exact hl),h5,h6,h7];rfl
theorem qo{n:Nat}{h hB g:Hp}(W0:h.Wf)(xB:h.Ext hB)(x:hB.Ext g){r4 r10 k q:Nat}(hr4:h.next≤r4)(AGX:r10≠r4)(R4:hB.Row r4 0 (Aq 0 0 0 0 ADj)){v:BY}{l ns:List Nat}(M:Mk hB k v l)(hl:l.length≤900000)(hq:q≤l.length)
  (R10:g.Row r10 0 (ns.map nv))(h6:ns.length=6)(hns:∀ v∈ns,v≤1099511627776){e:Env}(s4:AB 4 e=pt r4)(s8:AB 8 e=v)(s10:AB 10 e=pt r10)(s11:AB 11 e=.int .i64 (q:Int)):
  (Oz ns∧(∀ x∈l.drop q,x=0)∧∃ e2 g2,paE (call AD (n+3)) e g=.ret e2 g2∧Ok4 h r4 ns e2 g2)∨(¬ (Oz ns∧∀ x∈l.drop q,x=0)∧∃ e2 g2,paE (call AD (n+3)) e g=.ret e2 g2∧XF h r4 e2 g2):=by
 have W:=x.wf;have WB:=xB.wf;have hat:∀ i,at6 ns i≤1099511627776:=fun i=>by
  unfold at6;rw[OF];cases h:ns[i]? with
  |none=>exact vi _
  |some y=>exact hns y (List.mem_of_getElem? h)
 have i0:∀ g:Hp,M8 6 1 (pt r10) (.int .i64 0) g=.ok (.pointer (some ⟨r10,0,none⟩)) g:=fun g=>QI (k:=0) (by omega)
 have i1:∀ g:Hp,M8 6 1 (pt r10) (.int .i64 1) g=.ok (.pointer (some ⟨r10,1,none⟩)) g:=fun g=>QI (k:=1) (by omega)
 have i2:∀ g:Hp,M8 6 1 (pt r10) (.int .i64 2) g=.ok (.pointer (some ⟨r10,2,none⟩)) g:=fun g=>QI (k:=2) (by omega)
 have i3:∀ g:Hp,M8 6 1 (pt r10) (.int .i64 3) g=.ok (.pointer (some ⟨r10,3,none⟩)) g:=fun g=>QI (k:=3) (by omega)
 have i4:∀ g:Hp,M8 6 1 (pt r10) (.int .i64 4) g=.ok (.pointer (some ⟨r10,4,none⟩)) g:=fun g=>QI (k:=4) (by omega)
 have i5:∀ g:Hp,M8 6 1 (pt r10) (.int .i64 5) g=.ok (.pointer (some ⟨r10,5,none⟩)) g:=fun g=>QI (k:=5) (by omega)
 have l0:=Qi R10 h6 (k:=0) (by omega);have l1:=Qi R10 h6 (k:=1) (by omega);have l2:=Qi R10 h6 (k:=2) (by omega);have l3:=Qi R10 h6 (k:=3) (by omega);have a0:=hat 0;have a1:=hat 1;have a2:=hat 2;have a3:=hat 3;have a4:=hat 4;have a5:=hat 5;have hcast:min ((at6 ns 0:Nat):Int) 9=((min (at6 ns 0) 9:Nat):Int):=by omega
 have mn:∀ (F:ADS) (e:Env),AB 52 e=.int .u64 ((at6 ns 0:Nat):Int)→Wh (AB 52) (kV (.int .u64 9)) F e g=.ok (.int .u64 ((min (at6 ns 0) 9:Nat):Int)) g:=fun F e he=>by rw[ml he rfl,hcast]
 have v0:DH .u8 (.int .u64 ((min (at6 ns 0) 9:Nat):Int)) g=.ok (.int .u8 ((min (at6 ns 0) 9:Nat):Int)) g:=by rw[CU,Gp,yi (by omega)]
 have cv:∀ (i:Nat) (g:Hp),DH .i64 (.int .u64 ((at6 ns i:Nat):Int)) g=.ok (.int .i64 ((at6 ns i:Nat):Int)) g:=fun i g=>by rw[CU,BW (by have:=hat i;omega)]
 have bd:∀ (F:ADS) (e:Env),AB 54 e=.int .u8 ((min (at6 ns 0) 9:Nat):Int)→AB 57 e=.int .i64 ((at6 ns 1:Nat):Int)→AB 60 e=.int .i64 ((at6 ns 2:Nat):Int)→AB 63 e=.int .i64 ((at6 ns 3:Nat):Int)→
   Bs G1.zero [(3,1,AB 54),(0,1,AB 57),(1,1,AB 60),(2,1,AB 63)] F e g=.ok (Bz (at6 ns 1) (at6 ns 2) (at6 ns 3) (min (at6 ns 0) 9) ADj) g:=fun F e h1 h2 h3 h4=>bo h1 h2 h3 h4
 have f1:=fun (F:ADS) (e:Env)=>Bm (F:=F) (e:=e) (n:=5) (t:=Cc) W
 have x1:=(Hp.Ext.refl W).push (.cells Cc 5 0);have R13:(g.push (.cells Cc 5 0)).Row g.next 0 (Aq 0 0 0 0 ADj):=Hp.Row.alloc W Ei rfl;generalize g.push (.cells Cc 5 0)=g1 at f1 x1 R13;obtain⟨st,ld,x2,AH8,_⟩:=KU W x1 (IN _) R13 rfl (a:=at6 ns 1) (b:=at6 ns 2) (c:=at6 ns 3) (s:=min (at6 ns 0) 9) (u:=ADj) rfl;generalize g1.wr g.next 0 (Aq (at6 ns 1) (at6 ns 2) (at6 ns 3) (min (at6 ns 0) 9) ADj)=g2 at st ld x2 AH8;have k24:=JY (n:=n+2) x2.wf (a:=at6 ns 1) (b:=at6 ns 2) (c:=at6 ns 3) (s:=min (at6 ns 0) 9) (m:=0) (u:=ADj) (fun _=>rfl);have y3:=(Hp.Ext.refl x2.wf).ADR 0 (Aq (at6 ns 1) (at6 ns 2) (at6 ns 3) (min (at6 ns 0) 9) ADj);generalize g2.ADR 0 (Aq (at6 ns 1) (at6 ns 2) (at6 ns 3) (min (at6 ns 0) 9) ADj)=g3 at k24 y3;have x3:=x2.trans y3;have xB3:=x.trans x3;have xh3:=xB.trans xB3;obtain⟨w1,w2,w3,_,_⟩:=KU W0 xh3 hr4 (R4.ext WB xB3) rfl (a:=0) (b:=0) (c:=0) (s:=0) (u:=ADj) rfl;have AGY:=R10.ext W x3;have l4:=Qi AGY h6 (k:=4) (by omega);have l5:=Qi AGY h6 (k:=5) (by omega);have nok:¬ (Oz ns∧∀ x∈l.drop q,x=0)→(∃ e2,paE (call AD (n+3)) e g=.ret e2 (g3.wr r4 0 (Aq 0 0 0 0 ADj))∧AB 4 e2=pt r4∧AB 5 e2=.int .i64 0∧AB 6 e2=.int .u32 0∧AB 7 e2=.bool false)→
   (Oz ns∧(∀ x∈l.drop q,x=0)∧∃ e2 g2,paE (call AD (n+3)) e g=.ret e2 g2∧Ok4 h r4 ns e2 g2)∨(¬ (Oz ns∧∀ x∈l.drop q,x=0)∧∃ e2 g2,paE (call AD (n+3)) e g=.ret e2 g2∧XF h r4 e2 g2):=fun hn ⟨e2,q1,q2,q3,q4,q5⟩=>.inr ⟨hn,e2,_,q1,w3,q2,q3,q4,q5,w2⟩
 cases hr:ADc (at6 ns 1) (at6 ns 2) (at6 ns 3) (min (at6 ns 0) 9) 0 with
 |false=>
  rw[hr]at k24;refine nok (fun hh=>by rw[hh.1.1]at hr;cases hr) ?_;unfold paE;simp only[sT,AT,AI,reduceIte,gD,C8,s10,i0,i1,i2,i3,AN,AQ,l0,l1,l2,l3,mn,B8,v0,cv,bd,f1,Aa,st,Aw,Ar,ld,cA0,k24,Bj,Bh,wm,Dt,s4,w1];exact⟨_,rfl,by simp[AF,s4]⟩
 |true=>
  rw[hr]at k24;by_cases h4:at6 ns 4≤65536
  ·have c4:iGt ((at6 ns 4:Nat):Int) 65536=false:=Eq (by omega)
   by_cases h5:at6 ns 5≤4294967295
   ·have c5:iGt ((at6 ns 5:Nat):Int) 4294967295=false:=Eq (by omega)
    have M3:=M.ext WB xB3;obtain⟨w,ct,Vw⟩:=Pm M3 hq;obtain⟨rb,kb,hrb⟩:=Vg (n:=n) Vw (by rw[wG];omega);have kb:call AD (n+3) 85 [w,.func (.func 112) #[] #[]] g3=.ok (.bool rb) g3:=kb;cases rb with
    |true=>
     obtain⟨y,hy1,hy2⟩:=hrb.1 rfl;refine nok (fun hh=>hy2 (hh.2 y hy1)) ?_;unfold paE;simp only[sT,AT,AI,reduceIte,gD,C8,s10,i0,i1,i2,i3,i4,i5,AN,AQ,l0,l1,l2,l3,l4,l5,mn,B8,v0,cv,bd,f1,Aa,st,Aw,Ar,ld,cA0,k24,Bj,Bh,wQ,AM,AK,c4,c5,s8,s11,ct,kb,Dt,s4,w1];exact⟨_,rfl,by simp[AF,s4]⟩
    |false=>
     have hz:∀ x∈l.drop q,x=0:=fun y hy=>by
      rcases vy y with h0|h0
      ·exact h0
      ·have:=hrb.2 ⟨y,hy,by omega⟩;cases this
     have hok:Oz ns:=⟨hr,h4,h5⟩;have hmin:min (at6 ns 0) 9=at6 ns 0:=yz (vw (fP.1 hok).1 (by decide));left;refine⟨hok,hz,?_⟩;have xm:=x3.marked;have AH9:g3.marked.Row r10 0 (ns.map nv):=AGY.same rfl;have m4:=Qi AH9 h6 (k:=4) (by omega);have m5:=Qi AH9 h6 (k:=5) (by omega);have AI5:g3.marked.Row g.next 0 (Aq (at6 ns 1) (at6 ns 2) (at6 ns 3) (min (at6 ns 0) 9) ADj):=(AH8.ext x2.wf y3).same rfl;have mld:=(Bc AI5).2.2.2.2.2;have v5:DH .u32 (.int .u64 ((at6 ns 5:Nat):Int)) g3.marked=.ok (.int .u32 ((at6 ns 5:Nat):Int)) g3.marked:=by rw[CU,SA h5]
     have ck:∀ (k:C) (F:ADS) (e:Env),AB 4 e=pt r4→AB 87 e=.pointer (some ⟨r10,4,none⟩)→AB 90 e=.pointer (some ⟨r10,5,none⟩)→C3 (AB 4) [AB 87,AB 90] k F e g3.marked=k F e g3.marked:=fun k F e e1 e2 e3=>jz e1 e2 e3 AGX AGX
     have ADg:256≤r4:=by have:=W0.big;omega
     have R4m:g3.marked.Row r4 0 (Aq 0 0 0 0 ADj):=(R4.ext WB xB3).same rfl;have ta:∀ (F:ADS) (e:Env),AB 4 e=pt r4→AB 86 e=Bz (at6 ns 1) (at6 ns 2) (at6 ns 3) (min (at6 ns 0) 9) ADj→NA (AB 4) (Au 5 (AB 4) (AB 86)) F e g3.marked=.ok ADV (g3.marked.back (g3.marked.quiet.wr r4 0 (Aq (at6 ns 1) (at6 ns 2) (at6 ns 3) (min (at6 ns 0) 9) ADj))):=fun F e e1 e2=>eK xm.wf e1 e2 R4m rfl ADg rfl
     have xhm:=xh3.marked;obtain⟨_,z2,z3,z4,_⟩:=KU W0 xhm.quiet hr4 (R4m.same (h':=g3.marked.quiet) rfl) rfl (a:=at6 ns 1) (b:=at6 ns 2) (c:=at6 ns 3) (s:=min (at6 ns 0) 9) (u:=ADj) rfl;have xf:h.Ext (g3.marked.back (g3.marked.quiet.wr r4 0 (Aq (at6 ns 1) (at6 ns 2) (at6 ns 3) (min (at6 ns 0) 9) ADj))):=Hp.Ext.AEc xhm z3;have Rf:(g3.marked.back (g3.marked.quiet.wr r4 0 (Aq (at6 ns 1) (at6 ns 2) (at6 ns 3) (min (at6 ns 0) 9) ADj))).Row r4 0 (Aq (at6 ns 1) (at6 ns 2) (at6 ns 3) (min (at6 ns 0) 9) ADj):=z4.same rfl;generalize g3.marked.back (g3.marked.quiet.wr r4 0 (Aq (at6 ns 1) (at6 ns 2) (at6 ns 3) (min (at6 ns 0) 9) ADj))=g4 at ta xf Rf;have ldf:=(Bc Rf).2.2.2.2.2;rw[hmin]at ldf;have hrun:∃ e2,paE (call AD (n+3)) e g=.ret e2 g4∧AB 4 e2=pt r4∧AB 5 e2=.int .i64 (at6 ns 4:Nat)∧AB 6 e2=.int .u32 (at6 ns 5:Nat)∧AB 7 e2=.bool true:=by
      unfold paE;simp only[sT,AT,AI,reduceIte,gD,C8,s10,i0,i1,i2,i3,i4,i5,AN,AQ,l0,l1,l2,l3,l4,l5,mn,B8,v0,cv,bd,f1,Aa,st,Aw,Ar,ld,cA0,k24,Bj,Bh,wQ,AM,AK,c4,c5,s8,s11,ct,kb,A3,mld,m4,m5,v5,s4,ck,ta];exact⟨_,rfl,by simp[AF,s4]⟩
     obtain⟨e2,q1,q2,q3,q4,q5⟩:=hrun;exact⟨e2,g4,q1,xf,q2,q3,q4,q5,ldf⟩
   ·have c5:iGt ((at6 ns 5:Nat):Int) 4294967295=true:=FM (by omega)
    refine nok (fun hh=>h5 hh.1.2.2) ?_;unfold paE;simp only[sT,AT,AI,reduceIte,gD,C8,s10,i0,i1,i2,i3,i4,i5,AN,AQ,l0,l1,l2,l3,l4,l5,mn,B8,v0,cv,bd,f1,Aa,st,Aw,Ar,ld,cA0,k24,Bj,Bh,wQ,AM,AK,c4,c5,Dt,s4,w1];exact⟨_,rfl,by simp[AF,s4]⟩
  ·have c4:iGt ((at6 ns 4:Nat):Int) 65536=true:=FM (by omega)
   refine nok (fun hh=>h4 hh.1.2.1) ?_;unfold paE;simp only[sT,AT,AI,reduceIte,gD,C8,s10,i0,i1,i2,i3,i4,i5,AN,AQ,l0,l1,l2,l3,l4,mn,B8,v0,cv,bd,f1,Aa,st,Aw,Ar,ld,cA0,k24,Bj,Bh,wQ,AM,AK,c4,Dt,s4,w1];exact⟨_,rfl,by simp[AF,s4]⟩
theorem Zv{n:Nat}{h:Hp}(W:h.Wf){tb:Nat}{T:List Nat}(R:h.Row tb 0 (T.map wv))(hT:AEM T){u:BY}{l:List Nat}(V:h.ADo u (l.map bv))(hC:XE u)(hb:∀ x∈l,x<256)(hl:l.length≤900000):
  ∃ h',h.Ext h'∧((∃ ns,K3 T l ns∧call AD (n+4) 87 [pt tb,u] h=.ok (okT ns) h')∨((¬ ∃ ns,K3 T l ns)∧call AD (n+4) 87 [pt tb,u] h=.ok noT h')):=by
 have f1:=fun (F:ADS) (e:Env)=>Bm (F:=F) (e:=e) (n:=5) (t:=Cc) W
 have x1:=(Hp.Ext.refl W).push (.cells Cc 5 0);have R4:(h.push (.cells Cc 5 0)).Row h.next 0 (Aq 0 0 0 0 ADj):=Hp.Row.alloc W Ei rfl;have nA:(h.push (.cells Cc 5 0)).next=h.next+1:=rfl;generalize h.push (.cells Cc 5 0)=hA at f1 x1 R4 nA;obtain⟨hB,yB,U⟩:=XD (n:=n) x1.wf (R.ext W x1) hT (V.ext W x1) hC hb hl;have xB:=x1.trans yB;have R4B:=R4.ext x1.wf yB;obtain⟨w1,w2,w3,_,_⟩:=KU W xB (IN _) R4B rfl (a:=0) (b:=0) (c:=0) (s:=0) (u:=ADj) rfl;rcases U with ⟨body,v,hu,k1,M⟩|⟨hu,c,hc,k1⟩
 ·have c2:iNe 0 0=false:=CV rfl
  have Vl:=M.vals.bl hB;by_cases h60:body.length=60
  ·have c3:iNe (body.length:Int) 60=false:=CV (by omega)
   have f2:=fun (F:ADS) (e:Env)=>Bm (F:=F) (e:=e) (n:=6) (t:=OC) xB.wf
   have y2:=(Hp.Ext.refl xB.wf).push (.cells OC 6 0);have R10:(hB.push (.cells OC 6 0)).Row hB.next 0 ([0,0,0,0,0,0].map nv):=Hp.Row.alloc xB.wf bM rfl;generalize hB.push (.cells OC 6 0)=hC' at f2 y2 R10;have pre:∃ e1,Pn (call AD (n+3)) (AS e0 0 [pt tb,u]) h=paS (call AD (n+3)) e1 hC'∧AB 4 e1=pt h.next∧AB 8 e1=v∧AB 10 e1=pt hB.next∧AB 11 e1=.int .i64 ((0:Nat):Int)∧AB 29 e1=.int .i64 ((0:Nat):Int):=by
    unfold Pn;simp only[iN,By,sT,AT,AI,reduceIte,gD,f1,cA0,k1,BL,BR,Ba,AM,AK,c2,Af,Vl,c3,f2];exact⟨_,rfl,by simp[AF]⟩
   obtain⟨e1,p1,p2,p3,p4,p5,p6⟩:=pre;obtain⟨hsl,hbt⟩:=Jj hu;have hbb:∀ x∈body,x<256:=fun x hx=>hb x (by rw[hbt]at hx;exact wu hx)
   rcases fZ (n:=n+2) W xB y2 (IN h.next) (IN _) R4B M.vals hbb (by omega) R10 p2 p3 p4 p5 p6 with ⟨e2,g,ns,q,q1,x2,AGY,hrd,t4,t8,t10,t11⟩|⟨e2,g,q1,hrd,D⟩
   ·obtain⟨g1,g2,g3,g4,g5⟩:=LS 6 body 0 ns q hbb (vi _) hrd
    have hn2:hB.next≠h.next:=by have:=yB.next;omega
    rcases qo (n:=n) W xB x2 (IN _) hn2 R4B M (by omega) g4 AGY g1 g5 t4 t8 t10 t11 with ⟨ho,hz,e3,g',r1,D⟩|⟨hno,e3,g',r1,D⟩
    ·refine⟨g',D.1,.inl ⟨ns,⟨body,q,hu,h60,hrd,ho,hz⟩,?_⟩⟩
     rw[Ln rfl,Lx,p1,TH];simp only[BE,Ax,q1,A2,BA,r1];exact nB D
    ·refine⟨g',D.1,.inr ⟨?_,?_⟩⟩
     ·rintro⟨ms,body',q',j1,j2,j3,j4,j5⟩
      rw[hu]at j1;cases j1;rw[hrd]at j3;cases j3;exact hno ⟨j4,j5⟩
     ·rw[Ln rfl,Lx,p1,TH]
      simp only[BE,Ax,q1,A2,BA,r1];exact LU D
   ·refine⟨g,D.1,.inr ⟨?_,?_⟩⟩
    ·rintro⟨ms,body',q',j1,j2,j3,j4,j5⟩
     rw[hu]at j1;cases j1;rw[hrd]at j3;cases j3
    ·rw[Ln rfl,Lx,p1,TH]
     simp only[BE,Ax,q1,B0,CY];exact LU D
  ·have c3:iNe (body.length:Int) 60=true:=EL (by omega)
   have hrun:∃ e2,Pn (call AD (n+3)) (AS e0 0 [pt tb,u]) h=.ret e2 (hB.wr h.next 0 (Aq 0 0 0 0 ADj))∧AB 4 e2=pt h.next∧AB 5 e2=.int .i64 0∧AB 6 e2=.int .u32 0∧AB 7 e2=.bool false:=by
    unfold Pn;simp only[iN,By,sT,AT,AI,reduceIte,gD,f1,cA0,k1,BL,BR,Ba,AM,AK,c2,Af,Vl,c3,Dt,Aa,w1];exact⟨_,rfl,by simp[AF]⟩
   obtain⟨e2,q1,q2,q3,q4,q5⟩:=hrun;refine⟨_,w3,.inr ⟨?_,?_⟩⟩
   ·rintro⟨ms,body',q',j1,j2,_⟩
    rw[hu]at j1;cases j1;exact h60 j2
   ·rw[Ln rfl,Lx,q1]
    exact LU (h:=h) ⟨w3,q2,q3,q4,q5,w2⟩
 ·have c2:iNe c 0=true:=EL hc
  have hrun:∃ e2,Pn (call AD (n+3)) (AS e0 0 [pt tb,u]) h=.ret e2 (hB.wr h.next 0 (Aq 0 0 0 0 ADj))∧AB 4 e2=pt h.next∧AB 5 e2=.int .i64 0∧AB 6 e2=.int .u32 0∧AB 7 e2=.bool false:=by
   unfold Pn;simp only[iN,By,sT,AT,AI,reduceIte,gD,f1,cA0,k1,BL,BR,Ba,AM,AK,c2,Dt,Aa,w1];exact⟨_,rfl,by simp[AF]⟩
  obtain⟨e2,q1,q2,q3,q4,q5⟩:=hrun;refine⟨_,w3,.inr ⟨?_,?_⟩⟩
  ·rintro⟨ms,body',q',j1,_⟩
   rw[hu]at j1;cases j1
  ·rw[Ln rfl,Lx,q1]
   exact LU (h:=h) ⟨w3,q2,q3,q4,q5,w2⟩
end
noncomputable section
open Go
set_option maxRecDepth 100000
structure Fx (S:Nat→Prop)(h h':Hp):Prop where
 next:h.next≤h'.next
 get:∀ i,i<h.next→¬ S i→h'.bl.get i=h.bl.get i
 wf:h'.Wf
 low:∀ L,L≤h.low→L≤h.next→(∀ b,S b→L≤b)→L≤h'.low
theorem XO{h g:Hp}:(h.back g).low=min h.low g.low:=BJ _ _
section
variable {S T:Nat→Prop}{h h' h1 h2:Hp}
theorem Fx.refl(W:h.Wf):Fx S h h:=⟨IN _,fun _ _ _=>rfl,W,fun _ h1 _ _=>h1⟩
theorem Fx.of(x:h.Ext h'):Fx S h h':=⟨x.next,fun i hi _=>x.get i hi,x.wf,fun L h1 h2 _=>by have:=x.low;omega⟩
theorem Fx.trans(a:Fx S h h1)(b:Fx S h1 h2):Fx S h h2:=⟨vw a.next b.next,fun i hi hs=>by rw[b.get i (Nat.lt_of_lt_of_le hi a.next) hs,a.get i hi hs],b.wf,fun L h1 h2 h3=>b.low L (a.low L h1 h2 h3) (vw h2 a.next) h3⟩
theorem Fx.mono(a:Fx S h h')(hs:∀ i,S i→T i):Fx T h h':=⟨a.next,fun i hi ht=>a.get i hi fun s=>ht (hs i s),a.wf,fun L h1 h2 h3=>a.low L h1 h2 fun b hb=>h3 b (hs b hb)⟩
theorem gS(W:h.Wf)(hb:h'.bl=h.bl)(hn:h'.next=h.next):h'.Wf:=⟨by rw[hn];exact W.big,by rw[hn,hb];exact W.has,by rw[hn,hb];exact W.fresh⟩
theorem Fx.same(a:Fx S h h1)(hb:h2.bl=h1.bl)(hn:h2.next=h1.next)(hl:min h.low h1.low≤h2.low:=by first|exact Nat.le_of_eq XO.symm|exact Nat.min_le_right _ _):Fx S h h2:=⟨by rw[hn];exact a.next,fun i hi hs=>by rw[hb];exact a.get i hi hs,gS a.wf hb hn,fun L q1 q2 q3=>by have:=a.low L q1 q2 q3;omega⟩
theorem Fx.from(a:Fx S h1 h')(hb:h1.bl=h.bl)(hn:h1.next=h.next)(hl:min h.low h.next≤h1.low:=by first|exact Nat.min_le_left _ _|exact Nat.min_le_right _ _):Fx S h h':=⟨by rw[← hn];exact a.next,fun i hi hs=>by rw[← hb];exact a.get i (by rw[hn];exact hi) hs,a.wf,fun L q1 q2 q3=>a.low L (by omega) (by omega) q3⟩
theorem Fx.row(x:Fx S h h')(W:h.Wf){b el:Nat}{l:List BY}(r:h.Row b el l)(hb:¬ S b):h'.Row b el l:=by
 have:=r.lt W;obtain⟨c,hc,hl⟩:=r;exact⟨c,(x.get b this hb).trans hc,hl⟩
theorem Fx.put(W:h.Wf){b:Nat}(hb:b<h.next)(hs:S b)(o:Blk):Fx S h (h.put b o):=⟨IN _,fun i hi hn=>by
 rw[W.AD0 hb];exact if_neg fun e=>hn (by rw[e];exact hs),W.put hb o,fun L h1 _ h3=>by
 have:=h3 b hs;have e:(h.put b o).low=min h.low b:=BJ _ _;omega⟩
theorem Fx.wr(W:h.Wf){b el off:Nat}{l vs:List BY}(r:h.Row b el l)(ho:off+vs.length≤l.length)(hs:S b):Fx S h (h.wr b off vs):=by
 obtain⟨c,_,e,_⟩:=r.AEh ho;rw[e];exact Fx.put W (r.lt W) hs _
theorem nz{b el off bc:Nat}{l vs:List BY}{es:List Ent}{k:Nat}(W:h.Wf)(r:h.Row b el l)(ho:off+vs.length≤l.length)(m:h.bl.get bc=.map es k):(h.wr b off vs).bl.get bc=.map es k:=by
 obtain⟨c,_,e,_⟩:=r.AEh ho;rw[e,W.AD0 (r.lt W),if_neg]
 ·exact m
 ·rintro rfl
  obtain⟨c,hc,_⟩:=r;rw[m]at hc;cases hc
end
def Hp.VS(h:Hp)(S:Nat→Prop)(v:BY)(xs:List BY):Prop:=(v=ADj∧xs=[])∨∃ b off c el L,v=.slice (some ⟨b,off,none⟩) xs.length c∧xs.length≤c∧h.Row b el L∧off+xs.length≤L.length∧(L.drop off).take xs.length=xs∧S b
section
variable {h h':Hp}{S S':Nat→Prop}{v:BY}{xs:List BY}
theorem Hp.VS.vals(o:h.VS S v xs):h.ADo v xs:=by
 rcases o with h1|⟨b,off,c,el,L,h1,h2,h3,h4,h5,_⟩
 ·exact .inl h1
 ·exact .inr ⟨b,off,c,el,L,h1,h3,h4,h5⟩
theorem Hp.VS.keep(o:h.VS S v xs)(hk:∀ b el L,S b→h.Row b el L→h'.Row b el L):h'.VS S v xs:=by
 rcases o with h1|⟨b,off,c,el,L,h1,h2,h3,h4,h5,h6⟩
 ·exact .inl h1
 ·exact .inr ⟨b,off,c,el,L,h1,h2,hk _ _ _ h6 h3,h4,h5,h6⟩
theorem Hp.VS.same(o:h.VS S v xs)(hb:h'.bl=h.bl):h'.VS S v xs:=o.keep fun _ _ _ _ r=>r.same hb
theorem Hp.VS.mono(o:h.VS S v xs)(hs:∀ b,S b→S' b):h.VS S' v xs:=by
 rcases o with h1|⟨b,off,c,el,L,h1,h2,h3,h4,h5,h6⟩
 ·exact .inl h1
 ·exact .inr ⟨b,off,c,el,L,h1,h2,h3,h4,h5,hs _ h6⟩
theorem Hp.VS.one(o:h.VS S v xs):cellsOf v=[v]∧oneCell v=true∧known v=true:=by
 rcases o with ⟨rfl,_⟩|⟨b,off,c,el,L,rfl,_⟩<;>exact⟨rfl,rfl,rfl⟩
theorem Hp.VS.fx(o:h.VS S v xs)(W:h.Wf){T:Nat→Prop}(x:Fx T h h')(hs:∀ b,S b→¬ T b):h'.VS S v xs:=o.keep fun b _ _ hb r=>x.row W r (hs b hb)
theorem O4{l:List BY}(h:∀ x∈l,oneCell x=true):Bd l=true:=by
 induction l with
 |nil=>rfl
 |cons a l ih=>
  show(bif oneCell a then Bd l else false)=true;rw[h a List.mem_cons_self,ih fun x hx=>h x (List.mem_cons_of_mem _ hx)];rfl
end
def Hp.BS(h:Hp)(S:Nat→Prop)(v:BY)(xs:List BY):Prop:=(v=ADj∧xs=[])∨∃ b off c el L,v=.slice (some ⟨b,off,none⟩) xs.length c∧xs.length≤c∧h.Row b el L∧off+xs.length≤L.length∧(L.drop off).take xs.length=xs∧S b∧(el=0∨el=6)
section
variable {h h':Hp}{S S':Nat→Prop}{v:BY}{xs:List BY}
theorem Hp.BS.vs(o:h.BS S v xs):h.VS S v xs:=by
 rcases o with h1|⟨b,off,c,el,L,h1,h2,h3,h4,h5,h6,_⟩
 ·exact .inl h1
 ·exact .inr ⟨b,off,c,el,L,h1,h2,h3,h4,h5,h6⟩
theorem Hp.BS.keep(o:h.BS S v xs)(hk:∀ b el L,S b→(el=0∨el=6)→h.Row b el L→h'.Row b el L):h'.BS S v xs:=by
 rcases o with h1|⟨b,off,c,el,L,h1,h2,h3,h4,h5,h6,h7⟩
 ·exact .inl h1
 ·exact .inr ⟨b,off,c,el,L,h1,h2,hk _ _ _ h6 h7 h3,h4,h5,h6,h7⟩
theorem Hp.BS.ext(o:h.BS S v xs)(W:h.Wf)(x:h.Ext h'):h'.BS S v xs:=o.keep fun _ _ _ _ _ r=>r.ext W x
theorem Hp.BS.same(o:h.BS S v xs)(hb:h'.bl=h.bl):h'.BS S v xs:=o.keep fun _ _ _ _ _ r=>r.same hb
theorem Hp.BS.mono(o:h.BS S v xs)(hs:∀ b,S b→S' b):h.BS S' v xs:=by
 rcases o with h1|⟨b,off,c,el,L,h1,h2,h3,h4,h5,h6,h7⟩
 ·exact .inl h1
 ·exact .inr ⟨b,off,c,el,L,h1,h2,h3,h4,h5,hs _ h6,h7⟩
end
def Cy(l:List Nat):BY:=.agg ⟨l.map bv⟩
def ADd:Nat→List (Nat×List Nat)→List Ent
 |_,[]=>[]
 |i,x::r=>⟨.int .i64 (x.1:Int),Cy x.2,i⟩::ADd (i+1) r
def sec(M:List Nat)(i:Nat):List Nat:=(M.drop (64*i)).take 64
theorem Jb{M:List Nat}{n i:Nat}(hM:M.length=64*n)(hi:i<n):(sec M i).length=64:=by
 unfold sec;rw[vp,wG];omega
theorem nZ{M:List Nat}(hb:∀ x∈M,x<256)(i:Nat):∀ x∈sec M i,x<256:=fun x hx=>hb x (ze (wu hx))
def dkL(bm bc n:Nat)(arm:Int)(dn:Bool):List BY:=[.slice (some ⟨bm,0,none⟩) n n,.map (some bc),.int .i64 arm,.bool dn]
structure Dk (h:Hp)(bd bm bc n:Nat)(M:List Nat)(c0:Nat)(cs:List (Nat×List Nat))(arm:Int)(dn:Bool):Prop where
 disk:h.Row bd 0 (dkL bm bc n arm dn)
 med:h.Row bm 0 (M.map bv)
 len:M.length=64*n
 byt:∀ x∈M,x<256
 map:h.bl.get bc=.map (ADd c0 cs) (c0+cs.length)
 big:256≤bd∧256≤bm∧256≤bc
 n1:1≤n∧n≤65536
section
variable {F:ADS}{e:Env}{h h':Hp}{S:Nat→Prop}{bd bm bc n c0:Nat}{M:List Nat}{cs:List (Nat×List Nat)}{arm:Int}{dn:Bool}
theorem dj{h:Hp}{b b' el el':Nat}{L L':List BY}(r:h.Row b el L)(r':h.Row b' el' L')(he:L.length≠L'.length):b≠b':=fun hb=>by
 subst hb;obtain⟨_,e1,_⟩:=r;obtain⟨_,e2,_⟩:=r';rw[e1]at e2;injection e2 with _ e3 _
 exact he e3
theorem Dk.bdm(d:Dk h bd bm bc n M c0 cs arm dn):bd≠bm:=dj d.disk d.med (by
 rw[If,d.len];show 4≠_;have:=d.n1;omega)
theorem JZ{h:Hp}{b bc el k:Nat}{L:List BY}{es:List Ent}(r:h.Row b el L)(m:h.bl.get bc=.map es k):b≠bc:=fun hb=>by
 subst hb;obtain⟨_,e1,_⟩:=r;rw[e1]at m;cases m
theorem Dk.bdc(d:Dk h bd bm bc n M c0 cs arm dn):bd≠bc:=JZ d.disk d.map
theorem Dk.bmc(d:Dk h bd bm bc n M c0 cs arm dn):bm≠bc:=JZ d.med d.map
theorem Dk.lt(d:Dk h bd bm bc n M c0 cs arm dn)(W:h.Wf):bd<h.next∧bm<h.next∧bc<h.next:=⟨d.disk.lt W,d.med.lt W,by
 rcases vd bc h.next with h1|h1
 ·exact h1
 ·have:=W.fresh bc h1
  rw[d.map]at this;cases this⟩
theorem Dk.same(d:Dk h bd bm bc n M c0 cs arm dn)(hb:h'.bl=h.bl):Dk h' bd bm bc n M c0 cs arm dn:=⟨d.disk.same hb,d.med.same hb,d.len,d.byt,by rw[hb];exact d.map,d.big,d.n1⟩
theorem Dk.fr(d:Dk h bd bm bc n M c0 cs arm dn)(W:h.Wf)(x:Fx S h h')(h1:¬ S bd)(h2:¬ S bm)(h3:¬ S bc):Dk h' bd bm bc n M c0 cs arm dn:=⟨x.row W d.disk h1,x.row W d.med h2,d.len,d.byt,by rw[x.get bc (d.lt W).2.2 h3];exact d.map,d.big,d.n1⟩
theorem Dk.ext(d:Dk h bd bm bc n M c0 cs arm dn)(W:h.Wf)(x:h.Ext h'):Dk h' bd bm bc n M c0 cs arm dn:=d.fr (S:=fun _=>False) W (.of x) (fun h=>h) (fun h=>h) (fun h=>h)
theorem CL(R:h.Row bd 0 (dkL bm bc n arm dn)):ADW ⟨bd,0,none⟩ h=.ok (.slice (some ⟨bm,0,none⟩) n n) h∧ADW ⟨bd,1,none⟩ h=.ok (.map (some bc)) h∧ADW ⟨bd,2,none⟩ h=.ok (.int .i64 arm) h∧ADW ⟨bd,3,none⟩ h=.ok (.bool dn) h:=
 ⟨R.ADW (off:=0) (by show 0<4;omega),R.ADW (off:=1) (by show 1<4;omega),R.ADW (off:=2) (by show 2<4;omega),R.ADW (off:=3) (by show 3<4;omega)⟩
theorem Gf{k:TK}{t:Nat}{a:Addr}{g:O}(hk:k=.ptr t)(hg:g e=.pointer (some a)):oEq k false g (kV (.pointer none)) F e h=.ok (.bool false) h:=by
 subst hk;show(match eqV (.ptr t) (g e) (.pointer none)with|some r=>okB (false != r) h|none=>.no)=_;rw[hg];exact F7
theorem dr{k:TK}{a b r:Nat}{g:O}(hk:k=.map a b)(hg:g e=.map (some r)):oEq k false g (kV (.map none)) F e h=.ok (.bool false) h:=by
 subst hk;show(match eqV (.map a b) (g e) (.map none)with|some r=>okB (false != r) h|none=>.no)=_;rw[hg];exact F7
theorem aq:TV.k=.ptr 98:=by kernel_rfl
theorem sy:gO.k=.map 3 100:=by kernel_rfl
theorem Hy{m:Nat}(d:Dk h bd bm bc n M c0 cs arm dn):call AD (m+1) 54 [pt bd] h=.ok (.bool false) h:=by
 obtain⟨_,l1,_,_⟩:=CL d.disk;have e1:∀ e:Env,AB 0 e=pt bd→oEq TV.k false (AB 0) (kV (.pointer none)) (call AD m) e h=.ok (.bool false) h:=fun e he=>Gf aq he
 have e2:∀ e:Env,AB 9 e=.map (some bc)→oEq gO.k false (AB 9) (kV (.map none)) (call AD m) e h=.ok (.bool false) h:=fun e he=>dr sy he
 rw[kP rfl];unfold d54;simp only[iN,By,sT,AT,AI,reduceIte,gD,e1,Ao,Ae,AJ,AO,AN,AQ,l1,e2,lV0]
theorem Hf{m:Nat}(d:Dk h bd bm bc n M c0 cs arm false){i:Nat}(hi:i<n):call AD (m+2) 95 [pt bd,.int .i64 (i:Int)] h=.ok (.int .i64 0) h:=by
 obtain⟨l0,_,_,l3⟩:=CL d.disk;have k1:=Hy (m:=m) d;have c1:iLt (i:Int) 0=false:=HI (by omega);have c2:iGe (i:Int) (n:Int)=false:=FL (by omega);rw[lO rfl];unfold d95;simp only[iN,By,sT,AT,AI,reduceIte,gD,cA0,k1,Ao,Ae,AJ,AO,AN,AQ,l0,l3,Af,FO,AM,AK,c1,c2,lV0]
theorem gC{m:Nat}(d:Dk h bd bm bc n M c0 cs arm dn):call AD (m+2) 56 [pt bd] h=.ok (.int .i64 (n:Int)) h:=by
 obtain⟨l0,_,_,l3⟩:=CL d.disk;have k1:=Hy (m:=m) d;rw[kR rfl];unfold d56;simp only[iN,By,sT,AT,AI,reduceIte,gD,cA0,k1,Ao,Ae,AJ,AO,AN,AQ,l0,l3,Af,FO,lV0]
theorem dA{m:Nat}(d:Dk h bd bm bc n M c0 cs arm dn):call AD (m+2) 58 [pt bd] h=.ok (.bool dn) h:=by
 obtain⟨l0,_,_,l3⟩:=CL d.disk;have k1:=Hy (m:=m) d;rw[kT rfl];unfold d58;simp only[iN,By,sT,AT,AI,reduceIte,gD,cA0,k1,Bj,Bh,wm,Ao,Ae,AJ,AO,AN,AQ,l0,l3,lV0]
theorem ZA{x y:O}{k j:IntKind}{a b:Int}(hx:x e=.int k a)(hy:y e=.int j b):TC x y F e h=.ok (.int k (max a b)) h:=by
 show HS false (x e) (y e) h=_;rw[hx,hy];show(bif iLt a b then R.ok (.int k b) h else .ok (.int k a) h)=_;rw[Cs];by_cases hab:a<b
 ·rw[decide_eq_true hab,Int.max_eq_right (by omega)];rfl
 ·rw[decide_eq_false hab,Int.max_eq_left (by omega)];rfl
def AEe(a:Int):Int:=max (a - 1) (-1)
def Gs(a:Int)(k:Nat):Prop:=a≤1099511627776∧-1≤a∧(a<0∨(k:Int)≤a)
theorem Gs.one{a:Int}{k:Nat}(h:Gs a (k+1)):Gs (AEe a) k∧a≠0:=by
 unfold Gs AEe at *;omega
theorem Uw{m:Nat}(W:h.Wf)(d:Dk h bd bm bc n M c0 cs arm false){k:Nat}(ha:Gs arm (k+1)):
  ∃ h',call AD (m+1) 96 [pt bd] h=.ok (.int .i64 0) h'∧Fx (fun i=>i=bd) h h'∧Dk h' bd bm bc n M c0 cs (AEe arm) false:=by
 obtain⟨_,_,l2,_⟩:=CL d.disk;obtain⟨_,hne⟩:=ha.one;have c1:iEq arm 0=false:=DL hne;have hs:=d.disk.ADl (n:=1) (off:=2) W d.big.1 (v:=.int .i64 (AEe arm)) rfl (by show 2+1≤4;omega) rfl;have fr:=Fx.wr (S:=fun i=>i=bd) W d.disk (off:=2) (vs:=[.int .i64 (AEe arm)]) (by show 2+1≤4;omega) rfl;have r1:=d.disk.ADm W (off:=2) (vs:=[.int .i64 (AEe arm)]) (by show 2+1≤4;omega);have hw:xH.wrap (wA arm 1)=arm - 1:=by
  obtain⟨h1,h2,h3⟩:=ha;show xH.wrap (arm - 1)=_;rcases ACq arm 1 with hlt|hge
  ·have:arm= -1∨arm=0:=by omega
   rcases this with rfl|rfl<;>rfl
  ·exact bF (by omega) (by omega)
 have mx:∀ e:Env,AB 19 e=.int .i64 (arm - 1)→TC (AB 19) (kV (.int .i64 (-1))) (call AD m) e h=.ok (.int .i64 (AEe arm)) h:=fun e he=>ZA he rfl
 have hs:ADl 1 (.pointer (some ⟨bd,2,none⟩)) (.int .i64 (AEe arm)) h=.ok ADV (h.wr bd 2 [.int .i64 (AEe arm)]):=hs;refine⟨_,?_,fr,⟨r1,fr.row W d.med (fun h=>d.bdm h.symm),d.len,d.byt,nz W d.disk (by show 2+1≤4;omega) d.map,d.big,d.n1⟩⟩;rw[Xq rfl];unfold d96;simp only[iN,By,sT,AT,AI,reduceIte,Ao,Ae,AJ,AO,AN,AQ,sh,l2,AM,AK,c1,Br,CZ,hw,mx,Aa,hs,lV0]
end
end
end Go.Proofs.YtedbmmfebjfibaaGreat

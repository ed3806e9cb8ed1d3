/-
  Part ZK of what Lawsn stands on: printed by program, names and spaces cut.
-/
import Derived.Test.YtedbmmfebjfibaaGreatZJ
set_option linter.unusedVariables false
set_option linter.unusedSimpArgs false
namespace Go.Proofs.YtedbmmfebjfibaaGreat
noncomputable section
open Go
set_option maxRecDepth 100000
abbrev pt(b:Nat):Value:=.pointer (some ⟨b,0,none⟩)
def wv(n:Nat):Value:=.int .u32 (n:Int)
theorem Aq{a:Addr}{h:Hp}:U8 (.pointer (some a)) h=.ok (.pointer (some a)) h:=rfl
theorem Ay{F:CallF}{e:Env}{h:Hp}{x:O}:BM x F e h=U8 (x e) h:=rfl
theorem eS:Qt.k=.ptr 27:=by kernel_rfl
theorem kj{F:CallF}{e:Env}{h:Hp}{a:Addr}{g:O}(hg:g e=.pointer (some a)):oEq Qt.k false g (kV (.pointer none)) F e h=.ok (.bool false) h:=by
 show(match eqV Qt.k (g e) (.pointer none)with|some r=>okB (false != r) h|none=>.no)=_
 rw[eS,hg]
 exact E5
theorem lF{h:Hp}{tb:Nat}{T:List Nat}(R:h.Row tb 0 (T.map wv))(hT:TblOk T){k:IntKind}{x:Nat}(hx:x<256):MO 256 1 (pt tb) (.int k (x:Int)) h=.ok (.pointer (some ⟨tb,x,none⟩)) h∧Gq (.pointer (some ⟨tb,x,none⟩)) h=.ok (wv (T.getD x 0)) h:=by
 refine⟨?_,?_⟩
 ·have:=TO (h:=h) (n:=256) (es:=1) (b:=tb) (off:=0) (i:=x) (k:=k) hx
  rwa [Nat.zero_add,Nat.mul_one]at this
 ·have hx':x<T.length:=by rw[hT.1];exact hx
  rw[AU,R.load1 (off:=x) (by rw[List.length_map];exact hx'),List.getD_eq_getElem?_getD,List.getElem?_map,List.getD_eq_getElem?_getD,List.getElem?_eq_getElem hx'];rfl
theorem IE{h:Hp}{u:Value}{l:List Nat}(V:h.Vals u (l.map bv)){i:Nat}(hi:i<l.length):∃ a,idxSR 1 u (.int .i64 (i:Int)) h=.ok (.pointer (some a)) h∧Gq (.pointer (some a)) h=.ok (.int .u8 ((l.getD i 0:Nat):Int)) h:=by
 obtain⟨a,g1,g2⟩:=V.at (i:=i) (by rw[List.length_map];exact hi)
 refine⟨a,g1,?_⟩
 rw[g2,List.getD_eq_getElem?_getD,List.getElem?_map,List.getD_eq_getElem?_getD,List.getElem?_eq_getElem hi];rfl
theorem au{l:List Nat}(hb:∀ x∈l,x<256)(i:Nat):l.getD i 0<256:=by
 rw[List.getD_eq_getElem?_getD]
 cases h:l[i]? with
 |none=>decide
 |some x=>exact hb x (List.mem_of_getElem? h)
theorem Fg{l:List Nat}{i:Nat}(hi:i<l.length):l.drop i=l.getD i 0::l.drop (i+1):=by
 rw[List.drop_eq_getElem_cons hi,List.getD_eq_getElem?_getD,List.getElem?_eq_getElem hi];rfl
theorem Hp.Vals.bl{h:Hp}{u:Value}{l:List Nat}(V:h.Vals u (l.map bv))(g:Hp):lenSR u g=.ok (.int .i64 (l.length:Int)) g:=by
 obtain⟨a,c,hu⟩:=V.shape
 rw[hu,List.length_map];rfl
theorem sk{a b:Nat}(ha:a<256)(hb:b<256){h:Hp}:WO Nat.xor .u8 (.int .u8 (a:Int)) (.int .u8 (b:Int)) h=.ok (.int .u8 ((Nat.xor a b:Nat):Int)) h:=Sm (by show a≤255;omega) (by show b≤255;omega)
theorem qf{a b:Nat}(ha:a<4294967296)(hb:b<4294967296){h:Hp}:WO Nat.xor .u32 (.int .u32 (a:Int)) (.int .u32 (b:Int)) h=.ok (.int .u32 ((Nat.xor a b:Nat):Int)) h:=Sm (by show a≤4294967295;omega) (by show b≤4294967295;omega)
theorem Qx{n:Nat}(h:n≤4294967295):IntKind.u32.wrap (n:Int)=n:=C4 .u32 n h
theorem CR{i:Nat}(hi:i≤1000000000){h:Hp}:FD .i64 (.int .i64 (i:Int)) (.int .i64 1) h=.ok (.int .i64 ((i+1:Nat):Int)) h:=by
 have:(i:Int)+1=((i+1:Nat):Int):=by omega
 rw[EM,this,Bg (by omega)]
theorem Eo{a b:Nat}(h:a<b):iLt (a:Int) (b:Int)=true:=by rw[Cs];simp;omega
theorem DD{a b:Nat}(h:b≤a):iLt (a:Int) (b:Int)=false:=by rw[Cs];simp;omega
def suB:C:=(AE (AC 12) (AW iLt .i64 (AB 11) (AB 10))
(AS (AB 12)
(A2 (AY 1 (AE (AC 6) (AD (AB 11))
(BW (AE (AC 16) (CC .u8 (AB 5))
(AE (AC 19) (BF 1 (AB 1) (AB 6))
(AE (AC 20) (AK (AB 19))
(AE (AC 21) (H3 Nat.xor .u8 (AB 16) (AB 20))
(AE (AC 22) (BM (AB 0))
(AE (AC 23) (Bs 256 1 (AB 22) (AB 21))
(AE (AC 24) (AK (AB 23))
(AE (AC 26) (Ij .u32 (AB 5) (kV (.int .u64 8)))
(AE (AC 27) (H3 Nat.xor .u32 (AB 24) (AB 26))
(AE (AC 5) (AD (AB 27))
AX)))))))))))))
(AE (AC 28) (BZ .i64 (Ar .i64) (AB 11) (kV (.int .i64 1)))
(AE (AC 11) (AD (AB 28))
AX)))
(BK 0)))
def suE:C:=(AE (AC 30) (Bf Int.sub .u32 (kV (.int .u32 4294967295)) (AB 5))
(AE (AC 4) (AD (AB 30))
Ad))
theorem lE:suS=A2 (AY 0 (Az suB)) suE:=rfl
theorem jW:d71=aK:=rfl
theorem dY{F:CallF}{h:Hp}{tb:Nat}{T:List Nat}(R:h.Row tb 0 (T.map wv))(hT:TblOk T){u:Value}{l:List Nat}(V:h.Vals u (l.map bv))(hb:∀ x∈l,x<256)(hl:l.length≤900000){e:Env}(s0:AB 0 e=pt tb)(s1:AB 1 e=u)(s5:AB 5 e=.int .u32 ((4294967295:Nat):Int))(s10:AB 10 e=.int .i64 (l.length:Int))(s11:AB 11 e=.int .i64 ((0:Nat):Int)):
  ∃ e' h',Az suB F e h=.exit 0 e' h'∧(h'=h∨h'=h.marked)∧AB 5 e'=.int .u32 ((OW T 4294967295 l:Nat):Int):=by
 refine Be (I:=fun i e' h'=>(h'=h∨h'=h.marked)∧∃ s:Nat,AB 0 e'=pt tb∧AB 1 e'=u∧AB 5 e'=.int .u32 (s:Int)∧AB 10 e'=.int .i64 (l.length:Int)∧AB 11 e'=.int .i64 (i:Int)∧i≤l.length∧s<4294967296∧OW T 4294967295 l=OW T s (l.drop i))
  (Q:=fun x=>∃ e' h',x=.exit 0 e' h'∧(h'=h∨h'=h.marked)∧AB 5 e'=.int .u32 ((OW T 4294967295 l:Nat):Int)) l.length (by omega) (fun i e' h' ⟨hh,s,t0,t1,t5,t10,t11,hi,hs,hr⟩=>?_) ⟨.inl rfl,4294967295,s0,s1,s5,s10,s11,Nat.zero_le _,by decide,rfl⟩
 have hm:h'.marked=h.marked:=by rcases hh with rfl|rfl<;>rfl
 by_cases hlt:i<l.length
 ·left
  have V2:h.marked.Vals u (l.map bv):=V.same rfl
  have R2:h.marked.Row tb 0 (T.map wv):=R.same rfl
  obtain⟨a,g1,g2⟩:=IE V2 hlt
  have hc:=au hb i
  rw[Fg hlt]at hr
  generalize l.getD i 0=c at g2 hc hr
  have c1:=Eo hlt
  have v1:DQ .u8 (.int .u32 (s:Int)) h.marked=.ok (.int .u8 ((s % 256:Nat):Int)) h.marked:=by rw[Ck,HY]
  have x1:=sk (h:=h.marked) (show s % 256<256 by omega) hc
  have hx:=dr (show s % 256<256 by omega) hc
  obtain⟨i1,l1⟩:=lF R2 hT (k:=.u8) hx
  have r1:Yw .u32 (.int .u32 (s:Int)) (.int .u64 8) h.marked=.ok (.int .u32 ((s / 256:Nat):Int)) h.marked:=Tw (j:=.u32) (q:=.u64) (m:=s) (n:=8)
  have x2:=qf (h:=h.marked) (hT.2 (Nat.xor (s % 256) c)) (show s / 256<4294967296 by omega)
  have l1:Gq (.pointer (some ⟨tb,Nat.xor (s % 256) c,none⟩)) h.marked=.ok (.int .u32 ((T.getD (Nat.xor (s % 256) c) 0:Nat):Int)) h.marked:=l1
  have hst:=NS hT hs c
  have a3:=CR (i:=i) (h:=h.marked) (by omega)
  have hrun:∃ e2,suB F e' h'=.norm e2 h.marked∧AB 0 e2=pt tb∧AB 1 e2=u∧AB 5 e2=.int .u32 ((Nat.xor (T.getD (Nat.xor (s % 256) c) 0) (s / 256):Nat):Int)∧AB 10 e2=.int .i64 (l.length:Int)∧AB 11 e2=.int .i64 ((i+1:Nat):Int):=by
   unfold suB
   simp only[sT,Nat.reduceLT,Nat.reduceEqDiff,reduceIte,AO,AN,t11,t10,c1,BA,hm,CN,t5,v1,A8,t1,g1,AP,g2,bo,x1,Ay,t0,Aq,C3,i1,l1,Tk,r1,x2,BR,a3]
   exact⟨_,rfl,by simp[AH,t0,t1,t10]⟩
  obtain⟨e2,q1,q2,q3,q4,q5,q6⟩:=hrun
  exact⟨hlt,e2,h.marked,q1,.inr rfl,_,q2,q3,q4,q5,q6,hlt,hst,hr⟩
 ·right
  have c1:=DD (show l.length≤i by omega)
  have hrun:∃ e2,suB F e' h'=.exit 0 e2 h'∧AB 5 e2=.int .u32 (s:Int):=by
   unfold suB
   simp only[sT,Nat.reduceLT,Nat.reduceEqDiff,reduceIte,AO,AN,t11,t10,c1]
   exact⟨_,rfl,by simp[AH,t5]⟩
  obtain⟨e2,q1,q2⟩:=hrun
  rw[q1]
  refine⟨rfl,e2,h',rfl,hh,?_⟩
  rw[q2,hr,List.drop_of_length_le (by omega)];rfl
theorem SV{n:Nat}{h:Hp}{tb:Nat}{T:List Nat}(R:h.Row tb 0 (T.map wv))(hT:TblOk T){u:Value}{l:List Nat}(V:h.Vals u (l.map bv))(hb:∀ x∈l,x<256)(hl:l.length≤900000):
  ∃ h',call AF (n+1) 71 [pt tb,u] h=.ok (.int .u32 ((Ct T l:Nat):Int)) h'∧(h'=h∨h'=h.marked):=by
 have ne:∀ e:Env,AB 0 e=pt tb→oEq Qt.k false (AB 0) (kV (.pointer none)) (call AF n) e h=.ok (.bool false) h:=fun e he=>kj he
 have Vl:=V.bl h
 have pre:∃ e1,aK (call AF n) (AV e0 0 [pt tb,u]) h=suS (call AF n) e1 h∧AB 0 e1=pt tb∧AB 1 e1=u∧AB 5 e1=.int .u32 ((4294967295:Nat):Int)∧AB 10 e1=.int .i64 (l.length:Int)∧AB 11 e1=.int .i64 ((0:Nat):Int):=by
  unfold aK
  simp only[iN,Nat.reduceAdd,sT,Nat.reduceLT,Nat.reduceEqDiff,reduceIte,ne,Am,Vl]
  exact⟨_,rfl,by simp[AH]⟩
 obtain⟨e1,p1,p2,p3,p4,p5,p6⟩:=pre
 obtain⟨e2,h',q1,q2,q3⟩:=dY (F:=call AF n) R hT V hb hl p2 p3 p4 p5 p6
 have a1:FE Int.sub .u32 (.int .u32 4294967295) (.int .u32 ((OW T 4294967295 l:Nat):Int)) h'=.ok (.int .u32 ((Ct T l:Nat):Int)) h':=by
  have hs:=UF hT l 4294967295 (by decide)
  have:Int.sub 4294967295 ((OW T 4294967295 l:Nat):Int)=((Ct T l:Nat):Int):=by
   show(4294967295:Int) - _=_
   unfold Ct;omega
  rw[CO,this,Qx (by unfold Ct;omega)]
 refine⟨h',?_,q2⟩
 rw[ic rfl,jW,p1,lE]
 simp only[BP,A1,q1,A5,BJ]
 unfold suE
 simp only[sT,Nat.reduceLT,Nat.reduceEqDiff,reduceIte,Bz,q3,a1,lV0]
end
noncomputable section
open Go
set_option maxRecDepth 100000
def Mk(h:Hp)(k:Nat)(v:Value)(l:List Nat):Prop:=∃ b el,v=.slice (some ⟨b,0,none⟩) l.length l.length∧(el=0∨el=6)∧h.Row b el (l.map bv)∧k≤b
theorem Mk.vals{h:Hp}{k:Nat}{v:Value}{l:List Nat}(m:Mk h k v l):h.Vals v (l.map bv):=by
 obtain⟨b,el,h1,h2,h3,h4⟩:=m
 exact .inr ⟨b,0,l.length,el,_,by rw[List.length_map];exact h1,h3,by simp,by rw[List.drop_zero,List.take_length]⟩
theorem Mk.ext{h h':Hp}{k:Nat}{v:Value}{l:List Nat}(m:Mk h k v l)(W:h.Wf)(x:h.Ext h'):Mk h' k v l:=by
 obtain⟨b,el,h1,h2,h3,h4⟩:=m
 exact⟨b,el,h1,h2,h3.ext W x,h4⟩
theorem Mk.same{h h':Hp}{k:Nat}{v:Value}{l:List Nat}(m:Mk h k v l)(hb:h'.bl=h.bl):Mk h' k v l:=by
 obtain⟨b,el,h1,h2,h3,h4⟩:=m
 exact⟨b,el,h1,h2,h3.same hb,h4⟩
theorem Mk.le{h:Hp}{k k':Nat}{v:Value}{l:List Nat}(m:Mk h k v l)(hk:k'≤k):Mk h k' v l:=by
 obtain⟨b,el,h1,h2,h3,h4⟩:=m
 exact⟨b,el,h1,h2,h3,by omega⟩
theorem Hp.Own.mk{h:Hp}{k:Nat}{v:Value}{l:List Nat}(o:h.Own k 5 v (l.map bv))(hl:0<l.length):Mk h k v l:=by
 rcases o with ⟨_,h2⟩|⟨b,h1,h2,h3,h4⟩
 ·have:=congrArg List.length h2
  rw[List.length_map,List.length_nil]at this;omega
 ·rw[List.length_map]at h1
  exact⟨b,6,h1,.inr rfl,h2,h3⟩
theorem KZ:∀ n:Nat,BI ty5.zero n=(List.replicate n 0).map bv:=fun n=>by
 have hz:ty5.zero=[bv 0]:=by kernel_rfl
 rw[hz]
 induction n with
 |zero=>rfl
 |succ n ih=>show [bv 0]++BI [bv 0] n=_;rw[ih];rfl
theorem QF{A B:List Value}{x y:Value}:over (A++x::B) A.length [y]=A++y::B:=by
 unfold over
 have e:A++x::B=(A++[x])++B:=by simp
 rw[List.take_left,e,show A.length+[y].length=(A++[x]).length by simp,List.drop_left]
 simp
theorem Lx{A B V:List Value}(h:A.length=V.length):over (A++B) 0 V=V++B:=by
 unfold over
 rw[Nat.zero_add,← h,List.drop_left];simp
theorem Vn{s i:Nat}(hi:i<4):(G7 s).drop (3 - i)=(s / 2 ^ min (8 * i) 32) % 256::(G7 s).drop (4 - i):=by
 have:i=0∨i=1∨i=2∨i=3:=by omega
 rcases this with rfl|rfl|rfl|rfl
 ·show [s % 256]=s / 1 % 256::[]
  rw[Nat.div_one]
 ·rfl
 ·rfl
 ·rfl
theorem Oj{a b:List Nat}(ha:∀ x∈a,x<256)(hb:∀ x∈b,x<256):bEq (a.map UInt8.ofNat) (b.map UInt8.ofNat)=decide (a=b):=by
 rw[Ko,Bool.eq_iff_iff,beq_iff_eq,decide_eq_true_eq]
 refine⟨fun h=>?_,fun h=>by rw[h]⟩
 have h1:=congrArg (List.map UInt8.toNat) h
 rw[List.map_map,List.map_map]at h1
 have e:∀ l:List Nat,(∀ x∈l,x<256)→l.map (UInt8.toNat∘UInt8.ofNat)=l:=fun l hl=>by
  have:l.map (UInt8.toNat∘UInt8.ofNat)=l.map id:=List.map_congr_left fun x hx=>by
   show(UInt8.ofNat x).toNat=x
   rw[UInt8.toNat_ofNat',Nat.mod_eq_of_lt (hl x hx)]
  rw[this,List.map_id]
 rwa [e a ha,e b hb]at h1
theorem oZ{n:Nat}{h:Hp}{u v:Value}{a b:List Nat}(U:h.Vals u (a.map bv))(V:h.Vals v (b.map bv))(ha:∀ x∈a,x<256)(hb:∀ x∈b,x<256):call AF (n+1) 24 [u,v] h=.ok (.bool (decide (a=b))) h:=by
 have hbe:=Oj ha hb
 rw[gx rfl]
 unfold d24
 simp only[iN,Nat.reduceAdd,sT,Nat.reduceLT,Nat.reduceEqDiff,reduceIte,Jd,U.bytes.str,V.bytes.str,OE,Nh,hbe,lV0]
def slB:C:=(AE (AC 16) (AW iLt .i64 (AB 15) (kV (.int .i64 4)))
(AS (AB 16)
(A2 (AY 1 (AE (AC 7) (AD (AB 15))
(AE (AC 20) (BD (AB 1))
(AE (AC 21) (BZ .i64 (Ar .i64) (AB 20) (kV (.int .i64 4)))
(AE (AC 22) (Bf Int.sub .i64 (AB 21) (kV (.int .i64 1)))
(AE (AC 24) (Bf Int.sub .i64 (AB 22) (AB 7))
(AE (AC 27) (Bf Int.mul .i64 (kV (.int .i64 8)) (AB 7))
(AE (AC 28) (Ij .u32 (AB 6) (AB 27))
(AE (AC 29) (CC .u8 (AB 28))
(AE (AC 30) (BF 1 (AB 5) (AB 24))
(cDo (Af 1 (AB 30) (AB 29))
AX)))))))))))
(AE (AC 31) (BZ .i64 (Ar .i64) (AB 15) (kV (.int .i64 1)))
(AE (AC 15) (AD (AB 31))
AX)))
(BK 0)))
def slE:C:=(AE (AC 34) (Gu 1 (AB 5) (AB 1))
(AE (AC 4) (AD (AB 5))
Ad))
theorem lB:slS=A2 (AY 0 (Az slB)) slE:=rfl
theorem jY:d73=aL:=rfl
theorem dV{F:CallF}{h h0:Hp}(W0:h0.Wf)(x:h0.Ext h){r s N:Nat}(hr:h0.next≤r){u:Value}{l:List Nat}(V:h0.Vals u (l.map bv))(hN:N=l.length+4)(hl:l.length≤900000)(hs:s<4294967296)(R:h.Row r 0 ((List.replicate N 0).map bv)){e:Env}
  (s1:AB 1 e=u)(s5:AB 5 e=.slice (some ⟨r,0,none⟩) N N)(s6:AB 6 e=.int .u32 (s:Int))(s15:AB 15 e=.int .i64 ((0:Nat):Int)):
  ∃ e' h',Az slB F e h=.exit 0 e' h'∧h0.Ext h'∧h'.Row r 0 ((List.replicate l.length 0++G7 s).map bv)∧AB 1 e'=u∧AB 5 e'=.slice (some ⟨r,0,none⟩) N N:=by
 refine Be (I:=fun i e' h'=>h0.Ext h'∧h'.Row r 0 ((List.replicate (N - i) 0++(G7 s).drop (4 - i)).map bv)∧AB 1 e'=u∧AB 5 e'=.slice (some ⟨r,0,none⟩) N N∧AB 6 e'=.int .u32 (s:Int)∧AB 15 e'=.int .i64 (i:Int)∧i≤4)
  (Q:=fun x=>∃ e' h',x=.exit 0 e' h'∧h0.Ext h'∧h'.Row r 0 ((List.replicate l.length 0++G7 s).map bv)∧AB 1 e'=u∧AB 5 e'=.slice (some ⟨r,0,none⟩) N N) 4 (by omega) (fun i e' h' ⟨x',R',t1,t5,t6,t15,hi⟩=>?_)
  ⟨x,by rw[Nat.sub_zero,List.drop_of_length_le (show(G7 s).length≤4 - 0 from Nat.le_refl _),List.append_nil];exact R,s1,s5,s6,s15,by omega⟩
 by_cases hlt:i<4
 ·left
  have W:=x'.wf
  have Vl:=V.bl h'
  have c1:iLt (i:Int) 4=true:=Eo hlt
  have a1:FD .i64 (.int .i64 (l.length:Int)) (.int .i64 4) h'=.ok (.int .i64 (N:Int)) h':=by
   rw[EM,show(l.length:Int)+4=(N:Int)by omega,Bg (by omega)]
  have a2:FE Int.sub .i64 (.int .i64 (N:Int)) (.int .i64 1) h'=.ok (.int .i64 ((N - 1:Nat):Int)) h':=by
   have:Int.sub (N:Int) 1=((N - 1:Nat):Int):=by show(N:Int) - 1=_;omega
   rw[CO,this,Bg (by omega)]
  have a3:FE Int.sub .i64 (.int .i64 ((N - 1:Nat):Int)) (.int .i64 (i:Int)) h'=.ok (.int .i64 ((N - (i+1):Nat):Int)) h':=by
   have:Int.sub ((N - 1:Nat):Int) (i:Int)=((N - (i+1):Nat):Int):=by show((N - 1:Nat):Int) - (i:Int)=_;omega
   rw[CO,this,Bg (by omega)]
  have a4:FE Int.mul .i64 (.int .i64 8) (.int .i64 (i:Int)) h'=.ok (.int .i64 ((8 * i:Nat):Int)) h':=by
   have:Int.mul 8 (i:Int)=((8 * i:Nat):Int):=by show(8:Int) * (i:Int)=_;omega
   rw[CO,this,Bg (by omega)]
  have r1:Yw .u32 (.int .u32 (s:Int)) (.int .i64 ((8 * i:Nat):Int)) h'=.ok (.int .u32 ((s / 2 ^ min (8 * i) 32:Nat):Int)) h':=Tw (j:=.u32) (q:=.i64) (m:=s) (n:=8 * i)
  have v1:DQ .u8 (.int .u32 ((s / 2 ^ min (8 * i) 32:Nat):Int)) h'=.ok (.int .u8 ((s / 2 ^ min (8 * i) 32 % 256:Nat):Int)) h':=by rw[Ck,HY]
  have i1:idxSR 1 (.slice (some ⟨r,0,none⟩) N N) (.int .i64 ((N - (i+1):Nat):Int)) h'=.ok (.pointer (some ⟨r,N - (i+1),none⟩)) h':=by
   have:=DJ (h:=h') (n:=N) (c:=N) (es:=1) (b:=r) (off:=0) (i:=N - (i+1)) (k:=.i64) (by omega)
   rwa [Nat.zero_add,Nat.mul_one]at this
  have hsuf:=Vn (s:=s) hlt
  generalize s / 2 ^ min (8 * i) 32 % 256=c at v1 hsuf
  have hlist:(List.replicate (N - i) 0++(G7 s).drop (4 - i)).map bv=(List.replicate (N - (i+1)) 0).map bv++bv 0::((G7 s).drop (4 - i)).map bv:=by
   rw[show N - i=(N - (i+1))+1 by omega,List.replicate_succ',List.map_append,List.map_append,List.append_assoc];rfl
  rw[hlist]at R'
  have hAl:((List.replicate (N - (i+1)) 0).map bv).length=N - (i+1):=by simp
  have ho:N - (i+1)+[Value.int .u8 (c:Int)].length≤((List.replicate (N - (i+1)) 0).map bv++bv 0::((G7 s).drop (4 - i)).map bv).length:=by
   simp only[List.length_append,List.length_cons,List.length_nil,hAl];omega
  have h256:256≤r:=by have:=W0.big;omega
  have st:=R'.storeR (n:=1) (off:=N - (i+1)) W h256 (v:=.int .u8 (c:Int)) rfl ho rfl
  have wr:=R'.wr_self W (off:=N - (i+1)) (vs:=[.int .u8 (c:Int)]) ho
  have xw:=R'.wr_ext x' hr (off:=N - (i+1)) (vs:=[.int .u8 (c:Int)]) ho
  have a5:=CR (i:=i) (h:=h'.wr r (N - (i+1)) [.int .u8 (c:Int)]) (by omega)
  have hov:over ((List.replicate (N - (i+1)) 0).map bv++bv 0::((G7 s).drop (4 - i)).map bv) (N - (i+1)) [.int .u8 (c:Int)]=(List.replicate (N - (i+1)) 0++(G7 s).drop (4 - (i+1))).map bv:=by
   have:=QF (A:=(List.replicate (N - (i+1)) 0).map bv) (B:=((G7 s).drop (4 - i)).map bv) (x:=bv 0) (y:=bv c)
   rw[hAl]at this
   rw[show 4 - (i+1)=3 - i by omega,hsuf,List.map_append,List.map_cons]
   exact this
  rw[hov]at wr
  rw[DN]at st
  have hrun:∃ e2,slB F e' h'=.norm e2 (h'.wr r (N - (i+1)) [.int .u8 (c:Int)])∧AB 1 e2=u∧AB 5 e2=.slice (some ⟨r,0,none⟩) N N∧AB 6 e2=.int .u32 (s:Int)∧AB 15 e2=.int .i64 ((i+1:Nat):Int):=by
   unfold slB
   simp only[sT,Nat.reduceLT,Nat.reduceEqDiff,reduceIte,AO,AN,t15,c1,Am,t1,Vl,BR,a1,Bz,a2,a3,a4,Tk,t6,r1,CN,v1,A8,t5,i1,Ao,st,a5]
   exact⟨_,rfl,by simp[AH,t1,t5,t6]⟩
  obtain⟨e2,q1,q2,q3,q4,q5⟩:=hrun
  exact⟨hlt,e2,_,q1,xw,wr,q2,q3,q4,q5,hlt⟩
 ·right
  have hi4:i=4:=by omega
  subst hi4
  have c1:=DD (show 4≤4 by omega)
  have hrun:∃ e2,slB F e' h'=.exit 0 e2 h'∧AB 1 e2=u∧AB 5 e2=.slice (some ⟨r,0,none⟩) N N:=by
   unfold slB
   have c1:iLt ((4:Nat):Int) 4=false:=c1
   simp only[sT,Nat.reduceLT,Nat.reduceEqDiff,reduceIte,AO,AN,t15,c1]
   exact⟨_,rfl,by simp[AH,t1,t5]⟩
  obtain⟨e2,q1,q2,q3⟩:=hrun
  rw[q1]
  refine⟨rfl,e2,h',rfl,x',?_,q2,q3⟩
  have e1:N - 4=l.length:=by omega
  have e2:4 - 4=0:=rfl
  rw[e1,e2,List.drop_zero]at R'
  exact R'
theorem OA{F:CallF}{e:Env}{h:Hp}(W:h.Wf){x y:O}{N:Nat}(hx:x e=.int .i64 (N:Int))(hy:y e=.int .i64 (N:Int))(hN:N≤1000000):Fs 1 ty5.zero x y F e h=.ok (.slice (some ⟨h.next,0,none⟩) N N) (h.pushRow 0 ((List.replicate N 0).map bv)):=by
 unfold Fs
 rw[hx,hy,Cu]
 unfold Pm
 have e1:Nat.ble N N=true:=Al.2 (Nat.le_refl N)
 have e2:Nat.ble (Nat.mul (Nat.succ N) (Nat.succ 1)) most=true:=Al.2 (by
  show(N+1) * 2≤1099511627776
  omega)
 simp only[e1,e2,cond_true]
 rw[DA W,KZ];rfl
theorem Zx{F:CallF}{e:Env}{h:Hp}(W:h.Wf){x y:O}{r N:Nat}{u:Value}{l A B:List Nat}(hx:x e=.slice (some ⟨r,0,none⟩) N N)(hy:y e=u)(V:h.Vals u (l.map bv))(h256:256≤r)(hA:A.length=l.length)(hN:N=(A++B).length)(R:h.Row r 0 ((A++B).map bv)):
  Gu 1 x y F e h=.ok (.int .i64 (l.length:Int)) (h.wr r 0 (l.map bv))∧(h.wr r 0 (l.map bv)).Row r 0 ((l++B).map bv):=by
 have ho:0+(l.map bv).length≤((A++B).map bv).length:=by simp;omega
 have h1:Bh (l.map bv)=true:=C9 l
 refine⟨?_,?_⟩
 ·unfold Gu Ov
  rw[hx,hy]
  simp only[V.lenV,Ai,BO,List.length_map]
  rw[Nat.min_eq_left (show l.length≤N by rw[hN,List.length_append];omega)]
  rw[V.src (n:=l.length) (by rw[List.length_map])]
  rw[R.store W h256 ho h1];rfl
 ·have:=R.wr_self W ho
  rw[List.map_append,Lx (by simp[hA])]at this
  rw[List.map_append];exact this
theorem Tv{n:Nat}{h:Hp}(W:h.Wf){tb:Nat}{T:List Nat}(R:h.Row tb 0 (T.map wv))(hT:TblOk T){u:Value}{l:List Nat}(V:h.Vals u (l.map bv))(hb:∀ x∈l,x<256)(hl:l.length≤900000):
  ∃ h' v,call AF (n+2) 73 [pt tb,u] h=.ok v h'∧h.Ext h'∧Mk h' h.next v (Ed T l):=by
 have x1:=(Hp.Ext.refl W).pushRow 0 ((List.replicate (l.length+4) 0).map bv)
 have R1:=Hp.Row.new W 0 ((List.replicate (l.length+4) 0).map bv)
 have mk:=fun (e:Env) (hx:AB 10 e=.int .i64 ((l.length+4:Nat):Int))=>OA (F:=call AF (n+1)) (e:=e) W (x:=AB 10) (y:=AB 10) hx hx (by omega)
 generalize h.pushRow 0 ((List.replicate (l.length+4) 0).map bv)=h1 at x1 R1 mk
 obtain⟨h2,k1,k2⟩:=SV (n:=n) (R.ext W x1) hT (V.ext W x1) hb hl
 have hbl:h2.bl=h1.bl:=by rcases k2 with rfl|rfl<;>rfl
 have x2:h.Ext h2:=by
  rcases k2 with rfl|rfl
  ·exact x1
  ·exact x1.marked
 have Vl:=V.bl h
 have a1:FD .i64 (.int .i64 (l.length:Int)) (.int .i64 4) h=.ok (.int .i64 ((l.length+4:Nat):Int)) h:=by
  rw[EM,show(l.length:Int)+4=((l.length+4:Nat):Int)by omega,Bg (by omega)]
 have pre:∃ e1,aL (call AF (n+1)) (AV e0 0 [pt tb,u]) h=slS (call AF (n+1)) e1 h2∧AB 1 e1=u∧AB 5 e1=.slice (some ⟨h.next,0,none⟩) (l.length+4) (l.length+4)∧AB 6 e1=.int .u32 ((Ct T l:Nat):Int)∧AB 15 e1=.int .i64 ((0:Nat):Int):=by
  unfold aL
  simp only[iN,Nat.reduceAdd,sT,Nat.reduceLT,Nat.reduceEqDiff,reduceIte,Am,Vl,BR,a1,mk,cA0,k1]
  exact⟨_,rfl,by simp[AH]⟩
 obtain⟨e1,p1,p2,p3,p4,p5⟩:=pre
 obtain⟨e2,h3,q1,x3,R3,q2,q3⟩:=dV (F:=call AF (n+1)) W x2 (Nat.le_refl _) V rfl hl (Iz T l) (R1.same hbl) p2 p3 p4 p5
 have h256:=W.big
 obtain⟨c1,c2⟩:=Zx (F:=call AF (n+1)) (e:=e2) x3.wf (x:=AB 5) (y:=AB 1) q3 q2 (V.ext W x3) h256 (A:=List.replicate l.length 0) (B:=G7 (Ct T l)) (by simp) (by rw[List.length_append,List.length_replicate];rfl) R3
 have x4:=R3.wr_ext x3 (Nat.le_refl _) (off:=0) (vs:=l.map bv) (by rw[List.length_map,List.length_map,List.length_append,List.length_replicate];omega)
 refine⟨_,.slice (some ⟨h.next,0,none⟩) (l.length+4) (l.length+4),?_,x4,⟨h.next,0,by rw[HV],.inl rfl,c2,Nat.le_refl _⟩⟩
 rw[ig rfl,jY,p1,lB]
 simp only[BP,A1,q1,A5,BJ]
 unfold slE
 simp only[sT,Nat.reduceLT,Nat.reduceEqDiff,reduceIte,c1,q3,lV0]
end
noncomputable section
open Go
set_option maxRecDepth 100000
theorem ZC:KE.k=.slice 5:=by kernel_rfl
theorem kD{F:CallF}{e:Env}{h:Hp}{a:Addr}{n c:Nat}{g:O}(hg:g e=.slice (some a) n c):oEq KE.k false g (kV (.slice none 0 0)) F e h=.ok (.bool false) h:=by
 show(match eqV KE.k (g e) (.slice none 0 0)with|some r=>okB (false != r) h|none=>.no)=_
 rw[ZC,hg]
 exact E5
theorem Nm{h0 h:Hp}{eb en k b:Nat}{u:Value}{ys:List Value}(x0:h0.Ext h)(hk2:k≤h.next)(r:h.Row b 0 [])(y:h.Vals u ys)(hy:0<ys.length)(ha:Bh ys=true)(hm:(ys.length+1) * (eb+1)≤1099511627776):
  ∃ h' v',DF 1 eb en (.slice (some ⟨b,0,none⟩) 0 0) u h=.ok v' h'∧h0.Ext h'∧h'.Own k en v' ys:=by
 have W:=x0.wf
 obtain⟨cc,hcc,hl⟩:=r.rowOf
 obtain⟨t,h2,h3⟩:=Dj ys cc [] 0 hl (.inr rfl)
 have h3:t.Is ys:=by simpa using h3
 refine⟨h.push (.cells t ys.length (en+1)),.slice (some ⟨h.next,0,none⟩) ys.length ys.length,?_,x0.push _,.inr ⟨h.next,rfl,⟨t,by rw[W.push_get,if_pos rfl],h3⟩,hk2,W.big⟩⟩
 unfold DF DM
 simp only[y.lenV,y.src rfl,Ai,Nat.add_eq,Nat.zero_add]
 have e1:Nat.ble ys.length 0=false:=by
  cases e:Nat.ble ys.length 0
  ·rfl
  ·have:=Al.1 e;omega
 have e2:Nat.ble (Nat.mul (Nat.succ ys.length) (Nat.succ eb)) Ic=true:=Al.2 (HN hm)
 rw[e1]
 simp only[e2,cond_true,ha]
 unfold GS
 have hcc:rowOf h b=.ok cc 0 0:=hcc
 have e3:Nat.beq 0 (Nat.mul 0 1)=true:=rfl
 simp only[hcc,e3,h2]
 unfold EZ
 simp only[hcc,BQ,Nat.add_eq,Nat.zero_add]
 unfold CE
 rw[Ai,Ci W];rfl
theorem O4{F:CallF}{e:Env}{h:Hp}(W:h.Wf):AZ 0 (BI ty5.zero 0) [] F e h=.ok (.slice (some ⟨h.next,0,none⟩) 0 0) (h.pushRow 0 []):=by
 have:BI ty5.zero 0=[]:=rfl
 rw[this,Ca,CP,DA W];rfl
theorem Oo{n:Nat}{h:Hp}(W:h.Wf){a:Addr}{c:Nat}{l:List Nat}(V:h.Vals (.slice (some a) l.length c) (l.map bv))(hl:l.length≤900000):∃ h' v,call AF (n+1) 39 [.slice (some a) l.length c] h=.ok v h'∧h.Ext h'∧Mk h' h.next v l:=by
 have y1:=(Hp.Ext.refl W).pushRow 0 []
 have R:=Hp.Row.new W 0 []
 have es:=fun (e:Env)=>O4 (F:=call AF n) (e:=e) W
 have n1:(h.pushRow 0 []).next=h.next+1:=rfl
 generalize h.pushRow 0 []=h1 at y1 R es n1
 have ne:∀ e:Env,AB 0 e=.slice (some a) l.length c→oEq KE.k false (AB 0) (kV (.slice none 0 0)) (call AF n) e h=.ok (.bool false) h:=fun e he=>kD he
 rcases Nat.eq_zero_or_pos l.length with hz|hz
 ·have hl0:l=[]:=List.eq_nil_of_length_eq_zero hz
  subst hl0
  have h256:=W.big
  have ap:DF 1 1 5 (.slice (some ⟨h.next,0,none⟩) 0 0) (.slice (some a) 0 c) h1=.ok (.slice (some ⟨h.next,0,none⟩) 0 0) (h1.wr h.next 0 []):=Og (l:=[]) y1.wf h256 R (V.ext W y1).bytes (Nat.le_refl _) (Nat.le_refl _)
  have R2:=R.wr_self y1.wf (off:=0) (vs:=[]) (Nat.le_refl _)
  have x2:=R.wr_ext y1 (Nat.le_refl _) (off:=0) (vs:=[]) (Nat.le_refl _)
  refine⟨_,.slice (some ⟨h.next,0,none⟩) 0 0,?_,x2,⟨h.next,0,rfl,.inl rfl,R2,Nat.le_refl _⟩⟩
  rw[Hm rfl]
  unfold d39
  have ne:∀ e:Env,AB 0 e=.slice (some a) 0 c→oEq KE.k false (AB 0) (kV (.slice none 0 0)) (call AF n) e h=.ok (.bool false) h:=ne
  simp only[iN,Nat.reduceAdd,sT,Nat.reduceLT,Nat.reduceEqDiff,reduceIte,List.length_nil,ne,es,BL,ap,lV0]
 ·obtain⟨h2,v,a1,a2,a3⟩:=Nm (eb:=1) (en:=5) (k:=h.next) y1 (by omega) R (V.ext W y1) (by rw[List.length_map];exact hz) (C9 l) (by rw[List.length_map];omega)
  refine⟨h2,v,?_,a2,a3.mk hz⟩
  rw[Hm rfl]
  unfold d39
  simp only[iN,Nat.reduceAdd,sT,Nat.reduceLT,Nat.reduceEqDiff,reduceIte,ne,es,BL,a1,lV0]
theorem Wq{F:CallF}{e:Env}{h:Hp}{x y:O}{a:Addr}{el N C m:Nat}(hx:x e=.slice (some a) N C)(hy:y e=.int .i64 (m:Int))(hm:m≤C):DE el 1 x none (some y) none F e h=.ok (.slice (some a) m C) h:=by
 show(match x e with|.slice a n c=>DB e n c none (some y) none (fun l hh m=>Dq el 1 a false l hh m h)|_=>.no)=_
 rw[hx]
 show CZ e (some y) N C (fun hh=>CZ e none 0 hh fun l=>Dq el 1 (some a) false l hh C h)=_
 have hb:∀ K:Nat→R,CZ e (some y) N C K=K m:=fun K=>by
  show(match Cy (y e)with|.ok n=>(bif Nat.ble n C then K n else .no)|.no=>.no)=_
  rw[hy,Cu]
  simp only
  rw[Al.2 hm];rfl
 rw[hb]
 show Bn (some a) 1 0 m C h=_
 unfold Bn
 simp only[Ai]
 cases C with
 |zero=>rfl
 |succ C=>rfl
theorem YN{F:CallF}{e:Env}{h:Hp}{k:C}{o:Addr}{n c:Nat}(hb:o.block<h.mark):Jf (.slice (some o) n c) k F e h=k F e h:=by
 show(bif Nat.blt o.block h.mark then k F e h else .no)=_
 rw[BH.2 hb];rfl
theorem Hp.Vals.blt{h:Hp}(W:h.Wf){o:Addr}{n c:Nat}{xs:List Value}(V:h.Vals (.slice (some o) n c) xs):o.block<h.next:=by
 rcases V with ⟨h1,_⟩|⟨b,off,c',el,L,h1,h2,_⟩
 ·cases h1
 ·cases h1;exact h2.lt W
def Vy(u:Value):Prop:=∀ o n c,u=.slice o n c→n≤c
theorem Mk.cap{h:Hp}{k:Nat}{v:Value}{l:List Nat}(m:Mk h k v l):Vy v:=fun o n c e=>by
 obtain⟨b,el,h1,_⟩:=m
 rw[h1]at e;cases e;exact Nat.le_refl _
def qk(T l:List Nat)(h h':Hp)(r:R):Prop:=(∃ body v,EU T l=some body∧r=.ok (.tuple ⟨[v,.int .i64 0]⟩) h'∧Mk h' h.next v body)∨(EU T l=none∧∃ c:Int,c≠0∧r=.ok (.tuple ⟨[.slice none 0 0,.int .i64 c]⟩) h')
theorem Vx{n:Nat}{h:Hp}(W:h.Wf){tb:Nat}{T:List Nat}(R:h.Row tb 0 (T.map wv))(hT:TblOk T){u:Value}{l:List Nat}(V:h.Vals u (l.map bv))(hC:Vy u)(hb:∀ x∈l,x<256)(hl:l.length≤900000):
  ∃ h',h.Ext h'∧qk T l h h' (call AF (n+3) 110 [pt tb,u] h):=by
 have Vl:=V.bl h
 by_cases h4:l.length<4
 ·have c1:iLt (l.length:Int) 4=true:=Eo h4
  refine⟨h,.refl W,.inr ⟨by unfold EU;rw[if_pos h4],11,by omega,?_⟩⟩
  rw[Nb rfl]
  unfold Uj
  simp only[iN,Nat.reduceAdd,sT,Nat.reduceLT,Nat.reduceEqDiff,reduceIte,Am,Vl,AO,AN,c1,Bp,DI]
 ·have c1:iLt (l.length:Int) 4=false:=DD (a:=l.length) (b:=4) (by omega)
  have a1:FE Int.sub .i64 (.int .i64 (l.length:Int)) (.int .i64 4) h=.ok (.int .i64 ((l.length - 4:Nat):Int)) h:=by
   have:Int.sub (l.length:Int) 4=((l.length - 4:Nat):Int):=by show(l.length:Int) - 4=_;omega
   rw[CO,this,Bg (by omega)]
  have hlm:(l.map bv).length=l.length:=List.length_map ..
  obtain⟨o,c,hu,V1⟩:=V.cut (n:=l.length - 4) (by rw[hlm];omega)
  rw[hlm]at hu
  have hlen:(l.take (l.length - 4)).length=l.length - 4:=by rw[List.length_take];omega
  have V1:h.Vals (.slice (some o) (l.take (l.length - 4)).length c) ((l.take (l.length - 4)).map bv):=by rw[hlen,List.map_take];exact V1
  obtain⟨h1,v,k1,x1,m1⟩:=Oo (n:=n+1) W V1 (by omega)
  rw[hlen]at k1
  have hbb:∀ x∈l.take (l.length - 4),x<256:=fun x hx=>hb x (List.mem_of_mem_take hx)
  have xm:=x1.marked
  have Wm:=xm.wf
  have xq:h.Ext h1.marked.quiet:=xm.quiet
  obtain⟨h2,w,k2,x2,m2⟩:=Tv (n:=n) xq.wf (R.ext W xq) hT ((m1.same (h':=h1.marked.quiet) rfl).vals) hbb (by omega)
  have q1:∀ (F:CallF) (e:Env),F=call AF (n+2)→AB 0 e=pt tb→AB 6 e=v→Ac .weak (AM 73 [AB 0,AB 6]) F e h1.marked=.ok w (h1.marked.back h2):=fun F e hF h0 h6=>by
   subst hF
   refine DK ?_ x2 (Nat.le_refl _)
   rw[Bk,Ah,Ah,A7,h0,h6]
   exact k2
  have x3:h1.marked.Ext (h1.marked.back h2):=Hp.Ext.back x2
  have xb:=xm.trans x3
  have m3:Mk (h1.marked.back h2) h1.marked.quiet.next w (Ed T (l.take (l.length - 4))):=m2.same rfl
  have m4:Mk (h1.marked.back h2) h.next v (l.take (l.length - 4)):=(m1.same (h':=h1.marked) rfl).ext Wm x3
  have Ve:=V.ext W xb
  have st1:=m3.vals.bytes.str
  have st2:=Ve.bytes.str
  have hbs:=Oj (Qc (T:=T) hbb) hb
  have hmk:o.block<(h1.marked.back h2).mark:=by
   have h5:o.block<h.next:=by rw[hu]at V;exact V.blt W
   have h6:=x1.next
   show o.block<h1.next
   omega
  have old:∀ (k:C) (F:CallF) (e:Env),Jf u k F e (h1.marked.back h2)=k F e (h1.marked.back h2):=fun k F e=>by rw[hu];exact YN hmk
  have ct:∀ (F:CallF) (e:Env),AB 1 e=u→AB 13 e=.int .i64 ((l.length - 4:Nat):Int)→DE 5 1 (AB 1) none (some (AB 13)) none F e h=.ok (.slice (some o) (l.length - 4) c) h:=fun F e e1 e2=>by
   have:=hC _ _ _ hu
   exact Wq (e1.trans hu) e2 (by omega)
  by_cases hs:Ed T (l.take (l.length - 4))=l
  ·refine⟨_,xb,.inl ⟨_,v,by unfold EU;rw[if_neg h4,if_pos hs],?_,m4⟩⟩
   rw[decide_eq_true hs]at hbs
   rw[Nb rfl]
   unfold Uj
   simp only[iN,Nat.reduceAdd,sT,Nat.reduceLT,Nat.reduceEqDiff,reduceIte,Am,Vl,AO,AN,c1,Bz,a1,ct,cA0,k1,BA,q1,Jd,st1,EP,old,DV,st2,OE,Nh,hbs,Bool.not_true,Bp,DI]
  ·refine⟨_,xb,.inr ⟨by unfold EU;rw[if_neg h4,if_neg hs],12,by omega,?_⟩⟩
   rw[decide_eq_false hs]at hbs
   rw[Nb rfl]
   unfold Uj
   simp only[iN,Nat.reduceAdd,sT,Nat.reduceLT,Nat.reduceEqDiff,reduceIte,Am,Vl,AO,AN,c1,Bz,a1,ct,cA0,k1,BA,q1,Jd,st1,EP,old,DV,st2,OE,Nh,hbs,Bool.not_false,Bp,DI]
end
noncomputable section
open Go
set_option maxRecDepth 100000
def B1(a b c:Int)(s:Nat)(u:Value):Value:=.agg ⟨[.int .i64 a,.int .i64 b,.int .i64 c,.int .u8 (s:Int),u]⟩
def A3(a b c:Int)(s:Nat)(u:Value):List Value:=[.int .i64 a,.int .i64 b,.int .i64 c,.int .u8 (s:Int),u]
theorem Qh{F:CallF}{h:Hp}(W:h.Wf){a b c:Int}{s:Nat}{u:Value}{g:O}{e:Env}(he:g e=B1 a b c s u):Cv g F e h=.ok (.pointer (some ⟨h.next,0,none⟩)) (h.pushRow 0 (A3 a b c s u)):=by
 rw[ET,he,EN W];rfl
theorem B9{h:Hp}{r:Nat}{a b c:Int}{s:Nat}{u:Value}(R:h.Row r 0 (A3 a b c s u)):load1 ⟨r,0,none⟩ h=.ok (.int .i64 a) h∧load1 ⟨r,1,none⟩ h=.ok (.int .i64 b) h∧load1 ⟨r,2,none⟩ h=.ok (.int .i64 c) h∧load1 ⟨r,3,none⟩ h=.ok (.int .u8 (s:Int)) h∧load1 ⟨r,4,none⟩ h=.ok u h∧loadN 5 ⟨r,0,none⟩ h=.ok (B1 a b c s u) h:=
 ⟨R.load1 (off:=0) (by show 0<5;omega),R.load1 (off:=1) (by show 1<5;omega),R.load1 (off:=2) (by show 2<5;omega),R.load1 (off:=3) (by show 3<5;omega),R.load1 (off:=4) (by show 4<5;omega),R.loadN (off:=0) (n:=5) (by show 0+5≤5;omega)⟩
theorem Gg{a b:Int}(h:b≤a):iGe a b=true:=(Np a b).trans (decide_eq_true h)
theorem Ez{a b:Int}(h:¬ b≤a):iGe a b=false:=(Np a b).trans (decide_eq_false h)
theorem Jx{a b:Int}(h:a≤b):iLe a b=true:=(RQ a b).trans (decide_eq_true h)
theorem PP{a b:Int}(h:¬ a≤b):iLe a b=false:=(RQ a b).trans (decide_eq_false h)
theorem Jy{a b:Int}(h:a<b):iLt a b=true:=(Cs a b).trans (decide_eq_true h)
theorem GT{a b:Int}(h:¬ a<b):iLt a b=false:=(Cs a b).trans (decide_eq_false h)
theorem Fl{a b:Int}(h:b<a):iGt a b=true:=(Gh a b).trans (decide_eq_true h)
theorem Ei{a b:Int}(h:¬ b<a):iGt a b=false:=(Gh a b).trans (decide_eq_false h)
theorem CM{a b:Int}(h:a=b):iEq a b=true:=by rw[Dr];simpa using h
theorem Bd{a b:Int}(h:¬ a=b):iEq a b=false:=by rw[Dr];simpa using h
theorem Mu{a b:Int}(h:¬ a=b):iNe a b=true:=by rw[Gi];simpa using h
theorem CT{a b:Int}(h:a=b):iNe a b=false:=by rw[Gi];simpa using h
theorem SM{F:CallF}{h:Hp}(W:h.Wf){a b c:Int}{s n:Nat}{u:Value}(hu:∀ g,lenSR u g=.ok (.int .i64 (n:Int)) g):A4 [.t (AB 2)] (d40 F (AV e0 0 [B1 a b c s u]) h)=.ok (.bool (B4 a b c s n)) (h.pushRow 0 (A3 a b c s u)):=by
 have R:=Hp.Row.new W 0 (A3 a b c s u)
 have bx:∀ e:Env,AB 0 e=B1 a b c s u→Cv (AB 0) F e h=.ok (.pointer (some ⟨h.next,0,none⟩)) (h.pushRow 0 (A3 a b c s u)):=fun e he=>Qh W he
 generalize h.pushRow 0 (A3 a b c s u)=h1 at R bx
 obtain⟨l0,l1,l2,l3,l4,_⟩:=B9 R
 unfold d40
 by_cases k1:0≤a
 ·have c1:iGe a 0=true:=Gg k1
  by_cases k2:a≤1099511627776
  ·have c2:iLe a 1099511627776=true:=Jx k2
   by_cases k3:0≤b
   ·have c3:iGe b 0=true:=Gg k3
    by_cases k4:b<255
    ·have c4:iLt b 255=true:=Jy k4
     by_cases k5:1≤c
     ·have c5:iGe c 1=true:=Gg k5
      by_cases k6:c≤1099511627776
      ·have c6:iLe c 1099511627776=true:=Jx k6
       by_cases k7:(s:Int)=1
       ·have c7:iEq (s:Int) 1=true:=CM k7
        by_cases k9:(n:Int)≤65536
        ·have c9:iLe (n:Int) 65536=true:=Jx k9
         rw[show B4 a b c s n=true from decide_eq_true (by omega)]
         simp only[iN,Nat.reduceAdd,sT,Nat.reduceLT,Nat.reduceEqDiff,reduceIte,gD,bx,AJ,AQ,AP,AU,l0,l1,l2,l3,l4,AO,AN,Am,hu,c1,c2,c3,c4,c5,c6,c7,c9,lV0]
        ·have c9:iLe (n:Int) 65536=false:=PP k9
         rw[show B4 a b c s n=false from decide_eq_false (by omega)]
         simp only[iN,Nat.reduceAdd,sT,Nat.reduceLT,Nat.reduceEqDiff,reduceIte,gD,bx,AJ,AQ,AP,AU,l0,l1,l2,l3,l4,AO,AN,Am,hu,c1,c2,c3,c4,c5,c6,c7,c9,lV0]
       ·have c7:iEq (s:Int) 1=false:=Bd k7
        by_cases k8:(s:Int)=2
        ·have c8:iEq (s:Int) 2=true:=CM k8
         by_cases k9:(n:Int)≤65536
         ·have c9:iLe (n:Int) 65536=true:=Jx k9
          rw[show B4 a b c s n=true from decide_eq_true (by omega)]
          simp only[iN,Nat.reduceAdd,sT,Nat.reduceLT,Nat.reduceEqDiff,reduceIte,gD,bx,AJ,AQ,AP,AU,l0,l1,l2,l3,l4,AO,AN,Am,hu,c1,c2,c3,c4,c5,c6,c7,c8,c9,lV0]
         ·have c9:iLe (n:Int) 65536=false:=PP k9
          rw[show B4 a b c s n=false from decide_eq_false (by omega)]
          simp only[iN,Nat.reduceAdd,sT,Nat.reduceLT,Nat.reduceEqDiff,reduceIte,gD,bx,AJ,AQ,AP,AU,l0,l1,l2,l3,l4,AO,AN,Am,hu,c1,c2,c3,c4,c5,c6,c7,c8,c9,lV0]
        ·have c8:iEq (s:Int) 2=false:=Bd k8
         rw[show B4 a b c s n=false from decide_eq_false (by omega)]
         simp only[iN,Nat.reduceAdd,sT,Nat.reduceLT,Nat.reduceEqDiff,reduceIte,gD,bx,AJ,AQ,AP,AU,l0,l1,l2,l3,l4,AO,AN,Am,hu,c1,c2,c3,c4,c5,c6,c7,c8,lV0]
      ·have c6:iLe c 1099511627776=false:=PP k6
       rw[show B4 a b c s n=false from decide_eq_false (by omega)]
       simp only[iN,Nat.reduceAdd,sT,Nat.reduceLT,Nat.reduceEqDiff,reduceIte,gD,bx,AJ,AQ,AP,AU,l0,l1,l2,l3,l4,AO,AN,Am,hu,c1,c2,c3,c4,c5,c6,lV0]
     ·have c5:iGe c 1=false:=Ez k5
      rw[show B4 a b c s n=false from decide_eq_false (by omega)]
      simp only[iN,Nat.reduceAdd,sT,Nat.reduceLT,Nat.reduceEqDiff,reduceIte,gD,bx,AJ,AQ,AP,AU,l0,l1,l2,l3,l4,AO,AN,Am,hu,c1,c2,c3,c4,c5,lV0]
    ·have c4:iLt b 255=false:=GT k4
     rw[show B4 a b c s n=false from decide_eq_false (by omega)]
     simp only[iN,Nat.reduceAdd,sT,Nat.reduceLT,Nat.reduceEqDiff,reduceIte,gD,bx,AJ,AQ,AP,AU,l0,l1,l2,l3,l4,AO,AN,Am,hu,c1,c2,c3,c4,lV0]
   ·have c3:iGe b 0=false:=Ez k3
    rw[show B4 a b c s n=false from decide_eq_false (by omega)]
    simp only[iN,Nat.reduceAdd,sT,Nat.reduceLT,Nat.reduceEqDiff,reduceIte,gD,bx,AJ,AQ,AP,AU,l0,l1,l2,l3,l4,AO,AN,Am,hu,c1,c2,c3,lV0]
  ·have c2:iLe a 1099511627776=false:=PP k2
   rw[show B4 a b c s n=false from decide_eq_false (by omega)]
   simp only[iN,Nat.reduceAdd,sT,Nat.reduceLT,Nat.reduceEqDiff,reduceIte,gD,bx,AJ,AQ,AP,AU,l0,l1,l2,l3,l4,AO,AN,Am,hu,c1,c2,lV0]
 ·have c1:iGe a 0=false:=Ez k1
  rw[show B4 a b c s n=false from decide_eq_false (by omega)]
  simp only[iN,Nat.reduceAdd,sT,Nat.reduceLT,Nat.reduceEqDiff,reduceIte,gD,bx,AJ,AQ,AP,AU,l0,l1,l2,l3,l4,AO,AN,Am,hu,c1,lV0]
theorem Ir{n:Nat}{h:Hp}(W:h.Wf){a b c:Int}{s m:Nat}{u:Value}(hu:∀ g,lenSR u g=.ok (.int .i64 (m:Int)) g):call AF (n+1) 40 [B1 a b c s u] h=.ok (.bool (B4 a b c s m)) (h.pushRow 0 (A3 a b c s u)):=by
 rw[iE rfl];exact SM W hu
def NL(z:Int):Nat:=if z<0∨65536<z then 0 else 1+(z.toNat+63) / 64
theorem kC{F:CallF}{e:Env}{h:Hp}{x y:O}{k j:IntKind}{a b:Int}(hx:x e=.int k a)(hy:y e=.int j b):SG x y F e h=.ok (.int k (min a b)) h:=by
 show Gr true (x e) (y e) h=_
 rw[hx,hy]
 show(bif iLt b a then R.ok (.int k b) h else .ok (.int k a) h)=_
 rw[Cs]
 rcases Int.lt_or_le b a with hlt|hle
 ·rw[decide_eq_true hlt,Int.min_eq_right (by omega)];rfl
 ·rw[decide_eq_false (by omega),Int.min_eq_left hle];rfl
theorem UA{n:Nat}{h:Hp}{z:Int}:call AF (n+1) 57 [.int .i64 z] h=.ok (.int .i64 (NL z:Nat)) h:=by
 rw[iQ rfl]
 unfold d57
 by_cases k1:z<0
 ·have c1:iLt z 0=true:=Jy k1
  rw[show NL z=0 from if_pos (by omega)]
  simp only[iN,Nat.reduceAdd,sT,Nat.reduceLT,Nat.reduceEqDiff,reduceIte,gD,AO,AN,c1,lV0];rfl
 ·have c1:iLt z 0=false:=GT k1
  by_cases k2:65536<z
  ·have c2:iGt z 65536=true:=Fl k2
   rw[show NL z=0 from if_pos (by omega)]
   simp only[iN,Nat.reduceAdd,sT,Nat.reduceLT,Nat.reduceEqDiff,reduceIte,gD,AO,AN,c1,c2,lV0];rfl
  ·have c2:iGt z 65536=false:=Ei k2
   obtain⟨m,rfl⟩:=Int.eq_ofNat_of_zero_le (show 0≤z by omega)
   have a1:FD .i64 (.int .i64 (m:Int)) (.int .i64 64) h=.ok (.int .i64 ((m+64:Nat):Int)) h:=by
    rw[EM,show(m:Int)+64=((m+64:Nat):Int)by omega,Bg (by omega)]
   have a2:FE Int.sub .i64 (.int .i64 ((m+64:Nat):Int)) (.int .i64 1) h=.ok (.int .i64 ((m+63:Nat):Int)) h:=by
    have:Int.sub ((m+64:Nat):Int) 1=((m+63:Nat):Int):=by show((m+64:Nat):Int) - 1=_;omega
    rw[CO,this,Bg (by omega)]
   have a3:RI .i64 (.int .i64 ((m+63:Nat):Int)) (.int .i64 64) h=.ok (.int .i64 (((m+63) / 64:Nat):Int)) h:=by
    have:IntKind.i64.wrap (((m+63:Nat):Int).tdiv 64)=(((m+63) / 64:Nat):Int):=Bg (n:=(m+63) / 64) (by omega)
    rw[KL (by omega),this]
   have a4:FD .i64 (.int .i64 1) (.int .i64 (((m+63) / 64:Nat):Int)) h=.ok (.int .i64 ((NL (m:Int):Nat):Int)) h:=by
    rw[show NL (m:Int)=1+((m:Int).toNat+63) / 64 from if_neg (by omega),Int.toNat_natCast,EM,show(1:Int)+(((m+63) / 64:Nat):Int)=((1+(m+63) / 64:Nat):Int)by omega,Bg (by omega)]
   simp only[iN,Nat.reduceAdd,sT,Nat.reduceLT,Nat.reduceEqDiff,reduceIte,gD,AO,AN,c1,c2,BR,a1,Bz,a2,Ii,a3,a4,lV0]
end
noncomputable section
open Go
set_option maxRecDepth 100000
def DY(a b c s m t:Nat):List Nat:=[s,a,b,c,m,t]
theorem Xt{a b c s m t:Nat}(ha:a≤1099511627776)(hb:b<255)(hc:c≤1099511627776)(hs:s<256)(hm:m≤65536)(ht:t<4294967296):∀ v∈DY a b c s m t,v<18446744073709551616:=fun v hv=>by
 unfold DY at hv
 simp only[List.mem_cons,List.mem_nil_iff,or_false]at hv
 omega
theorem NB{a b c s m t:Nat}(ha:a≤1099511627776)(hb:b<255)(hc:c≤1099511627776)(hs:s<256)(hm:m≤65536)(ht:t<4294967296):(B8 (DY a b c s m t)).length≤40:=by
 have h1:=Dl 1 s (by show s<16384;omega)
 have h2:=Dl 5 a (by show a<4398046511104;omega)
 have h3:=Dl 1 b (by show b<16384;omega)
 have h4:=Dl 5 c (by show c<4398046511104;omega)
 have h5:=Dl 2 m (by show m<2097152;omega)
 have h6:=Dl 4 t (by show t<34359738368;omega)
 show(B5 s++(B5 a++(B5 b++(B5 c++(B5 m++(B5 t++[])))))).length≤40
 simp only[List.length_append,List.length_nil]
 omega
theorem JL{k:IntKind}{n:Nat}(hn:n≤18446744073709551615){h:Hp}:DQ .u64 (.int k (n:Int)) h=.ok (.int .u64 (n:Int)) h:=by rw[Ck,D4 hn]
def qh(T:List Nat)(a b c:Int)(s:Nat)(l:List Nat)(h h':Hp)(r:R):Prop:=(B4 a b c s l.length=true∧∃ v,r=.ok (.tuple ⟨[v,.int .i64 0]⟩) h'∧Mk h' h.next v (Ed T (MN (DY a.toNat b.toNat c.toNat s l.length (Ct T l)))))∨(B4 a b c s l.length=false∧r=.ok (.tuple ⟨[.slice none 0 0,.int .i64 2]⟩) h')
end
noncomputable section
open Go
set_option maxRecDepth 100000
def nv(n:Nat):Value:=.int .u64 (n:Int)
theorem Hp.Own.apart{h:Hp}{k en b:Nat}{v:Value}{xs:List Value}(o:h.Own k en v xs)(hb:b<k):¬ blkV v b:=by
 rcases o with ⟨rfl,_⟩|⟨c,rfl,_,h3,_⟩
 ·exact Fe
 ·exact KI (by omega)
theorem VY{h0 h:Hp}{k n:Nat}{v:Value}{xs:List Nat}(x0:h0.Ext h)(hk:h0.next≤k)(hk2:k≤h.next)(o:h.Own k 5 v (xs.map bv))(hn:0<n)(hm:xs.length+n≤1000000):
  ∃ h' v',HC 1 1 5 ty5.zero v (.ok n) h=.ok v' h'∧h0.Ext h'∧h'.Own k 5 v' ((xs++List.replicate n 0).map bv)∧h.next≤h'.next:=by
 have W:=x0.wf
 have hz:Bh ty5.zero=true:=by kernel_rfl
 have hyl:((List.replicate n 0).map bv).length=n:=by simp
 rw[List.map_append]
 have hx:(xs.map bv).length=xs.length:=List.length_map ..
 generalize hY:(List.replicate n 0).map bv=ys at hyl
 rcases o with ⟨rfl,hnil⟩|⟨b,rfl,r,hb,hb2⟩
 ·rw[hnil]
  obtain⟨t1,t2⟩:=Gx ys
  refine⟨h.push (.cells (ofL ys) ys.length 6),.slice (some ⟨h.next,0,none⟩) ys.length ys.length,?_,x0.push _,.inr ⟨h.next,rfl,⟨ofL ys,by rw[W.push_get,if_pos rfl];rfl,t2⟩,hk2,W.big⟩,Nat.le_succ _⟩
  unfold HC
  simp only[Ai,Nat.add_eq,Nat.zero_add]
  have e1:Nat.ble n 0=false:=by
   cases e:Nat.ble n 0
   ·rfl
   ·have:=Al.1 e;omega
  have e2:Nat.ble (Nat.mul (Nat.succ n) (Nat.succ 1)) Ic=true:=Al.2 (HN (by show(n+1) * 2≤1099511627776;omega))
  rw[e1]
  simp only[e2,cond_true,hz,KZ,hY]
  unfold GS BN IW
  simp only[List.nil_append,t1]
  unfold EZ
  simp only[BQ]
  unfold CE
  rw[Ai,Ci W,hyl];rfl
 ·obtain⟨cc,hcc,hl⟩:=r.rowOf
  rw[hx]at hcc
  obtain⟨t,h2,h3⟩:=Dj ys cc (xs.map bv) xs.length hl (.inr hx.symm)
  have h3:t.Is (xs.map bv++ys):=by
   have e:(xs.map bv).drop (xs.length+ys.length)=[]:=List.drop_of_length_le (by omega)
   have e':(xs.map bv).take xs.length=xs.map bv:=List.take_of_length_le (by omega)
   rw[e,e']at h3
   simpa using h3
  have hlen:(xs.map bv++ys).length=xs.length+n:=by rw[List.length_append,hx,hyl]
  have hlt:=r.lt W
  have W1:(h.put b .dead).Wf:=W.put hlt _
  have x1:h0.Ext (h.put b .dead):=x0.put (by omega) hlt _
  refine⟨(h.put b .dead).push (.cells t (xs.length+n) 6),.slice (some ⟨h.next,0,none⟩) (xs.length+n) (xs.length+n),?_,x1.push _,.inr ⟨h.next,by rw[hlen],⟨t,by
   have:=W1.push_get (.cells t (xs.length+n) 6) h.next
   rw[this,if_pos (show h.next=(h.put b .dead).next from rfl),hlen],h3⟩,hk2,W.big⟩,Nat.le_succ _⟩
  rw[hx]
  unfold HC
  simp only[Ai,Nat.add_eq]
  have e1:Nat.ble (xs.length+n) xs.length=false:=by
   cases e:Nat.ble (xs.length+n) xs.length
   ·rfl
   ·have:=Al.1 e;omega
  have e2:Nat.ble (Nat.mul (Nat.succ (xs.length+n)) (Nat.succ 1)) Ic=true:=Al.2 (HN (by show(xs.length+n+1) * 2≤1099511627776;omega))
  rw[e1]
  simp only[e2,cond_true,hz,KZ,hY]
  unfold GS
  have e3:Nat.beq xs.length (Nat.mul xs.length 1)=true:=Ap.2 (Nat.mul_one _).symm
  simp only[hcc,e3,h2]
  unfold EZ
  have e4:Jq 0 xs.length 1 xs.length=true:=by
   unfold Jq
   cases xs.length with
   |zero=>rfl
   |succ n=>exact Ap.2 (by show 0+(n+1) * 1=n+1;omega)
  simp only[hcc,BQ,Nat.add_eq,Nat.beq_refl,cond_true,e4]
  rw[Di W hb2 hlt]
  unfold CE
  rw[Ai,Ci W1,hyl];rfl
theorem Pt{F:CallF}{e:Env}{h:Hp}{x y:O}{n:Nat}{v:Value}(hx:x e=v)(hy:y e=.int .i64 (n:Int)):Ec 1 1 5 ty5.zero x y F e h=HC 1 1 5 ty5.zero v (.ok n) h:=by
 unfold Ec
 rw[hx,hy,Cu]
theorem dw:BI Qs.zero 6=[nv 0,nv 0,nv 0,nv 0,nv 0,nv 0]:=by kernel_rfl
theorem Wi{n:Nat}:cellsOf (nv n)=[nv n]:=rfl
theorem Vg{F:CallF}{e:Env}{h:Hp}(W:h.Wf){g1 g2 g3 g4 g5 g6:O}{a b c d i j:Nat}(h1:g1 e=nv a)(h2:g2 e=nv b)(h3:g3 e=nv c)(h4:g4 e=nv d)(h5:g5 e=nv i)(h6:g6 e=nv j):
  AZ 6 (BI Qs.zero 6) [(0,1,g1),(1,1,g2),(2,1,g3),(3,1,g4),(4,1,g5),(5,1,g6)] F e h=.ok (.slice (some ⟨h.next,0,none⟩) 6 6) (h.pushRow 0 ([a,b,c,d,i,j].map nv)):=by
 rw[Ca,dw,BE (hk:=by rw[h1];rfl),h1,BE (hk:=by rw[h2];rfl),h2,BE (hk:=by rw[h3];rfl),h3,BE (hk:=by rw[h4];rfl),h4,BE (hk:=by rw[h5];rfl),h5,BE (hk:=by rw[h6];rfl),h6]
 simp only[Wi,List.length_singleton,List.length_cons,List.length_nil,over,List.take,List.drop,List.append_eq,List.nil_append,List.cons_append,Nat.reduceAdd,Nat.reduceLeDiff,if_true,CP,reduceIte]
 rw[DA W];rfl
def heB:C:=(AE (AC 36) (AW iLt .i64 (AB 35) (AB 34))
(AS (AB 36)
(A2 (AY 1 (AE (AC 37) (BF 1 (AB 33) (AB 35))
(AE (AC 38) (AK (AB 37))
(AE (AC 8) (AD (AB 38))
(AE (AC 41) (AM 72 [(AB 6),(AB 8)])
(AE (AC 6) (AD (AB 41))
AX))))))
(AE (AC 42) (BZ .i64 (Ar .i64) (AB 35) (kV (.int .i64 1)))
(AE (AC 35) (AD (AB 42))
AX)))
(BK 0)))
def heE:C:=(AE (AC 46) (BD (AB 6))
(AE (AC 47) (Bf Int.sub .i64 (kV (.int .i64 60)) (AB 46))
(AE (AC 48) (Ec 1 1 5 ty5.zero (AB 6) (AB 47))
(AE (AC 49) (AM 73 [(AB 0),(AB 48)])
(AE (AC 4) (AD (AB 49))
(AE (AC 5) (AD (kV (.int .i64 0)))
Ad))))))
theorem jq:heS=A2 (AY 0 (Az heB)) heE:=rfl
theorem Wv:d44=Ww:=rfl
theorem ax{n:Nat}{h0 h:Hp}(x0:h0.Ext h){b6:Nat}(hb6:b6<h.next)(hk:h0.next≤h.next){ns:List Nat}(R6:h.Row b6 0 (ns.map nv))(hns:∀ v∈ns,v<18446744073709551616)(h6:ns.length=6){p:Value}{e:Env}
  (s0:AB 0 e=p)(s6:AB 6 e=.slice none 0 0)(s33:AB 33 e=.slice (some ⟨b6,0,none⟩) 6 6)(s34:AB 34 e=.int .i64 6)(s35:AB 35 e=.int .i64 ((0:Nat):Int)):
  ∃ e' h' v,Az heB (call AF (n+1)) e h=.exit 0 e' h'∧h0.Ext h'∧h'.Own h.next 5 v ((B8 ns).map bv)∧AB 0 e'=p∧AB 6 e'=v∧h.next≤h'.next:=by
 refine Be (I:=fun i e' h'=>∃ v,h0.Ext h'∧h'.Own h.next 5 v ((B8 (ns.take i)).map bv)∧h'.Row b6 0 (ns.map nv)∧AB 0 e'=p∧AB 6 e'=v∧AB 33 e'=.slice (some ⟨b6,0,none⟩) 6 6∧AB 34 e'=.int .i64 6∧AB 35 e'=.int .i64 (i:Int)∧h.next≤h'.next∧i≤6)
  (Q:=fun x=>∃ e' h' v,x=.exit 0 e' h'∧h0.Ext h'∧h'.Own h.next 5 v ((B8 ns).map bv)∧AB 0 e'=p∧AB 6 e'=v∧h.next≤h'.next) 6 (by omega) (fun i e' h' ⟨v,x',o',R',t0,t6,t33,t34,t35,hn,hi⟩=>?_)
  ⟨_,x0,.inl ⟨rfl,rfl⟩,R6,s0,s6,s33,s34,s35,Nat.le_refl _,by omega⟩
 by_cases hlt:i<6
 ·left
  have c1:iLt (i:Int) 6=true:=Eo (b:=6) hlt
  have hil:i<ns.length:=by omega
  have i1:idxSR 1 (.slice (some ⟨b6,0,none⟩) 6 6) (.int .i64 (i:Int)) h'=.ok (.pointer (some ⟨b6,i,none⟩)) h':=by
   have:=DJ (h:=h') (n:=6) (c:=6) (es:=1) (b:=b6) (off:=0) (i:=i) (k:=.i64) hlt
   rwa [Nat.zero_add,Nat.mul_one]at this
  have l1:load1 ⟨b6,i,none⟩ h'=.ok (.int .u64 ((ns[i]'hil:Nat):Int)) h':=by
   rw[R'.load1 (off:=i) (by rw[List.length_map];exact hil),List.getD_eq_getElem?_getD,List.getElem?_map,List.getElem?_eq_getElem hil];rfl
  have htl:(B8 (ns.take i)).length≤1000000:=by
   have h1:=IC (ns:=ns.take i) fun v hv=>hns v (List.mem_of_mem_take hv)
   rw[List.length_take]at h1
   omega
  obtain⟨h2,v2,k2,x2,o2,hn2,fr⟩:=dp (n:=n) x' hk hn o' htl (hns _ (List.getElem_mem hil))
  have a3:=CR (i:=i) (h:=h2) (by omega)
  have R2:=(fr b6 0 _ (o'.apart hb6) R').1
  have htk:B8 (ns.take i)++B5 (ns[i]'hil)=B8 (ns.take (i+1)):=by
   rw[List.take_succ_eq_append_getElem hil,SZ]
   show _=_++(B5 _++[])
   rw[List.append_nil]
  rw[htk]at o2
  have hrun:∃ e2,heB (call AF (n+1)) e' h'=.norm e2 h2∧AB 0 e2=p∧AB 6 e2=v2∧AB 33 e2=.slice (some ⟨b6,0,none⟩) 6 6∧AB 34 e2=.int .i64 6∧AB 35 e2=.int .i64 ((i+1:Nat):Int):=by
   unfold heB
   simp only[sT,Nat.reduceLT,Nat.reduceEqDiff,reduceIte,AO,AN,t35,t34,c1,A8,t33,i1,AP,AU,l1,cA0,t6,k2,BR,a3]
   exact⟨_,rfl,by simp[AH,t0,t33,t34]⟩
  obtain⟨e2,q1,q2,q3,q4,q5,q6⟩:=hrun
  exact⟨by omega,e2,h2,q1,v2,x2,o2,R2,q2,q3,q4,q5,q6,by omega,by omega⟩
 ·right
  have hi6:i=6:=by omega
  subst hi6
  have c1:iLt ((6:Nat):Int) 6=false:=DD (a:=6) (b:=6) (by omega)
  have hrun:∃ e2,heB (call AF (n+1)) e' h'=.exit 0 e2 h'∧AB 0 e2=p∧AB 6 e2=v:=by
   unfold heB
   simp only[sT,Nat.reduceLT,Nat.reduceEqDiff,reduceIte,AO,AN,t35,t34,c1]
   exact⟨_,rfl,by simp[AH,t0,t6]⟩
  obtain⟨e2,q1,q2,q3⟩:=hrun
  rw[q1]
  rw[List.take_of_length_le (by omega)]at o'
  exact⟨rfl,e2,h',v,rfl,x',o',q2,q3,hn⟩
theorem TH{n:Nat}{h:Hp}(W:h.Wf){tb:Nat}{T:List Nat}(R:h.Row tb 0 (T.map wv))(hT:TblOk T){a b c:Int}{s:Nat}{u:Value}{l:List Nat}(V:h.Vals u (l.map bv))(hb:∀ x∈l,x<256)(hs:s<256)(hl:l.length≤900000):
  ∃ h',h.Ext h'∧qh T a b c s l h h' (call AF (n+3) 44 [pt tb,B1 a b c s u] h):=by
 have x1:=(Hp.Ext.refl W).pushRow 0 (A3 a b c s u)
 have R1:=Hp.Row.new W 0 (A3 a b c s u)
 have bx:∀ e:Env,AB 1 e=B1 a b c s u→Cv (AB 1) (call AF (n+2)) e h=.ok (.pointer (some ⟨h.next,0,none⟩)) (h.pushRow 0 (A3 a b c s u)):=fun e he=>Qh W he
 have n1:(h.pushRow 0 (A3 a b c s u)).next=h.next+1:=rfl
 generalize h.pushRow 0 (A3 a b c s u)=h1 at x1 R1 bx n1
 obtain⟨_,_,_,_,_,ln⟩:=B9 R1
 have k1:=Ir (n:=n+1) x1.wf (a:=a) (b:=b) (c:=c) (s:=s) (u:=u) V.bl
 have y2:=(Hp.Ext.refl x1.wf).pushRow 0 (A3 a b c s u)
 have n2:(h1.pushRow 0 (A3 a b c s u)).next=h1.next+1:=rfl
 generalize h1.pushRow 0 (A3 a b c s u)=h2 at y2 k1 n2
 have x2:=x1.trans y2
 cases hr:B4 a b c s l.length with
 |false=>
  rw[hr]at k1
  refine⟨h2,x2,.inr ⟨hr,?_⟩⟩
  rw[WX rfl,Wv]
  unfold Ww
  simp only[iN,Nat.reduceAdd,sT,Nat.reduceLT,Nat.reduceEqDiff,reduceIte,bx,Aw,Av,ln,cA0,k1,Bt,Br,Bool.not_false,Bp,DI]
 |true=>
  rw[hr]at k1
  obtain⟨ha1,ha2,hb1,hb2,hc1,hc2,hs2,hm⟩:=of_decide_eq_true hr
  have xm:=x2.marked
  have R2:h2.marked.Row h.next 0 (A3 a b c s u):=(R1.ext x1.wf y2).same rfl
  obtain⟨m0,m1,m2,m3,m4,_⟩:=B9 R2
  have hmk:h.next<h2.marked.mark:=by show h.next<h2.next;omega
  have old:∀ (off:Nat) (k:C) (F:CallF) (e:Env),Jf (.pointer (some ⟨h.next,off,none⟩)) k F e h2.marked=k F e h2.marked:=fun off k F e=>Dw hmk
  have Vl:=V.bl h2.marked
  obtain⟨a',rfl⟩:=Int.eq_ofNat_of_zero_le ha1
  obtain⟨b',rfl⟩:=Int.eq_ofNat_of_zero_le hb1
  obtain⟨c',rfl⟩:=Int.eq_ofNat_of_zero_le (show 0≤c by omega)
  have cs:=JL (k:=.u8) (n:=s) (by omega) (h:=h2.marked)
  have ca:=JL (k:=.i64) (n:=a') (by omega) (h:=h2.marked)
  have cb:=JL (k:=.i64) (n:=b') (by omega) (h:=h2.marked)
  have cc:=JL (k:=.i64) (n:=c') (by omega) (h:=h2.marked)
  have cm:=JL (k:=.i64) (n:=l.length) (by omega) (h:=h2.marked)
  obtain⟨hq,kq,hq2⟩:=SV (n:=n+1) (h:=h2.marked.quiet) (R.ext W xm.quiet) hT (V.ext W xm.quiet) hb hl
  have yq:h2.marked.quiet.Ext hq:=by
   rcases hq2 with rfl|rfl
   ·exact Hp.Ext.refl xm.quiet.wf
   ·exact(Hp.Ext.refl xm.quiet.wf).marked
  have nq:hq.next=h2.next:=by rcases hq2 with rfl|rfl<;>rfl
  have q1:∀ e:Env,AB 0 e=pt tb→AB 30 e=u→Ac .weak (AM 71 [AB 0,AB 30]) (call AF (n+2)) e h2.marked=.ok (.int .u32 ((Ct T l:Nat):Int)) (h2.marked.back hq):=fun e h0 h6=>by
   refine DK ?_ yq (Nat.le_refl _)
   rw[Bk,Ah,Ah,A7,h0,h6]
   exact kq
  have yb:h2.marked.Ext (h2.marked.back hq):=Hp.Ext.back yq
  have nb:(h2.marked.back hq).next=h2.next:=nq
  have mb:(h2.marked.back hq).mark=h2.next:=rfl
  generalize h2.marked.back hq=h3 at q1 yb nb mb
  have x3:=xm.trans yb
  have ct:=JL (k:=.u32) (n:=Ct T l) (by have:=Iz T l;omega) (h:=h3)
  have y4:h3.quiet.Ext (h3.quiet.pushRow 0 ((DY a' b' c' s l.length (Ct T l)).map nv)):=(Hp.Ext.refl x3.quiet.wf).pushRow _ _
  have R4:=Hp.Row.new x3.quiet.wf 0 ((DY a' b' c' s l.length (Ct T l)).map nv)
  have q2:∀ (F:CallF) (e:Env),AB 14 e=nv s→AB 17 e=nv a'→AB 20 e=nv b'→AB 23 e=nv c'→AB 27 e=nv l.length→AB 32 e=nv (Ct T l)→
    Ac .strong (AZ 6 (BI Qs.zero 6) [(0,1,AB 14),(1,1,AB 17),(2,1,AB 20),(3,1,AB 23),(4,1,AB 27),(5,1,AB 32)]) F e h3=.ok (.slice (some ⟨h3.next,0,none⟩) 6 6) (h3.back (h3.quiet.pushRow 0 ((DY a' b' c' s l.length (Ct T l)).map nv))):=fun F e e1 e2 e3 e4 e5 e6=>
   DK (Vg x3.quiet.wf e1 e2 e3 e4 e5 e6) y4 (by omega)
  have z4:h3.Ext (h3.back (h3.quiet.pushRow 0 ((DY a' b' c' s l.length (Ct T l)).map nv))):=Hp.Ext.back y4
  have n4:(h3.back (h3.quiet.pushRow 0 ((DY a' b' c' s l.length (Ct T l)).map nv))).next=h3.next+1:=rfl
  have R5:(h3.back (h3.quiet.pushRow 0 ((DY a' b' c' s l.length (Ct T l)).map nv))).Row h3.next 0 ((DY a' b' c' s l.length (Ct T l)).map nv):=R4.same rfl
  generalize h3.back (h3.quiet.pushRow 0 ((DY a' b' c' s l.length (Ct T l)).map nv))=h4 at q2 z4 n4 R5
  have x4:=x3.trans z4
  have hnl:=Xt (a:=a') (b:=b') (c:=c') (s:=s) (m:=l.length) (t:=Ct T l) (by omega) (by omega) (by omega) hs (by omega) (Iz T l)
  have hl7:=NB (a:=a') (b:=b') (c:=c') (s:=s) (m:=l.length) (t:=Ct T l) (by omega) (by omega) (by omega) hs (by omega) (Iz T l)
  have pre:∃ e1,Ww (call AF (n+2)) (AV e0 0 [pt tb,B1 (a':Int) (b':Int) (c':Int) s u]) h=heS (call AF (n+2)) e1 h4∧AB 0 e1=pt tb∧AB 6 e1=.slice none 0 0∧AB 33 e1=.slice (some ⟨h3.next,0,none⟩) 6 6∧AB 34 e1=.int .i64 6∧AB 35 e1=.int .i64 ((0:Nat):Int):=by
   have cs:DQ .u64 (.int .u8 (s:Int)) h2.marked=.ok (nv s) h2.marked:=cs
   have ca:DQ .u64 (.int .i64 (a':Int)) h2.marked=.ok (nv a') h2.marked:=ca
   have cb:DQ .u64 (.int .i64 (b':Int)) h2.marked=.ok (nv b') h2.marked:=cb
   have cc:DQ .u64 (.int .i64 (c':Int)) h2.marked=.ok (nv c') h2.marked:=cc
   have cm:DQ .u64 (.int .i64 (l.length:Int)) h2.marked=.ok (nv l.length) h2.marked:=cm
   have ct:DQ .u64 (.int .u32 ((Ct T l:Nat):Int)) h3=.ok (nv (Ct T l)) h3:=ct
   unfold Ww
   simp only[iN,Nat.reduceAdd,sT,Nat.reduceLT,Nat.reduceEqDiff,reduceIte,bx,Aw,Av,ln,cA0,k1,Bt,Br,Bool.not_true,BA,AJ,AQ,EP,old,DV,AP,AU,m0,m1,m2,m3,m4,CN,cs,ca,cb,cc,Am,Vl,cm,q1,ct,q2,Ea]
   exact⟨_,rfl,by simp[AH]⟩
  obtain⟨e1,p1,p2,p3,p4,p5,p6⟩:=pre
  obtain⟨e2,h5,v5,r1,x5,o5,r2,r3,n5⟩:=ax (n:=n+1) x4 (b6:=h3.next) (by omega) x4.next R5 hnl rfl p2 p3 p4 p5 p6
  have Vl5:=o5.vals.bl h5
  have a1:FE Int.sub .i64 (.int .i64 60) (.int .i64 ((B8 (DY a' b' c' s l.length (Ct T l))).length:Int)) h5=.ok (.int .i64 ((60 - (B8 (DY a' b' c' s l.length (Ct T l))).length:Nat):Int)) h5:=by
   have:Int.sub 60 ((B8 (DY a' b' c' s l.length (Ct T l))).length:Int)=((60 - (B8 (DY a' b' c' s l.length (Ct T l))).length:Nat):Int):=by
    show(60:Int) - _=_
    omega
   rw[CO,this,Bg (by omega)]
  obtain⟨h6,v6,k6,x6,o6,n6⟩:=VY x5 (k:=h4.next) x4.next n5 o5 (n:=60 - (B8 (DY a' b' c' s l.length (Ct T l))).length) (by omega) (by omega)
  have ap:∀ (F:CallF) (e:Env),AB 6 e=v5→AB 47 e=.int .i64 ((60 - (B8 (DY a' b' c' s l.length (Ct T l))).length:Nat):Int)→Ec 1 1 5 ty5.zero (AB 6) (AB 47) F e h5=.ok v6 h6:=fun F e e1 e2=>(Pt e1 e2).trans k6
  have hpl:=Ly (l:=B8 (DY a' b' c' s l.length (Ct T l))) (by omega)
  have Vp:h6.Vals v6 ((OL (B8 (DY a' b' c' s l.length (Ct T l)))).map bv):=o6.vals
  obtain⟨h7,w,k7,y7,m7⟩:=Tv (n:=n) x6.wf (R.ext W x6) hT Vp (To NT) (by omega)
  refine⟨h7,x6.trans y7,.inl ⟨hr,w,?_,?_⟩⟩
  ·rw[WX rfl,Wv,p1,jq]
   simp only[BP,A1,r1,A5,BJ]
   unfold heE
   simp only[sT,Nat.reduceLT,Nat.reduceEqDiff,reduceIte,Am,r3,Vl5,Bz,a1,ap,cA0,r2,k7,Bp,DI]
  ·rw[Int.toNat_natCast,Int.toNat_natCast,Int.toNat_natCast]
   exact m7.le x6.next
end
noncomputable section
open Go
set_option maxRecDepth 100000
abbrev nilS:Value:=.slice none 0 0
def okT(ns:List Nat):Value:=.tuple ⟨[B1 (at6 ns 1) (at6 ns 2) (at6 ns 3) (at6 ns 0) nilS,.int .i64 (at6 ns 4:Nat),.int .u32 (at6 ns 5:Nat),.bool true]⟩
def noT:Value:=.tuple ⟨[B1 0 0 0 0 nilS,.int .i64 0,.int .u32 0,.bool false]⟩
theorem Sb:F0.zero=A3 0 0 0 0 nilS:=by kernel_rfl
theorem HZ:B3 .mt 0 (A3 0 0 0 0 nilS)=some DU:=by kernel_rfl
theorem ZU:B3 .mt 0 ([0,0,0,0,0,0].map nv)=some NV:=by kernel_rfl
theorem JT{e:Env}{h:Hp}{g g1 g2 g3:O}{n:Nat}{v:Value}(hv:N4 n (g e) h=.ok v h):Eh [.cN g n,.t g1,.t g2,.t g3] e h=.ok (.tuple ⟨[v,g1 e,g2 e,g3 e]⟩) h:=by
 have h1:GH e h (.cN g n)=.ok v h:=hv
 show(match GH e h (.cN g n)with|.ok v _=>forceV v fun v=>forceV (g1 e) (fun x=>forceV (g2 e) fun y=>forceV (g3 e) fun z=>KM h [v,x,y,z])|.no=>.no)=_
 rw[h1]
 simp only[BG];rfl
theorem OO{h g:Hp}(W0:h.Wf)(x:h.Ext g){r:Nat}(hr:h.next≤r){L:List Value}(R:g.Row r 0 L)(hL:L.length=5){a b c:Int}{s:Nat}{u:Value}(hu:A0 u=true):
  storeR 5 (pt r) (B1 a b c s u) g=.ok noRes (g.wr r 0 (A3 a b c s u))∧loadN 5 ⟨r,0,none⟩ (g.wr r 0 (A3 a b c s u))=.ok (B1 a b c s u) (g.wr r 0 (A3 a b c s u))∧h.Ext (g.wr r 0 (A3 a b c s u))∧(g.wr r 0 (A3 a b c s u)).Row r 0 (A3 a b c s u)∧(g.wr r 0 (A3 a b c s u)).next=g.next:=by
 have h256:256≤r:=by have:=W0.big;omega
 have ho:0+(A3 a b c s u).length≤L.length:=by rw[hL];show 0+5≤5;omega
 have h1:Bh (A3 a b c s u)=true:=by
  show(bif A0 u then true else false)=true
  rw[hu];rfl
 have st:=R.storeR (n:=5) (off:=0) x.wf h256 (v:=B1 a b c s u) rfl ho h1
 have wr:=R.wr_self x.wf ho
 rw[H5 (show L.length=(A3 a b c s u).length from hL)]at wr
 exact⟨st,(B9 wr).2.2.2.2.2,R.wr_ext x hr ho,wr,R.wr_next ho⟩
theorem Zk{F:CallF}{e:Env}{h:Hp}{g1 g2 g3 g4:O}{a b c:Int}{s:Nat}(h1:g1 e=.int .u8 (s:Int))(h2:g2 e=.int .i64 a)(h3:g3 e=.int .i64 b)(h4:g4 e=.int .i64 c):
  Bm F0.zero [(3,1,g1),(0,1,g2),(1,1,g3),(2,1,g4)] F e h=.ok (B1 a b c s nilS) h:=by
 rw[EH,Sb,BE (hk:=by rw[h1];rfl),h1,BE (hk:=by rw[h2];rfl),h2,BE (hk:=by rw[h3];rfl),h3,BE (hk:=by rw[h4];rfl),h4]
 simp only[DN,List.length_singleton,List.length_cons,List.length_nil,A3,over,List.take,List.drop,List.append_eq,List.nil_append,List.cons_append,Nat.reduceAdd,Nat.reduceLeDiff,if_true,CP,reduceIte]
 rfl
theorem Dg{F:CallF}{e:Env}{h:Hp}:Bm F0.zero [] F e h=.ok (B1 0 0 0 0 nilS) h:=by
 rw[EH,CP,Sb];rfl
theorem PQ{r k:Nat}(hk:k<6){g:Hp}:MO 6 1 (pt r) (.int .i64 (k:Int)) g=.ok (.pointer (some ⟨r,k,none⟩)) g:=by
 have:=TO (h:=g) (n:=6) (es:=1) (b:=r) (off:=0) (i:=k) (k:=.i64) hk
 rwa [Nat.zero_add,Nat.mul_one]at this
theorem Pq{g:Hp}{r k:Nat}{ns:List Nat}(R:g.Row r 0 (ns.map nv))(h6:ns.length=6)(hk:k<6):load1 ⟨r,k,none⟩ g=.ok (.int .u64 ((at6 ns k:Nat):Int)) g:=by
 have hil:k<ns.length:=by omega
 unfold at6
 rw[R.load1 (off:=k) (by rw[List.length_map];exact hil),List.getD_eq_getElem?_getD,List.getElem?_map,List.getD_eq_getElem?_getD,List.getElem?_eq_getElem hil];rfl
abbrev f112:Value:=.func (.func 112) ⟨[]⟩ ⟨[]⟩
theorem WP{n:Nat}{h:Hp}{c:Nat}:call AF (n+1) 112 [.int .u8 (c:Int)] h=.ok (.bool (iNe (c:Int) 0)) h:=by
 rw[Zp rfl]
 unfold Z8
 simp only[iN,Nat.reduceAdd,sT,Nat.reduceLT,Nat.reduceEqDiff,reduceIte,AO,AN,lV0]
def ifB:C:=(AE (AC 9) (AW iLt .i64 (AB 8) (AB 7))
(AS (AB 9)
(A2 (AY 1 (AE (AC 5) (AD (AB 8))
(AE (AC 14) (BF 1 (AB 0) (AB 5))
(AE (AC 15) (AK (AB 14))
(AE (AC 16) (Cf (AB 1) [(AB 15)])
(AS (AB 16)
(AE (AC 4) (AD (AB 5))
Ad)
AX))))))
(AE (AC 18) (BZ .i64 (Ar .i64) (AB 8) (kV (.int .i64 1)))
(AE (AC 8) (AD (AB 18))
AX)))
(BK 0)))
def ifE:C:=AE (AC 4) (AD (kV (.int .i64 (-1)))) Ad
theorem Nr:ifS=A2 (AY 0 (Az ifB)) ifE:=rfl
theorem KK:Z6=Me:=rfl
theorem bA{n:Nat}{h:Hp}{u:Value}{l:List Nat}(V:h.Vals u (l.map bv))(hl:l.length≤900000){e:Env}(s0:AB 0 e=u)(s1:AB 1 e=f112)(s7:AB 7 e=.int .i64 (l.length:Int))(s8:AB 8 e=.int .i64 ((0:Nat):Int)):
  (∃ e',Az ifB (call AF (n+1)) e h=.exit 0 e' h∧∀ x∈l,x=0)∨(∃ e' i,Az ifB (call AF (n+1)) e h=.ret e' h∧AB 4 e'=.int .i64 ((i:Nat):Int)∧∃ x∈l,x≠0):=by
 refine Be (I:=fun i e' h'=>h'=h∧AB 0 e'=u∧AB 1 e'=f112∧AB 7 e'=.int .i64 (l.length:Int)∧AB 8 e'=.int .i64 (i:Int)∧i≤l.length∧((∀ x∈l,x=0)↔∀ x∈l.drop i,x=0))
  (Q:=fun x=>(∃ e',x=.exit 0 e' h∧∀ x∈l,x=0)∨(∃ e' i,x=.ret e' h∧AB 4 e'=.int .i64 ((i:Nat):Int)∧∃ x∈l,x≠0)) l.length (by omega) (fun i e' h' ⟨hh,t0,t1,t7,t8,hi,hr⟩=>?_) ⟨rfl,s0,s1,s7,s8,Nat.zero_le _,by simp⟩
 subst hh
 by_cases hlt:i<l.length
 ·obtain⟨a,g1,g2⟩:=IE V hlt
  have hmem:l.getD i 0∈l:=by
   rw[List.getD_eq_getElem?_getD,List.getElem?_eq_getElem hlt];exact List.getElem_mem hlt
  rw[Fg hlt]at hr
  generalize l.getD i 0=c at g2 hr hmem
  have c1:=Eo hlt
  have k1:=WP (n:=n) (h:=h') (c:=c)
  by_cases hc:c=0
  ·left
   subst hc
   have k1:call AF (n+1) 112 [.int .u8 ((0:Nat):Int)] h'=.ok (.bool false) h':=k1
   have a3:=CR (i:=i) (h:=h') (by omega)
   have hrun:∃ e2,ifB (call AF (n+1)) e' h'=.norm e2 h'∧AB 0 e2=u∧AB 1 e2=f112∧AB 7 e2=.int .i64 (l.length:Int)∧AB 8 e2=.int .i64 ((i+1:Nat):Int):=by
    unfold ifB
    simp only[sT,Nat.reduceLT,Nat.reduceEqDiff,reduceIte,AO,AN,t8,t7,c1,A8,t0,g1,AP,g2,Cj,t1,Ch,Ah,A7,List.nil_append,List.append_nil,k1,BR,a3]
    exact⟨_,rfl,by simp[AH,t0,t1,t7]⟩
   obtain⟨e2,q1,q2,q3,q4,q5⟩:=hrun
   refine⟨hlt,e2,h',q1,rfl,q2,q3,q4,q5,hlt,hr.trans ?_⟩
   simp
  ·right
   have c2:iNe (c:Int) 0=true:=by rw[Gi];simpa using hc
   rw[c2]at k1
   have hrun:∃ e2,ifB (call AF (n+1)) e' h'=.ret e2 h'∧AB 4 e2=.int .i64 (i:Int):=by
    unfold ifB
    simp only[sT,Nat.reduceLT,Nat.reduceEqDiff,reduceIte,AO,AN,t8,t7,c1,A8,t0,g1,AP,g2,Cj,t1,Ch,Ah,A7,List.nil_append,List.append_nil,k1]
    exact⟨_,rfl,by simp[AH]⟩
   obtain⟨e2,q1,q2⟩:=hrun
   rw[q1]
   exact⟨rfl,.inr ⟨e2,i,rfl,q2,c,hmem,hc⟩⟩
 ·right
  have c1:=DD (show l.length≤i by omega)
  have hrun:∃ e2,ifB (call AF (n+1)) e' h'=.exit 0 e2 h':=by
   unfold ifB
   simp only[sT,Nat.reduceLT,Nat.reduceEqDiff,reduceIte,AO,AN,t8,t7,c1]
   exact⟨_,rfl⟩
  obtain⟨e2,q1⟩:=hrun
  rw[q1]
  refine⟨rfl,.inl ⟨e2,rfl,hr.2 ?_⟩⟩
  rw[List.drop_of_length_le (by omega)]
  intro x hx;cases hx
theorem Uc{n:Nat}{h:Hp}{u:Value}{l:List Nat}(V:h.Vals u (l.map bv))(hl:l.length≤900000):∃ r:Bool,call AF (n+3) 85 [u,f112] h=.ok (.bool r) h∧(r=true↔∃ x∈l,x≠0):=by
 have Vl:=V.bl h
 have pre:∃ e1,Me (call AF (n+1)) (AV e0 0 [u,f112]) h=ifS (call AF (n+1)) e1 h∧AB 0 e1=u∧AB 1 e1=f112∧AB 7 e1=.int .i64 (l.length:Int)∧AB 8 e1=.int .i64 ((0:Nat):Int):=by
  unfold Me
  simp only[iN,Nat.reduceAdd,sT,Nat.reduceLT,Nat.reduceEqDiff,reduceIte,Am,Vl]
  exact⟨_,rfl,by simp[AH]⟩
 obtain⟨e1,p1,p2,p3,p4,p5⟩:=pre
 rcases bA (n:=n) V hl p2 p3 p4 p5 with ⟨e2,q1,q2⟩|⟨e2,i,q1,q2,q3⟩
 ·have k1:call AF (n+2) 109 [u,f112] h=.ok (.int .i64 (-1)) h:=by
   rw[KJ rfl,KK,p1,Nr]
   simp only[BP,A1,q1,A5,BJ]
   unfold ifE
   simp only[sT,Nat.reduceLT,Nat.reduceEqDiff,reduceIte,lV0]
  refine⟨false,?_,by simp;exact q2⟩
  have c1:iGe (-1) 0=false:=Ez (by omega)
  rw[Nc rfl]
  unfold d85
  simp only[iN,Nat.reduceAdd,sT,Nat.reduceLT,Nat.reduceEqDiff,reduceIte,cA0,k1,AO,AN,c1,lV0]
 ·have k1:call AF (n+2) 109 [u,f112] h=.ok (.int .i64 (i:Int)) h:=by
   rw[KJ rfl,KK,p1,Nr]
   simp only[BP,A1,q1,CB,Co,lV0,q2]
  refine⟨true,?_,by simp only[true_iff];exact q3⟩
  have c1:iGe (i:Int) 0=true:=Gg (by omega)
  rw[Nc rfl]
  unfold d85
  simp only[iN,Nat.reduceAdd,sT,Nat.reduceLT,Nat.reduceEqDiff,reduceIte,cA0,k1,AO,AN,c1,lV0]
theorem Ow{h:Hp}{k m:Nat}{v:Value}{l:List Nat}(M:Mk h k v l)(hm:m≤l.length):∃ w,(∀ (F:CallF) (e:Env) (x y:O),x e=v→y e=.int .i64 (m:Int)→DE 5 1 x (some y) none none F e h=.ok w h)∧h.Vals w ((l.drop m).map bv):=by
 obtain⟨b,el,hv,hel,Rb,_⟩:=M
 have hdl:(l.drop m).length=l.length - m:=List.length_drop
 have key:∀ (F:CallF) (e:Env) (x y:O),x e=v→y e=.int .i64 (m:Int)→DE 5 1 x (some y) none none F e h=Dq 5 1 (some ⟨b,0,none⟩) false m l.length l.length h:=fun F e x y hx hy=>by
  have hb:∀ K:Nat→R,CZ e (some y) 0 l.length K=K m:=fun K=>by
   show(match Cy (y e)with|.ok n=>(bif Nat.ble n l.length then K n else .no)|.no=>.no)=_
   rw[hy,Cu]
   simp only
   rw[Al.2 hm];rfl
  show(match x e with|.slice a n c=>DB e n c (some y) none none (fun l hh m=>Dq 5 1 a false l hh m h)|_=>.no)=_
  rw[hx,hv]
  show CZ e none l.length l.length (fun hh=>CZ e (some y) 0 hh fun l'=>Dq 5 1 (some ⟨b,0,none⟩) false l' hh l.length h)=_
  show CZ e (some y) 0 l.length (fun l'=>Dq 5 1 (some ⟨b,0,none⟩) false l' l.length l.length h)=_
  rw[hb]
 have key2:Dq 5 1 (some ⟨b,0,none⟩) false m l.length l.length h=Bn (some ⟨b,0,none⟩) 1 m l.length l.length h:=by
  cases m with
  |zero=>rfl
  |succ m=>
   show(bif EX 5 (some ⟨b,0,none⟩) h then Bn (some ⟨b,0,none⟩) 1 (m+1) l.length l.length h else .no)=_
   have:EX 5 (some ⟨b,0,none⟩) h=true:=by
    obtain⟨cc,hcc,_⟩:=Rb.rowOf
    unfold EX
    simp only[hcc]
    rcases hel with rfl|rfl<;>rfl
   rw[this];rfl
 rcases Nat.lt_or_ge m l.length with hlt|hge
 ·refine⟨.slice (some ⟨b,m,none⟩) (l.length - m) (l.length - m),?_,.inr ⟨b,m,l.length - m,el,_,by rw[List.length_map,hdl],Rb,by rw[List.length_map,List.length_map,hdl];omega,?_⟩⟩
  ·intro F e x y hx hy
   rw[key F e x y hx hy,key2]
   unfold Bn
   simp only[Ai]
   have e1:Nat.beq l.length m=false:=by
    cases e:Nat.beq l.length m
    ·rfl
    ·have:=Ap.1 e;omega
   rw[e1]
   cases m with
   |zero=>rfl
   |succ m=>
    have e2:Nat.mul (m+1) 1=Nat.succ m:=Nat.mul_one _
    simp only[e2,Nat.add_eq,Nat.zero_add];rfl
  ·rw[List.length_map,hdl,← List.map_drop,List.take_of_length_le (by rw[List.length_map,hdl];exact Nat.le_refl _)]
 ·have hml:m=l.length:=by omega
  subst hml
  refine⟨.slice (some ⟨b,0,none⟩) 0 0,?_,.inr ⟨b,0,0,el,_,by rw[List.drop_length];rfl,Rb,by rw[List.drop_length];exact Nat.zero_le _,by rw[List.drop_length];rfl⟩⟩
  intro F e x y hx hy
  rw[key F e x y hx hy,key2]
  unfold Bn
  simp only[Ai,Nat.sub_eq,Nat.sub_self,Nat.beq_refl]
end
noncomputable section
open Go
set_option maxRecDepth 100000
def paB:C:=(AE (AC 30) (AW iLt .i64 (AB 29) (kV (.int .i64 6)))
(AS (AB 30)
(A2 (AY 1 (AE (AC 12) (AD (AB 29))
(AE (AC 36) (AM 111 [(AB 8),(AB 11)])
(AE (AC 37) (Aa 0 (AB 36))
(AE (AC 38) (Aa 1 (AB 36))
(AE (AC 39) (Aa 2 (AB 36))
(AE (AC 40) (Bs 6 1 (AB 10) (AB 12))
(cDo (Af 1 (AB 40) (AB 37))
(AE (AC 11) (AD (AB 38))
(AE (AC 9) (AD (AB 39))
(AE (AC 42) (AW iNe .i64 (AB 9) (kV (.int .i64 0)))
(cG (AB 42) false (AC 44) (AD (AB 12))
(cG (AB 42) false (AC 45) (Bs 6 1 (AB 10) (AB 44))
(cG (AB 42) false (AC 46) (AK (AB 45))
(cG (AB 42) false (AC 47) (AW iGt .u64 (AB 46) (kV (.int .u64 1099511627776)))
(AE (AC 48) (Aj (AB 42) (kV (.bool true)) (AB 47))
(AS (AB 48)
(AE (AC 49) (Bm F0.zero [])
(cDo (Af 5 (AB 4) (AB 49))
(AE (AC 5) (AD (kV (.int .i64 0)))
(AE (AC 6) (AD (kV (.int .u32 0)))
(AE (AC 7) (AD (kV (.bool false)))
Ad)))))
AX)))))))))))))))))
(AE (AC 50) (BZ .i64 (Ar .i64) (AB 29) (kV (.int .i64 1)))
(AE (AC 29) (AD (AB 50))
AX)))
(BK 0)))
def paE:C:=(AE (AC 51) (Bs 6 1 (AB 10) (kV (.int .i64 0)))
(AE (AC 52) (AK (AB 51))
(AE (AC 53) (SG (AB 52) (kV (.int .u64 9)))
(AE (AC 54) (CC .u8 (AB 53))
(AE (AC 55) (Bs 6 1 (AB 10) (kV (.int .i64 1)))
(AE (AC 56) (AK (AB 55))
(AE (AC 57) (CC .i64 (AB 56))
(AE (AC 58) (Bs 6 1 (AB 10) (kV (.int .i64 2)))
(AE (AC 59) (AK (AB 58))
(AE (AC 60) (CC .i64 (AB 59))
(AE (AC 61) (Bs 6 1 (AB 10) (kV (.int .i64 3)))
(AE (AC 62) (AK (AB 61))
(AE (AC 63) (CC .i64 (AB 62))
(AE (AC 64) (Bm F0.zero [(3,1,(AB 54)),(0,1,(AB 57)),(1,1,(AB 60)),(2,1,(AB 63))])
(AE (AC 13) (Bl 5 DU)
(cDo (Af 5 (AB 13) (AB 64))
(AE (AC 14) (AD (kV (.func (.func 112) #[] #[])))
(AE (AC 65) (Ax 5 (AB 13))
(AE (AC 66) (AM 40 [(AB 65)])
(AE (AC 67) (CI (AB 66))
(cG (AB 67) false (AC 69) (Bs 6 1 (AB 10) (kV (.int .i64 4)))
(cG (AB 67) false (AC 70) (AK (AB 69))
(cG (AB 67) false (AC 71) (AW iGt .u64 (AB 70) (kV (.int .u64 65536)))
(AE (AC 72) (Aj (AB 67) (kV (.bool true)) (AB 71))
(cG (AB 72) false (AC 74) (Bs 6 1 (AB 10) (kV (.int .i64 5)))
(cG (AB 72) false (AC 75) (AK (AB 74))
(cG (AB 72) false (AC 76) (AW iGt .u64 (AB 75) (kV (.int .u64 4294967295)))
(AE (AC 77) (Aj (AB 72) (kV (.bool true)) (AB 76))
(cG (AB 77) false (AC 79) (AD (AB 8))
(cG (AB 77) false (AC 80) (AD (AB 11))
(cG (AB 77) false (AC 81) (DE 5 1 (AB 79) (some (AB 80)) none none)
(cG (AB 77) false (AC 82) (AD (AB 14))
(cG (AB 77) false (AC 83) (AM 85 [(AB 81),(AB 82)])
(AE (AC 84) (Aj (AB 77) (kV (.bool true)) (AB 83))
(AS (AB 84)
(AE (AC 85) (Bm F0.zero [])
(cDo (Af 5 (AB 4) (AB 85))
(AE (AC 5) (AD (kV (.int .i64 0)))
(AE (AC 6) (AD (kV (.int .u32 0)))
(AE (AC 7) (AD (kV (.bool false)))
Ad)))))
(BW (AE (AC 86) (Ax 5 (AB 13))
(AE (AC 87) (Bs 6 1 (AB 10) (kV (.int .i64 4)))
(AE (AC 88) (AK (AB 87))
(AE (AC 89) (CC .i64 (AB 88))
(AE (AC 90) (Bs 6 1 (AB 10) (kV (.int .i64 5)))
(AE (AC 91) (AK (AB 90))
(AE (AC 92) (CC .u32 (AB 91))
(CW (AB 4) [(AB 87),(AB 90)]
(cDo (Hz (AB 4) (Af 5 (AB 4) (AB 86)))
(AE (AC 5) (AD (AB 89))
(AE (AC 6) (AD (AB 92))
(AE (AC 7) (AD (kV (.bool true)))
Ad))))))))))))))))))))))))))))))))))))))))))))))))
theorem SJ:paS=A2 (AY 0 (Az paB)) paE:=rfl
theorem LD:d87=Oz:=rfl
theorem QU(k:Nat)(l:List Nat)(p:Nat):rdN (k+1) l p=(match FI 0 0 (l.drop p)with
 |none=>none
 |some (v,j)=>if v≤1099511627776 then(match rdN k l (p+j)with
  |none=>none
  |some (vs,q)=>some (v::vs,q))else none):=rfl
def V6(h:Hp)(r4:Nat)(e:Env)(g:Hp):Prop:=h.Ext g∧AB 4 e=pt r4∧AB 5 e=.int .i64 0∧AB 6 e=.int .u32 0∧AB 7 e=.bool false∧loadN 5 ⟨r4,0,none⟩ g=.ok (B1 0 0 0 0 nilS) g
theorem dJ{n:Nat}{h hB g:Hp}(W0:h.Wf)(xB:h.Ext hB)(x:hB.Ext g){r4 r10:Nat}(hr4:h.next≤r4)(hr10:hB.next≤r10)(R4:hB.Row r4 0 (A3 0 0 0 0 nilS)){v:Value}{l:List Nat}(V:hB.Vals v (l.map bv))(hb:∀ x∈l,x<256)(hl:l.length≤900000)
  (R10:g.Row r10 0 ([0,0,0,0,0,0].map nv)){e:Env}(s4:AB 4 e=pt r4)(s8:AB 8 e=v)(s10:AB 10 e=pt r10)(s11:AB 11 e=.int .i64 ((0:Nat):Int))(s29:AB 29 e=.int .i64 ((0:Nat):Int)):
  (∃ e' g' ns q,Az paB (call AF (n+1)) e g=.exit 0 e' g'∧hB.Ext g'∧g'.Row r10 0 (ns.map nv)∧rdN 6 l 0=some (ns,q)∧AB 4 e'=pt r4∧AB 8 e'=v∧AB 10 e'=pt r10∧AB 11 e'=.int .i64 (q:Int))∨
  (∃ e' g',Az paB (call AF (n+1)) e g=.ret e' g'∧rdN 6 l 0=none∧V6 h r4 e' g'):=by
 have WB:=xB.wf
 refine Be (I:=fun i e' g'=>hB.Ext g'∧∃ (ns:List Nat) (Z:List Value) (p:Nat),ns.length=i∧Z.length=6 - i∧g'.Row r10 0 (ns.map nv++Z)∧AB 4 e'=pt r4∧AB 8 e'=v∧AB 10 e'=pt r10∧AB 11 e'=.int .i64 (p:Int)∧AB 29 e'=.int .i64 (i:Int)∧p≤l.length∧i≤6∧
   rdN 6 l 0=(match rdN (6 - i) l p with|none=>none|some (vs,q)=>some (ns++vs,q)))
  (Q:=fun x=>(∃ e' g' ns q,x=.exit 0 e' g'∧hB.Ext g'∧g'.Row r10 0 (ns.map nv)∧rdN 6 l 0=some (ns,q)∧AB 4 e'=pt r4∧AB 8 e'=v∧AB 10 e'=pt r10∧AB 11 e'=.int .i64 (q:Int))∨
   (∃ e' g',x=.ret e' g'∧rdN 6 l 0=none∧V6 h r4 e' g')) 6 (by omega) (fun i e' g' ⟨x',ns,Z,p,hns,hZ,R',t4,t8,t10,t11,t29,hp,hi,hr⟩=>?_)
  ⟨x,[],_,0,rfl,rfl,R10,s4,s8,s10,s11,s29,Nat.zero_le _,by omega,by
   rw[Nat.sub_zero]
   cases rdN 6 l 0 with
   |none=>rfl
   |some y=>rfl⟩
 by_cases hlt:i<6
 ·have W:=x'.wf
  obtain⟨k,hk⟩:∃ k,6 - i=k+1:=⟨5 - i,by omega⟩
  obtain⟨z,Z',rfl⟩:∃ z Z',Z=z::Z':=by
   cases Z with
   |nil=>rw[List.length_nil]at hZ;omega
   |cons z Z'=>exact⟨z,Z',rfl⟩
  rw[hk,QU k l p]at hr
  have c1:iLt (i:Int) 6=true:=Eo (b:=6) hlt
  obtain⟨a,b,c,k1,G⟩:=jp (n:=n) (V.ext WB x') hb hp (by omega)
  have i1:=PQ (r:=r10) hlt (g:=g')
  have hal:(ns.map nv).length=i:=by rw[List.length_map];exact hns
  have ho:i+[Value.int .u64 a].length≤(ns.map nv++z::Z').length:=by
   simp only[List.length_append,List.length_cons,List.length_nil,hal];omega
  have h256:256≤r10:=by have:=WB.big;omega
  have st:=R'.storeR (n:=1) (off:=i) W h256 (v:=.int .u64 a) rfl ho rfl
  rw[DN]at st
  have wr:=R'.wr_self W (off:=i) (vs:=[.int .u64 a]) ho
  have x2:=R'.wr_ext x' hr10 (off:=i) (vs:=[.int .u64 a]) ho
  have hov:over (ns.map nv++z::Z') i [.int .u64 a]=ns.map nv++.int .u64 a::Z':=by
   have:=QF (A:=ns.map nv) (B:=Z') (x:=z) (y:=.int .u64 a)
   rwa [hal]at this
  rw[hov]at wr
  generalize g'.wr r10 i [.int .u64 a]=g2 at st wr x2
  have i2:=PQ (r:=r10) hlt (g:=g2)
  have l2:load1 ⟨r10,i,none⟩ g2=.ok (.int .u64 a) g2:=by
   rw[wr.load1 (off:=i) (by simp only[List.length_append,List.length_cons,hal];omega),List.getD_eq_getElem?_getD,List.getElem?_append_right (by rw[hal];exact Nat.le_refl _),hal,Nat.sub_self];rfl
  have a3:=CR (i:=i) (h:=g2) (by omega)
  obtain⟨w1,w2,w3,_,_⟩:=OO W0 (xB.trans x2) hr4 (R4.ext WB x2) rfl (a:=0) (b:=0) (c:=0) (s:=0) (u:=nilS) rfl
  have fail:rdN 6 l 0=none→(iNe c 0=true∨iNe c 0=false∧iGt a 1099511627776=true)→∃ e2,paB (call AF (n+1)) e' g'=.ret e2 (g2.wr r4 0 (A3 0 0 0 0 nilS))∧AB 4 e2=pt r4∧AB 5 e2=.int .i64 0∧AB 6 e2=.int .u32 0∧AB 7 e2=.bool false:=fun _ hc=>by
   unfold paB
   rcases hc with c2|⟨c2,c3⟩
   ·simp only[sT,Nat.reduceLT,Nat.reduceEqDiff,reduceIte,gD,AO,AN,t29,c1,cA0,t8,t11,k1,BV,Bj,Bo,C1,C3,t10,i1,Ao,st,c2,Dg,t4,w1]
    exact⟨_,rfl,by simp[AH,t4]⟩
   ·simp only[sT,Nat.reduceLT,Nat.reduceEqDiff,reduceIte,gD,AO,AN,t29,c1,cA0,t8,t11,k1,BV,Bj,Bo,C1,C3,t10,i1,Ao,st,c2,i2,AP,AU,l2,c3,Dg,t4,w1]
    exact⟨_,rfl,by simp[AH,t4]⟩
  rcases G with ⟨vv,j,hu,rfl,rfl,rfl⟩|⟨hu,hc⟩
  ·rw[hu]at hr
   simp only at hr
   have c2:iNe 0 0=false:=CT rfl
   by_cases hv:vv≤1099511627776
   ·left
    rw[if_pos hv]at hr
    have c3:iGt (vv:Int) 1099511627776=false:=Ei (by omega)
    have hbd:∀ x∈l.drop p,x<256:=fun x hx=>hb x (List.mem_of_mem_drop hx)
    have hj:=eT hbd hu
    rw[List.length_drop]at hj
    have hrun:∃ e2,paB (call AF (n+1)) e' g'=.norm e2 g2∧AB 4 e2=pt r4∧AB 8 e2=v∧AB 10 e2=pt r10∧AB 11 e2=.int .i64 ((p+j:Nat):Int)∧AB 29 e2=.int .i64 ((i+1:Nat):Int):=by
     unfold paB
     simp only[sT,Nat.reduceLT,Nat.reduceEqDiff,reduceIte,gD,AO,AN,t29,c1,cA0,t8,t11,k1,BV,Bj,Bo,C1,C3,t10,i1,Ao,st,c2,i2,AP,AU,l2,c3,BR,a3]
     exact⟨_,rfl,by simp[AH,t4,t8,t10]⟩
    obtain⟨e2,q1,q2,q3,q4,q5,q6⟩:=hrun
    refine⟨hlt,e2,g2,q1,x2,ns++[vv],Z',p+j,by rw[List.length_append,hns];rfl,by rw[List.length_cons]at hZ;omega,?_,q2,q3,q4,q5,q6,by omega,by omega,?_⟩
    ·rw[List.map_append,List.append_assoc];exact wr
    ·rw[hr,show 6 - (i+1)=k by omega]
     cases rdN k l (p+j)with
     |none=>rfl
     |some y=>
      obtain⟨vs,q⟩:=y
      show some (ns++vv::vs,q)=some (ns++[vv]++vs,q)
      rw[List.append_assoc];rfl
   ·right
    rw[if_neg hv]at hr
    have hr:rdN 6 l 0=none:=hr
    obtain⟨e2,q1,q2,q3,q4,q5⟩:=fail hr (.inr ⟨c2,Fl (by omega)⟩)
    rw[q1]
    exact⟨rfl,.inr ⟨e2,_,rfl,hr,w3,q2,q3,q4,q5,w2⟩⟩
  ·right
   rw[hu]at hr
   have hr:rdN 6 l 0=none:=hr
   obtain⟨e2,q1,q2,q3,q4,q5⟩:=fail hr (.inl (Mu hc))
   rw[q1]
   exact⟨rfl,.inr ⟨e2,_,rfl,hr,w3,q2,q3,q4,q5,w2⟩⟩
 ·right
  have hi6:i=6:=by omega
  subst hi6
  have c1:iLt ((6:Nat):Int) 6=false:=DD (a:=6) (b:=6) (by omega)
  have hrun:∃ e2,paB (call AF (n+1)) e' g'=.exit 0 e2 g'∧AB 4 e2=pt r4∧AB 8 e2=v∧AB 10 e2=pt r10∧AB 11 e2=.int .i64 (p:Int):=by
   unfold paB
   simp only[sT,Nat.reduceLT,Nat.reduceEqDiff,reduceIte,AO,AN,t29,c1]
   exact⟨_,rfl,by simp[AH,t4,t8,t10,t11]⟩
  obtain⟨e2,q1,q2,q3,q4,q5⟩:=hrun
  rw[q1]
  have hZ0:Z=[]:=List.eq_nil_of_length_eq_zero hZ
  rw[hZ0,List.append_nil]at R'
  have hr:rdN 6 l 0=some (ns++[],p):=hr
  rw[List.append_nil]at hr
  exact⟨rfl,.inl ⟨e2,g',ns,p,rfl,x',R',hr,q2,q3,q4,q5⟩⟩
theorem gm{F:CallF}{e:Env}{h:Hp}{x y z:O}{k:C}{a b c i j m:Nat}(hx:x e=.pointer (some ⟨a,i,none⟩))(hy:y e=.pointer (some ⟨b,j,none⟩))(hz:z e=.pointer (some ⟨c,m,none⟩))(h1:b≠a)(h2:c≠a):CW x [y,z] k F e h=k F e h:=by
 have n1:Nat.beq b a=false:=by
  cases e:Nat.beq b a
  ·rfl
  ·exact absurd (Ap.1 e) h1
 have n2:Nat.beq c a=false:=by
  cases e:Nat.beq c a
  ·rfl
  ·exact absurd (Ap.1 e) h2
 unfold CW
 rw[hx]
 show(bif DG a e [y,z]then k F e h else .no)=_
 have:DG a e [y,z]=true:=by
  unfold DG
  rw[hy]
  show(bif Nat.beq b a then false else DG a e [z])=true
  rw[n1]
  unfold DG
  rw[hz]
  show(bif Nat.beq c a then false else DG a e [])=true
  rw[n2];rfl
 rw[this];rfl
theorem bn{F:CallF}{e:Env}{h:Hp}(W:h.Wf){x y:O}{r:Nat}{L:List Value}{a b c:Int}{s:Nat}{u:Value}(hx:x e=pt r)(hy:y e=B1 a b c s u)(R:h.Row r 0 L)(hL:L.length=5)(h256:256≤r)(hu:A0 u=true):
  Hz x (Af 5 x y) F e h=.ok noRes (h.back (h.quiet.wr r 0 (A3 a b c s u))):=by
 have Rq:h.quiet.Row r 0 L:=R.same rfl
 have ho:0+(A3 a b c s u).length≤L.length:=by rw[hL];show 0+5≤5;omega
 have h1:Bh (A3 a b c s u)=true:=by
  show(bif A0 u then true else false)=true
  rw[hu];rfl
 have st:=Rq.storeR (n:=5) (off:=0) W.quiet h256 (v:=B1 a b c s u) rfl ho h1
 have st:storeR 5 (pt r) (B1 a b c s u) h.quiet=.ok noRes (h.quiet.wr r 0 (A3 a b c s u)):=st
 obtain⟨cc,_,hw,_⟩:=Rq.wr_is ho
 have hlow:(h.quiet.wr r 0 (A3 a b c s u)).low=r:=by
  rw[hw]
  show B6 h.next r=r
  have:=R.lt W
  rw[BO];omega
 have hhigh:(h.quiet.wr r 0 (A3 a b c s u)).high=r:=by
  rw[hw]
  show Ce 0 r=r
  rw[B2];omega
 show(match Af 5 x y F e h.quiet with|.ok v h'=>bif KB (blkOf (x e)) h h'.low h'.high then Dn h v h' else .no|.no=>.no)=_
 rw[Ao,hx,hy,st]
 show(bif KB (.ok r) h (h.quiet.wr r 0 (A3 a b c s u)).low (h.quiet.wr r 0 (A3 a b c s u)).high then Dn h noRes (h.quiet.wr r 0 (A3 a b c s u))else .no)=_
 rw[hlow,hhigh]
 have:KB (.ok r) h r r=true:=by
  show(bif Nat.ble r r then Nat.ble r r else false)=true
  rw[Al.2 (Nat.le_refl r)];rfl
 rw[this]
 show Dn h noRes (h.quiet.wr r 0 (A3 a b c s u))=_
 unfold Dn
 simp only[Ai];rfl
end
noncomputable section
open Go
set_option maxRecDepth 100000
def Ok4(h:Hp)(r4:Nat)(ns:List Nat)(e:Env)(g:Hp):Prop:=h.Ext g∧AB 4 e=pt r4∧AB 5 e=.int .i64 (at6 ns 4:Nat)∧AB 6 e=.int .u32 (at6 ns 5:Nat)∧AB 7 e=.bool true∧loadN 5 ⟨r4,0,none⟩ g=.ok (B1 (at6 ns 1) (at6 ns 2) (at6 ns 3) (at6 ns 0) nilS) g
theorem KY{h g:Hp}{r4:Nat}{e:Env}(D:V6 h r4 e g):A4 [.cN (AB 4) 5,.t (AB 5),.t (AB 6),.t (AB 7)] (.ret e g)=.ok noT g:=by
 obtain⟨_,h4,h5,h6,h7,hl⟩:=D
 rw[Bp,JT (v:=B1 0 0 0 0 nilS) (by rw[h4];exact hl),h5,h6,h7];rfl
theorem kL{h g:Hp}{r4:Nat}{ns:List Nat}{e:Env}(D:Ok4 h r4 ns e g):A4 [.cN (AB 4) 5,.t (AB 5),.t (AB 6),.t (AB 7)] (.ret e g)=.ok (okT ns) g:=by
 obtain⟨_,h4,h5,h6,h7,hl⟩:=D
 rw[Bp,JT (v:=B1 (at6 ns 1) (at6 ns 2) (at6 ns 3) (at6 ns 0) nilS) (by rw[h4];exact hl),h5,h6,h7];rfl
theorem oV{n:Nat}{h hB g:Hp}(W0:h.Wf)(xB:h.Ext hB)(x:hB.Ext g){r4 r10 k q:Nat}(hr4:h.next≤r4)(hr410:r10≠r4)(R4:hB.Row r4 0 (A3 0 0 0 0 nilS)){v:Value}{l ns:List Nat}(M:Mk hB k v l)(hl:l.length≤900000)(hq:q≤l.length)
  (R10:g.Row r10 0 (ns.map nv))(h6:ns.length=6)(hns:∀ v∈ns,v≤1099511627776){e:Env}(s4:AB 4 e=pt r4)(s8:AB 8 e=v)(s10:AB 10 e=pt r10)(s11:AB 11 e=.int .i64 (q:Int)):
  (OG ns∧(∀ x∈l.drop q,x=0)∧∃ e2 g2,paE (call AF (n+3)) e g=.ret e2 g2∧Ok4 h r4 ns e2 g2)∨(¬ (OG ns∧∀ x∈l.drop q,x=0)∧∃ e2 g2,paE (call AF (n+3)) e g=.ret e2 g2∧V6 h r4 e2 g2):=by
 have W:=x.wf
 have WB:=xB.wf
 have hat:∀ i,at6 ns i≤1099511627776:=fun i=>by
  unfold at6
  rw[List.getD_eq_getElem?_getD]
  cases h:ns[i]? with
  |none=>exact Nat.zero_le _
  |some y=>exact hns y (List.mem_of_getElem? h)
 have i0:∀ g:Hp,MO 6 1 (pt r10) (.int .i64 0) g=.ok (.pointer (some ⟨r10,0,none⟩)) g:=fun g=>PQ (k:=0) (by omega)
 have i1:∀ g:Hp,MO 6 1 (pt r10) (.int .i64 1) g=.ok (.pointer (some ⟨r10,1,none⟩)) g:=fun g=>PQ (k:=1) (by omega)
 have i2:∀ g:Hp,MO 6 1 (pt r10) (.int .i64 2) g=.ok (.pointer (some ⟨r10,2,none⟩)) g:=fun g=>PQ (k:=2) (by omega)
 have i3:∀ g:Hp,MO 6 1 (pt r10) (.int .i64 3) g=.ok (.pointer (some ⟨r10,3,none⟩)) g:=fun g=>PQ (k:=3) (by omega)
 have i4:∀ g:Hp,MO 6 1 (pt r10) (.int .i64 4) g=.ok (.pointer (some ⟨r10,4,none⟩)) g:=fun g=>PQ (k:=4) (by omega)
 have i5:∀ g:Hp,MO 6 1 (pt r10) (.int .i64 5) g=.ok (.pointer (some ⟨r10,5,none⟩)) g:=fun g=>PQ (k:=5) (by omega)
 have l0:=Pq R10 h6 (k:=0) (by omega)
 have l1:=Pq R10 h6 (k:=1) (by omega)
 have l2:=Pq R10 h6 (k:=2) (by omega)
 have l3:=Pq R10 h6 (k:=3) (by omega)
 have a0:=hat 0
 have a1:=hat 1
 have a2:=hat 2
 have a3:=hat 3
 have a4:=hat 4
 have a5:=hat 5
 have hcast:min ((at6 ns 0:Nat):Int) 9=((min (at6 ns 0) 9:Nat):Int):=by omega
 have mn:∀ (F:CallF) (e:Env),AB 52 e=.int .u64 ((at6 ns 0:Nat):Int)→SG (AB 52) (kV (.int .u64 9)) F e g=.ok (.int .u64 ((min (at6 ns 0) 9:Nat):Int)) g:=fun F e he=>by rw[kC he rfl,hcast]
 have v0:DQ .u8 (.int .u64 ((min (at6 ns 0) 9:Nat):Int)) g=.ok (.int .u8 ((min (at6 ns 0) 9:Nat):Int)) g:=by rw[Ck,HY,Nat.mod_eq_of_lt (by omega)]
 have cv:∀ (i:Nat) (g:Hp),DQ .i64 (.int .u64 ((at6 ns i:Nat):Int)) g=.ok (.int .i64 ((at6 ns i:Nat):Int)) g:=fun i g=>by rw[Ck,Bg (by have:=hat i;omega)]
 have bd:∀ (F:CallF) (e:Env),AB 54 e=.int .u8 ((min (at6 ns 0) 9:Nat):Int)→AB 57 e=.int .i64 ((at6 ns 1:Nat):Int)→AB 60 e=.int .i64 ((at6 ns 2:Nat):Int)→AB 63 e=.int .i64 ((at6 ns 3:Nat):Int)→
   Bm F0.zero [(3,1,AB 54),(0,1,AB 57),(1,1,AB 60),(2,1,AB 63)] F e g=.ok (B1 (at6 ns 1) (at6 ns 2) (at6 ns 3) (min (at6 ns 0) 9) nilS) g:=fun F e h1 h2 h3 h4=>Zk h1 h2 h3 h4
 have f1:=fun (F:CallF) (e:Env)=>B7 (F:=F) (e:=e) (n:=5) (t:=DU) W
 have x1:=(Hp.Ext.refl W).push (.cells DU 5 0)
 have R13:(g.push (.cells DU 5 0)).Row g.next 0 (A3 0 0 0 0 nilS):=Hp.Row.alloc W HZ rfl
 generalize g.push (.cells DU 5 0)=g1 at f1 x1 R13
 obtain⟨st,ld,x2,R13',_⟩:=OO W x1 (Nat.le_refl _) R13 rfl (a:=at6 ns 1) (b:=at6 ns 2) (c:=at6 ns 3) (s:=min (at6 ns 0) 9) (u:=nilS) rfl
 generalize g1.wr g.next 0 (A3 (at6 ns 1) (at6 ns 2) (at6 ns 3) (min (at6 ns 0) 9) nilS)=g2 at st ld x2 R13'
 have k24:=Ir (n:=n+2) x2.wf (a:=at6 ns 1) (b:=at6 ns 2) (c:=at6 ns 3) (s:=min (at6 ns 0) 9) (m:=0) (u:=nilS) (fun _=>rfl)
 have y3:=(Hp.Ext.refl x2.wf).pushRow 0 (A3 (at6 ns 1) (at6 ns 2) (at6 ns 3) (min (at6 ns 0) 9) nilS)
 generalize g2.pushRow 0 (A3 (at6 ns 1) (at6 ns 2) (at6 ns 3) (min (at6 ns 0) 9) nilS)=g3 at k24 y3
 have x3:=x2.trans y3
 have xB3:=x.trans x3
 have xh3:=xB.trans xB3
 obtain⟨w1,w2,w3,_,_⟩:=OO W0 xh3 hr4 (R4.ext WB xB3) rfl (a:=0) (b:=0) (c:=0) (s:=0) (u:=nilS) rfl
 have R10':=R10.ext W x3
 have l4:=Pq R10' h6 (k:=4) (by omega)
 have l5:=Pq R10' h6 (k:=5) (by omega)
 have nok:¬ (OG ns∧∀ x∈l.drop q,x=0)→(∃ e2,paE (call AF (n+3)) e g=.ret e2 (g3.wr r4 0 (A3 0 0 0 0 nilS))∧AB 4 e2=pt r4∧AB 5 e2=.int .i64 0∧AB 6 e2=.int .u32 0∧AB 7 e2=.bool false)→
   (OG ns∧(∀ x∈l.drop q,x=0)∧∃ e2 g2,paE (call AF (n+3)) e g=.ret e2 g2∧Ok4 h r4 ns e2 g2)∨(¬ (OG ns∧∀ x∈l.drop q,x=0)∧∃ e2 g2,paE (call AF (n+3)) e g=.ret e2 g2∧V6 h r4 e2 g2):=fun hn ⟨e2,q1,q2,q3,q4,q5⟩=>.inr ⟨hn,e2,_,q1,w3,q2,q3,q4,q5,w2⟩
 cases hr:B4 (at6 ns 1) (at6 ns 2) (at6 ns 3) (min (at6 ns 0) 9) 0 with
 |false=>
  rw[hr]at k24
  refine nok (fun hh=>by rw[hh.1.1]at hr;cases hr) ?_
  unfold paE
  simp only[sT,Nat.reduceLT,Nat.reduceEqDiff,reduceIte,gD,C3,s10,i0,i1,i2,i3,AP,AU,l0,l1,l2,l3,mn,CN,v0,cv,bd,f1,Ao,st,Aw,Av,ld,cA0,k24,Bt,Br,Bool.not_false,Dg,s4,w1]
  exact⟨_,rfl,by simp[AH,s4]⟩
 |true=>
  rw[hr]at k24
  by_cases h4:at6 ns 4≤65536
  ·have c4:iGt ((at6 ns 4:Nat):Int) 65536=false:=Ei (by omega)
   by_cases h5:at6 ns 5≤4294967295
   ·have c5:iGt ((at6 ns 5:Nat):Int) 4294967295=false:=Ei (by omega)
    have M3:=M.ext WB xB3
    obtain⟨w,ct,Vw⟩:=Ow M3 hq
    obtain⟨rb,kb,hrb⟩:=Uc (n:=n) Vw (by rw[List.length_drop];omega)
    have kb:call AF (n+3) 85 [w,.func (.func 112) #[] #[]] g3=.ok (.bool rb) g3:=kb
    cases rb with
    |true=>
     obtain⟨y,hy1,hy2⟩:=hrb.1 rfl
     refine nok (fun hh=>hy2 (hh.2 y hy1)) ?_
     unfold paE
     simp only[sT,Nat.reduceLT,Nat.reduceEqDiff,reduceIte,gD,C3,s10,i0,i1,i2,i3,i4,i5,AP,AU,l0,l1,l2,l3,l4,l5,mn,CN,v0,cv,bd,f1,Ao,st,Aw,Av,ld,cA0,k24,Bt,Br,Bool.not_true,AO,AN,c4,c5,s8,s11,ct,kb,Dg,s4,w1]
     exact⟨_,rfl,by simp[AH,s4]⟩
    |false=>
     have hz:∀ x∈l.drop q,x=0:=fun y hy=>by
      rcases Nat.eq_zero_or_pos y with h0|h0
      ·exact h0
      ·have:=hrb.2 ⟨y,hy,by omega⟩;cases this
     have hok:OG ns:=⟨hr,h4,h5⟩
     have hmin:min (at6 ns 0) 9=at6 ns 0:=Nat.min_eq_left (Nat.le_trans (cj.1 hok).1 (by decide))
     left
     refine⟨hok,hz,?_⟩
     have xm:=x3.marked
     have R10m:g3.marked.Row r10 0 (ns.map nv):=R10'.same rfl
     have m4:=Pq R10m h6 (k:=4) (by omega)
     have m5:=Pq R10m h6 (k:=5) (by omega)
     have R13m:g3.marked.Row g.next 0 (A3 (at6 ns 1) (at6 ns 2) (at6 ns 3) (min (at6 ns 0) 9) nilS):=(R13'.ext x2.wf y3).same rfl
     have mld:=(B9 R13m).2.2.2.2.2
     have v5:DQ .u32 (.int .u64 ((at6 ns 5:Nat):Int)) g3.marked=.ok (.int .u32 ((at6 ns 5:Nat):Int)) g3.marked:=by rw[Ck,Qx h5]
     have ck:∀ (k:C) (F:CallF) (e:Env),AB 4 e=pt r4→AB 87 e=.pointer (some ⟨r10,4,none⟩)→AB 90 e=.pointer (some ⟨r10,5,none⟩)→CW (AB 4) [AB 87,AB 90] k F e g3.marked=k F e g3.marked:=fun k F e e1 e2 e3=>gm e1 e2 e3 hr410 hr410
     have h256:256≤r4:=by have:=W0.big;omega
     have R4m:g3.marked.Row r4 0 (A3 0 0 0 0 nilS):=(R4.ext WB xB3).same rfl
     have ta:∀ (F:CallF) (e:Env),AB 4 e=pt r4→AB 86 e=B1 (at6 ns 1) (at6 ns 2) (at6 ns 3) (min (at6 ns 0) 9) nilS→Hz (AB 4) (Af 5 (AB 4) (AB 86)) F e g3.marked=.ok noRes (g3.marked.back (g3.marked.quiet.wr r4 0 (A3 (at6 ns 1) (at6 ns 2) (at6 ns 3) (min (at6 ns 0) 9) nilS))):=fun F e e1 e2=>bn xm.wf e1 e2 R4m rfl h256 rfl
     have xhm:=xh3.marked
     obtain⟨_,z2,z3,z4,_⟩:=OO W0 xhm.quiet hr4 (R4m.same (h':=g3.marked.quiet) rfl) rfl (a:=at6 ns 1) (b:=at6 ns 2) (c:=at6 ns 3) (s:=min (at6 ns 0) 9) (u:=nilS) rfl
     have xf:h.Ext (g3.marked.back (g3.marked.quiet.wr r4 0 (A3 (at6 ns 1) (at6 ns 2) (at6 ns 3) (min (at6 ns 0) 9) nilS))):=Hp.Ext.back2 xhm z3
     have Rf:(g3.marked.back (g3.marked.quiet.wr r4 0 (A3 (at6 ns 1) (at6 ns 2) (at6 ns 3) (min (at6 ns 0) 9) nilS))).Row r4 0 (A3 (at6 ns 1) (at6 ns 2) (at6 ns 3) (min (at6 ns 0) 9) nilS):=z4.same rfl
     generalize g3.marked.back (g3.marked.quiet.wr r4 0 (A3 (at6 ns 1) (at6 ns 2) (at6 ns 3) (min (at6 ns 0) 9) nilS))=g4 at ta xf Rf
     have ldf:=(B9 Rf).2.2.2.2.2
     rw[hmin]at ldf
     have hrun:∃ e2,paE (call AF (n+3)) e g=.ret e2 g4∧AB 4 e2=pt r4∧AB 5 e2=.int .i64 (at6 ns 4:Nat)∧AB 6 e2=.int .u32 (at6 ns 5:Nat)∧AB 7 e2=.bool true:=by
      unfold paE
      simp only[sT,Nat.reduceLT,Nat.reduceEqDiff,reduceIte,gD,C3,s10,i0,i1,i2,i3,i4,i5,AP,AU,l0,l1,l2,l3,l4,l5,mn,CN,v0,cv,bd,f1,Ao,st,Aw,Av,ld,cA0,k24,Bt,Br,Bool.not_true,AO,AN,c4,c5,s8,s11,ct,kb,BA,mld,m4,m5,v5,s4,ck,ta]
      exact⟨_,rfl,by simp[AH,s4]⟩
     obtain⟨e2,q1,q2,q3,q4,q5⟩:=hrun
     exact⟨e2,g4,q1,xf,q2,q3,q4,q5,ldf⟩
   ·have c5:iGt ((at6 ns 5:Nat):Int) 4294967295=true:=Fl (by omega)
    refine nok (fun hh=>h5 hh.1.2.2) ?_
    unfold paE
    simp only[sT,Nat.reduceLT,Nat.reduceEqDiff,reduceIte,gD,C3,s10,i0,i1,i2,i3,i4,i5,AP,AU,l0,l1,l2,l3,l4,l5,mn,CN,v0,cv,bd,f1,Ao,st,Aw,Av,ld,cA0,k24,Bt,Br,Bool.not_true,AO,AN,c4,c5,Dg,s4,w1]
    exact⟨_,rfl,by simp[AH,s4]⟩
  ·have c4:iGt ((at6 ns 4:Nat):Int) 65536=true:=Fl (by omega)
   refine nok (fun hh=>h4 hh.1.2.1) ?_
   unfold paE
   simp only[sT,Nat.reduceLT,Nat.reduceEqDiff,reduceIte,gD,C3,s10,i0,i1,i2,i3,i4,i5,AP,AU,l0,l1,l2,l3,l4,mn,CN,v0,cv,bd,f1,Ao,st,Aw,Av,ld,cA0,k24,Bt,Br,Bool.not_true,AO,AN,c4,Dg,s4,w1]
   exact⟨_,rfl,by simp[AH,s4]⟩
theorem YZ{n:Nat}{h:Hp}(W:h.Wf){tb:Nat}{T:List Nat}(R:h.Row tb 0 (T.map wv))(hT:TblOk T){u:Value}{l:List Nat}(V:h.Vals u (l.map bv))(hC:Vy u)(hb:∀ x∈l,x<256)(hl:l.length≤900000):
  ∃ h',h.Ext h'∧((∃ ns,Kk T l ns∧call AF (n+4) 87 [pt tb,u] h=.ok (okT ns) h')∨((¬ ∃ ns,Kk T l ns)∧call AF (n+4) 87 [pt tb,u] h=.ok noT h')):=by
 have f1:=fun (F:CallF) (e:Env)=>B7 (F:=F) (e:=e) (n:=5) (t:=DU) W
 have x1:=(Hp.Ext.refl W).push (.cells DU 5 0)
 have R4:(h.push (.cells DU 5 0)).Row h.next 0 (A3 0 0 0 0 nilS):=Hp.Row.alloc W HZ rfl
 have nA:(h.push (.cells DU 5 0)).next=h.next+1:=rfl
 generalize h.push (.cells DU 5 0)=hA at f1 x1 R4 nA
 obtain⟨hB,yB,U⟩:=Vx (n:=n) x1.wf (R.ext W x1) hT (V.ext W x1) hC hb hl
 have xB:=x1.trans yB
 have R4B:=R4.ext x1.wf yB
 obtain⟨w1,w2,w3,_,_⟩:=OO W xB (Nat.le_refl _) R4B rfl (a:=0) (b:=0) (c:=0) (s:=0) (u:=nilS) rfl
 rcases U with ⟨body,v,hu,k1,M⟩|⟨hu,c,hc,k1⟩
 ·have c2:iNe 0 0=false:=CT rfl
  have Vl:=M.vals.bl hB
  by_cases h60:body.length=60
  ·have c3:iNe (body.length:Int) 60=false:=CT (by omega)
   have f2:=fun (F:CallF) (e:Env)=>B7 (F:=F) (e:=e) (n:=6) (t:=NV) xB.wf
   have y2:=(Hp.Ext.refl xB.wf).push (.cells NV 6 0)
   have R10:(hB.push (.cells NV 6 0)).Row hB.next 0 ([0,0,0,0,0,0].map nv):=Hp.Row.alloc xB.wf ZU rfl
   generalize hB.push (.cells NV 6 0)=hC' at f2 y2 R10
   have pre:∃ e1,Oz (call AF (n+3)) (AV e0 0 [pt tb,u]) h=paS (call AF (n+3)) e1 hC'∧AB 4 e1=pt h.next∧AB 8 e1=v∧AB 10 e1=pt hB.next∧AB 11 e1=.int .i64 ((0:Nat):Int)∧AB 29 e1=.int .i64 ((0:Nat):Int):=by
    unfold Oz
    simp only[iN,Nat.reduceAdd,sT,Nat.reduceLT,Nat.reduceEqDiff,reduceIte,gD,f1,cA0,k1,BV,Bj,Bo,AO,AN,c2,Am,Vl,c3,f2]
    exact⟨_,rfl,by simp[AH]⟩
   obtain⟨e1,p1,p2,p3,p4,p5,p6⟩:=pre
   obtain⟨hsl,hbt⟩:=I4 hu
   have hbb:∀ x∈body,x<256:=fun x hx=>hb x (by rw[hbt]at hx;exact List.mem_of_mem_take hx)
   rcases dJ (n:=n+2) W xB y2 (Nat.le_refl h.next) (Nat.le_refl _) R4B M.vals hbb (by omega) R10 p2 p3 p4 p5 p6 with ⟨e2,g,ns,q,q1,x2,R10',hrd,t4,t8,t10,t11⟩|⟨e2,g,q1,hrd,D⟩
   ·obtain⟨g1,g2,g3,g4,g5⟩:=KX 6 body 0 ns q hbb (Nat.zero_le _) hrd
    have hn2:hB.next≠h.next:=by have:=yB.next;omega
    rcases oV (n:=n) W xB x2 (Nat.le_refl _) hn2 R4B M (by omega) g4 R10' g1 g5 t4 t8 t10 t11 with ⟨ho,hz,e3,g',r1,D⟩|⟨hno,e3,g',r1,D⟩
    ·refine⟨g',D.1,.inl ⟨ns,⟨body,q,hu,h60,hrd,ho,hz⟩,?_⟩⟩
     rw[K2 rfl,LD,p1,SJ]
     simp only[BP,A1,q1,A5,BJ,r1]
     exact kL D
    ·refine⟨g',D.1,.inr ⟨?_,?_⟩⟩
     ·rintro⟨ms,body',q',j1,j2,j3,j4,j5⟩
      rw[hu]at j1;cases j1
      rw[hrd]at j3;cases j3
      exact hno ⟨j4,j5⟩
     ·rw[K2 rfl,LD,p1,SJ]
      simp only[BP,A1,q1,A5,BJ,r1]
      exact KY D
   ·refine⟨g,D.1,.inr ⟨?_,?_⟩⟩
    ·rintro⟨ms,body',q',j1,j2,j3,j4,j5⟩
     rw[hu]at j1;cases j1
     rw[hrd]at j3;cases j3
    ·rw[K2 rfl,LD,p1,SJ]
     simp only[BP,A1,q1,CB,Co]
     exact KY D
  ·have c3:iNe (body.length:Int) 60=true:=Mu (by omega)
   have hrun:∃ e2,Oz (call AF (n+3)) (AV e0 0 [pt tb,u]) h=.ret e2 (hB.wr h.next 0 (A3 0 0 0 0 nilS))∧AB 4 e2=pt h.next∧AB 5 e2=.int .i64 0∧AB 6 e2=.int .u32 0∧AB 7 e2=.bool false:=by
    unfold Oz
    simp only[iN,Nat.reduceAdd,sT,Nat.reduceLT,Nat.reduceEqDiff,reduceIte,gD,f1,cA0,k1,BV,Bj,Bo,AO,AN,c2,Am,Vl,c3,Dg,Ao,w1]
    exact⟨_,rfl,by simp[AH]⟩
   obtain⟨e2,q1,q2,q3,q4,q5⟩:=hrun
   refine⟨_,w3,.inr ⟨?_,?_⟩⟩
   ·rintro⟨ms,body',q',j1,j2,_⟩
    rw[hu]at j1;cases j1
    exact h60 j2
   ·rw[K2 rfl,LD,q1]
    exact KY (h:=h) ⟨w3,q2,q3,q4,q5,w2⟩
 ·have c2:iNe c 0=true:=Mu hc
  have hrun:∃ e2,Oz (call AF (n+3)) (AV e0 0 [pt tb,u]) h=.ret e2 (hB.wr h.next 0 (A3 0 0 0 0 nilS))∧AB 4 e2=pt h.next∧AB 5 e2=.int .i64 0∧AB 6 e2=.int .u32 0∧AB 7 e2=.bool false:=by
   unfold Oz
   simp only[iN,Nat.reduceAdd,sT,Nat.reduceLT,Nat.reduceEqDiff,reduceIte,gD,f1,cA0,k1,BV,Bj,Bo,AO,AN,c2,Dg,Ao,w1]
   exact⟨_,rfl,by simp[AH]⟩
  obtain⟨e2,q1,q2,q3,q4,q5⟩:=hrun
  refine⟨_,w3,.inr ⟨?_,?_⟩⟩
  ·rintro⟨ms,body',q',j1,_⟩
   rw[hu]at j1;cases j1
  ·rw[K2 rfl,LD,q1]
   exact KY (h:=h) ⟨w3,q2,q3,q4,q5,w2⟩
end
end Go.Proofs.YtedbmmfebjfibaaGreat

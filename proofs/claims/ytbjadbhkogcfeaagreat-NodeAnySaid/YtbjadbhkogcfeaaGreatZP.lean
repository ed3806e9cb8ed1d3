/-
  Part ZP of what Lawan stands on: printed by program, names and spaces cut.
-/
import Derived.Test.YtbjadbhkogcfeaaGreatZO
open Go.Value renaming int→AI
open Go.IntKind renaming i64→AT
open Nat renaming reduceEqDiff→BY,reduceLT→By,reduceAdd→IT,le_refl→If,zero_add→sh,zero_le→uD,reduceLeDiff→vR,add_zero→vS,mul_comm→wP,min_le_right→wg,mul_zero→zK
open Go renaming Value→IN
open List renaming length_append→No,length_map→OF,getD_eq_getElem?_getD→tY,length_cons→tZ,mem_cons_of_mem→td,mem_cons_self→te,replicate→th,mem_of_getElem?→tq,mem_cons→uA,mem_singleton→uF,getElem?_eq_some_iff→uK,length_take→uL,nil_append→uN,mem_append→uP,length_nil→uR,length_singleton→uU,length_drop→ua,mem_filter→ut,mem_map→vL,cons_append→vM,mem_of_mem_take→vQ,append_eq→vZ,length_filter_le→vd,mem_of_mem_drop→wM,drop→wT,take→wh,nodup_cons→wi,nodup_append→xT,map_cons→xU,mem_iff_getElem?→xZ,find?_some→yF,filter_nil→yG,mem_of_find?_eq_some→zC,getElem?_replicate→zS,filter_append→AAC,nodup_range→AAT
open Bool renaming and_eq_true→uB,not_true→uX,not_false→um,false_and→vt,true_and→xD,and_false→yA
open Int renaming toNat_of_nonneg→xK
set_option linter.unusedVariables false
set_option linter.unusedSimpArgs false
namespace Go.Proofs.YtbjadbhkogcfeaaGreat
noncomputable section
open Go
set_option maxRecDepth 100000
theorem Ih{l:List Nat}{j r:Nat}(hr:r<64):(C7 l j).getD r 0=l.getD (64*j+r) 0:=by
 unfold C7;have hl:((l.drop (64*j)).take 64).length=min 64 (l.length - 64*j):=by rw[uL,ua]
 rcases Nat.lt_or_ge r ((l.drop (64*j)).take 64).length with h|h
 ·rw[tY,List.getElem?_append_left h,<- tY,KT hr,KR]
 ·rw[tY,List.getElem?_append_right h,zS]
  have:l.getD (64*j+r) 0=0:=by
   rw[tY,List.getElem?_eq_none (by omega)];rfl
  rw[this];split<;>rfl
theorem Y9{T M l H:List Nat}{n p:Nat}(hM:M.length=64*n)(hp:3*p+3<=n)(hl:1<=l.length/\l.length<=100)(hH:H.length=64):
  (EA T M p l H).length=64*n/\∀ x,(EA T M p l H).getD x 0=if x/64=3*p then H.getD (x % 64) 0 else if x/64=3*p+1 then l.getD (x % 64) 0 else if x/64=3*p+2/\64<l.length then l.getD (64+x % 64) 0 else M.getD x 0:=by
 have hk:(l.length+63)/64=1\/(l.length+63)/64=2:=by omega
 rcases hk with hk|hk
 ·have e:EA T M p l H=IM (IM M (p*3+1+0) (C7 l 0)) (p*3) H:=by
   unfold EA J0 GF;rw[hk];rfl
  have l1:=DX hM (show p*3+1+0<n by omega) (Cw l 0);rw[e];refine⟨DX l1 (by omega) hH,fun x=>?_⟩;rw[EZ l1 (by omega) hH,EZ hM (show p*3+1+0<n by omega) (Cw l 0),Ih (by omega),zK,sh,wP p 3,vS];by_cases h1:x/64=3*p
  ·rw[if_pos h1,if_pos h1]
  ·rw[if_neg h1,if_neg h1]
   by_cases h2:x/64=3*p+1
   ·rw[if_pos h2,if_pos h2]
   ·rw[if_neg h2,if_neg h2,if_neg (by omega)]
 ·have e:EA T M p l H=IM (IM (IM M (p*3+1+0) (C7 l 0)) (p*3+1+1) (C7 l 1)) (p*3) H:=by
   unfold EA J0 GF;rw[hk];rfl
  have l1:=DX hM (show p*3+1+0<n by omega) (Cw l 0);have l2:=DX l1 (show p*3+1+1<n by omega) (Cw l 1);rw[e];refine⟨DX l2 (by omega) hH,fun x=>?_⟩;rw[EZ l2 (by omega) hH,EZ l1 (show p*3+1+1<n by omega) (Cw l 1),EZ hM (show p*3+1+0<n by omega) (Cw l 0),Ih (by omega),Ih (by omega),zK,sh,wP p 3,vS,Nat.mul_one];by_cases h1:x/64=3*p
  ·rw[if_pos h1,if_pos h1]
  ·rw[if_neg h1,if_neg h1]
   by_cases h2:x/64=3*p+1
   ·rw[if_neg (by omega),if_pos h2,if_pos h2]
   ·rw[if_neg h2]
    by_cases h3:x/64=3*p+2
    ·rw[if_pos (show x/64=3*p+1+1 by omega),if_neg h2,if_pos (show x/64=3*p+2/\64<l.length from⟨h3,by omega⟩)]
    ·rw[if_neg (show ¬ x/64=3*p+1+1 by omega),if_neg h2,if_neg (show ¬ (x/64=3*p+2/\64<l.length)by omega)]
theorem Yn{M H:List Nat}{n p:Nat}(hM:M.length=64*n)(hp:3*p+3<=n)(hH:H.length=64):(HF M p H).length=64*n/\∀ x,(HF M p H).getD x 0=if x/64=3*p then H.getD (x % 64) 0 else M.getD x 0:=by
 have e:HF M p H=IM M (p*3) H:=rfl;rw[e];refine⟨DX hM (by omega) hH,fun x=>?_⟩;rw[EZ hM (by omega) hH,wP p 3]
theorem Re{n x:Nat}:(th n 0).getD x 0=0:=by
 rw[tY,zS];split<;>rfl
def Zx:List Nat:=th (64*24) 0
section
variable {T b:List Nat}(hl:1<=b.length/\b.length<=100)
include hl
end
theorem Jp{M:List Nat}{i r:Nat}(hr:r<64):(sec M i).getD r 0=M.getD (64*i+r) 0:=by
 unfold sec;rw[KT hr,KR]
theorem MC{M:List Nat}{p k r:Nat}(hr:r<k):(dat M p k).getD r 0=M.getD (64*(3*p+1)+r) 0:=by
 unfold dat;rw[KT hr,KR]
theorem Zc{T M:List Nat}{p:Nat}{a b c:Int}{s:Nat}{l:List Nat}(hr:ABp a b c s l.length=true)(hl:l.length<=100)(h1:sec M (3*p)=AB1 T a b c s l)(h2:dat M p l.length=l):
  HC T M p (CN a.toNat b.toNat c.toNat s l.length (CG T l))/\lkN T M p=some (CN a.toNat b.toNat c.toNat s l.length (CG T l))/\o0 M p (CN a.toNat b.toNat c.toNat s l.length (CG T l))=⟨a,b,c,s,l,p⟩/\IX T M p=false:=by
 obtain⟨g1,g2,g3,g4,g5,g6,_⟩:=EN hr;have hH:HC T M p (CN a.toNat b.toNat c.toNat s l.length (CG T l)):=by
  refine⟨by rw[h1];exact ae hr,hl,?_⟩;show CG T (dat M p l.length)=CG T l;rw[h2]
 refine⟨hH,Qw hH,?_,?_⟩
 ·show(⟨(a.toNat:Int),(b.toNat:Int),(c.toNat:Int),s,dat M p l.length,p⟩:Kc)=_
  rw[h2,xK g1,xK g3,xK (by omega)]
 ·cases hb:IX T M p
  ·rfl
  ·exact absurd ⟨_,hH⟩ (MZ.1 hb).1
theorem ZK{T M:List Nat}{n p:Nat}(hM:M.length=64*n)(hp:3*p<n)(h:∀ r,r<64->M.getD (64*(3*p)+r) 0=0):lkN T M p=none/\IX T M p=false:=by
 have hl:=Jq hM hp;have hz:∀ x∈sec M (3*p),x=0:=fun x hx=>by
  obtain⟨i,hi⟩:=xZ.1 hx;have hil:=(uK.1 hi).1;have:=Jp (M:=M) (i:=3*p) (r:=i) (by omega);rw[h i (by omega),tY,hi]at this;exact this
 have hno:¬ ∃ ns,HC T M p ns:=fun⟨ns,h1,_⟩=>RO hl hz h1
 refine⟨Zu hno,?_⟩;cases hb:IX T M p
 ·rfl
 ·rcases (MZ.1 hb).2 with ⟨x,hx,h1⟩|⟨ns,h1,_⟩
  ·exact absurd (hz x hx) h1
  ·exact absurd h1 (RO hl hz)
end
noncomputable section
open Go
set_option maxRecDepth 100000
structure Trn (b:List Nat)(hd:Bool)(k:Nat)(ts:List Nat):Prop where
 lt:∀ t∈ts,t<256
 win:k+ts.length<=if hd=true then 60 else b.length
 four:ts.length<=4
def chg(ts:List Nat):Bool:=ts.any fun t=>decide (t≠0)
section
variable {b ts:List Nat}{hd:Bool}{k:Nat}
variable (hl:1<=b.length/\b.length<=100)(hb:∀ x∈b,x<256)(t:Trn b hd k ts)
include hl t
end
end
noncomputable section
open Go
set_option maxRecDepth 100000
theorem ij:Bo .mt 0 iO.zero=some Pp:=by kernel_rfl
theorem SP:∀ {L:List IN},(∀ v∈L,isW v=true)->∃ T:List Nat,L=T.map wv/\∀ x∈T,x<4294967296
 |[],_=>⟨[],rfl,fun x hx=>by cases hx⟩
 |v::L,h=>by
  obtain⟨n,rfl,hn⟩:=PH (h v te);obtain⟨T,rfl,hT⟩:=SP fun x hx=>h x (td _ hx)
  refine⟨n::T,rfl,fun x hx=>?_⟩;rcases uA.1 hx with rfl|hx
  ·exact hn
  ·exact hT x hx
theorem qI{T:List Nat}(h1:T.length=256)(h2:∀ x∈T,x<4294967296):ACM T:=⟨h1,fun i=>by
 rw[tY];cases h:T[i]? with
 |none=>decide
 |some x=>exact h2 x (tq h)⟩
theorem Nb:∀ T:List Nat,BX (T.map wv)=true
 |[]=>rfl
 |x::T=>Nb T
theorem pn{h g:Hp}(W0:h.Wf)(x:h.Ext g){r:Nat}(hr:h.next<=r){L:List IN}(R:g.Row r 0 L)(hL:L.length=256){T:List Nat}(hT:T.length=256):
  ABg 256 (pt r) (.agg ⟨T.map wv⟩) g=.ok ABd (g.wr r 0 (T.map wv))/\h.Ext (g.wr r 0 (T.map wv))/\(g.wr r 0 (T.map wv)).Row r 0 (T.map wv):=by
 have ABj:256<=r:=by have:=W0.big;omega
 have hl:(T.map wv).length=256:=by rw[OF];exact hT
 have ho:0+(T.map wv).length<=L.length:=by omega
 have st:=R.ABg (n:=256) (off:=0) x.wf ABj (v:=.agg ⟨T.map wv⟩) hl ho (Nb T);have wr:=R.ABl x.wf ho;rw[EJ (show L.length=(T.map wv).length by omega)]at wr;exact⟨st,R.AB3 x hr ho,wr⟩
theorem Fx.ext{S:Nat->Prop}{h h':Hp}(x:Fx S h h')(hs:∀ b,S b->h.next<=b):h.Ext h':=⟨x.next,fun i hi=>x.get i hi fun s=>by have:=hs i s;omega,x.low _ (Nat.min_le_left _ _) (wg _ _) fun b hb=>Nat.le_trans (wg _ _) (hs b hb),x.wf⟩
theorem Fx.AHd{S:Nat->Prop}{h0 h h':Hp}(x0:h0.Ext h)(x:Fx S h h')(hs:∀ b,S b->h0.next<=b):h0.Ext h':=Fx.ext (S:=S) ((Fx.of x0).trans x) hs
theorem sx(k:Nat):CI (-1) k:=⟨by omega,by omega,.inl (by omega)⟩
end
noncomputable section
open Go
set_option maxRecDepth 100000
def AHe(v:IN):Prop:=oneCell v=true/\∀ k z,v≠.int k z
structure AHy (h:Hp)(v:IN)(n cap:Nat):Prop where
 len:∀ g:Hp,AB2 v g=.ok (AI AT (n:Int)) g
 get:∀ i,i<n->i<cap->∃ (r:Nat) (kd a b c no:Int) (u w:IN) (l:List Nat),(∀ g:Hp,h.Ext g->ACN 7 v (AI AT (i:Int)) g=.ok (.pointer (some ⟨r,i*7,none⟩)) g/\loadN 7 ⟨r,i*7,none⟩ g=.ok (opV kd a b c no u w) g/\ABa ⟨r,i*7+5,none⟩ g=.ok u g)/\h.VE u (l.map bv)/\(∀ x∈l,x<256)/\oneCell u=true/\AHe w
section
variable {h:Hp}{A:At}{T M:List Nat}{c0 bad k:Nat}{arm:Int}{ks:List Kt}{fr:List Nat}{lv fv u:IN}{ov:Bool}{l:List Nat}
theorem Sl.all(s:Sl h A T M c0 arm ks fr lv fv bad ov):∀ k∈ks,h.ABy k.u (k.l.map bv)/\k.l.length<=1000/\oneCell k.u=true:=fun x hx=>⟨(s.ko x hx).1.vs.vals,by have:=(s.ko x hx).2.2.1;omega,(s.ko x hx).1.vs.one.2.1⟩
theorem iJ:∃ T:List Nat,ND=T.map wv/\ACM T:=by
 obtain⟨_,_,h1,h2⟩:=Tn;obtain⟨T,h3,h4⟩:=SP h2;have hl:T.length=256:=by rw[h3,OF]at h1;exact h1
 exact⟨T,h3,qI hl h4⟩
end
end
noncomputable section
open Go
set_option maxRecDepth 100000
theorem iu:BU 6 [.t (J 4)] d6:=BV (by kernel_rfl) rfl
theorem qr:BU 9 [.t (J 2),.t (J 3),.t (J 4)] d9:=BV (by kernel_rfl) rfl
theorem kI:BU 10 [.t (J 2)] d10:=BV (by kernel_rfl) rfl
theorem Se:BU 11 [.cN (J 4) 7,.t (J 5)] d11:=BV (by kernel_rfl) rfl
theorem kJ:BU 12 [.t (J 2)] d12:=BV (by kernel_rfl) rfl
theorem kK:BU 13 [.t (J 2)] d13:=BV (by kernel_rfl) rfl
theorem kO:BU 21 [.t (J 6),.t (J 7)] d21:=BV (by kernel_rfl) rfl
theorem Sf:BU 23 [.cN (J 4) 7,.t (J 5)] d23:=BV (by kernel_rfl) rfl
theorem YX:BU 24 [.t (J 4),.t (J 5)] d24:=BV (by kernel_rfl) rfl
theorem kR:BU 31 [.t (J 2)] d31:=BV (by kernel_rfl) rfl
theorem kS:BU 32 [.t (J 2)] d32:=BV (by kernel_rfl) rfl
theorem YY:BU 33 [.cN (J 6) 7,.t (J 7)] d33:=BV (by kernel_rfl) rfl
theorem kT:BU 34 [.cN (J 4) 7] d34:=BV (by kernel_rfl) rfl
theorem kU:BU 35 [.cN (J 4) 7] d35:=BV (by kernel_rfl) rfl
theorem kW:BU 36 [.cN (J 4) 7] d36:=BV (by kernel_rfl) rfl
theorem Sh:BU 37 [.cN (J 4) 7] d37:=BV (by kernel_rfl) rfl
theorem kX:BU 38 [.cN (J 4) 7] d38:=BV (by kernel_rfl) rfl
theorem kY:BU 39 [.cN (J 4) 7] d39:=BV (by kernel_rfl) rfl
theorem YZ:BU 49 [.t (J 6),.t (J 7),.t (J 8)] d49:=BV (by kernel_rfl) rfl
theorem kv:BU 50 [.t (J 4),.t (J 5)] d50:=BV (by kernel_rfl) rfl
theorem kz:BU 51 [.t (J 4)] d51:=BV (by kernel_rfl) rfl
theorem lB:BU 52 [.t (J 4)] d52:=BV (by kernel_rfl) rfl
theorem lD:BU 54 [.t (J 2)] d54:=BV (by kernel_rfl) rfl
theorem lE:BU 55 [.t (J 6)] d55:=BV (by kernel_rfl) rfl
theorem lF:BU 56 [.t (J 8)] d56:=BV (by kernel_rfl) rfl
theorem lH:BU 61 [.t (J 4)] d61:=BV (by kernel_rfl) rfl
theorem lI:BU 62 [.t (J 3)] d62:=BV (by kernel_rfl) rfl
theorem lK:BU 65 [.cN (J 2) 4] d65:=BV (by kernel_rfl) rfl
theorem lM:BU 66 [.t (J 3)] d66:=BV (by kernel_rfl) rfl
theorem Sj:BU 83 [.t (J 5)] d83:=BV (by kernel_rfl) rfl
theorem Sk:BU 85 [.t (J 3),.t (J 4)] d85:=BV (by kernel_rfl) rfl
theorem Om:BU 86 [.t (J 6),.t (J 7),.t (J 8)] d86:=BV (by kernel_rfl) rfl
theorem lZ:BU 88 [.t (J 2)] d88:=BV (by kernel_rfl) rfl
theorem lg:BU 89 [.t (J 6)] d89:=BV (by kernel_rfl) rfl
theorem li:BU 90 [.t (J 4)] d90:=BV (by kernel_rfl) rfl
theorem ll:BU 91 [.t (J 2)] d91:=BV (by kernel_rfl) rfl
theorem dN:BU 125 [.t (J 4)] mj:=BV (by kernel_rfl) rfl
theorem dO:BU 126 [.t (J 4)] ml:=BV (by kernel_rfl) rfl
end
noncomputable section
open Go
set_option maxRecDepth 100000
def CJ(ABs seq:Int)(op:Nat)(a b c:Int)(u:IN):List IN:=[AI AT ABs,AI AT seq,.int .u8 (op:Int),AI AT a,AI AT b,AI AT c,u]
def CO(ABs seq:Int)(op:Nat)(a b c:Int)(u:IN):IN:=.agg ⟨CJ ABs seq op a b c u⟩
def wiQ(n lo hi:Int):Bool:=decide (lo<=n/\n<=hi)
def hdQ(ABs seq:Int)(op:Nat):Bool:=wiQ ABs 1 1099511627776 && wiQ seq 1 1099511627776 && decide (1<=op/\op<=6)
def nmQ(a b c least:Int):Bool:=wiQ a 0 1099511627776 && wiQ b 0 254 && wiQ c least 1099511627776
def D9(op:Nat):Int:=if op=4\/op=5 then 0 else 1
def DA(ABs seq:Int)(op:Nat)(a b c:Int)(n:Nat):Bool:=hdQ ABs seq op && nmQ a b c (D9 op) && (if op=1 then decide (n<=65536)else decide (n=0))
section
variable {F:ABZ}{e:Env}{h h':Hp}{m n op r:Nat}{ABs seq a b c least lo hi:Int}{u:IN}
theorem FG(W:h.Wf){g:O}(hg:g e=CO ABs seq op a b c u):CW g F e h=.ok (pt h.next) (h.ABY 0 (CJ ABs seq op a b c u)):=by rw[Dx,hg,Dt W];rfl
theorem B1(R:h.Row r 0 (CJ ABs seq op a b c u)):ABa ⟨r,0,none⟩ h=.ok (AI AT ABs) h/\ABa ⟨r,1,none⟩ h=.ok (AI AT seq) h/\ABa ⟨r,2,none⟩ h=.ok (.int .u8 (op:Int)) h/\ABa ⟨r,3,none⟩ h=.ok (AI AT a) h/\ABa ⟨r,4,none⟩ h=.ok (AI AT b) h/\ABa ⟨r,5,none⟩ h=.ok (AI AT c) h/\ABa ⟨r,6,none⟩ h=.ok u h/\loadN 7 ⟨r,0,none⟩ h=.ok (CO ABs seq op a b c u) h:=
 ⟨R.ABa (off:=0) (by show 0<7;omega),R.ABa (off:=1) (by show 1<7;omega),R.ABa (off:=2) (by show 2<7;omega),R.ABa (off:=3) (by show 3<7;omega),R.ABa (off:=4) (by show 4<7;omega),R.ABa (off:=5) (by show 5<7;omega),R.ABa (off:=6) (by show 6<7;omega),R.loadN (off:=0) (n:=7) (by show 0+7<=7;omega)⟩
theorem NP{n:Int}:call AC (m+1) 89 [AI AT n,AI AT lo,AI AT hi] h=.ok (.bool (wiQ n lo hi)) h:=by
 rw[lg rfl];unfold d89 wiQ;by_cases h1:lo<=n
 ·have c1:iGe n lo=true:=F2 h1
  by_cases h2:n<=hi
  ·have c2:iLe n hi=true:=GW h2
   rw[decide_eq_true ⟨h1,h2⟩];simp only[iN,IT,sT,By,BY,reduceIte,gD,AK,AJ,c1,c2,lV0]
  ·have c2:iLe n hi=false:=K2 h2
   rw[decide_eq_false fun g=>h2 g.2];simp only[iN,IT,sT,By,BY,reduceIte,gD,AK,AJ,c1,c2,lV0]
 ·have c1:iGe n lo=false:=EK h1
  rw[decide_eq_false fun g=>h1 g.1];simp only[iN,IT,sT,By,BY,reduceIte,gD,AK,AJ,c1,lV0]
theorem jA:call AC (m+2) 55 [AI AT ABs,AI AT seq,.int .u8 (op:Int)] h=.ok (.bool (hdQ ABs seq op)) h:=by
 have k1:=NP (m:=m) (h:=h) (n:=ABs) (lo:=1) (hi:=1099511627776);have k2:=NP (m:=m) (h:=h) (n:=seq) (lo:=1) (hi:=1099511627776);rw[lE rfl];unfold d55 hdQ;cases h1:wiQ ABs 1 1099511627776
 ·rw[h1]at k1
  simp only[iN,IT,sT,By,BY,reduceIte,gD,cA0,k1,vt,lV0]
 ·rw[h1]at k1
  cases h2:wiQ seq 1 1099511627776
  ·rw[h2]at k2
   simp only[iN,IT,sT,By,BY,reduceIte,gD,cA0,k1,k2,vt,yA,lV0]
  ·rw[h2]at k2
   by_cases h3:1<=op
   ·have c1:iGe (op:Int) 1=true:=F2 (by omega)
    by_cases h4:op<=6
    ·have c2:iLe (op:Int) 6=true:=GW (by omega)
     rw[decide_eq_true ⟨h3,h4⟩];simp only[iN,IT,sT,By,BY,reduceIte,gD,cA0,k1,k2,AK,AJ,c1,c2,Bool.and_true,lV0]
    ·have c2:iLe (op:Int) 6=false:=K2 (by omega)
     rw[decide_eq_false fun g=>h4 g.2];simp only[iN,IT,sT,By,BY,reduceIte,gD,cA0,k1,k2,AK,AJ,c1,c2,yA,lV0]
   ·have c1:iGe (op:Int) 1=false:=EK (by omega)
    rw[decide_eq_false fun g=>h3 g.1];simp only[iN,IT,sT,By,BY,reduceIte,gD,cA0,k1,k2,AK,AJ,c1,yA,lV0]
theorem jC:call AC (m+2) 56 [AI AT a,AI AT b,AI AT c,AI AT least] h=.ok (.bool (nmQ a b c least)) h:=by
 have k1:=NP (m:=m) (h:=h) (n:=a) (lo:=0) (hi:=1099511627776);have k2:=NP (m:=m) (h:=h) (n:=b) (lo:=0) (hi:=254);have k3:=NP (m:=m) (h:=h) (n:=c) (lo:=least) (hi:=1099511627776);rw[lF rfl];unfold d56 nmQ;cases h1:wiQ a 0 1099511627776
 ·rw[h1]at k1
  simp only[iN,IT,sT,By,BY,reduceIte,gD,cA0,k1,vt,lV0]
 ·rw[h1]at k1
  cases h2:wiQ b 0 254
  ·rw[h2]at k2
   simp only[iN,IT,sT,By,BY,reduceIte,gD,cA0,k1,k2,vt,yA,lV0]
  ·rw[h2]at k2
   simp only[iN,IT,sT,By,BY,reduceIte,gD,cA0,k1,k2,k3,xD,lV0]
theorem OO(W:h.Wf)(hop:op<256){l:Nat}(U:∀ g:Hp,AB2 u g=.ok (AI AT (l:Int)) g):
  ∃ h',call AC (m+3) 32 [CO ABs seq op a b c u] h=.ok (.bool (DA ABs seq op a b c l)) h'/\h.Ext h':=by
 have bx:=fun (F:ABZ) (e:Env) (he:J 0 e=CO ABs seq op a b c u)=>FG (F:=F) W he
 have x1:=(Hp.Ext.refl W).ABY 0 (CJ ABs seq op a b c u);have R:=Hp.Row.new W 0 (CJ ABs seq op a b c u);generalize h.ABY 0 (CJ ABs seq op a b c u)=h1 at bx x1 R;obtain⟨l0,l1,l2,l3,l4,l5,l6,_⟩:=B1 R;have ln:=U h1;have k1:=jA (m:=m) (h:=h1) (ABs:=ABs) (seq:=seq) (op:=op);have k2:=fun (least:Int)=>jC (m:=m) (h:=h1) (a:=a) (b:=b) (c:=c) (least:=least)
 refine⟨h1,?_,x1⟩;rw[kS rfl];unfold d32;have fin:∀ (q:Bool),hdQ ABs seq op=q->DA ABs seq op a b c l=(q && nmQ a b c (D9 op) && (if op=1 then decide (l<=65536)else decide (l=0))):=fun q hq=>by unfold DA;rw[hq]
 cases hh:hdQ ABs seq op
 ·rw[fin _ hh,vt,vt]
  rw[hh]at k1;by_cases h4:op=4
  ·have c1:iNe (op:Int) 4=false:=B5 (by omega)
   simp only[iN,IT,sT,By,BY,reduceIte,gD,bx,AH,AO,sh,AN,AQ,l0,l1,l2,AK,AJ,c1,cA0,k1,BM,BK,um,lV0]
  ·have c1:iNe (op:Int) 4=true:=EB (by omega)
   by_cases h5:op=5
   ·have c2:iNe (op:Int) 5=false:=B5 (by omega)
    simp only[iN,IT,sT,By,BY,reduceIte,gD,bx,AH,AO,sh,AN,AQ,l0,l1,l2,AK,AJ,c1,c2,cA0,k1,BM,BK,um,lV0]
   ·have c2:iNe (op:Int) 5=true:=EB (by omega)
    simp only[iN,IT,sT,By,BY,reduceIte,gD,bx,AH,AO,sh,AN,AQ,l0,l1,l2,AK,AJ,c1,c2,cA0,k1,BM,BK,um,lV0]
 ·rw[fin _ hh,xD]
  rw[hh]at k1;have rest:∀ (q:Bool),nmQ a b c (D9 op)=q->(op=1\/op≠1):=fun _ _=>by omega
  cases hn:nmQ a b c (D9 op)
  ·rw[vt]
   by_cases h4:op=4
   ·have c1:iNe (op:Int) 4=false:=B5 (by omega)
    have k3:=k2 0;rw[show(0:Int)=D9 op from(if_pos (.inl h4)).symm,hn,show D9 op=0 from if_pos (.inl h4)]at k3;simp only[iN,IT,sT,By,BY,reduceIte,gD,bx,AH,AO,sh,AN,AQ,l0,l1,l2,l3,l4,l5,AK,AJ,c1,cA0,k1,k3,BM,BK,um,uX,lV0]
   ·have c1:iNe (op:Int) 4=true:=EB (by omega)
    by_cases h5:op=5
    ·have c2:iNe (op:Int) 5=false:=B5 (by omega)
     have k3:=k2 0;rw[show(0:Int)=D9 op from(if_pos (.inr h5)).symm,hn,show D9 op=0 from if_pos (.inr h5)]at k3;simp only[iN,IT,sT,By,BY,reduceIte,gD,bx,AH,AO,sh,AN,AQ,l0,l1,l2,l3,l4,l5,AK,AJ,c1,c2,cA0,k1,k3,BM,BK,um,uX,lV0]
    ·have c2:iNe (op:Int) 5=true:=EB (by omega)
     have k3:=k2 1;rw[show(1:Int)=D9 op from(if_neg (fun g=>g.elim h4 h5)).symm,hn,show D9 op=1 from if_neg (fun g=>g.elim h4 h5)]at k3;simp only[iN,IT,sT,By,BY,reduceIte,gD,bx,AH,AO,sh,AN,AQ,l0,l1,l2,l3,l4,l5,AK,AJ,c1,c2,cA0,k1,k3,BM,BK,um,uX,lV0]
  ·rw[xD]
   by_cases h4:op=4
   ·have c1:iNe (op:Int) 4=false:=B5 (by omega)
    have c3:iEq (op:Int) 1=false:=B9 (by omega);have k3:=k2 0;rw[show(0:Int)=D9 op from(if_pos (.inl h4)).symm,hn,show D9 op=0 from if_pos (.inl h4)]at k3;rw[if_neg (show ¬ op=1 by omega)];have c4:iEq (l:Int) 0=decide (l=0):=by rw[Dh];by_cases q:l=0<;>simp[q]
    simp only[iN,IT,sT,By,BY,reduceIte,gD,bx,AH,AO,sh,AN,AQ,l0,l1,l2,l3,l4,l5,l6,AK,AJ,c1,c3,c4,cA0,k1,k3,BM,BK,um,uX,AX,ln,lV0]
   ·have c1:iNe (op:Int) 4=true:=EB (by omega)
    by_cases h5:op=5
    ·have c2:iNe (op:Int) 5=false:=B5 (by omega)
     have c3:iEq (op:Int) 1=false:=B9 (by omega);have k3:=k2 0;rw[show(0:Int)=D9 op from(if_pos (.inr h5)).symm,hn,show D9 op=0 from if_pos (.inr h5)]at k3;rw[if_neg (show ¬ op=1 by omega)];have c4:iEq (l:Int) 0=decide (l=0):=by rw[Dh];by_cases q:l=0<;>simp[q]
     simp only[iN,IT,sT,By,BY,reduceIte,gD,bx,AH,AO,sh,AN,AQ,l0,l1,l2,l3,l4,l5,l6,AK,AJ,c1,c2,c3,c4,cA0,k1,k3,BM,BK,um,uX,AX,ln,lV0]
    ·have c2:iNe (op:Int) 5=true:=EB (by omega)
     have k3:=k2 1;rw[show(1:Int)=D9 op from(if_neg (fun g=>g.elim h4 h5)).symm,hn,show D9 op=1 from if_neg (fun g=>g.elim h4 h5)]at k3;by_cases h1:op=1
     ·have c3:iEq (op:Int) 1=true:=CU (by omega)
      rw[if_pos h1];have c4:iLe (l:Int) 65536=decide (l<=65536):=by rw[O8];by_cases q:l<=65536<;>simp[q]<;>omega
      simp only[iN,IT,sT,By,BY,reduceIte,gD,bx,AH,AO,sh,AN,AQ,l0,l1,l2,l3,l4,l5,l6,AK,AJ,c1,c2,c3,c4,cA0,k1,k3,BM,BK,um,uX,AX,ln,lV0]
     ·have c3:iEq (op:Int) 1=false:=B9 (by omega)
      rw[if_neg h1];have c4:iEq (l:Int) 0=decide (l=0):=by rw[Dh];by_cases q:l=0<;>simp[q]
      simp only[iN,IT,sT,By,BY,reduceIte,gD,bx,AH,AO,sh,AN,AQ,l0,l1,l2,l3,l4,l5,l6,AK,AJ,c1,c2,c3,c4,cA0,k1,k3,BM,BK,um,uX,AX,ln,lV0]
end
end
noncomputable section
open Go
set_option maxRecDepth 100000
theorem pH:nfS=BB (AY 0 (A4 nfB)) nfE:=rfl
theorem nT:d61=eL:=rfl
def CA(k:Kt):List IN:=[AI AT k.a,AI AT k.b,AI AT k.c,.int .u8 (k.s:Int)]
def FE(k:Kt):IN:=.agg ⟨CA k⟩
def flI(ks:List Kt):List IN:=ks.flatMap CA
theorem Oz:∀ ks:List Kt,(flI ks).length=ks.length*4
 |[]=>rfl
 |k::l=>by
  show(CA k++flI l).length=_;rw[No,Oz l,tZ];show 4+l.length*4=_;omega
theorem ee(a b:List Kt):flI (a++b)=flI a++flI b:=List.flatMap_append
def Hp.IL(h:Hp)(k:Nat)(v:IN)(ks:List Kt):Prop:=(v=ABc/\ks=[])\/∃ b,v=.slice (some ⟨b,0,none⟩) ks.length ks.length/\h.Row b 54 (flI ks)/\k<=b
theorem Wc:Bo .mt 0 (CA K0)=some X2:=by kernel_rfl
theorem ig:BO NJ.zero 1=CA K0:=by kernel_rfl
theorem qa:NJ.zero=CA K0:=by kernel_rfl
section
variable {F:ABZ}{e:Env}{h h' h0 g:Hp}{A:At}{T M:List Nat}{c0 bad m k n nb r:Nat}{arm ABs:Int}{ks:List Kt}{fr:List Nat}{v lv fv u w:IN}{ov:Bool}{x:Kt}{P:Kt->Bool}
theorem tJ(W0:h.Wf)(x:h.Ext g){r:Nat}(hr:h.next<=r){L:List IN}(R:g.Row r 0 L)(hL:L.length=4)(k:Kt):
  ABg 4 (pt r) (FE k) g=.ok ABd (g.wr r 0 (CA k))/\h.Ext (g.wr r 0 (CA k))/\(g.wr r 0 (CA k)).Row r 0 (CA k):=by
 have ABj:256<=r:=by have:=W0.big;omega
 have ho:0+(CA k).length<=L.length:=by rw[hL];exact If _
 have st:=R.ABg (n:=4) (off:=0) x.wf ABj (v:=FE k) rfl ho rfl;have wr:=R.ABl x.wf ho;rw[EJ (show L.length=(CA k).length from hL)]at wr;exact⟨st,R.AB3 x hr ho,wr⟩
theorem kB{g1 g2 g3 g4:O}(h1:g1 e=AI AT x.a)(h2:g2 e=AI AT x.b)(h3:g3 e=AI AT x.c)(h4:g4 e=.int .u8 (x.s:Int)):
  BH NJ.zero [(0,1,g1),(1,1,g2),(2,1,g3),(3,1,g4)] F e h=.ok (FE x) h:=by
 rw[Cb,qa,Ad (hk:=by rw[h1];rfl),h1,Ad (hk:=by rw[h2];rfl),h2,Ad (hk:=by rw[h3];rfl),h3,Ad (hk:=by rw[h4];rfl),h4];simp only[CZ,uU,tZ,uR,CA,over,wh,wT,vZ,uN,vM,IT,vR,if_true,Bg,reduceIte];rfl
theorem MS(W:h.Wf){g:O}(hg:g e=FE x):Ab 1 (BO NJ.zero 1) [(0,4,g)] F e h=.ok (.slice (some ⟨h.next,0,none⟩) 1 1) (h.ABY 0 (CA x)):=by
 rw[ig,Bq,Ad (hk:=by rw[hg];rfl),hg,show cellsOf (FE x)=CA x from rfl,if_pos (show(CA x).length=4 from rfl),if_pos (show 0+4<=(CA K0).length from If _),Bg,CQ W];rfl
theorem VL(W:h.Wf):∃ h',call AC (m+1) 65 [Bn x.a x.b x.c x.s u] h=.ok (FE x) h'/\h.Ext h':=by
 have bx:=fun (F:ABZ) (e:Env) (he:J 0 e=Bn x.a x.b x.c x.s u)=>NB (F:=F) W he
 have x1:=(Hp.Ext.refl W).ABY 0 (A7 x.a x.b x.c x.s u);have R1:=Hp.Row.new W 0 (A7 x.a x.b x.c x.s u);generalize h.ABY 0 (A7 x.a x.b x.c x.s u)=h1 at bx x1 R1;have al:=fun (F:ABZ) (e:Env)=>BL (F:=F) (e:=e) x1.wf (n:=4) (t:=X2)
 have Ra:=Hp.Row.alloc x1.wf Wc (show(CA K0).length=4 from rfl);have y2:h1.Ext (h1.push (.cells X2 4 0)):=(Hp.Ext.refl x1.wf).push _;generalize h1.push (.cells X2 4 0)=h2 at al Ra y2;obtain⟨l0,l1,l2,l3,_,_⟩:=Br (R1.ext x1.wf y2);have bd:=fun (F:ABZ) (e:Env) (e1:J 4 e=AI AT x.a) (e2:J 6 e=AI AT x.b) (e3:J 8 e=AI AT x.c) (e4:J 10 e=.int .u8 (x.s:Int))=>kB (F:=F) (h:=h2) e1 e2 e3 e4
 obtain⟨st,x3,R3⟩:=tJ x1.wf y2 (If _) Ra rfl x;have ld:loadN 4 ⟨h1.next,0,none⟩ (h2.wr h1.next 0 (CA x))=.ok (FE x) (h2.wr h1.next 0 (CA x)):=R3.loadN (off:=0) (n:=4) (by show 0+4<=4;omega);generalize h2.wr h1.next 0 (CA x)=h3 at st x3 R3 ld;refine⟨h3,?_,x1.trans x3⟩;have hrun:∃ e2,d65 (call AC m) (As e0 0 [Bn x.a x.b x.c x.s u]) h=.ret e2 h3/\J 2 e2=pt h1.next:=by
  unfold d65;simp only[iN,IT,sT,By,BY,reduceIte,bx,al,AH,AO,sh,AN,AQ,l0,l1,l2,l3,bd,AW,st];exact⟨_,rfl,by simp[AG]⟩
 obtain⟨e2,r1,r2⟩:=hrun;rw[lK rfl,r1,Ay,Da (h':=h3) (v:=FE x) (by rw[r2,Aj];exact ld)]
theorem oK{seq:Int}{op:Nat}{a b c:Int}{l:IN}(W:h.Wf)(R:h.Row r 0 (CJ ABs seq op a b c l)):∃ h',call AC (m+1) 62 [Bn x.a x.b x.c x.s u,pt r] h=.ok (.bool (decide (x.a=a) && decide (x.b=b))) h'/\h.Ext h':=by
 have bx:=fun (F:ABZ) (e:Env) (he:J 0 e=Bn x.a x.b x.c x.s u)=>NB (F:=F) W he
 have x1:=(Hp.Ext.refl W).ABY 0 (A7 x.a x.b x.c x.s u);have R1:=Hp.Row.new W 0 (A7 x.a x.b x.c x.s u);generalize h.ABY 0 (A7 x.a x.b x.c x.s u)=h1 at bx x1 R1;obtain⟨l0,l1,_⟩:=Br R1;obtain⟨_,_,_,q3,q4,_⟩:=B1 (R.ext W x1);refine⟨h1,?_,x1⟩;rw[lI rfl];unfold d62;rcases qz x.a a with ⟨c1,e1⟩|⟨c1,e1⟩
 ·rw[decide_eq_true e1,xD]
  have c2:iEq x.b b=decide (x.b=b):=by rw[Dh];by_cases q:x.b=b<;>simp[q]
  simp only[iN,IT,sT,By,BY,reduceIte,gD,bx,AH,AO,sh,AN,AQ,l0,l1,q3,q4,AK,AJ,c1,c2,lV0]
 ·rw[decide_eq_false e1,vt]
  simp only[iN,IT,sT,By,BY,reduceIte,gD,bx,AH,AO,sh,AN,AQ,l0,l1,q3,q4,AK,AJ,c1,lV0]
def YH(x:Kt)(a b c:Int):Bool:=if x.a=a then(if x.b=b then decide (c<x.c)else decide (b<x.b))else decide (a<x.a)
theorem oL{seq:Int}{op:Nat}{a b c:Int}{l:IN}(W:h.Wf)(R:h.Row r 0 (CJ ABs seq op a b c l)):∃ h',call AC (m+1) 66 [Bn x.a x.b x.c x.s u,pt r] h=.ok (.bool (YH x a b c)) h'/\h.Ext h':=by
 have bx:=fun (F:ABZ) (e:Env) (he:J 0 e=Bn x.a x.b x.c x.s u)=>NB (F:=F) W he
 have x1:=(Hp.Ext.refl W).ABY 0 (A7 x.a x.b x.c x.s u);have R1:=Hp.Row.new W 0 (A7 x.a x.b x.c x.s u);generalize h.ABY 0 (A7 x.a x.b x.c x.s u)=h1 at bx x1 R1;obtain⟨l0,l1,l2,_⟩:=Br R1;obtain⟨_,_,_,q3,q4,q5,_⟩:=B1 (R.ext W x1);have gt:∀ p q:Int,iGt p q=decide (q<p):=Gs;refine⟨h1,?_,x1⟩;rw[lM rfl];unfold d66 YH;by_cases h1:x.a=a
 ·have c1:iNe x.a a=false:=B5 h1
  rw[if_pos h1];by_cases h2:x.b=b
  ·have c2:iNe x.b b=false:=B5 h2
   rw[if_pos h2];simp only[iN,IT,sT,By,BY,reduceIte,gD,bx,AH,AO,sh,AN,AQ,l0,l1,l2,q3,q4,q5,AK,AJ,c1,c2,gt,lV0]
  ·have c2:iNe x.b b=true:=EB h2
   rw[if_neg h2];simp only[iN,IT,sT,By,BY,reduceIte,gD,bx,AH,AO,sh,AN,AQ,l0,l1,l2,q3,q4,q5,AK,AJ,c1,c2,gt,lV0]
 ·have c1:iNe x.a a=true:=EB h1
  rw[if_neg h1];simp only[iN,IT,sT,By,BY,reduceIte,gD,bx,AH,AO,sh,AN,AQ,l0,l1,l2,q3,q4,q5,AK,AJ,c1,gt,lV0]
def AB0(bd tb bs:Nat)(ABs:Int):List IN:=[pt bd,pt tb,pt bs,AI AT ABs]
theorem CF{bd tb bs:Nat}(R:h.Row nb 0 (AB0 bd tb bs ABs)):ABa ⟨nb,0,none⟩ h=.ok (pt bd) h/\ABa ⟨nb,1,none⟩ h=.ok (pt tb) h/\ABa ⟨nb,2,none⟩ h=.ok (pt bs) h/\ABa ⟨nb,3,none⟩ h=.ok (AI AT ABs) h:=
 ⟨R.ABa (off:=0) (by show 0<4;omega),R.ABa (off:=1) (by show 1<4;omega),R.ABa (off:=2) (by show 2<4;omega),R.ABa (off:=3) (by show 3<4;omega)⟩
theorem Qj(W:h.Wf)(Rn:h.Row nb 0 (AB0 A.bd A.tb A.bs ABs))(s:Sl h A T M c0 arm ks fr lv fv bad ov)(hl:ks.length<=49){w:IN}(hP:∀ (g:Hp) (k:Kt) (u:IN),h.Ext g->∃ g',Ic (call AC (m+4)) w [Bn k.a k.b k.c k.s u] g=.ok (.bool (P k)) g'/\g.Ext g'):
  ∃ h' k v,call AC (m+5) 61 [pt nb,w] h=.ok v h'/\h.Ext h'/\h.next<=k/\h'.IL k v (ks.filter P):=by
 obtain⟨_,_,n2,_⟩:=CF Rn;obtain⟨h1,v1,k1,x1,V⟩:=UH (m:=m) W s.row s.ls (Sl.all s) (by omega);have ln:=V.len h1;obtain⟨e1,p1,t1,t5,t12,t13,t14⟩:∃ e1,eL (call AC (m+4)) (As e0 0 [pt nb,w]) h=nfS (call AC (m+4)) e1 h1/\J 1 e1=w/\J 5 e1=ABc/\J 12 e1=v1/\J 13 e1=AI AT (ks.length:Int)/\J 14 e1=AI AT ((0:Nat):Int):=by
  unfold eL;simp only[iN,IT,sT,By,BY,reduceIte,Au,Ai,AH,AO,sh,AN,AQ,n2,cA0,k1,AX,ln];exact⟨_,rfl,by simp[AG]⟩
 have run:∃ e2 h2 v,A4 nfB (call AC (m+4)) e1 h1=.exit 0 e2 h2/\h1.Ext h2/\J 5 e2=v/\h2.IL h1.next v (ks.filter P):=by
  refine Bb (I:=fun i e' h'=>∃ v,h1.Ext h'/\J 1 e'=w/\J 5 e'=v/\J 12 e'=v1/\J 13 e'=AI AT (ks.length:Int)/\J 14 e'=AI AT (i:Int)/\i<=ks.length/\h'.IL h1.next v ((ks.take i).filter P))
   (Q:=fun x=>∃ e2 h2 v,x=.exit 0 e2 h2/\h1.Ext h2/\J 5 e2=v/\h2.IL h1.next v (ks.filter P)) ks.length (by omega) (fun i e' h' ⟨v,x',u1,u5,u12,u13,u14,hi,hv⟩=>?_) ⟨ABc,.refl x1.wf,t1,t5,t12,t13,t14,uD _,.inl ⟨rfl,rfl⟩⟩
  have W':=x'.wf;by_cases hlt:i<ks.length
  ·left
   have c1:=EP hlt;obtain⟨k,hk⟩:∃ k,ks[i]? =some k:=⟨_,List.getElem?_eq_getElem hlt⟩;obtain⟨b,u,ix,ld,U⟩:=(V.ext x1.wf x').at hk;obtain⟨_,_,uo⟩:=Gm U;have htk:ks.take (i+1)=ks.take i++[k]:=by rw[List.take_add_one,hk];rfl
   have al:=fun (F:ABZ) (e:Env)=>BL (F:=F) (e:=e) W' (n:=5) (t:=DL)
   have Ra:=Hp.Row.alloc W' FQ (show(A7 0 0 0 0 ABc).length=5 from rfl);have y1:h'.Ext (h'.push (.cells DL 5 0)):=(Hp.Ext.refl W').push _;generalize h'.push (.cells DL 5 0)=h3 at al Ra y1;obtain⟨st,ld2,y2,R5,n5⟩:=LN W' y1 (If _) Ra rfl (a:=k.a) (b:=k.b) (c:=k.c) (s:=k.s) uo;generalize h3.wr h'.next 0 (A7 k.a k.b k.c k.s u)=h4 at st ld2 y2 R5 n5;have x4:=x'.trans y2;obtain⟨h5,ka,x5⟩:=hP h4 k u (x1.trans x4);have x45:=x4.trans x5;cases hp:P k
   ·rw[hp]at ka
    have a3:=Cd (i:=i) (h:=h5) (by omega);obtain⟨e2,r1,r2,r3,r4,r5,r6⟩:∃ e2,nfB (call AC (m+4)) e' h'=.norm e2 h5/\J 1 e2=w/\J 5 e2=v/\J 12 e2=v1/\J 13 e2=AI AT (ks.length:Int)/\J 14 e2=AI AT ((i+1:Nat):Int):=by
     unfold nfB;simp only[sT,By,BY,reduceIte,gD,AK,AJ,u14,u13,c1,BA,u12,ix,Ap,Aj,ld,al,AW,st,ld2,Ck,AU,A5,u1,ka,BR,a3];exact⟨_,rfl,by simp[AG,u1,u5,u12,u13]⟩
    refine⟨hlt,e2,h5,r1,v,x45,r2,r3,r4,r5,r6,hlt,?_⟩;rw[htk,AAC,List.filter_cons_of_neg (by rw[hp];decide),yG,List.append_nil];rcases hv with h0|⟨b,q1,q2,q3⟩
    ·exact .inl h0
    ·exact .inr ⟨b,q1,(q2.ext W' y2).ext y2.wf x5,q3⟩
   ·rw[hp]at ka
    have lnv:AB2 v h5=.ok (AI AT (((ks.take i).filter P).length:Int)) h5:=by
     rcases hv with ⟨q1,q2⟩|⟨b,q1,_⟩
     ·rw[q1,q2];rfl
     ·rw[q1];rfl
    have hfl:((ks.take i).filter P).length<=49:=by
     have h1:=vd P (ks.take i);rw[uL]at h1;omega
    have c50:iLt (((ks.take i).filter P).length:Int) 50=true:=HZ (by omega);have ld5:loadN 5 ⟨h'.next,0,none⟩ h5=.ok (Bn k.a k.b k.c k.s u) h5:=(R5.ext y2.wf x5).loadN (off:=0) (n:=5) (by show 0+5<=5;omega);obtain⟨h6,ki,x6⟩:=VL (m:=m+3) (x:=k) (u:=u) x5.wf;have sl:=fun (F:ABZ) (e:Env) (he:J 28 e=FE k)=>MS (F:=F) x6.wf he
    have x46:=x45.trans x6;have y7:=(Hp.Ext.refl x6.wf).ABY 0 (CA k);have Rw:=Hp.Row.new x6.wf 0 (CA k);have hn7:h6.next<=(h6.ABY 0 (CA k)).next:=y7.next;generalize h6.ABY 0 (CA k)=h7 at sl y7 Rw hn7;have x47:=x46.trans y7;have hs:∀ K:List IN->R,BI h7 4 (.slice (some ⟨h6.next,0,none⟩) 1 1) 1 K=K (CA k):=fun K=>Rw.ADZ (es:=4) (off:=0) (n:=1) (by show 0+1 * 4<=4;omega)
    have big:=x1.wf.big;obtain⟨h8,v8,k8,x8,hv8⟩:∃ h8 v8,DN 4 32 53 v (.slice (some ⟨h6.next,0,none⟩) 1 1) h7=.ok v8 h8/\h1.Ext h8/\h8.IL h1.next v8 ((ks.take i).filter P++[k]):=by
     rcases hv with ⟨q1,q2⟩|⟨b,q1,q2,q3⟩
     ·obtain⟨h8,a1,a2,a3,_⟩:=Jd (eb:=32) (en:=53) x47 hs rfl rfl rfl (by omega)
      exact⟨h8,_,by rw[q1];exact a1,a2,by rw[q2];exact .inr ⟨_,rfl,a3,x47.next⟩⟩
     ·have q5:=((q2.ext W' y2).ext y2.wf x5).ext x5.wf (x6.trans y7)
      obtain⟨h8,a1,a2,a3,_⟩:=JZ (eb:=32) (en:=53) x47 hs rfl rfl (by omega) rfl q5 (Oz _) q3 (by omega) (by omega);refine⟨h8,_,by rw[q1];exact a1,a2,.inr ⟨_,by rw[No];rfl,?_,x47.next⟩⟩;rw[ee];exact a3
    have a3:=Cd (i:=i) (h:=h8) (by omega);obtain⟨e2,r1,r2,r3,r4,r5,r6⟩:∃ e2,nfB (call AC (m+4)) e' h'=.norm e2 h8/\J 1 e2=w/\J 5 e2=v8/\J 12 e2=v1/\J 13 e2=AI AT (ks.length:Int)/\J 14 e2=AI AT ((i+1:Nat):Int):=by
     unfold nfB;simp only[sT,By,BY,reduceIte,gD,AK,AJ,u14,u13,c1,BA,u12,ix,Ap,Aj,ld,al,AW,st,ld2,Ck,AU,A5,u1,ka,AX,u5,lnv,c50,ld5,BP,ki,sl,BZ,k8,BR,a3];exact⟨_,rfl,by simp[AG,u1,u12,u13]⟩
    refine⟨hlt,e2,h8,r1,v8,x8,r2,r3,r4,r5,r6,hlt,?_⟩;rw[htk,AAC,List.filter_cons_of_pos hp,yG];exact hv8
  ·right
   obtain rfl:i=ks.length:=by omega
   have c1:=Cv (If ks.length);obtain⟨e2,r1,r5⟩:∃ e2,nfB (call AC (m+4)) e' h'=.exit 0 e2 h'/\J 5 e2=v:=by
    unfold nfB;simp only[sT,By,BY,reduceIte,AK,AJ,u14,u13,c1];exact⟨_,rfl,by simp[AG,u5]⟩
   rw[r1];rw[List.take_length]at hv;exact⟨rfl,e2,h',v,rfl,x',r5,hv⟩
 obtain⟨e2,h2,v,r1,x2,r5,hv⟩:=run;refine⟨h2,_,v,?_,x1.trans x2,x1.next,hv⟩;rw[lH rfl,nT,p1,pH];simp only[A9,An,r1,A8,A3];unfold nfE;simp only[sT,By,BY,reduceIte,r5,lV0]
end
end
noncomputable section
open Go
set_option maxRecDepth 100000
def Cnt(ks:List Kt):Prop:=(∀ x∈ks,∀ y∈ks,¬ tB x y)/\(ks.map Kt.key).Nodup
section
variable {h g:Hp}{T M:List Nat}{bd tb k:Nat}{v:IN}{ks:List Kt}
structure O3 (h g:Hp)(T M:List Nat)(bs r9 k1 bd tb i:Nat)(v mv:IN)(ks:List Kt):Prop where
 x:h.Ext g
 row:g.Row bs 0 (slL bd tb ABc ABc (AGF T M i).length false)
 rb:g.Row r9 0 [pt bs]
 ko:g.KO k1 v ks
 ok:∀ k∈ks,AEI g (fun b=>r9<b) k
 ms:g.Own k1 3 mv (ints .i64 ((mrk T M i).map Int.ofNat))
 le:k1<=g.next
end
end
noncomputable section
open Go
set_option maxRecDepth 100000
structure ADP (np:Nat)(T M:List Nat)(ks:List Kt)(fr:List Nat):Prop where
 len:M.length=64*(3*np)
 hd:∀ k∈ks,sec M (3*k.p)=AB1 T k.a k.b k.c k.s k.l
 dt:∀ k∈ks,dat M k.p k.l.length=k.l
 bl:∀ p∈fr,∀ r,r<64->M.getD (64*(3*p)+r) 0=0
 rs:∀ k∈ks,ABp k.a k.b k.c k.s k.l.length=true/\k.l.length<=100
 pl:∀ p∈fr,p<np
abbrev Med(T M:List Nat)(ks:List Kt)(fr:List Nat):Prop:=ADP 8 T M ks fr
def Com(ks:List Kt):Prop:=∀ x∈ks,∀ y∈ks,y.a=x.a->y.b=x.b->y.s=2->y.c<=x.c
section
variable {T M M':List Nat}{ks ks':List Kt}{fr fr' ps:List Nat}{kd a b c:Int}{l H:List Nat}{n p q k np:Nat}
theorem M6(h1:M'.length=M.length)(h:∀ x,x/64=q->M'.getD x 0=M.getD x 0):sec M' q=sec M q:=by
 have hl:∀ M:List Nat,(sec M q).length=min 64 (M.length - 64*q):=fun M=>by unfold sec;rw[uL,ua]
 refine JP (by rw[hl,hl,h1]) fun i hi=>?_
 rw[hl]at hi;rw[Jp (by omega),Jp (by omega),h _ (by omega)]
theorem JN(h1:M'.length=M.length)(hk:k<=128)(h:∀ x,x/64=3*p+1\/x/64=3*p+2->M'.getD x 0=M.getD x 0):dat M' p k=dat M p k:=by
 have hl:∀ M:List Nat,(dat M p k).length=min k (M.length - 64*(3*p+1)):=fun M=>by unfold dat;rw[uL,ua]
 refine JP (by rw[hl,hl,h1]) fun i hi=>?_
 rw[hl]at hi;rw[MC (by omega),MC (by omega),h _ (by omega)]
theorem Th(h1:M.length=64*n)(hq:q<n)(hH:H.length=64)(h:∀ r,r<64->M.getD (64*q+r) 0=H.getD r 0):sec M q=H:=by
 have hl:=Jq h1 hq;refine JP (by rw[hl,hH]) fun i hi=>?_
 rw[Jp (by omega),h i (by omega)]
theorem nc(h1:M.length=64*n)(hp:3*p+3<=n)(hl:l.length<=128)(h:∀ r,r<l.length->M.getD (64*(3*p+1)+r) 0=l.getD r 0):dat M p l.length=l:=by
 have hd:(dat M p l.length).length=l.length:=by unfold dat;rw[uL,ua];omega
 refine JP hd fun i hi=>?_
 rw[hd]at hi;rw[MC hi,h i hi]
theorem Y8(hM:M.length=64*n)(hp:3*p+3<=n)(hl:l.length<=100)(hH:H.length=64):
  (EA T M p l H).length=64*n/\sec (EA T M p l H) (3*p)=H/\dat (EA T M p l H) p l.length=l/\∀ x,x/192≠p->(EA T M p l H).getD x 0=M.getD x 0:=by
 rcases Nat.eq_zero_or_pos l.length with h0|h0
 ·obtain rfl:=List.eq_nil_of_length_eq_zero h0
  have e:EA T M p [] H=IM M (p*3) H:=rfl;have hL:=DX hM (show p*3<n by omega) hH;rw[e];refine⟨hL,Th hL (by omega) hH fun r hr=>?_,List.take_zero,fun x hx=>?_⟩
  ·rw[EZ hM (by omega) hH,if_pos (by omega),show(64*(3*p)+r) % 64=r by omega]
  ·rw[EZ hM (by omega) hH,if_neg (by omega)]
 ·obtain⟨hL,hx⟩:=Y9 (T:=T) hM hp ⟨h0,hl⟩ hH
  refine⟨hL,Th hL (by omega) hH fun r hr=>?_,nc hL hp (by omega) fun r hr=>?_,fun x hn=>?_⟩
  ·rw[hx,if_pos (by omega),show(64*(3*p)+r) % 64=r by omega]
  ·rw[hx,if_neg (by omega)]
   by_cases h1:r<64
   ·rw[if_pos (by omega),show(64*(3*p+1)+r) % 64=r by omega]
   ·rw[if_neg (by omega),if_pos ⟨by omega,by omega⟩,show 64+(64*(3*p+1)+r) % 64=r by omega]
  ·rw[hx,if_neg (by omega),if_neg (by omega),if_neg (by omega)]
theorem bf:∀ (ps:List Nat) {M:List Nat},M.length=64*n->(∀ p∈ps,3*p+3<=n)->(Hs M ps).length=64*n/\∀ x,(Hs M ps).getD x 0=if x % 192<64/\x/192∈ps then 0 else M.getD x 0
 |[],M,hM,_=>⟨hM,fun x=>by rw[if_neg (fun h=>by cases h.2)];rfl⟩
 |p::ps,M,hM,hp=>by
  have h3:=hp p te;have e:Hs M (p::ps)=Hs (IM M (p*3) Bf) ps:=rfl;have hz:Bf.length=64:=List.length_replicate;have hL:=DX hM (show p*3<n by omega) hz;obtain⟨g1,g2⟩:=bf ps hL fun q hq=>hp q (td _ hq)
  rw[e];refine⟨g1,fun x=>?_⟩;rw[g2,EZ hM (by omega) hz];by_cases h1:x % 192<64/\x/192∈ps
  ·rw[if_pos h1,if_pos ⟨h1.1,td _ h1.2⟩]
  ·rw[if_neg h1]
   by_cases h2:x/64=p*3
   ·rw[if_pos h2,if_pos ⟨by omega,by rw[show x/192=p by omega];exact te⟩]
    unfold Bf;exact Re
   ·rw[if_neg h2,if_neg]
    rintro⟨q1,q2⟩;rcases uA.1 q2 with q2|q2
    ·omega
    ·exact h1 ⟨q1,q2⟩
theorem Nm:∀ (out:List Kt) (M:List Nat),IV M out=Hs M (out.map Kt.plc)
 |[],_=>rfl
 |x::out,M=>Nm out (Hs M [x.p])
theorem ADP.cut(m:ADP np T M ks fr)(hs:∀ k∈ks',k∈ks/\k.p∉ps)(hf:∀ p∈fr',p∈fr\/p∈ps)(hp:∀ p∈ps,3*p+3<=3*np):ADP np T (Hs M ps) ks' fr':=by
 obtain⟨g1,g2⟩:=bf ps m.len hp;have hn:∀ k∈ks',∀ x,x/192=k.p->(Hs M ps).getD x 0=M.getD x 0:=fun k hk x hx=>by
  rw[g2,if_neg];rintro⟨_,q2⟩;rw[hx]at q2;exact(hs k hk).2 q2
 refine⟨g1,fun k hk=>?_,fun k hk=>?_,fun p hp r hr=>?_,fun k hk=>m.rs k (hs k hk).1,fun p hp'=>?_⟩
 ·rw[M6 (g1.trans m.len.symm) fun x hx=>hn k hk x (by omega)]
  exact m.hd k (hs k hk).1
 ·rw[JN (g1.trans m.len.symm) (by have:=(m.rs k (hs k hk).1).2;omega) fun x hx=>hn k hk x (by omega)]
  exact m.dt k (hs k hk).1
 ·rw[g2]
  by_cases h1:(64*(3*p)+r) % 192<64/\(64*(3*p)+r)/192∈ps
  ·rw[if_pos h1]
  ·rw[if_neg h1]
   rcases hf p hp with h|h
   ·exact m.bl p h r hr
   ·exact absurd ⟨by omega,by rw[show(64*(3*p)+r)/192=p by omega];exact h⟩ h1
 ·rcases hf p hp' with h|h
  ·exact m.pl p h
  ·have:=hp p h;omega
theorem ADP.go(m:ADP np T M ks fr)(i:ACy np ks fr)(P:Kt->Bool){out:List Kt}(ho:out.Perm (ks.filter P)):ADP np T (Hs M (out.map Kt.plc)) (ks.filter fun k=> !P k) (frE fr out):=by
 refine m.cut (fun k hk=>?_) (fun p hp=>?_) fun p hp=>?_
 ·obtain⟨h1,h2⟩:=ut.1 hk
  refine⟨h1,fun hp=>?_⟩;obtain⟨y,hy,hyp⟩:=vL.1 hp;obtain⟨h3,h4⟩:=ut.1 (ho.mem_iff.1 hy);rw[Ga i.nd h3 h1 hyp]at h4;rw[h4]at h2;cases h2
 ·have:=(JW out fr).mem_iff.1 hp
  exact uP.1 this
 ·obtain⟨y,hy,rfl⟩:=vL.1 hp
  exact i.lt y (ut.1 (ho.mem_iff.1 hy)).1
theorem SE(hc:Com ks)(hst:Cc a b c ks=false):∀ y∈ks,y.a=a->y.b=b->y.s=2->y.c<c:=fun y hy h1 h2 h3=>by
 unfold Cc at hst;cases hf:ks.find? (Iw a b)with
 |none=>
  refine absurd ?_ (List.find?_eq_none.1 hf y hy);unfold Iw;rw[decide_eq_true h1,decide_eq_true h2,decide_eq_true h3];rfl
 |some k=>
  rw[hf]at hst;have hk:=yF hf;unfold Iw at hk;rw[uB,uB]at hk;have k1:=of_decide_eq_true hk.1.1;have k2:=of_decide_eq_true hk.1.2;have k3:=of_decide_eq_true hk.2;have hkm:=zC hf;have:=hc k hkm y hy (h1.trans k1.symm) (h2.trans k2.symm) h3;have h4:¬ c<=k.c:=of_decide_eq_false hst;omega
theorem mem_set{x y z:Kt}{j:Nat}(hj:ks[j]? =some x)(hz:z∈ks.set j y):z=y\/z∈ks:=(List.mem_or_eq_of_mem_set hz).symm
theorem iA{x y z:Kt}{j:Nat}(hj:ks[j]? =some x)(hz:z∈ks)(hne:z≠x):z∈ks.set j y:=by
 obtain⟨i,hi⟩:=xZ.1 hz;refine xZ.2 ⟨i,?_⟩;rw[List.getElem?_set,if_neg]
 ·exact hi
 ·intro h
  rw[<- h,hj]at hi;exact hne (Option.some.inj hi).symm
theorem sZ{x y:Kt}(h:x.core=y.core):x.a=y.a/\x.b=y.b/\x.c=y.c/\x.s=y.s/\x.l=y.l/\x.p=y.p:=⟨congrArg Kc.a h,congrArg Kc.b h,congrArg Kc.c h,congrArg Kc.s h,congrArg Kc.l h,congrArg Kc.p h⟩
theorem Jx(i:ACy np ks fr)(m:ADP np T M ks fr)(hc:Com ks)(t:ST T M ks fr kd a b c l M' ks' fr'):ADP np T M' ks' fr'/\Com ks'/\(∀ k,¬ (k.a=a/\k.b=b)->(k∈ks'↔k∈ks)):=by
 rcases t with ⟨hk,hz,p,k',rfl,rfl,hcr,rfl⟩|⟨hk,j,kx,hj,ACk,hst,rfl,rfl,rfl⟩|⟨rfl,j,kx,hj,ACk,hst,rfl,rfl,rfl⟩|⟨rfl,rfl,rfl,rfl⟩
 ·unfold Gd at hz
  split at hz
  ·cases hz
  rename_i hn;split at hz
  ·split at hz<;>cases hz
  split at hz
  ·cases hz
  rename_i hst;have ADr:Cc a b c ks=false:=by
   cases hq:Cc a b c ks
   ·rfl
   ·exact absurd hq hst
  have hr:ABp a b c 1 l.length=true:=by
   cases hq:ABp a b c 1 l.length
   ·exact absurd (.inl hq) hn
   ·rfl
  have ADp:l.length<=100:=Nat.le_of_not_lt fun h=>hn (.inr h)
  have e1:k'.a=a:=congrArg Kc.a hcr;have e2:k'.b=b:=congrArg Kc.b hcr;have e3:k'.c=c:=congrArg Kc.c hcr;have e4:k'.s=1:=congrArg Kc.s hcr;have e5:k'.l=l:=congrArg Kc.l hcr;have e6:k'.p=p:=congrArg Kc.p hcr;have hp8:=m.pl p te;obtain⟨g1,g2,g3,g4⟩:=Y8 (T:=T) (p:=p) (H:=AB1 T a b c 1 l) m.len (by omega) ADp (GV hr);have hnd:(ks.map Kt.plc++(p::fr')).Nodup:=i.plc.nodup_iff.2 AAT;have hmem:∀ k,k∈GB (ks++[k'])↔k∈ks\/k=k':=fun k=>by rw[Km,uP,uF]
  have hkp:∀ k∈ks,k.p≠p:=fun k hk h=>(xT.1 hnd).2.2 k.p (vL.2 ⟨k,hk,rfl⟩) p te h
  have hfp:∀ q∈fr',q≠p:=fun q hq h=>(wi.1 (xT.1 hnd).2.1).1 (h ▸ hq)
  have hs:∀ k∈ks,∀ x,x/192=k.p->(EA T M p l (AB1 T a b c 1 l)).getD x 0=M.getD x 0:=fun k hk x hx=>g4 x (by rw[hx];exact hkp k hk)
  refine⟨⟨g1,fun k hk=>?_,fun k hk=>?_,fun q hq r hr=>?_,fun k hk=>?_,fun q hq=>m.pl q (td _ hq)⟩,fun x hx y hy h1 h2 h3=>?_,fun k hne=>?_⟩
  ·rcases (hmem k).1 hk with hk|rfl
   ·rw[M6 (g1.trans m.len.symm) fun x hx=>hs k hk x (by omega)]
    exact m.hd k hk
   ·rw[e6,g2,e1,e2,e3,e4,e5]
  ·rcases (hmem k).1 hk with hk|rfl
   ·rw[JN (g1.trans m.len.symm) (by have:=(m.rs k hk).2;omega) fun x hx=>hs k hk x (by omega)]
    exact m.dt k hk
   ·rw[e6,e5,g3]
  ·rw[g4 _ (by have:=hfp q hq;omega)]
   exact m.bl q (td _ hq) r hr
  ·rcases (hmem k).1 hk with hk|rfl
   ·exact m.rs k hk
   ·rw[e1,e2,e3,e4,e5];exact⟨hr,ADp⟩
  ·rcases (hmem y).1 hy with hyk|hyk
   ·rcases (hmem x).1 hx with hxk|hxk
    ·exact hc x hxk y hyk h1 h2 h3
    ·rw[hxk]at h1 h2 ⊢
     have:=SE hc ADr y hyk (h1.trans e1) (h2.trans e2) h3;rw[e3];omega
   ·rw[hyk]at h3
    omega
  ·rw[hmem]
   refine⟨fun h=>h.resolve_right fun h1=>hne (by rw[h1];exact⟨e1,e2⟩),.inl⟩
 ·have hjl:=(uK.1 hj).1
  have hkm:=tq hj;obtain⟨rfl,rfl,rfl⟩:=ACk;have hp3:=i.lt kx hkm;have hr0:=m.rs kx hkm;have hr2:ABp kx.a kx.b kx.c 2 kx.l.length=true:=by
   obtain⟨g1,g2,g3,g4,g5,g6,g7,g8⟩:=EN hr0.1;exact decide_eq_true ⟨g1,g2,g3,g4,g5,g6,.inr rfl,g8⟩
  obtain⟨g1,g2⟩:=Yn m.len (p:=kx.p) hp3 (GV (T:=T) hr2);have i2:=i.set (y:={kx with s:=2}) hj rfl rfl;have ACB:∀ z∈ks.set j {kx with s:=2},z={kx with s:=2}\/(z∈ks/\z.p≠kx.p):=fun z hz=>by
   rcases mem_set hj hz with h|h
   ·exact .inl h
   ·by_cases hzp:z.p=kx.p
    ·have hX:({kx with s:=2}:Kt)∈ks.set j {kx with s:=2}:=List.mem_set hjl _
     exact .inl (Ga i2.nd hz hX hzp)
    ·exact .inr ⟨h,hzp⟩
  have hs:∀ z∈ks,z.p≠kx.p->∀ x,x/192=z.p->(HF M kx.p (AB1 T kx.a kx.b kx.c 2 kx.l)).getD x 0=M.getD x 0:=fun z hz hzp x hx=>by rw[g2,if_neg (by omega)]
  have m2:ADP np T (HF M kx.p (AB1 T kx.a kx.b kx.c 2 kx.l)) (ks.set j {kx with s:=2}) fr:=by
   refine⟨g1,fun k hk=>?_,fun k hk=>?_,fun q hq r hr=>?_,fun k hk=>?_,m.pl⟩
   ·rcases ACB k hk with rfl|⟨h1,h2⟩
    ·exact Th g1 (by show 3*kx.p<3*np;omega) (GV hr2) fun r hr=>by rw[g2,if_pos (show(64*(3*kx.p)+r)/64=3*kx.p by omega),show(64*(3*kx.p)+r) % 64=r by omega]
    ·rw[M6 (g1.trans m.len.symm) fun x hx=>hs k h1 h2 x (by omega)]
     exact m.hd k h1
   ·rcases ACB k hk with rfl|⟨h1,h2⟩
    ·show dat _ kx.p kx.l.length=kx.l
     rw[JN (g1.trans m.len.symm) (by omega) fun x hx=>by rw[g2,if_neg (by omega)]];exact m.dt kx hkm
    ·rw[JN (g1.trans m.len.symm) (by have:=(m.rs k h1).2;omega) fun x hx=>hs k h1 h2 x (by omega)]
     exact m.dt k h1
   ·have hnd:(ks.map Kt.plc++fr).Nodup:=i.plc.nodup_iff.2 AAT
    have hqk:kx.p≠q:=(xT.1 hnd).2.2 kx.p (vL.2 ⟨kx,hkm,rfl⟩) q hq;rw[g2,if_neg (by omega)];exact m.bl q hq r hr
   ·rcases ACB k hk with rfl|⟨h1,h2⟩
    ·exact⟨hr2,hr0.2⟩
    ·exact m.rs k h1
  have m3:=m2.go i2 (elB kx.a kx.b kx.c) (out:=(ks.set j {kx with s:=2}).filter (elB kx.a kx.b kx.c)) (.refl _);refine⟨m3,fun x hx y hy h1 h2 h3=>?_,fun k hne=>?_⟩
  ·obtain⟨hx1,hx2⟩:=ut.1 hx
   obtain⟨hy1,hy2⟩:=ut.1 hy;rcases ACB y hy1 with rfl|⟨hy3,hy4⟩
   ·refine Int.not_lt.1 fun hlt=>?_
    have hlt:x.c<kx.c:=hlt;have h1:kx.a=x.a:=h1;have h2:kx.b=x.b:=h2;unfold elB at hx2;rw[decide_eq_true h1.symm,decide_eq_true h2.symm,decide_eq_true hlt]at hx2;cases hx2
   ·rcases ACB x hx1 with rfl|⟨hx3,hx4⟩
    ·have h1:y.a=kx.a:=h1
     have h2:y.b=kx.b:=h2;have hlt:=SE hc hst y hy3 h1 h2 h3;unfold elB at hy2;rw[decide_eq_true h1,decide_eq_true h2,decide_eq_true hlt]at hy2;cases hy2
    ·exact hc x hx3 y hy3 h1 h2 h3
  ·rw[ut]
   constructor
   ·rintro⟨h1,_⟩
    rcases ACB k h1 with rfl|⟨h2,_⟩
    ·exact absurd ⟨rfl,rfl⟩ hne
    ·exact h2
   ·intro h1
    refine⟨iA hj h1 fun h=>hne (by rw[h];exact⟨rfl,rfl⟩),?_⟩;cases hq:elB kx.a kx.b kx.c k
    ·rfl
    ·unfold elB at hq
     rw[uB,uB]at hq;exact absurd ⟨of_decide_eq_true hq.1.1,of_decide_eq_true hq.1.2⟩ hne
 ·obtain⟨AC6,hPl⟩:=PN hj
  obtain⟨rfl,rfl,rfl⟩:=ACk;have hkm:=tq hj;have hp3:=i.lt kx hkm;have hnd:=i.nd;have hsub:∀ k∈ks.take j++ks.drop (j+1),k∈ks/\k.p≠kx.p:=fun k hk=>by
   have hkk:k∈ks:=by
    rcases uP.1 hk with h|h
    ·exact vQ h
    ·exact wM h
   refine⟨hkk,fun hp=>?_⟩;have e:=Ga hnd hkk hkm hp;rw[AC6]at hnd;have pm:(ks.take j++kx::ks.drop (j+1)).Perm (kx::(ks.take j++ks.drop (j+1))):=List.perm_middle;have kn:=(pm.map Kt.plc).nodup_iff.1 hnd;rw[xU,wi]at kn;exact kn.1 (vL.2 ⟨k,hk,hp⟩)
  refine⟨m.cut (fun k hk=>⟨(hsub k hk).1,fun h=>(hsub k hk).2 (uF.1 h)⟩) (fun p hp=>uP.1 ((G6 _).mem_iff.1 hp)) (fun p hp=>by rw[uF.1 hp];exact hp3),fun x hx y hy=>hc x (hsub x hx).1 y (hsub y hy).1,fun k hne=>⟨fun h=>(hsub k h).1,fun h=>?_⟩⟩;rw[AC6]at h;rcases uP.1 h with h|h
  ·exact List.mem_append_left _ h
  ·rcases uA.1 h with h|h
   ·exact absurd ⟨by rw[h],by rw[h]⟩ hne
   ·exact List.mem_append_right _ h
 ·refine⟨by rw[Nm];exact m.go i (drB a b c) (List.reverse_perm _),fun x hx y hy=>hc x (ut.1 hx).1 y (ut.1 hy).1,fun k hne=>?_⟩
  rw[ut];refine⟨fun h=>h.1,fun h=>⟨h,?_⟩⟩;cases hq:drB a b c k
  ·rfl
  ·unfold drB at hq
   rw[uB,uB]at hq;exact absurd ⟨of_decide_eq_true hq.1.1,of_decide_eq_true hq.1.2⟩ hne
end
end
noncomputable section
open Go
set_option maxRecDepth 100000
theorem oI{F:Nat->Option Kc}:∀ {ks:List Kt},(∀ k∈ks,F k.p=some k.core)->(ks.map Kt.plc).filterMap F=ks.map Kt.core
 |[],_=>rfl
 |k::ks,h=>by
  show(k.p::ks.map Kt.plc).filterMap F=_;rw[List.filterMap_cons_some (h k te),oI fun x hx=>h x (td _ hx),xU]
theorem eu{F:Nat->Option Kc}:∀ {fr:List Nat},(∀ p∈fr,F p=none)->fr.filterMap F=[]
 |[],_=>rfl
 |p::fr,h=>by rw[List.filterMap_cons_none (h p te),eu fun x hx=>h x (td _ hx)]
def tD(c:Kc):Int×Int×Int:=(c.a,c.b,c.c)
theorem sd(ks:List Kt):ks.map Kt.key=(ks.map Kt.core).map tD:=by rw[List.map_map];rfl
theorem qt{ks ks0:List Kt}(pm:(ks0.map Kt.core).Perm (ks.map Kt.core)){x:Kt}(hx:x∈ks0):∃ y∈ks,y.core=x.core:=vL.1 (pm.mem_iff.1 (vL.2 ⟨x,hx,rfl⟩))
section
variable {T M:List Nat}{k p np:Nat}{ks:List Kt}{fr:List Nat}
def H33(one two:List Nat)(ks:List Kt):Prop:=(∃ k∈ks,k.a=3/\k.b=3/\k.c=5/\k.s=2/\k.l=one)/\(∃ k∈ks,k.a=3/\k.b=3/\k.c=8/\k.s=1/\k.l=two)/\∀ k∈ks,k.a=3->k.b=3->k.c=5\/k.c=8
theorem ADP.AFk(md:ADP np T M ks fr){x:Kt}(hx:x∈ks):X9 T M x:=by
 obtain⟨h1,_,h3,_⟩:=Zc (p:=x.p) (md.rs x hx).1 (md.rs x hx).2 (md.hd x hx) (md.dt x hx);have h4:o0 M x.p _=x.core:=h3;exact⟨_,h1,congrArg Kc.a h4,congrArg Kc.b h4,congrArg Kc.c h4,congrArg Kc.s h4,congrArg Kc.l h4⟩
end
end
noncomputable section
open Go
set_option maxRecDepth 100000
def Stp(T:List Nat)(ks:List Kt)(fr:List Nat)(kd a b c:Int)(l:List Nat)(z:Int)(ks':List Kt)(fr':List Nat):Prop:=
 (iq ks fr.length kd a b c l z/\ks'=ks/\fr'=fr)\/(z=0/\∃ M M',ST T M ks fr kd a b c l M' ks' fr')
def UpX(X:Nat->Prop)(h:Hp)(A:At)(T:List Nat)(ks:List Kt)(fr:List Nat)(k:Nat):Prop:=
 (∃ M c0 arm lv fv,Sl h A T M c0 arm ks fr lv fv 0 false/\ACy 8 ks fr/\ADP 8 T M ks fr/\Com ks/\CI arm k)/\∀ x∈ks,∀ b,ABw x.u b->¬ X b
section
variable {e:Env}{h h':Hp}{S X:Nat->Prop}{A:At}{T M:List Nat}{c0 m k n r:Nat}{arm a b c z kd:Int}{ks ks':List Kt}{fr fr' l:List Nat}{lv fv u:IN}{x:Kt}
theorem Ph(s:Stp T ks fr kd a b c l z ks' fr'):z≠120:=by
 rcases s with ⟨q,_⟩|⟨rfl,_⟩
 ·rcases q with ⟨_,e⟩|⟨_,e⟩|⟨_,e⟩|⟨_,_,e⟩|⟨_,_,_,_,_,e⟩
  ·unfold Gd at e
   split at e
   ·cases e;omega
   ·split at e
    ·split at e<;>cases e<;>omega
    ·split at e
     ·cases e;omega
     ·split at e<;>cases e<;>omega
  ·unfold IU at e
   split at e
   ·split at e
    ·cases e;omega
    ·split at e<;>cases e<;>omega
   ·split at e<;>cases e<;>omega
  ·unfold abE at e
   split at e
   ·cases e;omega
   ·split at e<;>cases e<;>omega
  ·omega
  ·omega
 ·omega
theorem UpX.le(U:UpX X h A T ks fr k)(hk:n<=k):UpX X h A T ks fr n:=by
 obtain⟨⟨M,c0,arm,lv,fv,s,iv,md,hc,ha⟩,hx⟩:=U;exact⟨⟨M,c0,arm,lv,fv,s,iv,md,hc,ha.le hk⟩,hx⟩
theorem UpX.ext(U:UpX X h A T ks fr k)(W:h.Wf)(y:h.Ext h'):UpX X h' A T ks fr k:=by
 obtain⟨⟨M,c0,arm,lv,fv,s,q⟩,hx⟩:=U;exact⟨⟨M,c0,arm,lv,fv,s.ext W y,q⟩,hx⟩
theorem UpX.same(U:UpX X h A T ks fr k)(hb:h'.bl=h.bl):UpX X h' A T ks fr k:=by
 obtain⟨⟨M,c0,arm,lv,fv,s,q⟩,hx⟩:=U;exact⟨⟨M,c0,arm,lv,fv,s.same hb,q⟩,hx⟩
theorem UpX.more(U:UpX X h A T ks fr k)(W:h.Wf)(hr:h.next<=r):UpX (fun b=>X b\/b=r) h A T ks fr k:=by
 obtain⟨⟨M,c0,arm,lv,fv,s,q⟩,hx⟩:=U;refine⟨⟨M,c0,arm,lv,fv,s,q⟩,fun x hx' b hb e=>?_⟩;rcases e with e|e
 ·exact hx x hx' b hb e
 ·obtain⟨o,n,c,e2⟩:=hb
  rcases (s.ko x hx').1 with ⟨h1,_⟩|⟨b',off,c',el,L,h1,_,h3,_⟩
  ·rw[h1]at e2;cases e2
  ·rw[h1]at e2
   injection e2 with e2
   injection e2 with e2
   injection e2 with e2
   have:=h3.lt W;omega
theorem UpX.less(U:UpX X h A T ks fr k)(hS:∀ b,S b->X b):UpX S h A T ks fr k:=⟨U.1,fun x hx b hb hs=>U.2 x hx b hb (hS b hs)⟩
def Odd(L:List IN):Prop:=(L.length<6\/∀ s:Int,L[3]?≠some (.int .u8 s))/\∃ z∈L,∀ q,z≠AI AT q
theorem UpX.wr{L L':List IN}(W:h.Wf)(U:UpX X h A T ks fr k)(hX:X r)(R:h.Row r 0 L)(R':h'.Row r 0 L')(f:Fx (fun b=>b=r) h h')(hD:¬ A.D r)(ht:A.tb≠r)(o:Odd L):UpX X h' A T ks fr k:=by
 obtain⟨⟨M,c0,arm,lv,fv,s,q⟩,hx⟩:=U;refine⟨⟨M,c0,arm,lv,fv,⟨f.row W s.row fun h=>hD (by rw[<- h];exact .inl rfl),s.dk.fr W f (fun h=>hD (by rw[<- h];exact .inr (.inl rfl))) (fun h=>hD (by rw[<- h];exact .inr (.inr (.inl rfl)))) (fun h=>hD (by rw[<- h];exact .inr (.inr (.inr rfl)))),f.row W s.tab ht,s.tok,?_,fun k hk=>⟨?_,(s.ko k hk).2⟩,?_,s.ne,s.le⟩,q⟩,hx⟩
 ·rcases s.ls with h1|⟨b,c,el,K,h1,h2,h3,h4,h5,h6,h7⟩
  ·exact .inl h1
  ·by_cases e:b=r
   ·subst e
    have e1:=Ro h3 R;subst e1;cases ks with
    |nil=>exact .inr ⟨b,c,0,L',h1,h2,R',uD _,rfl,.inr rfl,h7⟩
    |cons z zs=>
     rcases o.1 with o1|o1
     ·rw[tZ]at h4
      omega
     ·have h8:=congrArg (fun l=>l[3]?) h5
      simp only[List.getElem?_take]at h8;rw[if_pos (by rw[tZ];omega)]at h8;exact absurd (h8.trans (show(flK (z::zs))[3]? =some (.int .u8 (z.s:Int))from rfl)) (o1 _)
   ·exact .inr ⟨b,c,el,K,h1,h2,f.row W h3 e,h4,h5,h6,h7⟩
 ·rcases (s.ko k hk).1 with h1|⟨b,off,c,el,K,h1,h2,h3,h4,h5,h6,h7⟩
  ·exact .inl h1
  ·exact .inr ⟨b,off,c,el,K,h1,h2,f.row W h3 fun e=>hx k hk b ⟨off,_,c,h1⟩ (e ▸ hX),h4,h5,h6,h7⟩
 ·rcases s.fs with h1|⟨b,el,h1,h2,h3,h4⟩
  ·exact .inl h1
  ·refine .inr ⟨b,el,h1,f.row W h2 fun e=>?_,h3,h4⟩
   subst e;obtain⟨z,hz,hq⟩:=o.2;rw[<- Ro h2 R]at hz;obtain⟨y,_,hy⟩:=vL.1 hz;exact hq _ hy.symm
theorem UpX.lt(U:UpX X h A T ks fr k)(W:h.Wf):∀ b,A.D b->b<h.next:=by
 obtain⟨⟨M,c0,arm,lv,fv,s,q⟩,hx⟩:=U;exact s.AD7 W
theorem UpX.tab(U:UpX X h A T ks fr k):h.Row A.tb 0 (T.map wv)/\ACM T/\¬ A.D A.tb:=by
 obtain⟨⟨M,c0,arm,lv,fv,s,q⟩,hx⟩:=U;exact⟨s.tab,s.tok,s.ne.2.2.2.1⟩
theorem qC(W:h.Wf)(hA:A.n=24)(U:UpX X h A T ks fr (k+40))(hX:∀ b,X b->b<h.next)(V:h.VE u (l.map bv))(hb:∀ x∈l,x<256)(hl:l.length<=1000):
  ∃ z h' ks' fr',call AC (m+8) 58 [pt A.bs,AI AT a,AI AT b,AI AT c,u] h=.ok (AI AT z) h'/\Fx A.D h h'/\UpX X h' A T ks' fr' k/\Stp T ks fr 1 a b c l z ks' fr':=by
 obtain⟨⟨M,c0,arm,lv,fv,s,iv,md,hc,ha⟩,hx⟩:=U;have hln:=iv.len;rcases av (m:=m) (k:=k) W s (a:=a) (b:=b) (c:=c) V hb hl (by omega) (ha.le (by omega))with ⟨z,h2,hz,k2,y2⟩|⟨hz,p,fr2,h2,c1,AB7,lv',fv',k',hf,k2,f2,s2,hk,a2,hu⟩
 ·exact⟨z,h2,ks,fr,k2,.of y2,⟨⟨M,c0,arm,lv,fv,s.ext W y2,iv,md,hc,ha.le (by omega)⟩,hx⟩,.inl ⟨.inl ⟨.inl rfl,hz⟩,rfl,rfl⟩⟩
 ·have t:ST T M ks fr 1 a b c l (EA T M p l (AB1 T a b c 1 l)) (GB (ks++[k'])) fr2:=.inl ⟨.inl rfl,hz,p,k',hf,rfl,hk,rfl⟩
  obtain⟨md',hc',_⟩:=Jx iv md hc t;refine⟨0,h2,_,fr2,k2,f2,⟨⟨_,c1,AB7,lv',fv',s2,(Jw iv t).1,md',hc',a2⟩,fun x hx' b hb hXb=>?_⟩,.inr ⟨rfl,M,_,t⟩⟩;rw[Km,uP,uF]at hx';rcases hx' with h1|rfl
  ·exact hx x h1 b hb hXb
  ·have h1:=hu b hb
   have h2:=hX b hXb;omega
theorem qA(W:h.Wf)(hA:A.n=24)(U:UpX X h A T ks fr (k+40))(a b c:Int):
  ∃ z h' ks' fr',call AC (m+8) 59 [pt A.bs,AI AT a,AI AT b,AI AT c] h=.ok (AI AT z) h'/\Fx A.D h h'/\UpX X h' A T ks' fr' k/\Stp T ks fr 5 a b c [] z ks' fr':=by
 obtain⟨⟨M,c0,arm,lv,fv,s,iv,md,hc,ha⟩,hx⟩:=U;have hln:=iv.len;rcases Yl (m:=m) (k:=k) W s (a:=a) (b:=b) (c:=c) (by omega) (fun z hz=>by rw[hA];exact iv.lt z hz) iv.nd (ha.le (by omega))with ⟨z,h2,hz,k2,y2⟩|⟨hz,j,kx,h2,c1,AB7,lv',fv',hj,ACk,hs,hf,hst,k2,f2,s2,a2⟩
 ·exact⟨z,h2,ks,fr,k2,.of y2,⟨⟨M,c0,arm,lv,fv,s.ext W y2,iv,md,hc,ha.le (by omega)⟩,hx⟩,.inl ⟨.inr (.inl ⟨.inl rfl,hz⟩),rfl,rfl⟩⟩
 ·have t:ST T M ks fr 5 a b c [] _ _ _:=.inr (.inl ⟨.inl rfl,j,kx,hj,ACk,hst,rfl,rfl,rfl⟩)
  obtain⟨md',hc',_⟩:=Jx iv md hc t;refine⟨0,h2,_,_,k2,f2,⟨⟨_,c1,AB7,lv',fv',s2,(Jw iv t).1,md',hc',a2⟩,fun x hx'=>?_⟩,.inr ⟨rfl,M,_,t⟩⟩;rcases mem_set hj (ut.1 hx').1 with rfl|h1
  ·exact hx kx (tq hj)
  ·exact hx x h1
theorem pz(W:h.Wf)(hA:A.n=24)(U:UpX X h A T ks fr (k+40))(a b c:Int):
  ∃ z h' ks' fr',call AC (m+9) 60 [pt A.bs,AI AT a,AI AT b,AI AT c] h=.ok (AI AT z) h'/\Fx A.D h h'/\UpX X h' A T ks' fr' k/\Stp T ks fr 7 a b c [] z ks' fr':=by
 obtain⟨⟨M,c0,arm,lv,fv,s,iv,md,hc,ha⟩,hx⟩:=U;have hln:=iv.len;rcases We (m:=m) (k:=k) W s (a:=a) (b:=b) (c:=c) (by omega) (fun z hz=>by rw[hA];exact iv.lt z hz) (ha.le (by omega))with ⟨z,h2,hz,k2,y2⟩|⟨hz,j,kx,h2,c1,AB7,lv',fv',hj,ACk,hf,hst,k2,f2,s2,a2⟩
 ·exact⟨z,h2,ks,fr,k2,.of y2,⟨⟨M,c0,arm,lv,fv,s.ext W y2,iv,md,hc,ha.le (by omega)⟩,hx⟩,.inl ⟨.inr (.inr (.inl ⟨rfl,hz⟩)),rfl,rfl⟩⟩
 ·have t:ST T M ks fr 7 a b c [] _ _ _:=.inr (.inr (.inl ⟨rfl,j,kx,hj,ACk,hst,rfl,rfl,rfl⟩))
  obtain⟨md',hc',_⟩:=Jx iv md hc t;refine⟨0,h2,_,_,k2,f2,⟨⟨_,c1,AB7,lv',fv',s2,(Jw iv t).1,md',hc',a2⟩,fun x hx'=>hx x ?_⟩,.inr ⟨rfl,M,_,t⟩⟩;rcases uP.1 hx' with h1|h1
  ·exact vQ h1
  ·exact wM h1
theorem qB(W:h.Wf)(hA:A.n=24)(U:UpX X h A T ks fr (k+40))(a b c:Int):
  ∃ z h' ks' fr',call AC (m+9) 67 [pt A.bs,AI AT a,AI AT b,AI AT c] h=.ok (AI AT z) h'/\Fx A.D h h'/\UpX X h' A T ks' fr' k/\Stp T ks fr 8 a b c [] z ks' fr':=by
 obtain⟨⟨M,c0,arm,lv,fv,s,iv,md,hc,ha⟩,hx⟩:=U;have hln:=iv.len;have hle:(drO a b c ks).length<=8:=by
  unfold drO;rw[List.length_reverse];have:=vd (drB a b c) ks;omega
 obtain⟨h2,c1,AB7,lv',fv',k2,f2,s2,a2⟩:=ZH (m:=m) (k:=k) W s a b c (by omega) (fun z hz=>by rw[hA];exact iv.lt z hz) (ha.le (by omega));have t:ST T M ks fr 8 a b c [] _ _ _:=.inr (.inr (.inr ⟨rfl,rfl,rfl,rfl⟩));obtain⟨md',hc',_⟩:=Jx iv md hc t;exact⟨0,h2,_,_,k2,f2,⟨⟨_,c1,AB7,lv',fv',s2,(Jw iv t).1,md',hc',a2⟩,fun x hx'=>hx x (ut.1 hx').1⟩,.inr ⟨rfl,M,_,t⟩⟩
end
end
noncomputable section
open Go
set_option maxRecDepth 100000
def DJ(ABs seq:Int)(op:Nat)(err:Int)(iv bw:IN)(room:Int):List IN:=[AI AT ABs,AI AT seq,.int .u8 (op:Int),AI AT err,iv,bw,AI AT room]
def Bs(ABs seq:Int)(op:Nat)(err:Int)(iv bw:IN)(room:Int):IN:=.agg ⟨DJ ABs seq op err iv bw room⟩
abbrev GD:List IN:=DJ 0 0 0 0 ABc ABc 0
theorem Ew:Bo .mt 0 GD=some Ct:=by kernel_rfl
theorem Po:G8.zero=GD:=by kernel_rfl
theorem FA{ABs seq err room:Int}{op:Nat}{iv bw:IN}:Odd (DJ ABs seq op err iv bw room):=⟨.inr (fun s h=>by cases h),.int .u8 (op:Int),td _ (td _ te),(fun q h=>by cases h)⟩
section
variable {F:ABZ}{e:Env}{h h' g:Hp}{S X:Nat->Prop}{A:At}{T:List Nat}{m k n nb r op:Nat}{ABs lf sq a b c z err room:Int}{ks ks':List Kt}{fr fr' l:List Nat}{v u iv bw:IN}{x:Kt}
theorem Hz{g1:O}(h1:g1 e=AI AT z):BH G8.zero [(3,1,g1)] F e h=.ok (Bs 0 0 0 z ABc ABc 0) h:=by
 rw[Cb,Po,Ad (hk:=by rw[h1];rfl),h1];simp only[CZ,uU,tZ,uR,DJ,over,wh,wT,vZ,uN,vM,IT,vR,if_true,Bg,reduceIte];rfl
theorem cw:BH G8.zero [] F e h=.ok (Bs 0 0 0 0 ABc ABc 0) h:=by
 rw[Cb,Po,Bg];rfl
theorem UM{g1:O}(h1:g1 e=iv)(hc:cellsOf iv=[iv])(hk:known iv=true):BH G8.zero [(4,1,g1)] F e h=.ok (Bs 0 0 0 0 iv ABc 0) h:=by
 rw[Cb,Po,Ad (hk:=by rw[h1];exact hk),h1,hc];simp only[CZ,uU,tZ,uR,DJ,over,wh,wT,vZ,uN,vM,IT,vR,if_true,Bg,reduceIte];rfl
theorem YQ{g1 g2:O}(h1:g1 e=iv)(h2:g2 e=bw)(hc:cellsOf iv=[iv])(hk:known iv=true)(hc2:cellsOf bw=[bw])(hk2:known bw=true):BH G8.zero [(4,1,g1),(5,1,g2)] F e h=.ok (Bs 0 0 0 0 iv bw 0) h:=by
 rw[Cb,Po,Ad (hk:=by rw[h1];exact hk),h1,Ad (hk:=by rw[h2];exact hk2),h2,hc,hc2];simp only[CZ,uU,tZ,uR,DJ,over,wh,wT,vZ,uN,vM,IT,vR,if_true,Bg,reduceIte];rfl
theorem aT(hi:oneCell iv=true)(hb:oneCell bw=true):BX (DJ lf sq op err iv bw room)=true:=by
 show(bif oneCell iv then(bif oneCell bw then true else false)else false)=true;rw[hi,hb];rfl
theorem EE{L:List IN}(W:h.Wf)(R:h.Row r 0 L)(hL:L.length=7)(ABj:256<=r)(hi:oneCell iv=true)(hb:oneCell bw=true):
  ∃ h',ABg 7 (pt r) (Bs lf sq op err iv bw room) h=.ok ABd h'/\Fx (fun b=>b=r) h h'/\h'.Row r 0 (DJ lf sq op err iv bw room):=by
 have ho:0+(DJ lf sq op err iv bw room).length<=L.length:=by rw[hL];exact If _
 have st:=R.ABg (n:=7) (off:=0) W ABj (v:=Bs lf sq op err iv bw room) rfl ho (aT hi hb);have wr:=R.ABl W ho;rw[EJ (show L.length=(DJ lf sq op err iv bw room).length from hL)]at wr;exact⟨_,st,Fx.wr W R ho rfl,wr⟩
theorem Fm{L:List IN}(W:h.Wf)(R:h.Row r 0 L)(hL:L.length=7)(ABj:256<=r)(hi:oneCell iv=true)(hb:oneCell bw=true):
  ∃ h',(∀ (F:ABZ) (e:Env) (g1 g2:O),g1 e=pt r->g2 e=Bs lf sq op err iv bw room->Aa .free (Ac 7 g1 g2) F e h=.ok ABd h')/\Fx (fun b=>b=r) h h'/\h'.Row r 0 (DJ lf sq op err iv bw room):=by
 obtain⟨h1,st,f1,R1⟩:=EE (h:=h.quiet) (lf:=lf) (sq:=sq) (op:=op) (err:=err) (room:=room) W.quiet (R.same (h':=h.quiet) rfl) hL ABj hi hb;refine⟨h.back h1,fun F e g1 g2 e1 e2=>?_,f1.back,R1.same rfl⟩;refine BF ?_;rw[AW,e1,e2];exact st
theorem C2(R:h.Row r 0 (DJ lf sq op err iv bw room)):Iq 7 (pt r) h=.ok (Bs lf sq op err iv bw room) h:=by
 rw[Aj];exact R.loadN (off:=0) (n:=7) (by show 0+7<=7;omega)
theorem Fx.new{h1:Hp}(x:h.Ext h1)(f:Fx A.D h1 g)(f2:Fx (fun b=>b=r) g h')(hr:h.next<=r):Fx A.D h h':=
 Fx.drop (((Fx.of x).trans (f.mono fun b hb=>.inl hb)).trans (f2.mono fun b hb=>.inr (by rw[hb];exact hr)))
theorem pD(W:h.Wf)(hA:A.n=24)(Rn:h.Row nb 0 (AB0 A.bd A.tb A.bs ABs))(U:UpX X h A T ks fr (k+40))(hX:∀ b,X b->b<h.next)(V:h.VE u (l.map bv))(hb:∀ x∈l,x<256)(hl:l.length<=1000):
  ∃ z h' ks' fr',call AC (m+10) 34 [pt nb,CO lf sq op a b c u] h=.ok (Bs 0 0 0 z ABc ABc 0) h'/\Fx A.D h h'/\UpX X h' A T ks' fr' k/\Stp T ks fr 1 a b c l z ks' fr':=by
 have bx:=fun (F:ABZ) (e:Env) (he:J 1 e=CO lf sq op a b c u)=>FG (F:=F) W he
 have x1:=(Hp.Ext.refl W).ABY 0 (CJ lf sq op a b c u);have R1:=Hp.Row.new W 0 (CJ lf sq op a b c u);have n1:(h.ABY 0 (CJ lf sq op a b c u)).next=h.next+1:=rfl;generalize h.ABY 0 (CJ lf sq op a b c u)=h1 at bx x1 R1 n1;have al:=fun (F:ABZ) (e:Env)=>BL (F:=F) (e:=e) x1.wf (n:=7) (t:=Ct)
 have Ra:=Hp.Row.alloc x1.wf Ew (show GD.length=7 from rfl);have y2:h1.Ext (h1.push (.cells Ct 7 0)):=(Hp.Ext.refl x1.wf).push _;have n2:(h1.push (.cells Ct 7 0)).next=h1.next+1:=rfl;generalize h1.push (.cells Ct 7 0)=h2 at al Ra y2 n2;have x2:=x1.trans y2;have U2:=((U.ext W x1).more x1.wf (If h1.next)).ext x1.wf y2;obtain⟨_,_,_,l3,l4,l5,l6,_⟩:=B1 ((R1.ext x1.wf y2).same (h':=h2.marked) rfl);obtain⟨_,_,nd,_⟩:=CF ((Rn.ext W x2).same (h':=h2.marked) rfl);have xm:=x2.marked;obtain⟨z,g,ks',fr',k3,f3,U3,st⟩:=qC (m:=m+1) (k:=k) (X:=fun b=>X b\/b=h1.next) xm.quiet.wf hA (U2.same (h':=h2.marked.quiet) rfl) (fun b hb=>by
  show b<h2.next;rcases hb with hb|hb
  ·have:=hX b hb
   omega
  ·omega) ((V.ext W x2).same rfl) hb hl
 have q3:∀ e:Env,J 8 e=pt A.bs->J 10 e=AI AT a->J 12 e=AI AT b->J 14 e=AI AT c->J 16 e=u->Aa .free (AS 58 [J 8,J 10,J 12,J 14,J 16]) (call AC (m+9)) e h2.marked=.ok (AI AT z) (h2.marked.back g):=fun e e1 e2 e3 e4 e5=>by
  refine BF ?_;rw[BP,AU,AU,AU,AU,AU,A5,e1,e2,e3,e4,e5];exact k3
 have f3':=f3.back;have U3':=U3.same (h':=h2.marked.back g) rfl;generalize h2.marked.back g=h3 at q3 f3' U3';have hDn:¬ A.D h1.next:=fun hb=>by
  have:=U.lt W _ hb;omega
 have R3:=f3'.row xm.wf ((Ra.same (h':=h2.marked) rfl)) hDn;have big:=W.big;obtain⟨h4,q4,f4,R4⟩:=Fm (lf:=0) (sq:=0) (op:=0) (err:=z) (iv:=ABc) (bw:=ABc) (room:=0) f3'.wf R3 rfl (by omega) rfl rfl;have U4:=(U3'.wr f3'.wf (.inr rfl) R3 R4 f4 hDn (fun e=>by
  have:=(U.tab).1.lt W;omega) FA).less (S:=X) fun b hb=>.inl hb
 refine⟨z,h4,ks',fr',?_,Fx.new xm f3' f4 (by omega),U4,st⟩;have bd:=fun (F:ABZ) (e:Env) (e1:J 17 e=AI AT z)=>Hz (F:=F) (h:=h3) e1
 have q4':=fun (F:ABZ) (e:Env) (e1:J 4 e=pt h1.next) (e2:J 18 e=Bs 0 0 0 z ABc ABc 0)=>q4 F e (J 4) (J 18) e1 e2
 have hrun:∃ e2,d34 (call AC (m+9)) (As e0 0 [pt nb,CO lf sq op a b c u]) h=.ret e2 h4/\J 4 e2=pt h1.next:=by
  unfold d34;simp only[iN,IT,sT,By,BY,reduceIte,bx,al,Az,Au,Ai,AH,AO,sh,AN,AQ,nd,l3,l4,l5,l6,q3,bd,q4'];exact⟨_,rfl,by simp[AG]⟩
 obtain⟨e2,r1,r2⟩:=hrun;rw[kT rfl,r1,Ay,Da (h':=h4) (v:=Bs 0 0 0 z ABc ABc 0) (by rw[r2];exact C2 R4)]
theorem pE(W:h.Wf)(hA:A.n=24)(Rn:h.Row nb 0 (AB0 A.bd A.tb A.bs ABs))(U:UpX X h A T ks fr (k+40))(hX:∀ b,X b->b<h.next):
  ∃ z h' ks' fr',call AC (m+10) 35 [pt nb,CO lf sq op a b c u] h=.ok (Bs 0 0 0 z ABc ABc 0) h'/\Fx A.D h h'/\UpX X h' A T ks' fr' k/\Stp T ks fr 5 a b c [] z ks' fr':=by
 have bx:=fun (F:ABZ) (e:Env) (he:J 1 e=CO lf sq op a b c u)=>FG (F:=F) W he
 have x1:=(Hp.Ext.refl W).ABY 0 (CJ lf sq op a b c u);have R1:=Hp.Row.new W 0 (CJ lf sq op a b c u);have n1:(h.ABY 0 (CJ lf sq op a b c u)).next=h.next+1:=rfl;generalize h.ABY 0 (CJ lf sq op a b c u)=h1 at bx x1 R1 n1;have al:=fun (F:ABZ) (e:Env)=>BL (F:=F) (e:=e) x1.wf (n:=7) (t:=Ct)
 have Ra:=Hp.Row.alloc x1.wf Ew (show GD.length=7 from rfl);have y2:h1.Ext (h1.push (.cells Ct 7 0)):=(Hp.Ext.refl x1.wf).push _;have n2:(h1.push (.cells Ct 7 0)).next=h1.next+1:=rfl;generalize h1.push (.cells Ct 7 0)=h2 at al Ra y2 n2;have x2:=x1.trans y2;have U2:=((U.ext W x1).more x1.wf (If h1.next)).ext x1.wf y2;obtain⟨_,_,_,l3,l4,l5,l6,_⟩:=B1 ((R1.ext x1.wf y2).same (h':=h2.marked) rfl);obtain⟨_,_,nd,_⟩:=CF ((Rn.ext W x2).same (h':=h2.marked) rfl);have xm:=x2.marked;obtain⟨z,g,ks',fr',k3,f3,U3,st⟩:=qA (m:=m+1) (k:=k) (X:=fun b=>X b\/b=h1.next) xm.quiet.wf hA (U2.same (h':=h2.marked.quiet) rfl) a b c;have q3:∀ e:Env,J 8 e=pt A.bs->J 10 e=AI AT a->J 12 e=AI AT b->J 14 e=AI AT c->Aa .free (AS 59 [J 8,J 10,J 12,J 14]) (call AC (m+9)) e h2.marked=.ok (AI AT z) (h2.marked.back g):=fun e e1 e2 e3 e4=>by
  refine BF ?_;rw[BP,AU,AU,AU,AU,A5,e1,e2,e3,e4];exact k3
 have f3':=f3.back;have U3':=U3.same (h':=h2.marked.back g) rfl;generalize h2.marked.back g=h3 at q3 f3' U3';have hDn:¬ A.D h1.next:=fun hb=>by
  have:=U.lt W _ hb;omega
 have R3:=f3'.row xm.wf ((Ra.same (h':=h2.marked) rfl)) hDn;have big:=W.big;obtain⟨h4,q4,f4,R4⟩:=Fm (lf:=0) (sq:=0) (op:=0) (err:=z) (iv:=ABc) (bw:=ABc) (room:=0) f3'.wf R3 rfl (by omega) rfl rfl;have U4:=(U3'.wr f3'.wf (.inr rfl) R3 R4 f4 hDn (fun e=>by
  have:=(U.tab).1.lt W;omega) FA).less (S:=X) fun b hb=>.inl hb
 refine⟨z,h4,ks',fr',?_,Fx.new xm f3' f4 (by omega),U4,st⟩;have bd:=fun (F:ABZ) (e:Env) (e1:J 15 e=AI AT z)=>Hz (F:=F) (h:=h3) e1
 have q4':=fun (F:ABZ) (e:Env) (e1:J 4 e=pt h1.next) (e2:J 16 e=Bs 0 0 0 z ABc ABc 0)=>q4 F e (J 4) (J 16) e1 e2
 have hrun:∃ e2,d35 (call AC (m+9)) (As e0 0 [pt nb,CO lf sq op a b c u]) h=.ret e2 h4/\J 4 e2=pt h1.next:=by
  unfold d35;simp only[iN,IT,sT,By,BY,reduceIte,bx,al,Az,Au,Ai,AH,AO,sh,AN,AQ,nd,l3,l4,l5,l6,q3,bd,q4'];exact⟨_,rfl,by simp[AG]⟩
 obtain⟨e2,r1,r2⟩:=hrun;rw[kU rfl,r1,Ay,Da (h':=h4) (v:=Bs 0 0 0 z ABc ABc 0) (by rw[r2];exact C2 R4)]
theorem pF(W:h.Wf)(hA:A.n=24)(Rn:h.Row nb 0 (AB0 A.bd A.tb A.bs ABs))(U:UpX X h A T ks fr (k+40))(hX:∀ b,X b->b<h.next):
  ∃ z h' ks' fr',call AC (m+10) 36 [pt nb,CO lf sq op a b c u] h=.ok (Bs 0 0 0 z ABc ABc 0) h'/\Fx A.D h h'/\UpX X h' A T ks' fr' k/\Stp T ks fr 7 a b c [] z ks' fr':=by
 have bx:=fun (F:ABZ) (e:Env) (he:J 1 e=CO lf sq op a b c u)=>FG (F:=F) W he
 have x1:=(Hp.Ext.refl W).ABY 0 (CJ lf sq op a b c u);have R1:=Hp.Row.new W 0 (CJ lf sq op a b c u);have n1:(h.ABY 0 (CJ lf sq op a b c u)).next=h.next+1:=rfl;generalize h.ABY 0 (CJ lf sq op a b c u)=h1 at bx x1 R1 n1;have al:=fun (F:ABZ) (e:Env)=>BL (F:=F) (e:=e) x1.wf (n:=7) (t:=Ct)
 have Ra:=Hp.Row.alloc x1.wf Ew (show GD.length=7 from rfl);have y2:h1.Ext (h1.push (.cells Ct 7 0)):=(Hp.Ext.refl x1.wf).push _;have n2:(h1.push (.cells Ct 7 0)).next=h1.next+1:=rfl;generalize h1.push (.cells Ct 7 0)=h2 at al Ra y2 n2;have x2:=x1.trans y2;have U2:=((U.ext W x1).more x1.wf (If h1.next)).ext x1.wf y2;obtain⟨_,_,_,l3,l4,l5,l6,_⟩:=B1 ((R1.ext x1.wf y2).same (h':=h2.marked) rfl);obtain⟨_,_,nd,_⟩:=CF ((Rn.ext W x2).same (h':=h2.marked) rfl);have xm:=x2.marked;obtain⟨z,g,ks',fr',k3,f3,U3,st⟩:=pz (m:=m) (k:=k) (X:=fun b=>X b\/b=h1.next) xm.quiet.wf hA (U2.same (h':=h2.marked.quiet) rfl) a b c;have q3:∀ e:Env,J 8 e=pt A.bs->J 10 e=AI AT a->J 12 e=AI AT b->J 14 e=AI AT c->Aa .free (AS 60 [J 8,J 10,J 12,J 14]) (call AC (m+9)) e h2.marked=.ok (AI AT z) (h2.marked.back g):=fun e e1 e2 e3 e4=>by
  refine BF ?_;rw[BP,AU,AU,AU,AU,A5,e1,e2,e3,e4];exact k3
 have f3':=f3.back;have U3':=U3.same (h':=h2.marked.back g) rfl;generalize h2.marked.back g=h3 at q3 f3' U3';have hDn:¬ A.D h1.next:=fun hb=>by
  have:=U.lt W _ hb;omega
 have R3:=f3'.row xm.wf ((Ra.same (h':=h2.marked) rfl)) hDn;have big:=W.big;obtain⟨h4,q4,f4,R4⟩:=Fm (lf:=0) (sq:=0) (op:=0) (err:=z) (iv:=ABc) (bw:=ABc) (room:=0) f3'.wf R3 rfl (by omega) rfl rfl;have U4:=(U3'.wr f3'.wf (.inr rfl) R3 R4 f4 hDn (fun e=>by
  have:=(U.tab).1.lt W;omega) FA).less (S:=X) fun b hb=>.inl hb
 refine⟨z,h4,ks',fr',?_,Fx.new xm f3' f4 (by omega),U4,st⟩;have bd:=fun (F:ABZ) (e:Env) (e1:J 15 e=AI AT z)=>Hz (F:=F) (h:=h3) e1
 have q4':=fun (F:ABZ) (e:Env) (e1:J 4 e=pt h1.next) (e2:J 16 e=Bs 0 0 0 z ABc ABc 0)=>q4 F e (J 4) (J 16) e1 e2
 have hrun:∃ e2,d36 (call AC (m+9)) (As e0 0 [pt nb,CO lf sq op a b c u]) h=.ret e2 h4/\J 4 e2=pt h1.next:=by
  unfold d36;simp only[iN,IT,sT,By,BY,reduceIte,bx,al,Az,Au,Ai,AH,AO,sh,AN,AQ,nd,l3,l4,l5,l6,q3,bd,q4'];exact⟨_,rfl,by simp[AG]⟩
 obtain⟨e2,r1,r2⟩:=hrun;rw[kW rfl,r1,Ay,Da (h':=h4) (v:=Bs 0 0 0 z ABc ABc 0) (by rw[r2];exact C2 R4)]
theorem pG(W:h.Wf)(hA:A.n=24)(Rn:h.Row nb 0 (AB0 A.bd A.tb A.bs ABs))(U:UpX X h A T ks fr (k+40))(hX:∀ b,X b->b<h.next):
  ∃ z h' ks' fr',call AC (m+10) 39 [pt nb,CO lf sq op a b c u] h=.ok (Bs 0 0 0 z ABc ABc 0) h'/\Fx A.D h h'/\UpX X h' A T ks' fr' k/\Stp T ks fr 8 a b c [] z ks' fr':=by
 have bx:=fun (F:ABZ) (e:Env) (he:J 1 e=CO lf sq op a b c u)=>FG (F:=F) W he
 have x1:=(Hp.Ext.refl W).ABY 0 (CJ lf sq op a b c u);have R1:=Hp.Row.new W 0 (CJ lf sq op a b c u);have n1:(h.ABY 0 (CJ lf sq op a b c u)).next=h.next+1:=rfl;generalize h.ABY 0 (CJ lf sq op a b c u)=h1 at bx x1 R1 n1;have al:=fun (F:ABZ) (e:Env)=>BL (F:=F) (e:=e) x1.wf (n:=7) (t:=Ct)
 have Ra:=Hp.Row.alloc x1.wf Ew (show GD.length=7 from rfl);have y2:h1.Ext (h1.push (.cells Ct 7 0)):=(Hp.Ext.refl x1.wf).push _;have n2:(h1.push (.cells Ct 7 0)).next=h1.next+1:=rfl;generalize h1.push (.cells Ct 7 0)=h2 at al Ra y2 n2;have x2:=x1.trans y2;have U2:=((U.ext W x1).more x1.wf (If h1.next)).ext x1.wf y2;obtain⟨_,_,_,l3,l4,l5,l6,_⟩:=B1 ((R1.ext x1.wf y2).same (h':=h2.marked) rfl);obtain⟨_,_,nd,_⟩:=CF ((Rn.ext W x2).same (h':=h2.marked) rfl);have xm:=x2.marked;obtain⟨z,g,ks',fr',k3,f3,U3,st⟩:=qB (m:=m) (k:=k) (X:=fun b=>X b\/b=h1.next) xm.quiet.wf hA (U2.same (h':=h2.marked.quiet) rfl) a b c;have q3:∀ e:Env,J 8 e=pt A.bs->J 10 e=AI AT a->J 12 e=AI AT b->J 14 e=AI AT c->Aa .free (AS 67 [J 8,J 10,J 12,J 14]) (call AC (m+9)) e h2.marked=.ok (AI AT z) (h2.marked.back g):=fun e e1 e2 e3 e4=>by
  refine BF ?_;rw[BP,AU,AU,AU,AU,A5,e1,e2,e3,e4];exact k3
 have f3':=f3.back;have U3':=U3.same (h':=h2.marked.back g) rfl;generalize h2.marked.back g=h3 at q3 f3' U3';have hDn:¬ A.D h1.next:=fun hb=>by
  have:=U.lt W _ hb;omega
 have R3:=f3'.row xm.wf ((Ra.same (h':=h2.marked) rfl)) hDn;have big:=W.big;obtain⟨h4,q4,f4,R4⟩:=Fm (lf:=0) (sq:=0) (op:=0) (err:=z) (iv:=ABc) (bw:=ABc) (room:=0) f3'.wf R3 rfl (by omega) rfl rfl;have U4:=(U3'.wr f3'.wf (.inr rfl) R3 R4 f4 hDn (fun e=>by
  have:=(U.tab).1.lt W;omega) FA).less (S:=X) fun b hb=>.inl hb
 refine⟨z,h4,ks',fr',?_,Fx.new xm f3' f4 (by omega),U4,st⟩;have bd:=fun (F:ABZ) (e:Env) (e1:J 15 e=AI AT z)=>Hz (F:=F) (h:=h3) e1
 have q4':=fun (F:ABZ) (e:Env) (e1:J 4 e=pt h1.next) (e2:J 16 e=Bs 0 0 0 z ABc ABc 0)=>q4 F e (J 4) (J 16) e1 e2
 have hrun:∃ e2,d39 (call AC (m+9)) (As e0 0 [pt nb,CO lf sq op a b c u]) h=.ret e2 h4/\J 4 e2=pt h1.next:=by
  unfold d39;simp only[iN,IT,sT,By,BY,reduceIte,bx,al,Az,Au,Ai,AH,AO,sh,AN,AQ,nd,l3,l4,l5,l6,q3,bd,q4'];exact⟨_,rfl,by simp[AG]⟩
 obtain⟨e2,r1,r2⟩:=hrun;rw[kY rfl,r1,Ay,Da (h':=h4) (v:=Bs 0 0 0 z ABc ABc 0) (by rw[r2];exact C2 R4)]
end
end
noncomputable section
open Go
set_option maxRecDepth 100000
theorem bD:rdS=BB (AY 0 rdB) rdE:=rfl
theorem po:rdM=pp:=rfl
theorem Su:d37=Wt:=rfl
section
variable {F:ABZ}{e:Env}{h h' g:Hp}{S:Nat->Prop}{A:At}{T M:List Nat}{c0 bad m k n nb r op:Nat}{arm ABs lf sq a b c z err room:Int}{ks:List Kt}{fr l:List Nat}{v lv fv u w iv bw:IN}{ov:Bool}{x:Kt}
theorem S7(o:h.IL k v ks):cellsOf v=[v]/\known v=true/\oneCell v=true:=by
 rcases o with ⟨rfl,_⟩|⟨b,rfl,_⟩<;>exact⟨rfl,rfl,rfl⟩
theorem Hp.IL.fx(o:h.IL k v ks)(W:h.Wf)(f:Fx S h h')(hS:∀ b,S b->b<k):h'.IL k v ks:=by
 rcases o with h1|⟨b,h1,h2,h3⟩
 ·exact .inl h1
 ·exact .inr ⟨b,h1,f.row W h2 fun hb=>by have:=hS b hb;omega,h3⟩
theorem Td{L:List IN}{v:IN}(W:h.Wf)(R:h.Row r 0 L)(hL:L.length=5)(ABj:256<=r)(hv5:(cellsOf v).length=5)(hv1:BX (cellsOf v)=true):
  ∃ h',(∀ (F:ABZ) (e:Env) (g1 g2:O),g1 e=pt r->g2 e=v->Aa .free (Ac 5 g1 g2) F e h=.ok ABd h')/\Fx (fun b=>b=r) h h'/\h'.Row r 0 (cellsOf v)/\h'.mark=h.mark:=by
 have Rq:h.quiet.Row r 0 L:=R.same rfl;have ho:0+(cellsOf v).length<=L.length:=by rw[hL,hv5];exact If _
 have st:=Rq.ABg (n:=5) (off:=0) W.quiet ABj (v:=v) hv5 ho hv1;have wr:=Rq.ABl W.quiet ho;rw[EJ (show L.length=(cellsOf v).length by rw[hL,hv5])]at wr;refine⟨_,fun F e g1 g2 e1 e2=>BF (by rw[AW,e1,e2];exact st),Fx.back (Fx.wr W.quiet Rq ho rfl),wr.same rfl,rfl⟩
theorem HN{n:Nat}{L:List IN}{z:VT}(W:h.Wf)(hz:Bo .mt 0 L=some z)(hL:L.length=n)(hm:h.mark<=h.next):
  ∃ h',(∀ (F:ABZ) (e:Env),Aa .ABn (BN n z) F e h=.ok (pt h.next) h')/\h.Ext h'/\h'.Row h.next 0 L/\h'.mark=h.mark:=by
 refine⟨h.back (h.quiet.push (.cells z n 0)),fun F e=>Cp (BL (F:=F) (e:=e) W.quiet) ((Hp.Ext.refl W.quiet).push _) hm,Hp.Ext.back ((Hp.Ext.refl W.quiet).push _),?_,rfl⟩;exact(Hp.Row.alloc W.quiet hz hL).same rfl
theorem rI(W:h.Wf)(Rn:h.Row nb 0 (AB0 A.bd A.tb A.bs ABs))(s:Sl h A T M c0 arm ks fr lv fv bad ov)(hl:ks.length<=49):
  ∃ h' k iv,call AC (m+10) 38 [pt nb,CO lf sq op a b c u] h=.ok (Bs 0 0 0 0 iv ABc 0) h'/\h.Ext h'/\h.next<=k/\h'.IL k iv (ks.filter fun x=>YH x a b c):=by
 have bx:=fun (F:ABZ) (e:Env) (he:J 1 e=CO lf sq op a b c u)=>FG (F:=F) W he
 have x1:=(Hp.Ext.refl W).ABY 0 (CJ lf sq op a b c u);have R1:=Hp.Row.new W 0 (CJ lf sq op a b c u);have n1:(h.ABY 0 (CJ lf sq op a b c u)).next=h.next+1:=rfl;generalize h.ABY 0 (CJ lf sq op a b c u)=h1 at bx x1 R1 n1;have al:=fun (F:ABZ) (e:Env)=>BL (F:=F) (e:=e) x1.wf (n:=7) (t:=Ct)
 have Ra:=Hp.Row.alloc x1.wf Ew (show GD.length=7 from rfl);have y2:h1.Ext (h1.push (.cells Ct 7 0)):=(Hp.Ext.refl x1.wf).push _;have n2:(h1.push (.cells Ct 7 0)).next=h1.next+1:=rfl;generalize h1.push (.cells Ct 7 0)=h2 at al Ra y2 n2;have x2:=x1.trans y2;have R2:=R1.ext x1.wf y2;obtain⟨h3,k3,iv,c3,x3,hk,I3⟩:=Qj (m:=m+4) (P:=fun x=>YH x a b c) x2.wf (Rn.ext W x2) (s.ext W x2) hl (w:=.func (.func 66) ⟨[]⟩ ⟨[pt h.next]⟩) fun g k u xg=>oL (m:=m+7) xg.wf (R2.ext x2.wf xg)
 obtain⟨i1,i2,i3⟩:=S7 I3;have big:=W.big;obtain⟨h4,st4,f4,R4⟩:=EE (lf:=0) (sq:=0) (op:=0) (err:=0) (iv:=iv) (bw:=ABc) (room:=0) x3.wf (Ra.ext y2.wf x3) rfl (by omega) i3 rfl;have bd:=fun (F:ABZ) (e:Env) (e1:J 7 e=iv)=>UM (F:=F) (h:=h3) e1 i1 i2
 have hn2:h2.next<=k3:=hk;refine⟨h4,k3,iv,?_,Fx.xtF (x2.trans x3) f4 (fun b hb=>by rw[hb];omega),by omega,I3.fx x3.wf f4 fun b hb=>by rw[hb];omega⟩;have hrun:∃ e2,d38 (call AC (m+9)) (As e0 0 [pt nb,CO lf sq op a b c u]) h=.ret e2 h4/\J 4 e2=pt h1.next:=by
  unfold d38;simp only[iN,IT,sT,By,BY,reduceIte,bx,al,Dj,AU,A5,BP,c3,bd,AW,st4];exact⟨_,rfl,by simp[AG]⟩
 obtain⟨e2,r1,r2⟩:=hrun;rw[kX rfl,r1,Ay,Da (h':=h4) (v:=Bs 0 0 0 0 iv ABc 0) (by rw[r2];exact C2 R4)]
theorem rK(W:h.Wf)(Rn:h.Row nb 0 (AB0 A.bd A.tb A.bs ABs))(s:Sl h A T M c0 arm ks fr lv fv bad ov)(hl:ks.length<=49)(ht:∀ x∈ks,X9 T M x)(hp:∀ x∈ks,3*x.p+3<=A.n):
  ∃ h' k z iv bw,call AC (m+10) 37 [pt nb,CO lf sq op a b c u] h=.ok (Bs 0 0 0 z iv bw 0) h'/\h.Ext h'/\h.next<=k/\oneCell iv=true/\oneCell bw=true/\
   ((c=0/\z=0/\bw=ABc/\h'.IL k iv (ks.filter fun x=>decide (x.a=a) && decide (x.b=b)))\/(c≠0/\ks.find? (Bp a b c)=none/\z=60/\iv=ABc/\bw=ABc)\/
    (c≠0/\∃ kx,ks.find? (Bp a b c)=some kx/\z=0/\(∃ b,iv=.slice (some ⟨b,0,none⟩) 1 1/\h'.Row b 0 (CA kx)/\k<=b)/\h'.BS (fun b=>k<=b) bw (kx.l.map bv))):=by
 have bx:=fun (F:ABZ) (e:Env) (he:J 1 e=CO lf sq op a b c u)=>FG (F:=F) W he
 have x1:=(Hp.Ext.refl W).ABY 0 (CJ lf sq op a b c u);have R1:=Hp.Row.new W 0 (CJ lf sq op a b c u);have n1:(h.ABY 0 (CJ lf sq op a b c u)).next=h.next+1:=rfl;generalize h.ABY 0 (CJ lf sq op a b c u)=h1 at bx x1 R1 n1;have al:=fun (F:ABZ) (e:Env)=>BL (F:=F) (e:=e) x1.wf (n:=7) (t:=Ct)
 have Ra:=Hp.Row.alloc x1.wf Ew (show GD.length=7 from rfl);have y2:h1.Ext (h1.push (.cells Ct 7 0)):=(Hp.Ext.refl x1.wf).push _;have n2:(h1.push (.cells Ct 7 0)).next=h1.next+1:=rfl;generalize h1.push (.cells Ct 7 0)=h2 at al Ra y2 n2;have x2:=x1.trans y2;have R2:=R1.ext x1.wf y2;have s2:=s.ext W x2;have big:=W.big;obtain⟨_,_,_,q3,q4,q5,_,_⟩:=B1 R2;by_cases hc:c=0
 ·have c1:iEq c 0=true:=CU hc
  obtain⟨h3,k3,iv,c3,x3,hk,I3⟩:=Qj (m:=m+4) (P:=fun x=>decide (x.a=a) && decide (x.b=b)) x2.wf (Rn.ext W x2) s2 hl (w:=.func (.func 62) ⟨[]⟩ ⟨[pt h.next]⟩) fun g k u xg=>oK (m:=m+7) xg.wf (R2.ext x2.wf xg)
  obtain⟨i1,i2,i3⟩:=S7 I3;obtain⟨h4,st4,f4,R4⟩:=EE (lf:=0) (sq:=0) (op:=0) (err:=0) (iv:=iv) (bw:=ABc) (room:=0) x3.wf (Ra.ext y2.wf x3) rfl (by omega) i3 rfl;have bd:=fun (F:ABZ) (e:Env) (e1:J 12 e=iv)=>UM (F:=F) (h:=h3) e1 i1 i2
  refine⟨h4,k3,0,iv,ABc,?_,Fx.xtF (x2.trans x3) f4 (fun b hb=>by rw[hb];omega),by omega,i3,rfl,.inl ⟨hc,rfl,rfl,I3.fx x3.wf f4 fun b hb=>by rw[hb];omega⟩⟩;have hrun:∃ e2,Wt (call AC (m+9)) (As e0 0 [pt nb,CO lf sq op a b c u]) h=.ret e2 h4/\J 4 e2=pt h1.next:=by
   unfold Wt;simp only[iN,IT,sT,By,BY,reduceIte,bx,al,AH,AO,sh,AN,AQ,q5,AK,AJ,c1,Dj,AU,A5,BP,c3,bd,AW,st4];exact⟨_,rfl,by simp[AG]⟩
  obtain⟨e2,r1,r2⟩:=hrun;rw[Sh rfl,Su,r1,Ay,Da (h':=h4) (v:=Bs 0 0 0 0 iv ABc 0) (by rw[r2];exact C2 R4)]
 ·have c1:iEq c 0=false:=B9 hc
  have sm:=s2.same (h':=h2.marked.quiet) rfl;have xm:=x2.marked;obtain⟨_,_,nd,_⟩:=CF ((Rn.ext W x2).same (h':=h2.marked) rfl);obtain⟨_,_,_,p3,p4,p5,_,_⟩:=B1 (R2.same (h':=h2.marked) rfl);obtain⟨g3,v3,c3,x3,hv5,hv1,hfind⟩:=ey (m:=m+4) xm.quiet.wf sm.row sm.ls.ks (fun k hk=>⟨(sm.ko k hk).1.vs.vals,by have:=(sm.ko k hk).2.2.1;omega⟩) (by omega) a b c;have qg:∀ e:Env,J 18 e=pt A.bs->J 20 e=AI AT a->J 22 e=AI AT b->J 24 e=AI AT c->Aa .weak (AS 63 [J 18,J 20,J 22,J 24]) (call AC (m+9)) e h2.marked=.ok (.tuple ⟨[v3,.bool (ks.find? (Bp a b c)).isSome]⟩) (h2.marked.back g3):=fun e e1 e2 e3 e4=>by
   refine Cp ?_ x3 (If _);rw[BP,AU,AU,AU,AU,A5,e1,e2,e3,e4];exact c3
  have y3:h2.Ext (h2.marked.back g3):=(Hp.Ext.refl x2.wf).marked.trans (.back x3);have m3:(h2.marked.back g3).mark=h2.next:=rfl;have F3:=fun kx (hk:ks.find? (Bp a b c)=some kx)=>hfind kx hk
  have V3:∀ (u:IN) (l:List IN),g3.BS (fun b=>h2.next<=b) u l->(h2.marked.back g3).BS (fun b=>h2.next<=b) u l:=fun u l V=>V.same rfl
  generalize h2.marked.back g3=h3 at qg y3 m3 V3;have n3:=y3.next;obtain⟨h4,al5,y4,Ra5,m4⟩:=HN y3.wf FQ (show(A7 0 0 0 0 ABc).length=5 from rfl) (by rw[m3];exact n3);obtain⟨h5,st5,f5,R5,m5⟩:=Td (v:=v3) y4.wf Ra5 rfl (by omega) hv5 hv1;have y5:h3.Ext h5:=Fx.xtF y4 f5 fun b hb=>by rw[hb];exact If _
  have y25:=y3.trans y5;have x5:=x2.trans y25;have W5:=x5.wf;have Ra4:=Ra.ext y2.wf y25;have Rk:=R2.ext x2.wf y25;obtain⟨e1,p1,t0,t3,t4⟩:∃ e1,Wt (call AC (m+9)) (As e0 0 [pt nb,CO lf sq op a b c u]) h=rdM (call AC (m+9)) e1 h2/\J 0 e1=pt nb/\J 3 e1=pt h.next/\J 4 e1=pt h1.next:=by
   unfold Wt;simp only[iN,IT,sT,By,BY,reduceIte,bx,al,AH,AO,sh,AN,AQ,q5,AK,AJ,c1];exact⟨_,rfl,by simp[AG]⟩
  have AHf:=fun (F:ABZ) (e:Env) (e1:J 5 e=pt h3.next) (e2:J 26 e=v3)=>st5 F e (J 5) (J 26) e1 e2
  obtain⟨e2,p2,u0,u3,u4,u5,u6⟩:∃ e2,rdM (call AC (m+9)) e1 h2=rdS (call AC (m+9)) e2 h5/\J 0 e2=pt nb/\J 3 e2=pt h.next/\J 4 e2=pt h1.next/\J 5 e2=pt h3.next/\J 6 e2=.bool (ks.find? (Bp a b c)).isSome:=by
   rw[po];unfold pp;simp only[sT,By,BY,reduceIte,Az,Au,t0,Ai,AH,AO,sh,AN,AQ,nd,t3,p3,p4,p5,qg,Ao,Ax,A2,al5,AHf];exact⟨_,rfl,by simp[AG,t0,t3,t4]⟩
  cases hf:ks.find? (Bp a b c)with
  |none=>
   rw[hf]at u6;have u6:J 6 e2=.bool false:=u6;obtain⟨h6,st6,f6,R6⟩:=EE (lf:=0) (sq:=0) (op:=0) (err:=60) (iv:=ABc) (bw:=ABc) (room:=0) W5 Ra4 rfl (by omega) rfl rfl;have bd:=fun (F:ABZ) (e:Env)=>Hz (F:=F) (e:=e) (h:=h5) (g1:=kV (AI AT 60)) rfl
   refine⟨h6,h.next,60,ABc,ABc,?_,Fx.xtF x5 f6 (fun b hb=>by rw[hb];omega),If _,rfl,rfl,.inr (.inl ⟨hc,rfl,rfl,rfl,rfl⟩)⟩;have hrun:∃ e3,rdS (call AC (m+9)) e2 h5=.ret e3 h6/\J 4 e3=pt h1.next:=by
     rw[bD];unfold rdB;simp only[sT,By,BY,reduceIte,BM,BK,u6,um,bd,AW,u4,st6];exact⟨_,rfl,by simp[AG,u4]⟩
   obtain⟨e3,r1,r2⟩:=hrun;rw[Sh rfl,Su,p1,p2,r1,Ay,Da (h':=h6) (v:=Bs 0 0 0 60 ABc ABc 0) (by rw[r2];exact C2 R6)]
  |some kx=>
   rw[hf]at u6;have u6:J 6 e2=.bool true:=u6;obtain⟨uk,hv,Vk⟩:=F3 kx hf;have VkB:=V3 _ _ Vk;have hkm:=zC hf;have ACk:=H7 (yF hf);obtain⟨j,hj,hix⟩:∃ j:Nat,ks[j]? =some kx/\Fd (Bp a b c) 0 ks=(j:Int):=by
     rcases Dw (Bp a b c) ks 0 with ⟨h1,_⟩|⟨j,k',h1,h2,h3⟩
     ·rw[hf]at h1;cases h1
     ·rw[hf]at h1
      cases h1;exact⟨j,h2,by rw[h3,sh]⟩
   have s5:=(s.ext W x5).same (h':=h5.marked.quiet) rfl;have xm5:=x5.marked;obtain⟨g6,rr,k6,x6,hr⟩:=bY (m:=m+3) xm5.quiet.wf s5 hj hix ACk (hp kx hkm);have hrr:rr=true:=hr.2 (ht kx hkm);subst hrr;have qs:∀ e:Env,J 36 e=pt A.bs->J 38 e=AI AT a->J 40 e=AI AT b->J 42 e=AI AT c->Aa .free (AS 64 [J 36,J 38,J 40,J 42]) (call AC (m+9)) e h5.marked=.ok (.bool true) (h5.marked.back g6):=fun e e1 e2 e3 e4=>by
     refine BF ?_;rw[BP,AU,AU,AU,AU,A5,e1,e2,e3,e4];exact k6
   have y6:h5.Ext (h5.marked.back g6):=(Hp.Ext.refl W5).marked.trans (.back x6);generalize h5.marked.back g6=h6 at qs y6;obtain⟨_,_,nd5,_⟩:=CF ((Rn.ext W x5).same (h':=h5.marked) rfl);obtain⟨_,_,_,z3,z4,z5,_,_⟩:=B1 (Rk.same (h':=h5.marked) rfl);obtain⟨e3,p3',w4,w5⟩:∃ e3,rdS (call AC (m+9)) e2 h5=rdE (call AC (m+9)) e3 h6/\J 4 e3=pt h1.next/\J 5 e3=pt h3.next:=by
     rw[bD];unfold rdB;simp only[sT,By,BY,reduceIte,BM,BK,u6,uX,Az,Au,u0,Ai,AH,AO,sh,AN,AQ,nd5,u3,z3,z4,z5,qs];exact⟨_,rfl,by simp[AG,u4,u5]⟩
   rw[hv]at R5;have x56:=x5.trans y6;have W6:=x56.wf;have R5':=(R5.ext W5 y6).same (h':=h6.marked) rfl;have xm6:=x56.marked;obtain⟨_,_,_,_,lu,ldk⟩:=Br R5';have hmx:h3.next<h6.marked.mark:=(R5.ext W5 y6).lt W6;obtain⟨g7,ki,x7⟩:=VL (m:=m+8) (x:=kx) (u:=uk) xm6.quiet.wf;have qi:∀ e:Env,J 46 e=Bn kx.a kx.b kx.c kx.s uk->Aa .weak (AS 65 [J 46]) (call AC (m+9)) e h6.marked=.ok (FE kx) (h6.marked.back g7):=fun e e1=>by
     refine Cp ?_ x7 (If _);rw[BP,AU,A5,e1];exact ki
   have y7:h6.Ext (h6.marked.back g7):=(Hp.Ext.refl W6).marked.trans (.back x7);have m7:(h6.marked.back g7).mark=h6.next:=rfl;generalize h6.marked.back g7=h7 at qi y7 m7;have W7:=y7.wf;have n7:=y7.next;have qsl:∀ (F:ABZ) (e:Env),J 47 e=FE kx->Aa .ABn (Ab 1 (BO NJ.zero 1) [(0,4,J 47)]) F e h7=.ok (.slice (some ⟨h7.next,0,none⟩) 1 1) (h7.back (h7.quiet.ABY 0 (CA kx))):=fun F e e1=>by
     have:=MS (F:=F) (e:=e) W7.quiet (g:=J 47) e1;exact Cp this ((Hp.Ext.refl W7.quiet).ABY _ _) (by rw[m7];exact n7)
   have y8:h7.Ext (h7.back (h7.quiet.ABY 0 (CA kx))):=.back ((Hp.Ext.refl W7.quiet).ABY _ _);have R8:(h7.back (h7.quiet.ABY 0 (CA kx))).Row h7.next 0 (CA kx):=(Hp.Row.new W7.quiet 0 (CA kx)).same rfl;have m8:(h7.back (h7.quiet.ABY 0 (CA kx))).mark=h6.next:=m7;generalize h7.back (h7.quiet.ABY 0 (CA kx))=h8 at qsl y8 R8 m8;have n8:=y8.next;have R58:=(((R5.ext W5 y6).ext W6 y7).ext W7 y8);obtain⟨_,_,_,_,lu8,_⟩:=Br R58;have AHg:∀ {k:C} {F:ABZ} {e:Env},I5 (.pointer (some ⟨h3.next,4,none⟩)) k F e h8=k F e h8:=Dm (by rw[m8];exact hmx);obtain⟨b1,b2,b3⟩:=Gm VkB.vs.vals;have Ra8:=(((Ra4.ext W5 y6).ext W6 y7).ext W7 y8);have W8:=y8.wf;obtain⟨h9,q9,f9,R9⟩:=Fm (lf:=0) (sq:=0) (op:=0) (err:=0) (iv:=.slice (some ⟨h7.next,0,none⟩) 1 1) (bw:=uk) (room:=0) W8 Ra8 rfl (by omega) rfl b3;have q9':=fun (F:ABZ) (e:Env) (e1:J 4 e=pt h1.next) (e2:J 51 e=Bs 0 0 0 0 (.slice (some ⟨h7.next,0,none⟩) 1 1) uk 0)=>q9 F e (J 4) (J 51) e1 e2
   have bd:=fun (F:ABZ) (e:Env) (e1:J 48 e=.slice (some ⟨h7.next,0,none⟩) 1 1) (e2:J 50 e=uk)=>YQ (F:=F) (h:=h8) e1 e2 rfl rfl b2 b1
   have x8:=(x56.trans y7).trans y8;refine⟨h9,h.next,0,_,uk,?_,Fx.xtF x8 f9 (fun b hb=>by rw[hb];omega),If _,rfl,b3,.inr (.inr ⟨hc,kx,rfl,rfl,⟨h7.next,rfl,f9.row W8 R8 fun hb=>by
     have hb:h7.next=h1.next:=hb;have:=y25.next;have:=y6.next;omega,((x56.trans y7).next)⟩,?_⟩)⟩
   rotate_left
   · refine(((((VkB.ext y3.wf y5).ext W5 y6).ext W6 y7).ext W7 y8).ACf fun b el L hb _ r=>⟨f9.row W8 r (by omega),?_⟩)
     have:=x2.next;have hb:h2.next<=b:=hb;show h.next<=b;omega
   have hrun:∃ e4,rdE (call AC (m+9)) e3 h6=.ret e4 h9/\J 4 e4=pt h1.next:=by
     unfold rdE;simp only[sT,By,BY,reduceIte,Az,Ap,Aj,w5,ldk,qi,qsl,AH,AO,sh,EG,AHg,DU,AN,AQ,lu8,bd,w4,q9'];exact⟨_,rfl,by simp[AG,w4]⟩
   obtain⟨e4,r1,r2⟩:=hrun;rw[Sh rfl,Su,p1,p2,p3',r1,Ay,Da (h':=h9) (v:=Bs 0 0 0 0 (.slice (some ⟨h7.next,0,none⟩) 1 1) uk 0) (by rw[r2];exact C2 R9)]
end
end
end Go.Proofs.YtbjadbhkogcfeaaGreat

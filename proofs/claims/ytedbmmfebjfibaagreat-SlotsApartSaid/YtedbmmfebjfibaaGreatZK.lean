/-
  Part ZK of what Lawap stands on: printed by program, names and spaces cut.
-/
import Derived.Test.YtedbmmfebjfibaaGreatZJ
set_option linter.unusedVariables false
set_option linter.unusedSimpArgs false
namespace Go.Proofs.YtedbmmfebjfibaaGreat
noncomputable section
open Go
set_option maxRecDepth 100000
def B7(a b c:Int)(s:Nat)(u:Value):Value:=.agg ⟨[.int .i64 a,.int .i64 b,.int .i64 c,.int .u8 (s:Int),u]⟩
def A0(a b c:Int)(s:Nat)(u:Value):List Value:=[.int .i64 a,.int .i64 b,.int .i64 c,.int .u8 (s:Int),u]
theorem Qy{F:CallF}{h:Hp}(W:h.Wf){a b c:Int}{s:Nat}{u:Value}{g:O}{e:Env}(he:g e=B7 a b c s u):DD g F e h=.ok (.pointer (some ⟨h.next,0,none⟩)) (h.pushRow 0 (A0 a b c s u)):=by
 rw[Fe,he,FR W];rfl
theorem B4{h:Hp}{r:Nat}{a b c:Int}{s:Nat}{u:Value}(R:h.Row r 0 (A0 a b c s u)):load1 ⟨r,0,none⟩ h=.ok (.int .i64 a) h∧load1 ⟨r,1,none⟩ h=.ok (.int .i64 b) h∧load1 ⟨r,2,none⟩ h=.ok (.int .i64 c) h∧load1 ⟨r,3,none⟩ h=.ok (.int .u8 (s:Int)) h∧load1 ⟨r,4,none⟩ h=.ok u h∧loadN 5 ⟨r,0,none⟩ h=.ok (B7 a b c s u) h:=
 ⟨R.load1 (off:=0) (by show 0<5;omega),R.load1 (off:=1) (by show 1<5;omega),R.load1 (off:=2) (by show 2<5;omega),R.load1 (off:=3) (by show 3<5;omega),R.load1 (off:=4) (by show 4<5;omega),R.loadN (off:=0) (n:=5) (by show 0+5≤5;omega)⟩
theorem Gw{a b:Int}(h:b≤a):iGe a b=true:=(N9 a b).trans (decide_eq_true h)
theorem E3{a b:Int}(h:¬ b≤a):iGe a b=false:=(N9 a b).trans (decide_eq_false h)
theorem KF{a b:Int}(h:a≤b):iLe a b=true:=(Ro a b).trans (decide_eq_true h)
theorem Pg{a b:Int}(h:¬ a≤b):iLe a b=false:=(Ro a b).trans (decide_eq_false h)
theorem Hw{a b:Int}(h:a<b):iLt a b=true:=(Cr a b).trans (decide_eq_true h)
theorem E5{a b:Int}(h:¬ a<b):iLt a b=false:=(Cr a b).trans (decide_eq_false h)
theorem E4{a b:Int}(h:b<a):iGt a b=true:=(Gx a b).trans (decide_eq_true h)
theorem Ee{a b:Int}(h:¬ b<a):iGt a b=false:=(Gx a b).trans (decide_eq_false h)
theorem CN{a b:Int}(h:a=b):iEq a b=true:=by rw[Dp];simpa using h
theorem BW{a b:Int}(h:¬ a=b):iEq a b=false:=by rw[Dp];simpa using h
theorem NK{a b:Int}(h:¬ a=b):iNe a b=true:=by rw[Gy];simpa using h
theorem Cm{a b:Int}(h:a=b):iNe a b=false:=by rw[Gy];simpa using h
theorem SV{F:CallF}{h:Hp}(W:h.Wf){a b c:Int}{s n:Nat}{u:Value}(hu:∀ g,lenSR u g=.ok (.int .i64 (n:Int)) g):A2 [.t (AB 2)] (d40 F (AQ e0 0 [B7 a b c s u]) h)=.ok (.bool (rightS a b c s n)) (h.pushRow 0 (A0 a b c s u)):=by
 have R:=Hp.Row.new W 0 (A0 a b c s u)
 have bx:∀ e:Env,AB 0 e=B7 a b c s u→DD (AB 0) F e h=.ok (.pointer (some ⟨h.next,0,none⟩)) (h.pushRow 0 (A0 a b c s u)):=fun e he=>Qy W he
 generalize h.pushRow 0 (A0 a b c s u)=h1 at R bx
 obtain⟨l0,l1,l2,l3,l4,_⟩:=B4 R
 unfold d40
 by_cases k1:0≤a
 ·have c1:iGe a 0=true:=Gw k1
  by_cases k2:a≤1099511627776
  ·have c2:iLe a 1099511627776=true:=KF k2
   by_cases k3:0≤b
   ·have c3:iGe b 0=true:=Gw k3
    by_cases k4:b<255
    ·have c4:iLt b 255=true:=Hw k4
     by_cases k5:1≤c
     ·have c5:iGe c 1=true:=Gw k5
      by_cases k6:c≤1099511627776
      ·have c6:iLe c 1099511627776=true:=KF k6
       by_cases k7:(s:Int)=1
       ·have c7:iEq (s:Int) 1=true:=CN k7
        by_cases k9:(n:Int)≤65536
        ·have c9:iLe (n:Int) 65536=true:=KF k9
         rw[show rightS a b c s n=true from decide_eq_true (by omega)]
         simp only[iN,Nat.reduceAdd,sT,Nat.reduceLT,Nat.reduceEqDiff,reduceIte,gD,bx,AJ,AN,AM,AP,l0,l1,l2,l3,l4,AL,AK,Ae,hu,c1,c2,c3,c4,c5,c6,c7,c9,lV0]
        ·have c9:iLe (n:Int) 65536=false:=Pg k9
         rw[show rightS a b c s n=false from decide_eq_false (by omega)]
         simp only[iN,Nat.reduceAdd,sT,Nat.reduceLT,Nat.reduceEqDiff,reduceIte,gD,bx,AJ,AN,AM,AP,l0,l1,l2,l3,l4,AL,AK,Ae,hu,c1,c2,c3,c4,c5,c6,c7,c9,lV0]
       ·have c7:iEq (s:Int) 1=false:=BW k7
        by_cases k8:(s:Int)=2
        ·have c8:iEq (s:Int) 2=true:=CN k8
         by_cases k9:(n:Int)≤65536
         ·have c9:iLe (n:Int) 65536=true:=KF k9
          rw[show rightS a b c s n=true from decide_eq_true (by omega)]
          simp only[iN,Nat.reduceAdd,sT,Nat.reduceLT,Nat.reduceEqDiff,reduceIte,gD,bx,AJ,AN,AM,AP,l0,l1,l2,l3,l4,AL,AK,Ae,hu,c1,c2,c3,c4,c5,c6,c7,c8,c9,lV0]
         ·have c9:iLe (n:Int) 65536=false:=Pg k9
          rw[show rightS a b c s n=false from decide_eq_false (by omega)]
          simp only[iN,Nat.reduceAdd,sT,Nat.reduceLT,Nat.reduceEqDiff,reduceIte,gD,bx,AJ,AN,AM,AP,l0,l1,l2,l3,l4,AL,AK,Ae,hu,c1,c2,c3,c4,c5,c6,c7,c8,c9,lV0]
        ·have c8:iEq (s:Int) 2=false:=BW k8
         rw[show rightS a b c s n=false from decide_eq_false (by omega)]
         simp only[iN,Nat.reduceAdd,sT,Nat.reduceLT,Nat.reduceEqDiff,reduceIte,gD,bx,AJ,AN,AM,AP,l0,l1,l2,l3,l4,AL,AK,Ae,hu,c1,c2,c3,c4,c5,c6,c7,c8,lV0]
      ·have c6:iLe c 1099511627776=false:=Pg k6
       rw[show rightS a b c s n=false from decide_eq_false (by omega)]
       simp only[iN,Nat.reduceAdd,sT,Nat.reduceLT,Nat.reduceEqDiff,reduceIte,gD,bx,AJ,AN,AM,AP,l0,l1,l2,l3,l4,AL,AK,Ae,hu,c1,c2,c3,c4,c5,c6,lV0]
     ·have c5:iGe c 1=false:=E3 k5
      rw[show rightS a b c s n=false from decide_eq_false (by omega)]
      simp only[iN,Nat.reduceAdd,sT,Nat.reduceLT,Nat.reduceEqDiff,reduceIte,gD,bx,AJ,AN,AM,AP,l0,l1,l2,l3,l4,AL,AK,Ae,hu,c1,c2,c3,c4,c5,lV0]
    ·have c4:iLt b 255=false:=E5 k4
     rw[show rightS a b c s n=false from decide_eq_false (by omega)]
     simp only[iN,Nat.reduceAdd,sT,Nat.reduceLT,Nat.reduceEqDiff,reduceIte,gD,bx,AJ,AN,AM,AP,l0,l1,l2,l3,l4,AL,AK,Ae,hu,c1,c2,c3,c4,lV0]
   ·have c3:iGe b 0=false:=E3 k3
    rw[show rightS a b c s n=false from decide_eq_false (by omega)]
    simp only[iN,Nat.reduceAdd,sT,Nat.reduceLT,Nat.reduceEqDiff,reduceIte,gD,bx,AJ,AN,AM,AP,l0,l1,l2,l3,l4,AL,AK,Ae,hu,c1,c2,c3,lV0]
  ·have c2:iLe a 1099511627776=false:=Pg k2
   rw[show rightS a b c s n=false from decide_eq_false (by omega)]
   simp only[iN,Nat.reduceAdd,sT,Nat.reduceLT,Nat.reduceEqDiff,reduceIte,gD,bx,AJ,AN,AM,AP,l0,l1,l2,l3,l4,AL,AK,Ae,hu,c1,c2,lV0]
 ·have c1:iGe a 0=false:=E3 k1
  rw[show rightS a b c s n=false from decide_eq_false (by omega)]
  simp only[iN,Nat.reduceAdd,sT,Nat.reduceLT,Nat.reduceEqDiff,reduceIte,gD,bx,AJ,AN,AM,AP,l0,l1,l2,l3,l4,AL,AK,Ae,hu,c1,lV0]
theorem JC{n:Nat}{h:Hp}(W:h.Wf){a b c:Int}{s m:Nat}{u:Value}(hu:∀ g,lenSR u g=.ok (.int .i64 (m:Int)) g):call AD (n+1) 40 [B7 a b c s u] h=.ok (.bool (rightS a b c s m)) (h.pushRow 0 (A0 a b c s u)):=by
 rw[iL rfl];exact SV W hu
def Ni(z:Int):Nat:=if z<0∨65536<z then 0 else 1+(z.toNat+63) / 64
theorem kS{F:CallF}{e:Env}{h:Hp}{x y:O}{k j:IntKind}{a b:Int}(hx:x e=.int k a)(hy:y e=.int j b):VV x y F e h=.ok (.int k (min a b)) h:=by
 show G8 true (x e) (y e) h=_
 rw[hx,hy]
 show(bif iLt b a then R.ok (.int k b) h else .ok (.int k a) h)=_
 rw[Cr]
 rcases Int.lt_or_le b a with hlt|hle
 ·rw[decide_eq_true hlt,Int.min_eq_right (by omega)];rfl
 ·rw[decide_eq_false (by omega),Int.min_eq_left hle];rfl
theorem UC{n:Nat}{h:Hp}{z:Int}:call AD (n+1) 57 [.int .i64 z] h=.ok (.int .i64 (Ni z:Nat)) h:=by
 rw[iX rfl]
 unfold d57
 by_cases k1:z<0
 ·have c1:iLt z 0=true:=Hw k1
  rw[show Ni z=0 from if_pos (by omega)]
  simp only[iN,Nat.reduceAdd,sT,Nat.reduceLT,Nat.reduceEqDiff,reduceIte,gD,AL,AK,c1,lV0];rfl
 ·have c1:iLt z 0=false:=E5 k1
  by_cases k2:65536<z
  ·have c2:iGt z 65536=true:=E4 k2
   rw[show Ni z=0 from if_pos (by omega)]
   simp only[iN,Nat.reduceAdd,sT,Nat.reduceLT,Nat.reduceEqDiff,reduceIte,gD,AL,AK,c1,c2,lV0];rfl
  ·have c2:iGt z 65536=false:=Ee k2
   obtain⟨m,rfl⟩:=Int.eq_ofNat_of_zero_le (show 0≤z by omega)
   have a1:FK .i64 (.int .i64 (m:Int)) (.int .i64 64) h=.ok (.int .i64 ((m+64:Nat):Int)) h:=by
    rw[ES,show(m:Int)+64=((m+64:Nat):Int)by omega,Ba (by omega)]
   have a2:Fl Int.sub .i64 (.int .i64 ((m+64:Nat):Int)) (.int .i64 1) h=.ok (.int .i64 ((m+63:Nat):Int)) h:=by
    have:Int.sub ((m+64:Nat):Int) 1=((m+63:Nat):Int):=by show((m+64:Nat):Int) - 1=_;omega
    rw[CT,this,Ba (by omega)]
   have a3:Re .i64 (.int .i64 ((m+63:Nat):Int)) (.int .i64 64) h=.ok (.int .i64 (((m+63) / 64:Nat):Int)) h:=by
    have:IntKind.i64.wrap (((m+63:Nat):Int).tdiv 64)=(((m+63) / 64:Nat):Int):=Ba (n:=(m+63) / 64) (by omega)
    rw[Kn (by omega),this]
   have a4:FK .i64 (.int .i64 1) (.int .i64 (((m+63) / 64:Nat):Int)) h=.ok (.int .i64 ((Ni (m:Int):Nat):Int)) h:=by
    rw[show Ni (m:Int)=1+((m:Int).toNat+63) / 64 from if_neg (by omega),Int.toNat_natCast,ES,show(1:Int)+(((m+63) / 64:Nat):Int)=((1+(m+63) / 64:Nat):Int)by omega,Ba (by omega)]
   simp only[iN,Nat.reduceAdd,sT,Nat.reduceLT,Nat.reduceEqDiff,reduceIte,gD,AL,AK,c1,c2,BK,a1,Bs,a2,I5,a3,a4,lV0]
end
noncomputable section
open Go
set_option maxRecDepth 100000
def B6(a b c s m t:Nat):List Nat:=[s,a,b,c,m,t]
theorem X3{a b c s m t:Nat}(ha:a≤1099511627776)(hb:b<255)(hc:c≤1099511627776)(hs:s<256)(hm:m≤65536)(ht:t<4294967296):∀ v∈B6 a b c s m t,v<18446744073709551616:=fun v hv=>by
 unfold B6 at hv
 simp only[List.mem_cons,List.mem_nil_iff,or_false]at hv
 omega
theorem NY{a b c s m t:Nat}(ha:a≤1099511627776)(hb:b<255)(hc:c≤1099511627776)(hs:s<256)(hm:m≤65536)(ht:t<4294967296):(Bq (B6 a b c s m t)).length≤40:=by
 have h1:=Di 1 s (by show s<16384;omega)
 have h2:=Di 5 a (by show a<4398046511104;omega)
 have h3:=Di 1 b (by show b<16384;omega)
 have h4:=Di 5 c (by show c<4398046511104;omega)
 have h5:=Di 2 m (by show m<2097152;omega)
 have h6:=Di 4 t (by show t<34359738368;omega)
 show(Bz s++(Bz a++(Bz b++(Bz c++(Bz m++(Bz t++[])))))).length≤40
 simp only[List.length_append,List.length_nil]
 omega
theorem Je{k:IntKind}{n:Nat}(hn:n≤18446744073709551615){h:Hp}:DR .u64 (.int k (n:Int)) h=.ok (.int .u64 (n:Int)) h:=by rw[Ck,D7 hn]
def qh(T:List Nat)(a b c:Int)(s:Nat)(l:List Nat)(h h':Hp)(r:R):Prop:=(rightS a b c s l.length=true∧∃ v,r=.ok (.tuple ⟨[v,.int .i64 0]⟩) h'∧Mk h' h.next v (EA T (KZ (B6 a.toNat b.toNat c.toNat s l.length (B3 T l)))))∨(rightS a b c s l.length=false∧r=.ok (.tuple ⟨[.slice none 0 0,.int .i64 2]⟩) h')
end
noncomputable section
open Go
set_option maxRecDepth 100000
def nv(n:Nat):Value:=.int .u64 (n:Int)
theorem Hp.Own.apart{h:Hp}{k en b:Nat}{v:Value}{xs:List Value}(o:h.Own k en v xs)(hb:b<k):¬ blkV v b:=by
 rcases o with ⟨rfl,_⟩|⟨c,rfl,_,h3,_⟩
 ·exact Ft
 ·exact Kk (by omega)
theorem Vb{h0 h:Hp}{k n:Nat}{v:Value}{xs:List Nat}(x0:h0.Ext h)(hk:h0.next≤k)(hk2:k≤h.next)(o:h.Own k 5 v (xs.map bv))(hn:0<n)(hm:xs.length+n≤1000000):
  ∃ h' v',HP 1 1 5 ty5.zero v (.ok n) h=.ok v' h'∧h0.Ext h'∧h'.Own k 5 v' ((xs++List.replicate n 0).map bv)∧h.next≤h'.next:=by
 have W:=x0.wf
 have hz:BO ty5.zero=true:=by kernel_rfl
 have hyl:((List.replicate n 0).map bv).length=n:=by simp
 rw[List.map_append]
 have hx:(xs.map bv).length=xs.length:=List.length_map ..
 generalize hY:(List.replicate n 0).map bv=ys at hyl
 rcases o with ⟨rfl,hnil⟩|⟨b,rfl,r,hb,hb2⟩
 ·rw[hnil]
  obtain⟨t1,t2⟩:=HC ys
  refine⟨h.push (.cells (ofL ys) ys.length 6),.slice (some ⟨h.next,0,none⟩) ys.length ys.length,?_,x0.push _,.inr ⟨h.next,rfl,⟨ofL ys,by rw[W.push_get,if_pos rfl];rfl,t2⟩,hk2,W.big⟩,Nat.le_succ _⟩
  unfold HP
  simp only[Aa,Nat.add_eq,Nat.zero_add]
  have e1:Nat.ble n 0=false:=by
   cases e:Nat.ble n 0
   ·rfl
   ·have:=Af.1 e;omega
  have e2:Nat.ble (Nat.mul (Nat.succ n) (Nat.succ 1)) Ix=true:=Af.2 (Hb (by show(n+1) * 2≤1099511627776;omega))
  rw[e1]
  simp only[e2,cond_true,hz,K5,hY]
  unfold Gh BF Iu
  simp only[List.nil_append,t1]
  unfold Ed
  simp only[BN]
  unfold CG
  rw[Aa,Ci W,hyl];rfl
 ·obtain⟨cc,hcc,hl⟩:=r.rowOf
  rw[hx]at hcc
  obtain⟨t,h2,h3⟩:=Dh ys cc (xs.map bv) xs.length hl (.inr hx.symm)
  have h3:t.Is (xs.map bv++ys):=by
   have e:(xs.map bv).drop (xs.length+ys.length)=[]:=List.drop_of_length_le (by omega)
   have e':(xs.map bv).take xs.length=xs.map bv:=List.take_of_length_le (by omega)
   rw[e,e']at h3
   simpa using h3
  have hlen:(xs.map bv++ys).length=xs.length+n:=by rw[List.length_append,hx,hyl]
  have hlt:=r.lt W
  have W1:(h.put b .dead).Wf:=W.put hlt _
  have x1:h0.Ext (h.put b .dead):=x0.put (by omega) hlt _
  refine⟨(h.put b .dead).push (.cells t (xs.length+n) 6),.slice (some ⟨h.next,0,none⟩) (xs.length+n) (xs.length+n),?_,x1.push _,.inr ⟨h.next,by rw[hlen],⟨t,by
   have:=W1.push_get (.cells t (xs.length+n) 6) h.next
   rw[this,if_pos (show h.next=(h.put b .dead).next from rfl),hlen],h3⟩,hk2,W.big⟩,Nat.le_succ _⟩
  rw[hx]
  unfold HP
  simp only[Aa,Nat.add_eq]
  have e1:Nat.ble (xs.length+n) xs.length=false:=by
   cases e:Nat.ble (xs.length+n) xs.length
   ·rfl
   ·have:=Af.1 e;omega
  have e2:Nat.ble (Nat.mul (Nat.succ (xs.length+n)) (Nat.succ 1)) Ix=true:=Af.2 (Hb (by show(xs.length+n+1) * 2≤1099511627776;omega))
  rw[e1]
  simp only[e2,cond_true,hz,K5,hY]
  unfold Gh
  have e3:Nat.beq xs.length (Nat.mul xs.length 1)=true:=Al.2 (Nat.mul_one _).symm
  simp only[hcc,e3,h2]
  unfold Ed
  have e4:KA 0 xs.length 1 xs.length=true:=by
   unfold KA
   cases xs.length with
   |zero=>rfl
   |succ n=>exact Al.2 (by show 0+(n+1) * 1=n+1;omega)
  simp only[hcc,BN,Nat.add_eq,Nat.beq_refl,cond_true,e4]
  rw[Df W hb2 hlt]
  unfold CG
  rw[Aa,Ci W1,hyl];rfl
theorem QC{F:CallF}{e:Env}{h:Hp}{x y:O}{n:Nat}{v:Value}(hx:x e=v)(hy:y e=.int .i64 (n:Int)):FA 1 1 5 ty5.zero x y F e h=HP 1 1 5 ty5.zero v (.ok n) h:=by
 unfold FA
 rw[hx,hy,Cs]
theorem dy:BJ Q7.zero 6=[nv 0,nv 0,nv 0,nv 0,nv 0,nv 0]:=by kernel_rfl
theorem Wl{n:Nat}:cellsOf (nv n)=[nv n]:=rfl
theorem Vi{F:CallF}{e:Env}{h:Hp}(W:h.Wf){g1 g2 g3 g4 g5 g6:O}{a b c d i j:Nat}(h1:g1 e=nv a)(h2:g2 e=nv b)(h3:g3 e=nv c)(h4:g4 e=nv d)(h5:g5 e=nv i)(h6:g6 e=nv j):
  Ah 6 (BJ Q7.zero 6) [(0,1,g1),(1,1,g2),(2,1,g3),(3,1,g4),(4,1,g5),(5,1,g6)] F e h=.ok (.slice (some ⟨h.next,0,none⟩) 6 6) (h.pushRow 0 ([a,b,c,d,i,j].map nv)):=by
 rw[Ca,dy,A6 (hk:=by rw[h1];rfl),h1,A6 (hk:=by rw[h2];rfl),h2,A6 (hk:=by rw[h3];rfl),h3,A6 (hk:=by rw[h4];rfl),h4,A6 (hk:=by rw[h5];rfl),h5,A6 (hk:=by rw[h6];rfl),h6]
 simp only[Wl,List.length_singleton,List.length_cons,List.length_nil,over,List.take,List.drop,List.append_eq,List.nil_append,List.cons_append,Nat.reduceAdd,Nat.reduceLeDiff,if_true,CL,reduceIte]
 rw[DA W];rfl
theorem jy:heS=BG (Ac 0 (Ax heB)) heE:=rfl
theorem W7:d44=W9:=rfl
theorem bJ{n:Nat}{h0 h:Hp}(x0:h0.Ext h){b6:Nat}(hb6:b6<h.next)(hk:h0.next≤h.next){ns:List Nat}(R6:h.Row b6 0 (ns.map nv))(hns:∀ v∈ns,v<18446744073709551616)(h6:ns.length=6){p:Value}{e:Env}
  (s0:AB 0 e=p)(s6:AB 6 e=.slice none 0 0)(s33:AB 33 e=.slice (some ⟨b6,0,none⟩) 6 6)(s34:AB 34 e=.int .i64 6)(s35:AB 35 e=.int .i64 ((0:Nat):Int)):
  ∃ e' h' v,Ax heB (call AD (n+1)) e h=.exit 0 e' h'∧h0.Ext h'∧h'.Own h.next 5 v ((Bq ns).map bv)∧AB 0 e'=p∧AB 6 e'=v∧h.next≤h'.next:=by
 refine BZ (I:=fun i e' h'=>∃ v,h0.Ext h'∧h'.Own h.next 5 v ((Bq (ns.take i)).map bv)∧h'.Row b6 0 (ns.map nv)∧AB 0 e'=p∧AB 6 e'=v∧AB 33 e'=.slice (some ⟨b6,0,none⟩) 6 6∧AB 34 e'=.int .i64 6∧AB 35 e'=.int .i64 (i:Int)∧h.next≤h'.next∧i≤6)
  (Q:=fun x=>∃ e' h' v,x=.exit 0 e' h'∧h0.Ext h'∧h'.Own h.next 5 v ((Bq ns).map bv)∧AB 0 e'=p∧AB 6 e'=v∧h.next≤h'.next) 6 (by omega) (fun i e' h' ⟨v,x',o',R',t0,t6,t33,t34,t35,hn,hi⟩=>?_)
  ⟨_,x0,.inl ⟨rfl,rfl⟩,R6,s0,s6,s33,s34,s35,Nat.le_refl _,by omega⟩
 by_cases hlt:i<6
 ·left
  have c1:iLt (i:Int) 6=true:=E8 (b:=6) hlt
  have hil:i<ns.length:=by omega
  have i1:idxSR 1 (.slice (some ⟨b6,0,none⟩) 6 6) (.int .i64 (i:Int)) h'=.ok (.pointer (some ⟨b6,i,none⟩)) h':=by
   have:=DX (h:=h') (n:=6) (c:=6) (es:=1) (b:=b6) (off:=0) (i:=i) (k:=.i64) hlt
   rwa [Nat.zero_add,Nat.mul_one]at this
  have l1:load1 ⟨b6,i,none⟩ h'=.ok (.int .u64 ((ns[i]'hil:Nat):Int)) h':=by
   rw[R'.load1 (off:=i) (by rw[List.length_map];exact hil),List.getD_eq_getElem?_getD,List.getElem?_map,List.getElem?_eq_getElem hil];rfl
  have htl:(Bq (ns.take i)).length≤1000000:=by
   have h1:=IU (ns:=ns.take i) fun v hv=>hns v (List.mem_of_mem_take hv)
   rw[List.length_take]at h1
   omega
  obtain⟨h2,v2,k2,x2,o2,hn2,fr⟩:=dq (n:=n) x' hk hn o' htl (hns _ (List.getElem_mem hil))
  have a3:=CQ (i:=i) (h:=h2) (by omega)
  have R2:=(fr b6 0 _ (o'.apart hb6) R').1
  have htk:Bq (ns.take i)++Bz (ns[i]'hil)=Bq (ns.take (i+1)):=by
   rw[List.take_succ_eq_append_getElem hil,Sf]
   show _=_++(Bz _++[])
   rw[List.append_nil]
  rw[htk]at o2
  have hrun:∃ e2,heB (call AD (n+1)) e' h'=.norm e2 h2∧AB 0 e2=p∧AB 6 e2=v2∧AB 33 e2=.slice (some ⟨b6,0,none⟩) 6 6∧AB 34 e2=.int .i64 6∧AB 35 e2=.int .i64 ((i+1:Nat):Int):=by
   unfold heB
   simp only[sT,Nat.reduceLT,Nat.reduceEqDiff,reduceIte,AL,AK,t35,t34,c1,Az,t33,i1,AM,AP,l1,cA0,t6,k2,BK,a3]
   exact⟨_,rfl,by simp[AG,t0,t33,t34]⟩
  obtain⟨e2,q1,q2,q3,q4,q5,q6⟩:=hrun
  exact⟨by omega,e2,h2,q1,v2,x2,o2,R2,q2,q3,q4,q5,q6,by omega,by omega⟩
 ·right
  have hi6:i=6:=by omega
  subst hi6
  have c1:iLt ((6:Nat):Int) 6=false:=DI (a:=6) (b:=6) (by omega)
  have hrun:∃ e2,heB (call AD (n+1)) e' h'=.exit 0 e2 h'∧AB 0 e2=p∧AB 6 e2=v:=by
   unfold heB
   simp only[sT,Nat.reduceLT,Nat.reduceEqDiff,reduceIte,AL,AK,t35,t34,c1]
   exact⟨_,rfl,by simp[AG,t0,t6]⟩
  obtain⟨e2,q1,q2,q3⟩:=hrun
  rw[q1]
  rw[List.take_of_length_le (by omega)]at o'
  exact⟨rfl,e2,h',v,rfl,x',o',q2,q3,hn⟩
theorem TM{n:Nat}{h:Hp}(W:h.Wf){tb:Nat}{T:List Nat}(R:h.Row tb 0 (T.map wv))(hT:TblOk T){a b c:Int}{s:Nat}{u:Value}{l:List Nat}(V:h.Vals u (l.map bv))(hb:∀ x∈l,x<256)(hs:s<256)(hl:l.length≤900000):
  ∃ h',h.Ext h'∧qh T a b c s l h h' (call AD (n+3) 44 [pt tb,B7 a b c s u] h):=by
 have x1:=(Hp.Ext.refl W).pushRow 0 (A0 a b c s u)
 have R1:=Hp.Row.new W 0 (A0 a b c s u)
 have bx:∀ e:Env,AB 1 e=B7 a b c s u→DD (AB 1) (call AD (n+2)) e h=.ok (.pointer (some ⟨h.next,0,none⟩)) (h.pushRow 0 (A0 a b c s u)):=fun e he=>Qy W he
 have n1:(h.pushRow 0 (A0 a b c s u)).next=h.next+1:=rfl
 generalize h.pushRow 0 (A0 a b c s u)=h1 at x1 R1 bx n1
 obtain⟨_,_,_,_,_,ln⟩:=B4 R1
 have k1:=JC (n:=n+1) x1.wf (a:=a) (b:=b) (c:=c) (s:=s) (u:=u) V.bl
 have y2:=(Hp.Ext.refl x1.wf).pushRow 0 (A0 a b c s u)
 have n2:(h1.pushRow 0 (A0 a b c s u)).next=h1.next+1:=rfl
 generalize h1.pushRow 0 (A0 a b c s u)=h2 at y2 k1 n2
 have x2:=x1.trans y2
 cases hr:rightS a b c s l.length with
 |false=>
  rw[hr]at k1
  refine⟨h2,x2,.inr ⟨hr,?_⟩⟩
  rw[WZ rfl,W7]
  unfold W9
  simp only[iN,Nat.reduceAdd,sT,Nat.reduceLT,Nat.reduceEqDiff,reduceIte,bx,Aq,Ao,ln,cA0,k1,Bt,Br,Bool.not_false,BX,DH]
 |true=>
  rw[hr]at k1
  obtain⟨ha1,ha2,hb1,hb2,hc1,hc2,hs2,hm⟩:=of_decide_eq_true hr
  have xm:=x2.marked
  have R2:h2.marked.Row h.next 0 (A0 a b c s u):=(R1.ext x1.wf y2).same rfl
  obtain⟨m0,m1,m2,m3,m4,_⟩:=B4 R2
  have hmk:h.next<h2.marked.mark:=by show h.next<h2.next;omega
  have old:∀ (off:Nat) (k:C) (F:CallF) (e:Env),J1 (.pointer (some ⟨h.next,off,none⟩)) k F e h2.marked=k F e h2.marked:=fun off k F e=>Dy hmk
  have Vl:=V.bl h2.marked
  obtain⟨a',rfl⟩:=Int.eq_ofNat_of_zero_le ha1
  obtain⟨b',rfl⟩:=Int.eq_ofNat_of_zero_le hb1
  obtain⟨c',rfl⟩:=Int.eq_ofNat_of_zero_le (show 0≤c by omega)
  have cs:=Je (k:=.u8) (n:=s) (by omega) (h:=h2.marked)
  have ca:=Je (k:=.i64) (n:=a') (by omega) (h:=h2.marked)
  have cb:=Je (k:=.i64) (n:=b') (by omega) (h:=h2.marked)
  have cc:=Je (k:=.i64) (n:=c') (by omega) (h:=h2.marked)
  have cm:=Je (k:=.i64) (n:=l.length) (by omega) (h:=h2.marked)
  obtain⟨hq,kq,hq2⟩:=Sa (n:=n+1) (h:=h2.marked.quiet) (R.ext W xm.quiet) hT (V.ext W xm.quiet) hb hl
  have yq:h2.marked.quiet.Ext hq:=by
   rcases hq2 with rfl|rfl
   ·exact Hp.Ext.refl xm.quiet.wf
   ·exact(Hp.Ext.refl xm.quiet.wf).marked
  have nq:hq.next=h2.next:=by rcases hq2 with rfl|rfl<;>rfl
  have q1:∀ e:Env,AB 0 e=pt tb→AB 30 e=u→Am .weak (AS 71 [AB 0,AB 30]) (call AD (n+2)) e h2.marked=.ok (.int .u32 ((B3 T l:Nat):Int)) (h2.marked.back hq):=fun e h0 h6=>by
   refine DJ ?_ yq (Nat.le_refl _)
   rw[Bb,AY,AY,A3,h0,h6]
   exact kq
  have yb:h2.marked.Ext (h2.marked.back hq):=Hp.Ext.back yq
  have nb:(h2.marked.back hq).next=h2.next:=nq
  have mb:(h2.marked.back hq).mark=h2.next:=rfl
  generalize h2.marked.back hq=h3 at q1 yb nb mb
  have x3:=xm.trans yb
  have ct:=Je (k:=.u32) (n:=B3 T l) (by have:=Hm T l;omega) (h:=h3)
  have y4:h3.quiet.Ext (h3.quiet.pushRow 0 ((B6 a' b' c' s l.length (B3 T l)).map nv)):=(Hp.Ext.refl x3.quiet.wf).pushRow _ _
  have R4:=Hp.Row.new x3.quiet.wf 0 ((B6 a' b' c' s l.length (B3 T l)).map nv)
  have q2:∀ (F:CallF) (e:Env),AB 14 e=nv s→AB 17 e=nv a'→AB 20 e=nv b'→AB 23 e=nv c'→AB 27 e=nv l.length→AB 32 e=nv (B3 T l)→
    Am .strong (Ah 6 (BJ Q7.zero 6) [(0,1,AB 14),(1,1,AB 17),(2,1,AB 20),(3,1,AB 23),(4,1,AB 27),(5,1,AB 32)]) F e h3=.ok (.slice (some ⟨h3.next,0,none⟩) 6 6) (h3.back (h3.quiet.pushRow 0 ((B6 a' b' c' s l.length (B3 T l)).map nv))):=fun F e e1 e2 e3 e4 e5 e6=>
   DJ (Vi x3.quiet.wf e1 e2 e3 e4 e5 e6) y4 (by omega)
  have z4:h3.Ext (h3.back (h3.quiet.pushRow 0 ((B6 a' b' c' s l.length (B3 T l)).map nv))):=Hp.Ext.back y4
  have n4:(h3.back (h3.quiet.pushRow 0 ((B6 a' b' c' s l.length (B3 T l)).map nv))).next=h3.next+1:=rfl
  have R5:(h3.back (h3.quiet.pushRow 0 ((B6 a' b' c' s l.length (B3 T l)).map nv))).Row h3.next 0 ((B6 a' b' c' s l.length (B3 T l)).map nv):=R4.same rfl
  generalize h3.back (h3.quiet.pushRow 0 ((B6 a' b' c' s l.length (B3 T l)).map nv))=h4 at q2 z4 n4 R5
  have x4:=x3.trans z4
  have hnl:=X3 (a:=a') (b:=b') (c:=c') (s:=s) (m:=l.length) (t:=B3 T l) (by omega) (by omega) (by omega) hs (by omega) (Hm T l)
  have hl7:=NY (a:=a') (b:=b') (c:=c') (s:=s) (m:=l.length) (t:=B3 T l) (by omega) (by omega) (by omega) hs (by omega) (Hm T l)
  have pre:∃ e1,W9 (call AD (n+2)) (AQ e0 0 [pt tb,B7 (a':Int) (b':Int) (c':Int) s u]) h=heS (call AD (n+2)) e1 h4∧AB 0 e1=pt tb∧AB 6 e1=.slice none 0 0∧AB 33 e1=.slice (some ⟨h3.next,0,none⟩) 6 6∧AB 34 e1=.int .i64 6∧AB 35 e1=.int .i64 ((0:Nat):Int):=by
   have cs:DR .u64 (.int .u8 (s:Int)) h2.marked=.ok (nv s) h2.marked:=cs
   have ca:DR .u64 (.int .i64 (a':Int)) h2.marked=.ok (nv a') h2.marked:=ca
   have cb:DR .u64 (.int .i64 (b':Int)) h2.marked=.ok (nv b') h2.marked:=cb
   have cc:DR .u64 (.int .i64 (c':Int)) h2.marked=.ok (nv c') h2.marked:=cc
   have cm:DR .u64 (.int .i64 (l.length:Int)) h2.marked=.ok (nv l.length) h2.marked:=cm
   have ct:DR .u64 (.int .u32 ((B3 T l:Nat):Int)) h3=.ok (nv (B3 T l)) h3:=ct
   unfold W9
   simp only[iN,Nat.reduceAdd,sT,Nat.reduceLT,Nat.reduceEqDiff,reduceIte,bx,Aq,Ao,ln,cA0,k1,Bt,Br,Bool.not_true,Ay,AJ,AN,EU,old,DW,AM,AP,m0,m1,m2,m3,m4,CJ,cs,ca,cb,cc,Ae,Vl,cm,q1,ct,q2,Dt]
   exact⟨_,rfl,by simp[AG]⟩
  obtain⟨e1,p1,p2,p3,p4,p5,p6⟩:=pre
  obtain⟨e2,h5,v5,r1,x5,o5,r2,r3,n5⟩:=bJ (n:=n+1) x4 (b6:=h3.next) (by omega) x4.next R5 hnl rfl p2 p3 p4 p5 p6
  have Vl5:=o5.vals.bl h5
  have a1:Fl Int.sub .i64 (.int .i64 60) (.int .i64 ((Bq (B6 a' b' c' s l.length (B3 T l))).length:Int)) h5=.ok (.int .i64 ((60 - (Bq (B6 a' b' c' s l.length (B3 T l))).length:Nat):Int)) h5:=by
   have:Int.sub 60 ((Bq (B6 a' b' c' s l.length (B3 T l))).length:Int)=((60 - (Bq (B6 a' b' c' s l.length (B3 T l))).length:Nat):Int):=by
    show(60:Int) - _=_
    omega
   rw[CT,this,Ba (by omega)]
  obtain⟨h6,v6,k6,x6,o6,n6⟩:=Vb x5 (k:=h4.next) x4.next n5 o5 (n:=60 - (Bq (B6 a' b' c' s l.length (B3 T l))).length) (by omega) (by omega)
  have ap:∀ (F:CallF) (e:Env),AB 6 e=v5→AB 47 e=.int .i64 ((60 - (Bq (B6 a' b' c' s l.length (B3 T l))).length:Nat):Int)→FA 1 1 5 ty5.zero (AB 6) (AB 47) F e h5=.ok v6 h6:=fun F e e1 e2=>(QC e1 e2).trans k6
  have hpl:=MJ (l:=Bq (B6 a' b' c' s l.length (B3 T l))) (by omega)
  have Vp:h6.Vals v6 ((Oc (Bq (B6 a' b' c' s l.length (B3 T l)))).map bv):=o6.vals
  obtain⟨h7,w,k7,y7,m7⟩:=Tx (n:=n) x6.wf (R.ext W x6) hT Vp (Tt Np) (by omega)
  refine⟨h7,x6.trans y7,.inl ⟨hr,w,?_,?_⟩⟩
  ·rw[WZ rfl,W7,p1,jy]
   simp only[BH,Aw,r1,A1,BB]
   unfold heE
   simp only[sT,Nat.reduceLT,Nat.reduceEqDiff,reduceIte,Ae,r3,Vl5,Bs,a1,ap,cA0,r2,k7,BX,DH]
  ·rw[Int.toNat_natCast,Int.toNat_natCast,Int.toNat_natCast]
   exact m7.le x6.next
end
noncomputable section
open Go
set_option maxRecDepth 100000
abbrev nilS:Value:=.slice none 0 0
def okT(ns:List Nat):Value:=.tuple ⟨[B7 (at6 ns 1) (at6 ns 2) (at6 ns 3) (at6 ns 0) nilS,.int .i64 (at6 ns 4:Nat),.int .u32 (at6 ns 5:Nat),.bool true]⟩
def noT:Value:=.tuple ⟨[B7 0 0 0 0 nilS,.int .i64 0,.int .u32 0,.bool false]⟩
theorem Si:Hq.zero=A0 0 0 0 0 nilS:=by kernel_rfl
theorem EX:Bv .mt 0 (A0 0 0 0 0 nilS)=some CV:=by kernel_rfl
theorem ZW:Bv .mt 0 ([0,0,0,0,0,0].map nv)=some Nr:=by kernel_rfl
theorem Jm{e:Env}{h:Hp}{g g1 g2 g3:O}{n:Nat}{v:Value}(hv:Lz n (g e) h=.ok v h):EG [.cN g n,.t g1,.t g2,.t g3] e h=.ok (.tuple ⟨[v,g1 e,g2 e,g3 e]⟩) h:=by
 have h1:Er e h (.cN g n)=.ok v h:=hv
 show(match Er e h (.cN g n)with|.ok v _=>forceV v fun v=>forceV (g1 e) (fun x=>forceV (g2 e) fun y=>forceV (g3 e) fun z=>In h [v,x,y,z])|.no=>.no)=_
 rw[h1]
 simp only[A8];rfl
theorem IM{h g:Hp}(W0:h.Wf)(x:h.Ext g){r:Nat}(hr:h.next≤r){L:List Value}(R:g.Row r 0 L)(hL:L.length=5){a b c:Int}{s:Nat}{u:Value}(hu:oneCell u=true):
  storeR 5 (pt r) (B7 a b c s u) g=.ok noRes (g.wr r 0 (A0 a b c s u))∧loadN 5 ⟨r,0,none⟩ (g.wr r 0 (A0 a b c s u))=.ok (B7 a b c s u) (g.wr r 0 (A0 a b c s u))∧h.Ext (g.wr r 0 (A0 a b c s u))∧(g.wr r 0 (A0 a b c s u)).Row r 0 (A0 a b c s u)∧(g.wr r 0 (A0 a b c s u)).next=g.next:=by
 have h256:256≤r:=by have:=W0.big;omega
 have ho:0+(A0 a b c s u).length≤L.length:=by rw[hL];show 0+5≤5;omega
 have h1:BO (A0 a b c s u)=true:=by
  show(bif oneCell u then true else false)=true
  rw[hu];rfl
 have st:=R.storeR (n:=5) (off:=0) x.wf h256 (v:=B7 a b c s u) rfl ho h1
 have wr:=R.wr_self x.wf ho
 rw[HE (show L.length=(A0 a b c s u).length from hL)]at wr
 exact⟨st,(B4 wr).2.2.2.2.2,R.wr_ext x hr ho,wr,R.wr_next ho⟩
theorem Zt{F:CallF}{e:Env}{h:Hp}{g1 g2 g3 g4:O}{a b c:Int}{s:Nat}(h1:g1 e=.int .u8 (s:Int))(h2:g2 e=.int .i64 a)(h3:g3 e=.int .i64 b)(h4:g4 e=.int .i64 c):
  Bp Hq.zero [(3,1,g1),(0,1,g2),(1,1,g3),(2,1,g4)] F e h=.ok (B7 a b c s nilS) h:=by
 rw[EN,Si,A6 (hk:=by rw[h1];rfl),h1,A6 (hk:=by rw[h2];rfl),h2,A6 (hk:=by rw[h3];rfl),h3,A6 (hk:=by rw[h4];rfl),h4]
 simp only[DO,List.length_singleton,List.length_cons,List.length_nil,A0,over,List.take,List.drop,List.append_eq,List.nil_append,List.cons_append,Nat.reduceAdd,Nat.reduceLeDiff,if_true,CL,reduceIte]
 rfl
theorem C8{F:CallF}{e:Env}{h:Hp}:Bp Hq.zero [] F e h=.ok (B7 0 0 0 0 nilS) h:=by
 rw[EN,CL,Si];rfl
theorem Ph{r k:Nat}(hk:k<6){g:Hp}:Mh 6 1 (pt r) (.int .i64 (k:Int)) g=.ok (.pointer (some ⟨r,k,none⟩)) g:=by
 have:=TR (h:=g) (n:=6) (es:=1) (b:=r) (off:=0) (i:=k) (k:=.i64) hk
 rwa [Nat.zero_add,Nat.mul_one]at this
theorem P8{g:Hp}{r k:Nat}{ns:List Nat}(R:g.Row r 0 (ns.map nv))(h6:ns.length=6)(hk:k<6):load1 ⟨r,k,none⟩ g=.ok (.int .u64 ((at6 ns k:Nat):Int)) g:=by
 have hil:k<ns.length:=by omega
 unfold at6
 rw[R.load1 (off:=k) (by rw[List.length_map];exact hil),List.getD_eq_getElem?_getD,List.getElem?_map,List.getD_eq_getElem?_getD,List.getElem?_eq_getElem hil];rfl
abbrev f112:Value:=.func (.func 112) ⟨[]⟩ ⟨[]⟩
theorem WP{n:Nat}{h:Hp}{c:Nat}:call AD (n+1) 112 [.int .u8 (c:Int)] h=.ok (.bool (iNe (c:Int) 0)) h:=by
 rw[Zy rfl]
 unfold aI
 simp only[iN,Nat.reduceAdd,sT,Nat.reduceLT,Nat.reduceEqDiff,reduceIte,AL,AK,lV0]
theorem OB:ifS=BG (Ac 0 (Ax ifB)) ifE:=rfl
theorem Km:aG=M0:=rfl
theorem bM{n:Nat}{h:Hp}{u:Value}{l:List Nat}(V:h.Vals u (l.map bv))(hl:l.length≤900000){e:Env}(s0:AB 0 e=u)(s1:AB 1 e=f112)(s7:AB 7 e=.int .i64 (l.length:Int))(s8:AB 8 e=.int .i64 ((0:Nat):Int)):
  (∃ e',Ax ifB (call AD (n+1)) e h=.exit 0 e' h∧∀ x∈l,x=0)∨(∃ e' i,Ax ifB (call AD (n+1)) e h=.ret e' h∧AB 4 e'=.int .i64 ((i:Nat):Int)∧∃ x∈l,x≠0):=by
 refine BZ (I:=fun i e' h'=>h'=h∧AB 0 e'=u∧AB 1 e'=f112∧AB 7 e'=.int .i64 (l.length:Int)∧AB 8 e'=.int .i64 (i:Int)∧i≤l.length∧((∀ x∈l,x=0)↔∀ x∈l.drop i,x=0))
  (Q:=fun x=>(∃ e',x=.exit 0 e' h∧∀ x∈l,x=0)∨(∃ e' i,x=.ret e' h∧AB 4 e'=.int .i64 ((i:Nat):Int)∧∃ x∈l,x≠0)) l.length (by omega) (fun i e' h' ⟨hh,t0,t1,t7,t8,hi,hr⟩=>?_) ⟨rfl,s0,s1,s7,s8,Nat.zero_le _,by simp⟩
 subst hh
 by_cases hlt:i<l.length
 ·obtain⟨a,g1,g2⟩:=IX V hlt
  have hmem:l.getD i 0∈l:=by
   rw[List.getD_eq_getElem?_getD,List.getElem?_eq_getElem hlt];exact List.getElem_mem hlt
  rw[Fw hlt]at hr
  generalize l.getD i 0=c at g2 hr hmem
  have c1:=E8 hlt
  have k1:=WP (n:=n) (h:=h') (c:=c)
  by_cases hc:c=0
  ·left
   subst hc
   have k1:call AD (n+1) 112 [.int .u8 ((0:Nat):Int)] h'=.ok (.bool false) h':=k1
   have a3:=CQ (i:=i) (h:=h') (by omega)
   have hrun:∃ e2,ifB (call AD (n+1)) e' h'=.norm e2 h'∧AB 0 e2=u∧AB 1 e2=f112∧AB 7 e2=.int .i64 (l.length:Int)∧AB 8 e2=.int .i64 ((i+1:Nat):Int):=by
    unfold ifB
    simp only[sT,Nat.reduceLT,Nat.reduceEqDiff,reduceIte,AL,AK,t8,t7,c1,Az,t0,g1,AM,g2,Cj,t1,Ch,AY,A3,List.nil_append,List.append_nil,k1,BK,a3]
    exact⟨_,rfl,by simp[AG,t0,t1,t7]⟩
   obtain⟨e2,q1,q2,q3,q4,q5⟩:=hrun
   refine⟨hlt,e2,h',q1,rfl,q2,q3,q4,q5,hlt,hr.trans ?_⟩
   simp
  ·right
   have c2:iNe (c:Int) 0=true:=by rw[Gy];simpa using hc
   rw[c2]at k1
   have hrun:∃ e2,ifB (call AD (n+1)) e' h'=.ret e2 h'∧AB 4 e2=.int .i64 (i:Int):=by
    unfold ifB
    simp only[sT,Nat.reduceLT,Nat.reduceEqDiff,reduceIte,AL,AK,t8,t7,c1,Az,t0,g1,AM,g2,Cj,t1,Ch,AY,A3,List.nil_append,List.append_nil,k1]
    exact⟨_,rfl,by simp[AG]⟩
   obtain⟨e2,q1,q2⟩:=hrun
   rw[q1]
   exact⟨rfl,.inr ⟨e2,i,rfl,q2,c,hmem,hc⟩⟩
 ·right
  have c1:=DI (show l.length≤i by omega)
  have hrun:∃ e2,ifB (call AD (n+1)) e' h'=.exit 0 e2 h':=by
   unfold ifB
   simp only[sT,Nat.reduceLT,Nat.reduceEqDiff,reduceIte,AL,AK,t8,t7,c1]
   exact⟨_,rfl⟩
  obtain⟨e2,q1⟩:=hrun
  rw[q1]
  refine⟨rfl,.inl ⟨e2,rfl,hr.2 ?_⟩⟩
  rw[List.drop_of_length_le (by omega)]
  intro x hx;cases hx
theorem Ug{n:Nat}{h:Hp}{u:Value}{l:List Nat}(V:h.Vals u (l.map bv))(hl:l.length≤900000):∃ r:Bool,call AD (n+3) 85 [u,f112] h=.ok (.bool r) h∧(r=true↔∃ x∈l,x≠0):=by
 have Vl:=V.bl h
 have pre:∃ e1,M0 (call AD (n+1)) (AQ e0 0 [u,f112]) h=ifS (call AD (n+1)) e1 h∧AB 0 e1=u∧AB 1 e1=f112∧AB 7 e1=.int .i64 (l.length:Int)∧AB 8 e1=.int .i64 ((0:Nat):Int):=by
  unfold M0
  simp only[iN,Nat.reduceAdd,sT,Nat.reduceLT,Nat.reduceEqDiff,reduceIte,Ae,Vl]
  exact⟨_,rfl,by simp[AG]⟩
 obtain⟨e1,p1,p2,p3,p4,p5⟩:=pre
 rcases bM (n:=n) V hl p2 p3 p4 p5 with ⟨e2,q1,q2⟩|⟨e2,i,q1,q2,q3⟩
 ·have k1:call AD (n+2) 109 [u,f112] h=.ok (.int .i64 (-1)) h:=by
   rw[Kl rfl,Km,p1,OB]
   simp only[BH,Aw,q1,A1,BB]
   unfold ifE
   simp only[sT,Nat.reduceLT,Nat.reduceEqDiff,reduceIte,lV0]
  refine⟨false,?_,by simp;exact q2⟩
  have c1:iGe (-1) 0=false:=E3 (by omega)
  rw[Nz rfl]
  unfold d85
  simp only[iN,Nat.reduceAdd,sT,Nat.reduceLT,Nat.reduceEqDiff,reduceIte,cA0,k1,AL,AK,c1,lV0]
 ·have k1:call AD (n+2) 109 [u,f112] h=.ok (.int .i64 (i:Int)) h:=by
   rw[Kl rfl,Km,p1,OB]
   simp only[BH,Aw,q1,B8,Co,lV0,q2]
  refine⟨true,?_,by simp only[true_iff];exact q3⟩
  have c1:iGe (i:Int) 0=true:=Gw (by omega)
  rw[Nz rfl]
  unfold d85
  simp only[iN,Nat.reduceAdd,sT,Nat.reduceLT,Nat.reduceEqDiff,reduceIte,cA0,k1,AL,AK,c1,lV0]
theorem PF{h:Hp}{k m:Nat}{v:Value}{l:List Nat}(M:Mk h k v l)(hm:m≤l.length):∃ w,(∀ (F:CallF) (e:Env) (x y:O),x e=v→y e=.int .i64 (m:Int)→Db 5 1 x (some y) none none F e h=.ok w h)∧h.Vals w ((l.drop m).map bv):=by
 obtain⟨b,el,hv,hel,Rb,_⟩:=M
 have hdl:(l.drop m).length=l.length - m:=List.length_drop
 have key:∀ (F:CallF) (e:Env) (x y:O),x e=v→y e=.int .i64 (m:Int)→Db 5 1 x (some y) none none F e h=Dn 5 1 (some ⟨b,0,none⟩) false m l.length l.length h:=fun F e x y hx hy=>by
  have hb:∀ K:Nat→R,CY e (some y) 0 l.length K=K m:=fun K=>by
   show(match Cu (y e)with|.ok n=>(bif Nat.ble n l.length then K n else .no)|.no=>.no)=_
   rw[hy,Cs]
   simp only
   rw[Af.2 hm];rfl
  show(match x e with|.slice a n c=>DB e n c (some y) none none (fun l hh m=>Dn 5 1 a false l hh m h)|_=>.no)=_
  rw[hx,hv]
  show CY e none l.length l.length (fun hh=>CY e (some y) 0 hh fun l'=>Dn 5 1 (some ⟨b,0,none⟩) false l' hh l.length h)=_
  show CY e (some y) 0 l.length (fun l'=>Dn 5 1 (some ⟨b,0,none⟩) false l' l.length l.length h)=_
  rw[hb]
 have key2:Dn 5 1 (some ⟨b,0,none⟩) false m l.length l.length h=Bc (some ⟨b,0,none⟩) 1 m l.length l.length h:=by
  cases m with
  |zero=>rfl
  |succ m=>
   show(bif Eb 5 (some ⟨b,0,none⟩) h then Bc (some ⟨b,0,none⟩) 1 (m+1) l.length l.length h else .no)=_
   have:Eb 5 (some ⟨b,0,none⟩) h=true:=by
    obtain⟨cc,hcc,_⟩:=Rb.rowOf
    unfold Eb
    simp only[hcc]
    rcases hel with rfl|rfl<;>rfl
   rw[this];rfl
 rcases Nat.lt_or_ge m l.length with hlt|hge
 ·refine⟨.slice (some ⟨b,m,none⟩) (l.length - m) (l.length - m),?_,.inr ⟨b,m,l.length - m,el,_,by rw[List.length_map,hdl],Rb,by rw[List.length_map,List.length_map,hdl];omega,?_⟩⟩
  ·intro F e x y hx hy
   rw[key F e x y hx hy,key2]
   unfold Bc
   simp only[Aa]
   have e1:Nat.beq l.length m=false:=by
    cases e:Nat.beq l.length m
    ·rfl
    ·have:=Al.1 e;omega
   rw[e1]
   cases m with
   |zero=>rfl
   |succ m=>
    have e2:Nat.mul (m+1) 1=Nat.succ m:=Nat.mul_one _
    simp only[e2,Nat.add_eq,Nat.zero_add];rfl
  ·rw[List.length_map,hdl,← List.map_drop,List.take_of_length_le (by rw[List.length_map,hdl];exact Nat.le_refl _)]
 ·have hml:m=l.length:=by omega
  subst hml
  refine⟨.slice (some ⟨b,0,none⟩) 0 0,?_,.inr ⟨b,0,0,el,_,by rw[List.drop_length];rfl,Rb,by rw[List.drop_length];exact Nat.zero_le _,by rw[List.drop_length];rfl⟩⟩
  intro F e x y hx hy
  rw[key F e x y hx hy,key2]
  unfold Bc
  simp only[Aa,Nat.sub_eq,Nat.sub_self,Nat.beq_refl]
end
noncomputable section
open Go
set_option maxRecDepth 100000
theorem ST:paS=BG (Ac 0 (Ax paB)) paE:=rfl
theorem LZ:d87=PI:=rfl
theorem Qj(k:Nat)(l:List Nat)(p:Nat):rdN (k+1) l p=(match FP 0 0 (l.drop p)with
 |none=>none
 |some (v,j)=>if v≤1099511627776 then(match rdN k l (p+j)with
  |none=>none
  |some (vs,q)=>some (v::vs,q))else none):=rfl
def V6(h:Hp)(r4:Nat)(e:Env)(g:Hp):Prop:=h.Ext g∧AB 4 e=pt r4∧AB 5 e=.int .i64 0∧AB 6 e=.int .u32 0∧AB 7 e=.bool false∧loadN 5 ⟨r4,0,none⟩ g=.ok (B7 0 0 0 0 nilS) g
theorem dF{n:Nat}{h hB g:Hp}(W0:h.Wf)(xB:h.Ext hB)(x:hB.Ext g){r4 r10:Nat}(hr4:h.next≤r4)(hr10:hB.next≤r10)(R4:hB.Row r4 0 (A0 0 0 0 0 nilS)){v:Value}{l:List Nat}(V:hB.Vals v (l.map bv))(hb:∀ x∈l,x<256)(hl:l.length≤900000)
  (R10:g.Row r10 0 ([0,0,0,0,0,0].map nv)){e:Env}(s4:AB 4 e=pt r4)(s8:AB 8 e=v)(s10:AB 10 e=pt r10)(s11:AB 11 e=.int .i64 ((0:Nat):Int))(s29:AB 29 e=.int .i64 ((0:Nat):Int)):
  (∃ e' g' ns q,Ax paB (call AD (n+1)) e g=.exit 0 e' g'∧hB.Ext g'∧g'.Row r10 0 (ns.map nv)∧rdN 6 l 0=some (ns,q)∧AB 4 e'=pt r4∧AB 8 e'=v∧AB 10 e'=pt r10∧AB 11 e'=.int .i64 (q:Int))∨
  (∃ e' g',Ax paB (call AD (n+1)) e g=.ret e' g'∧rdN 6 l 0=none∧V6 h r4 e' g'):=by
 have WB:=xB.wf
 refine BZ (I:=fun i e' g'=>hB.Ext g'∧∃ (ns:List Nat) (Z:List Value) (p:Nat),ns.length=i∧Z.length=6 - i∧g'.Row r10 0 (ns.map nv++Z)∧AB 4 e'=pt r4∧AB 8 e'=v∧AB 10 e'=pt r10∧AB 11 e'=.int .i64 (p:Int)∧AB 29 e'=.int .i64 (i:Int)∧p≤l.length∧i≤6∧
   rdN 6 l 0=(match rdN (6 - i) l p with|none=>none|some (vs,q)=>some (ns++vs,q)))
  (Q:=fun x=>(∃ e' g' ns q,x=.exit 0 e' g'∧hB.Ext g'∧g'.Row r10 0 (ns.map nv)∧rdN 6 l 0=some (ns,q)∧AB 4 e'=pt r4∧AB 8 e'=v∧AB 10 e'=pt r10∧AB 11 e'=.int .i64 (q:Int))∨
   (∃ e' g',x=.ret e' g'∧rdN 6 l 0=none∧V6 h r4 e' g')) 6 (by omega) (fun i e' g' ⟨x',ns,Z,p,hns,hZ,R',t4,t8,t10,t11,t29,hp,hi,hr⟩=>?_)
  ⟨x,[],_,0,rfl,rfl,R10,s4,s8,s10,s11,s29,Nat.zero_le _,by omega,by
   rw[Nat.sub_zero]
   cases rdN 6 l 0 with
   |none=>rfl
   |some y=>rfl⟩
 by_cases hlt:i<6
 ·have W:=x'.wf
  obtain⟨k,hk⟩:∃ k,6 - i=k+1:=⟨5 - i,by omega⟩
  obtain⟨z,Z',rfl⟩:∃ z Z',Z=z::Z':=by
   cases Z with
   |nil=>rw[List.length_nil]at hZ;omega
   |cons z Z'=>exact⟨z,Z',rfl⟩
  rw[hk,Qj k l p]at hr
  have c1:iLt (i:Int) 6=true:=E8 (b:=6) hlt
  obtain⟨a,b,c,k1,G⟩:=jx (n:=n) (V.ext WB x') hb hp (by omega)
  have i1:=Ph (r:=r10) hlt (g:=g')
  have hal:(ns.map nv).length=i:=by rw[List.length_map];exact hns
  have ho:i+[Value.int .u64 a].length≤(ns.map nv++z::Z').length:=by
   simp only[List.length_append,List.length_cons,List.length_nil,hal];omega
  have h256:256≤r10:=by have:=WB.big;omega
  have st:=R'.storeR (n:=1) (off:=i) W h256 (v:=.int .u64 a) rfl ho rfl
  rw[DO]at st
  have wr:=R'.wr_self W (off:=i) (vs:=[.int .u64 a]) ho
  have x2:=R'.wr_ext x' hr10 (off:=i) (vs:=[.int .u64 a]) ho
  have hov:over (ns.map nv++z::Z') i [.int .u64 a]=ns.map nv++.int .u64 a::Z':=by
   have:=QW (A:=ns.map nv) (B:=Z') (x:=z) (y:=.int .u64 a)
   rwa [hal]at this
  rw[hov]at wr
  generalize g'.wr r10 i [.int .u64 a]=g2 at st wr x2
  have i2:=Ph (r:=r10) hlt (g:=g2)
  have l2:load1 ⟨r10,i,none⟩ g2=.ok (.int .u64 a) g2:=by
   rw[wr.load1 (off:=i) (by simp only[List.length_append,List.length_cons,hal];omega),List.getD_eq_getElem?_getD,List.getElem?_append_right (by rw[hal];exact Nat.le_refl _),hal,Nat.sub_self];rfl
  have a3:=CQ (i:=i) (h:=g2) (by omega)
  obtain⟨w1,w2,w3,_,_⟩:=IM W0 (xB.trans x2) hr4 (R4.ext WB x2) rfl (a:=0) (b:=0) (c:=0) (s:=0) (u:=nilS) rfl
  have fail:rdN 6 l 0=none→(iNe c 0=true∨iNe c 0=false∧iGt a 1099511627776=true)→∃ e2,paB (call AD (n+1)) e' g'=.ret e2 (g2.wr r4 0 (A0 0 0 0 0 nilS))∧AB 4 e2=pt r4∧AB 5 e2=.int .i64 0∧AB 6 e2=.int .u32 0∧AB 7 e2=.bool false:=fun _ hc=>by
   unfold paB
   rcases hc with c2|⟨c2,c3⟩
   ·simp only[sT,Nat.reduceLT,Nat.reduceEqDiff,reduceIte,gD,AL,AK,t29,c1,cA0,t8,t11,k1,BA,BL,BM,CZ,C0,t10,i1,AX,st,c2,C8,t4,w1]
    exact⟨_,rfl,by simp[AG,t4]⟩
   ·simp only[sT,Nat.reduceLT,Nat.reduceEqDiff,reduceIte,gD,AL,AK,t29,c1,cA0,t8,t11,k1,BA,BL,BM,CZ,C0,t10,i1,AX,st,c2,i2,AM,AP,l2,c3,C8,t4,w1]
    exact⟨_,rfl,by simp[AG,t4]⟩
  rcases G with ⟨vv,j,hu,rfl,rfl,rfl⟩|⟨hu,hc⟩
  ·rw[hu]at hr
   simp only at hr
   have c2:iNe 0 0=false:=Cm rfl
   by_cases hv:vv≤1099511627776
   ·left
    rw[if_pos hv]at hr
    have c3:iGt (vv:Int) 1099511627776=false:=Ee (by omega)
    have hbd:∀ x∈l.drop p,x<256:=fun x hx=>hb x (List.mem_of_mem_drop hx)
    have hj:=ed hbd hu
    rw[List.length_drop]at hj
    have hrun:∃ e2,paB (call AD (n+1)) e' g'=.norm e2 g2∧AB 4 e2=pt r4∧AB 8 e2=v∧AB 10 e2=pt r10∧AB 11 e2=.int .i64 ((p+j:Nat):Int)∧AB 29 e2=.int .i64 ((i+1:Nat):Int):=by
     unfold paB
     simp only[sT,Nat.reduceLT,Nat.reduceEqDiff,reduceIte,gD,AL,AK,t29,c1,cA0,t8,t11,k1,BA,BL,BM,CZ,C0,t10,i1,AX,st,c2,i2,AM,AP,l2,c3,BK,a3]
     exact⟨_,rfl,by simp[AG,t4,t8,t10]⟩
    obtain⟨e2,q1,q2,q3,q4,q5,q6⟩:=hrun
    refine⟨hlt,e2,g2,q1,x2,ns++[vv],Z',p+j,by rw[List.length_append,hns];rfl,by rw[List.length_cons]at hZ;omega,?_,q2,q3,q4,q5,q6,by omega,by omega,?_⟩
    ·rw[List.map_append,List.append_assoc];exact wr
    ·rw[hr,show 6 - (i+1)=k by omega]
     cases rdN k l (p+j)with
     |none=>rfl
     |some y=>
      obtain⟨vs,q⟩:=y
      show some (ns++vv::vs,q)=some (ns++[vv]++vs,q)
      rw[List.append_assoc];rfl
   ·right
    rw[if_neg hv]at hr
    have hr:rdN 6 l 0=none:=hr
    obtain⟨e2,q1,q2,q3,q4,q5⟩:=fail hr (.inr ⟨c2,E4 (by omega)⟩)
    rw[q1]
    exact⟨rfl,.inr ⟨e2,_,rfl,hr,w3,q2,q3,q4,q5,w2⟩⟩
  ·right
   rw[hu]at hr
   have hr:rdN 6 l 0=none:=hr
   obtain⟨e2,q1,q2,q3,q4,q5⟩:=fail hr (.inl (NK hc))
   rw[q1]
   exact⟨rfl,.inr ⟨e2,_,rfl,hr,w3,q2,q3,q4,q5,w2⟩⟩
 ·right
  have hi6:i=6:=by omega
  subst hi6
  have c1:iLt ((6:Nat):Int) 6=false:=DI (a:=6) (b:=6) (by omega)
  have hrun:∃ e2,paB (call AD (n+1)) e' g'=.exit 0 e2 g'∧AB 4 e2=pt r4∧AB 8 e2=v∧AB 10 e2=pt r10∧AB 11 e2=.int .i64 (p:Int):=by
   unfold paB
   simp only[sT,Nat.reduceLT,Nat.reduceEqDiff,reduceIte,AL,AK,t29,c1]
   exact⟨_,rfl,by simp[AG,t4,t8,t10,t11]⟩
  obtain⟨e2,q1,q2,q3,q4,q5⟩:=hrun
  rw[q1]
  have hZ0:Z=[]:=List.eq_nil_of_length_eq_zero hZ
  rw[hZ0,List.append_nil]at R'
  have hr:rdN 6 l 0=some (ns++[],p):=hr
  rw[List.append_nil]at hr
  exact⟨rfl,.inl ⟨e2,g',ns,p,rfl,x',R',hr,q2,q3,q4,q5⟩⟩
theorem hU{F:CallF}{e:Env}{h:Hp}{x y z:O}{k:C}{a b c i j m:Nat}(hx:x e=.pointer (some ⟨a,i,none⟩))(hy:y e=.pointer (some ⟨b,j,none⟩))(hz:z e=.pointer (some ⟨c,m,none⟩))(h1:b≠a)(h2:c≠a):Cx x [y,z] k F e h=k F e h:=by
 have n1:Nat.beq b a=false:=by
  cases e:Nat.beq b a
  ·rfl
  ·exact absurd (Al.1 e) h1
 have n2:Nat.beq c a=false:=by
  cases e:Nat.beq c a
  ·rfl
  ·exact absurd (Al.1 e) h2
 unfold Cx
 rw[hx]
 show(bif DF a e [y,z]then k F e h else .no)=_
 have:DF a e [y,z]=true:=by
  unfold DF
  rw[hy]
  show(bif Nat.beq b a then false else DF a e [z])=true
  rw[n1]
  unfold DF
  rw[hz]
  show(bif Nat.beq c a then false else DF a e [])=true
  rw[n2];rfl
 rw[this];rfl
theorem cA{F:CallF}{e:Env}{h:Hp}(W:h.Wf){x y:O}{r:Nat}{L:List Value}{a b c:Int}{s:Nat}{u:Value}(hx:x e=pt r)(hy:y e=B7 a b c s u)(R:h.Row r 0 L)(hL:L.length=5)(h256:256≤r)(hu:oneCell u=true):
  Mj x (As 5 x y) F e h=.ok noRes (h.back (h.quiet.wr r 0 (A0 a b c s u))):=by
 have Rq:h.quiet.Row r 0 L:=R.same rfl
 have ho:0+(A0 a b c s u).length≤L.length:=by rw[hL];show 0+5≤5;omega
 have h1:BO (A0 a b c s u)=true:=by
  show(bif oneCell u then true else false)=true
  rw[hu];rfl
 have st:=Rq.storeR (n:=5) (off:=0) W.quiet h256 (v:=B7 a b c s u) rfl ho h1
 have st:storeR 5 (pt r) (B7 a b c s u) h.quiet=.ok noRes (h.quiet.wr r 0 (A0 a b c s u)):=st
 obtain⟨cc,_,hw,_⟩:=Rq.wr_is ho
 have hlow:(h.quiet.wr r 0 (A0 a b c s u)).low=r:=by
  rw[hw]
  show B0 h.next r=r
  have:=R.lt W
  rw[BC];omega
 have hhigh:(h.quiet.wr r 0 (A0 a b c s u)).high=r:=by
  rw[hw]
  show Cf 0 r=r
  rw[Bw];omega
 show(match As 5 x y F e h.quiet with|.ok v h'=>bif KX (blkOf (x e)) h h'.low h'.high then Dj h v h' else .no|.no=>.no)=_
 rw[AX,hx,hy,st]
 show(bif KX (.ok r) h (h.quiet.wr r 0 (A0 a b c s u)).low (h.quiet.wr r 0 (A0 a b c s u)).high then Dj h noRes (h.quiet.wr r 0 (A0 a b c s u))else .no)=_
 rw[hlow,hhigh]
 have:KX (.ok r) h r r=true:=by
  show(bif Nat.ble r r then Nat.ble r r else false)=true
  rw[Af.2 (Nat.le_refl r)];rfl
 rw[this]
 show Dj h noRes (h.quiet.wr r 0 (A0 a b c s u))=_
 unfold Dj
 simp only[Aa];rfl
end
noncomputable section
open Go
set_option maxRecDepth 100000
def Ok4(h:Hp)(r4:Nat)(ns:List Nat)(e:Env)(g:Hp):Prop:=h.Ext g∧AB 4 e=pt r4∧AB 5 e=.int .i64 (at6 ns 4:Nat)∧AB 6 e=.int .u32 (at6 ns 5:Nat)∧AB 7 e=.bool true∧loadN 5 ⟨r4,0,none⟩ g=.ok (B7 (at6 ns 1) (at6 ns 2) (at6 ns 3) (at6 ns 0) nilS) g
theorem K4{h g:Hp}{r4:Nat}{e:Env}(D:V6 h r4 e g):A2 [.cN (AB 4) 5,.t (AB 5),.t (AB 6),.t (AB 7)] (.ret e g)=.ok noT g:=by
 obtain⟨_,h4,h5,h6,h7,hl⟩:=D
 rw[BX,Jm (v:=B7 0 0 0 0 nilS) (by rw[h4];exact hl),h5,h6,h7];rfl
theorem kj{h g:Hp}{r4:Nat}{ns:List Nat}{e:Env}(D:Ok4 h r4 ns e g):A2 [.cN (AB 4) 5,.t (AB 5),.t (AB 6),.t (AB 7)] (.ret e g)=.ok (okT ns) g:=by
 obtain⟨_,h4,h5,h6,h7,hl⟩:=D
 rw[BX,Jm (v:=B7 (at6 ns 1) (at6 ns 2) (at6 ns 3) (at6 ns 0) nilS) (by rw[h4];exact hl),h5,h6,h7];rfl
theorem oS{n:Nat}{h hB g:Hp}(W0:h.Wf)(xB:h.Ext hB)(x:hB.Ext g){r4 r10 k q:Nat}(hr4:h.next≤r4)(hr410:r10≠r4)(R4:hB.Row r4 0 (A0 0 0 0 0 nilS)){v:Value}{l ns:List Nat}(M:Mk hB k v l)(hl:l.length≤900000)(hq:q≤l.length)
  (R10:g.Row r10 0 (ns.map nv))(h6:ns.length=6)(hns:∀ v∈ns,v≤1099511627776){e:Env}(s4:AB 4 e=pt r4)(s8:AB 8 e=v)(s10:AB 10 e=pt r10)(s11:AB 11 e=.int .i64 (q:Int)):
  (OY ns∧(∀ x∈l.drop q,x=0)∧∃ e2 g2,paE (call AD (n+3)) e g=.ret e2 g2∧Ok4 h r4 ns e2 g2)∨(¬ (OY ns∧∀ x∈l.drop q,x=0)∧∃ e2 g2,paE (call AD (n+3)) e g=.ret e2 g2∧V6 h r4 e2 g2):=by
 have W:=x.wf
 have WB:=xB.wf
 have hat:∀ i,at6 ns i≤1099511627776:=fun i=>by
  unfold at6
  rw[List.getD_eq_getElem?_getD]
  cases h:ns[i]? with
  |none=>exact Nat.zero_le _
  |some y=>exact hns y (List.mem_of_getElem? h)
 have i0:∀ g:Hp,Mh 6 1 (pt r10) (.int .i64 0) g=.ok (.pointer (some ⟨r10,0,none⟩)) g:=fun g=>Ph (k:=0) (by omega)
 have i1:∀ g:Hp,Mh 6 1 (pt r10) (.int .i64 1) g=.ok (.pointer (some ⟨r10,1,none⟩)) g:=fun g=>Ph (k:=1) (by omega)
 have i2:∀ g:Hp,Mh 6 1 (pt r10) (.int .i64 2) g=.ok (.pointer (some ⟨r10,2,none⟩)) g:=fun g=>Ph (k:=2) (by omega)
 have i3:∀ g:Hp,Mh 6 1 (pt r10) (.int .i64 3) g=.ok (.pointer (some ⟨r10,3,none⟩)) g:=fun g=>Ph (k:=3) (by omega)
 have i4:∀ g:Hp,Mh 6 1 (pt r10) (.int .i64 4) g=.ok (.pointer (some ⟨r10,4,none⟩)) g:=fun g=>Ph (k:=4) (by omega)
 have i5:∀ g:Hp,Mh 6 1 (pt r10) (.int .i64 5) g=.ok (.pointer (some ⟨r10,5,none⟩)) g:=fun g=>Ph (k:=5) (by omega)
 have l0:=P8 R10 h6 (k:=0) (by omega)
 have l1:=P8 R10 h6 (k:=1) (by omega)
 have l2:=P8 R10 h6 (k:=2) (by omega)
 have l3:=P8 R10 h6 (k:=3) (by omega)
 have a0:=hat 0
 have a1:=hat 1
 have a2:=hat 2
 have a3:=hat 3
 have a4:=hat 4
 have a5:=hat 5
 have hcast:min ((at6 ns 0:Nat):Int) 9=((min (at6 ns 0) 9:Nat):Int):=by omega
 have mn:∀ (F:CallF) (e:Env),AB 52 e=.int .u64 ((at6 ns 0:Nat):Int)→VV (AB 52) (kV (.int .u64 9)) F e g=.ok (.int .u64 ((min (at6 ns 0) 9:Nat):Int)) g:=fun F e he=>by rw[kS he rfl,hcast]
 have v0:DR .u8 (.int .u64 ((min (at6 ns 0) 9:Nat):Int)) g=.ok (.int .u8 ((min (at6 ns 0) 9:Nat):Int)) g:=by rw[Ck,Hn,Nat.mod_eq_of_lt (by omega)]
 have cv:∀ (i:Nat) (g:Hp),DR .i64 (.int .u64 ((at6 ns i:Nat):Int)) g=.ok (.int .i64 ((at6 ns i:Nat):Int)) g:=fun i g=>by rw[Ck,Ba (by have:=hat i;omega)]
 have bd:∀ (F:CallF) (e:Env),AB 54 e=.int .u8 ((min (at6 ns 0) 9:Nat):Int)→AB 57 e=.int .i64 ((at6 ns 1:Nat):Int)→AB 60 e=.int .i64 ((at6 ns 2:Nat):Int)→AB 63 e=.int .i64 ((at6 ns 3:Nat):Int)→
   Bp Hq.zero [(3,1,AB 54),(0,1,AB 57),(1,1,AB 60),(2,1,AB 63)] F e g=.ok (B7 (at6 ns 1) (at6 ns 2) (at6 ns 3) (min (at6 ns 0) 9) nilS) g:=fun F e h1 h2 h3 h4=>Zt h1 h2 h3 h4
 have f1:=fun (F:CallF) (e:Env)=>Bd (F:=F) (e:=e) (n:=5) (t:=CV) W
 have x1:=(Hp.Ext.refl W).push (.cells CV 5 0)
 have R13:(g.push (.cells CV 5 0)).Row g.next 0 (A0 0 0 0 0 nilS):=Hp.Row.alloc W EX rfl
 generalize g.push (.cells CV 5 0)=g1 at f1 x1 R13
 obtain⟨st,ld,x2,R13',_⟩:=IM W x1 (Nat.le_refl _) R13 rfl (a:=at6 ns 1) (b:=at6 ns 2) (c:=at6 ns 3) (s:=min (at6 ns 0) 9) (u:=nilS) rfl
 generalize g1.wr g.next 0 (A0 (at6 ns 1) (at6 ns 2) (at6 ns 3) (min (at6 ns 0) 9) nilS)=g2 at st ld x2 R13'
 have k24:=JC (n:=n+2) x2.wf (a:=at6 ns 1) (b:=at6 ns 2) (c:=at6 ns 3) (s:=min (at6 ns 0) 9) (m:=0) (u:=nilS) (fun _=>rfl)
 have y3:=(Hp.Ext.refl x2.wf).pushRow 0 (A0 (at6 ns 1) (at6 ns 2) (at6 ns 3) (min (at6 ns 0) 9) nilS)
 generalize g2.pushRow 0 (A0 (at6 ns 1) (at6 ns 2) (at6 ns 3) (min (at6 ns 0) 9) nilS)=g3 at k24 y3
 have x3:=x2.trans y3
 have xB3:=x.trans x3
 have xh3:=xB.trans xB3
 obtain⟨w1,w2,w3,_,_⟩:=IM W0 xh3 hr4 (R4.ext WB xB3) rfl (a:=0) (b:=0) (c:=0) (s:=0) (u:=nilS) rfl
 have R10':=R10.ext W x3
 have l4:=P8 R10' h6 (k:=4) (by omega)
 have l5:=P8 R10' h6 (k:=5) (by omega)
 have nok:¬ (OY ns∧∀ x∈l.drop q,x=0)→(∃ e2,paE (call AD (n+3)) e g=.ret e2 (g3.wr r4 0 (A0 0 0 0 0 nilS))∧AB 4 e2=pt r4∧AB 5 e2=.int .i64 0∧AB 6 e2=.int .u32 0∧AB 7 e2=.bool false)→
   (OY ns∧(∀ x∈l.drop q,x=0)∧∃ e2 g2,paE (call AD (n+3)) e g=.ret e2 g2∧Ok4 h r4 ns e2 g2)∨(¬ (OY ns∧∀ x∈l.drop q,x=0)∧∃ e2 g2,paE (call AD (n+3)) e g=.ret e2 g2∧V6 h r4 e2 g2):=fun hn ⟨e2,q1,q2,q3,q4,q5⟩=>.inr ⟨hn,e2,_,q1,w3,q2,q3,q4,q5,w2⟩
 cases hr:rightS (at6 ns 1) (at6 ns 2) (at6 ns 3) (min (at6 ns 0) 9) 0 with
 |false=>
  rw[hr]at k24
  refine nok (fun hh=>by rw[hh.1.1]at hr;cases hr) ?_
  unfold paE
  simp only[sT,Nat.reduceLT,Nat.reduceEqDiff,reduceIte,gD,C0,s10,i0,i1,i2,i3,AM,AP,l0,l1,l2,l3,mn,CJ,v0,cv,bd,f1,AX,st,Aq,Ao,ld,cA0,k24,Bt,Br,Bool.not_false,C8,s4,w1]
  exact⟨_,rfl,by simp[AG,s4]⟩
 |true=>
  rw[hr]at k24
  by_cases h4:at6 ns 4≤65536
  ·have c4:iGt ((at6 ns 4:Nat):Int) 65536=false:=Ee (by omega)
   by_cases h5:at6 ns 5≤4294967295
   ·have c5:iGt ((at6 ns 5:Nat):Int) 4294967295=false:=Ee (by omega)
    have M3:=M.ext WB xB3
    obtain⟨w,ct,Vw⟩:=PF M3 hq
    obtain⟨rb,kb,hrb⟩:=Ug (n:=n) Vw (by rw[List.length_drop];omega)
    have kb:call AD (n+3) 85 [w,.func (.func 112) #[] #[]] g3=.ok (.bool rb) g3:=kb
    cases rb with
    |true=>
     obtain⟨y,hy1,hy2⟩:=hrb.1 rfl
     refine nok (fun hh=>hy2 (hh.2 y hy1)) ?_
     unfold paE
     simp only[sT,Nat.reduceLT,Nat.reduceEqDiff,reduceIte,gD,C0,s10,i0,i1,i2,i3,i4,i5,AM,AP,l0,l1,l2,l3,l4,l5,mn,CJ,v0,cv,bd,f1,AX,st,Aq,Ao,ld,cA0,k24,Bt,Br,Bool.not_true,AL,AK,c4,c5,s8,s11,ct,kb,C8,s4,w1]
     exact⟨_,rfl,by simp[AG,s4]⟩
    |false=>
     have hz:∀ x∈l.drop q,x=0:=fun y hy=>by
      rcases Nat.eq_zero_or_pos y with h0|h0
      ·exact h0
      ·have:=hrb.2 ⟨y,hy,by omega⟩;cases this
     have hok:OY ns:=⟨hr,h4,h5⟩
     have hmin:min (at6 ns 0) 9=at6 ns 0:=Nat.min_eq_left (Nat.le_trans (cw.1 hok).1 (by decide))
     left
     refine⟨hok,hz,?_⟩
     have xm:=x3.marked
     have R10m:g3.marked.Row r10 0 (ns.map nv):=R10'.same rfl
     have m4:=P8 R10m h6 (k:=4) (by omega)
     have m5:=P8 R10m h6 (k:=5) (by omega)
     have R13m:g3.marked.Row g.next 0 (A0 (at6 ns 1) (at6 ns 2) (at6 ns 3) (min (at6 ns 0) 9) nilS):=(R13'.ext x2.wf y3).same rfl
     have mld:=(B4 R13m).2.2.2.2.2
     have v5:DR .u32 (.int .u64 ((at6 ns 5:Nat):Int)) g3.marked=.ok (.int .u32 ((at6 ns 5:Nat):Int)) g3.marked:=by rw[Ck,RD h5]
     have ck:∀ (k:C) (F:CallF) (e:Env),AB 4 e=pt r4→AB 87 e=.pointer (some ⟨r10,4,none⟩)→AB 90 e=.pointer (some ⟨r10,5,none⟩)→Cx (AB 4) [AB 87,AB 90] k F e g3.marked=k F e g3.marked:=fun k F e e1 e2 e3=>hU e1 e2 e3 hr410 hr410
     have h256:256≤r4:=by have:=W0.big;omega
     have R4m:g3.marked.Row r4 0 (A0 0 0 0 0 nilS):=(R4.ext WB xB3).same rfl
     have ta:∀ (F:CallF) (e:Env),AB 4 e=pt r4→AB 86 e=B7 (at6 ns 1) (at6 ns 2) (at6 ns 3) (min (at6 ns 0) 9) nilS→Mj (AB 4) (As 5 (AB 4) (AB 86)) F e g3.marked=.ok noRes (g3.marked.back (g3.marked.quiet.wr r4 0 (A0 (at6 ns 1) (at6 ns 2) (at6 ns 3) (min (at6 ns 0) 9) nilS))):=fun F e e1 e2=>cA xm.wf e1 e2 R4m rfl h256 rfl
     have xhm:=xh3.marked
     obtain⟨_,z2,z3,z4,_⟩:=IM W0 xhm.quiet hr4 (R4m.same (h':=g3.marked.quiet) rfl) rfl (a:=at6 ns 1) (b:=at6 ns 2) (c:=at6 ns 3) (s:=min (at6 ns 0) 9) (u:=nilS) rfl
     have xf:h.Ext (g3.marked.back (g3.marked.quiet.wr r4 0 (A0 (at6 ns 1) (at6 ns 2) (at6 ns 3) (min (at6 ns 0) 9) nilS))):=Hp.Ext.back2 xhm z3
     have Rf:(g3.marked.back (g3.marked.quiet.wr r4 0 (A0 (at6 ns 1) (at6 ns 2) (at6 ns 3) (min (at6 ns 0) 9) nilS))).Row r4 0 (A0 (at6 ns 1) (at6 ns 2) (at6 ns 3) (min (at6 ns 0) 9) nilS):=z4.same rfl
     generalize g3.marked.back (g3.marked.quiet.wr r4 0 (A0 (at6 ns 1) (at6 ns 2) (at6 ns 3) (min (at6 ns 0) 9) nilS))=g4 at ta xf Rf
     have ldf:=(B4 Rf).2.2.2.2.2
     rw[hmin]at ldf
     have hrun:∃ e2,paE (call AD (n+3)) e g=.ret e2 g4∧AB 4 e2=pt r4∧AB 5 e2=.int .i64 (at6 ns 4:Nat)∧AB 6 e2=.int .u32 (at6 ns 5:Nat)∧AB 7 e2=.bool true:=by
      unfold paE
      simp only[sT,Nat.reduceLT,Nat.reduceEqDiff,reduceIte,gD,C0,s10,i0,i1,i2,i3,i4,i5,AM,AP,l0,l1,l2,l3,l4,l5,mn,CJ,v0,cv,bd,f1,AX,st,Aq,Ao,ld,cA0,k24,Bt,Br,Bool.not_true,AL,AK,c4,c5,s8,s11,ct,kb,Ay,mld,m4,m5,v5,s4,ck,ta]
      exact⟨_,rfl,by simp[AG,s4]⟩
     obtain⟨e2,q1,q2,q3,q4,q5⟩:=hrun
     exact⟨e2,g4,q1,xf,q2,q3,q4,q5,ldf⟩
   ·have c5:iGt ((at6 ns 5:Nat):Int) 4294967295=true:=E4 (by omega)
    refine nok (fun hh=>h5 hh.1.2.2) ?_
    unfold paE
    simp only[sT,Nat.reduceLT,Nat.reduceEqDiff,reduceIte,gD,C0,s10,i0,i1,i2,i3,i4,i5,AM,AP,l0,l1,l2,l3,l4,l5,mn,CJ,v0,cv,bd,f1,AX,st,Aq,Ao,ld,cA0,k24,Bt,Br,Bool.not_true,AL,AK,c4,c5,C8,s4,w1]
    exact⟨_,rfl,by simp[AG,s4]⟩
  ·have c4:iGt ((at6 ns 4:Nat):Int) 65536=true:=E4 (by omega)
   refine nok (fun hh=>h4 hh.1.2.1) ?_
   unfold paE
   simp only[sT,Nat.reduceLT,Nat.reduceEqDiff,reduceIte,gD,C0,s10,i0,i1,i2,i3,i4,i5,AM,AP,l0,l1,l2,l3,l4,mn,CJ,v0,cv,bd,f1,AX,st,Aq,Ao,ld,cA0,k24,Bt,Br,Bool.not_true,AL,AK,c4,C8,s4,w1]
   exact⟨_,rfl,by simp[AG,s4]⟩
theorem Yi{n:Nat}{h:Hp}(W:h.Wf){tb:Nat}{T:List Nat}(R:h.Row tb 0 (T.map wv))(hT:TblOk T){u:Value}{l:List Nat}(V:h.Vals u (l.map bv))(hC:V3 u)(hb:∀ x∈l,x<256)(hl:l.length≤900000):
  ∃ h',h.Ext h'∧((∃ ns,KU T l ns∧call AD (n+4) 87 [pt tb,u] h=.ok (okT ns) h')∨((¬ ∃ ns,KU T l ns)∧call AD (n+4) 87 [pt tb,u] h=.ok noT h')):=by
 have f1:=fun (F:CallF) (e:Env)=>Bd (F:=F) (e:=e) (n:=5) (t:=CV) W
 have x1:=(Hp.Ext.refl W).push (.cells CV 5 0)
 have R4:(h.push (.cells CV 5 0)).Row h.next 0 (A0 0 0 0 0 nilS):=Hp.Row.alloc W EX rfl
 have nA:(h.push (.cells CV 5 0)).next=h.next+1:=rfl
 generalize h.push (.cells CV 5 0)=hA at f1 x1 R4 nA
 obtain⟨hB,yB,U⟩:=Vy (n:=n) x1.wf (R.ext W x1) hT (V.ext W x1) hC hb hl
 have xB:=x1.trans yB
 have R4B:=R4.ext x1.wf yB
 obtain⟨w1,w2,w3,_,_⟩:=IM W xB (Nat.le_refl _) R4B rfl (a:=0) (b:=0) (c:=0) (s:=0) (u:=nilS) rfl
 rcases U with ⟨body,v,hu,k1,M⟩|⟨hu,c,hc,k1⟩
 ·have c2:iNe 0 0=false:=Cm rfl
  have Vl:=M.vals.bl hB
  by_cases h60:body.length=60
  ·have c3:iNe (body.length:Int) 60=false:=Cm (by omega)
   have f2:=fun (F:CallF) (e:Env)=>Bd (F:=F) (e:=e) (n:=6) (t:=Nr) xB.wf
   have y2:=(Hp.Ext.refl xB.wf).push (.cells Nr 6 0)
   have R10:(hB.push (.cells Nr 6 0)).Row hB.next 0 ([0,0,0,0,0,0].map nv):=Hp.Row.alloc xB.wf ZW rfl
   generalize hB.push (.cells Nr 6 0)=hC' at f2 y2 R10
   have pre:∃ e1,PI (call AD (n+3)) (AQ e0 0 [pt tb,u]) h=paS (call AD (n+3)) e1 hC'∧AB 4 e1=pt h.next∧AB 8 e1=v∧AB 10 e1=pt hB.next∧AB 11 e1=.int .i64 ((0:Nat):Int)∧AB 29 e1=.int .i64 ((0:Nat):Int):=by
    unfold PI
    simp only[iN,Nat.reduceAdd,sT,Nat.reduceLT,Nat.reduceEqDiff,reduceIte,gD,f1,cA0,k1,BA,BL,BM,AL,AK,c2,Ae,Vl,c3,f2]
    exact⟨_,rfl,by simp[AG]⟩
   obtain⟨e1,p1,p2,p3,p4,p5,p6⟩:=pre
   obtain⟨hsl,hbt⟩:=JN hu
   have hbb:∀ x∈body,x<256:=fun x hx=>hb x (by rw[hbt]at hx;exact List.mem_of_mem_take hx)
   rcases dF (n:=n+2) W xB y2 (Nat.le_refl h.next) (Nat.le_refl _) R4B M.vals hbb (by omega) R10 p2 p3 p4 p5 p6 with ⟨e2,g,ns,q,q1,x2,R10',hrd,t4,t8,t10,t11⟩|⟨e2,g,q1,hrd,D⟩
   ·obtain⟨g1,g2,g3,g4,g5⟩:=Kz 6 body 0 ns q hbb (Nat.zero_le _) hrd
    have hn2:hB.next≠h.next:=by have:=yB.next;omega
    rcases oS (n:=n) W xB x2 (Nat.le_refl _) hn2 R4B M (by omega) g4 R10' g1 g5 t4 t8 t10 t11 with ⟨ho,hz,e3,g',r1,D⟩|⟨hno,e3,g',r1,D⟩
    ·refine⟨g',D.1,.inl ⟨ns,⟨body,q,hu,h60,hrd,ho,hz⟩,?_⟩⟩
     rw[LQ rfl,LZ,p1,ST]
     simp only[BH,Aw,q1,A1,BB,r1]
     exact kj D
    ·refine⟨g',D.1,.inr ⟨?_,?_⟩⟩
     ·rintro⟨ms,body',q',j1,j2,j3,j4,j5⟩
      rw[hu]at j1;cases j1
      rw[hrd]at j3;cases j3
      exact hno ⟨j4,j5⟩
     ·rw[LQ rfl,LZ,p1,ST]
      simp only[BH,Aw,q1,A1,BB,r1]
      exact K4 D
   ·refine⟨g,D.1,.inr ⟨?_,?_⟩⟩
    ·rintro⟨ms,body',q',j1,j2,j3,j4,j5⟩
     rw[hu]at j1;cases j1
     rw[hrd]at j3;cases j3
    ·rw[LQ rfl,LZ,p1,ST]
     simp only[BH,Aw,q1,B8,Co]
     exact K4 D
  ·have c3:iNe (body.length:Int) 60=true:=NK (by omega)
   have hrun:∃ e2,PI (call AD (n+3)) (AQ e0 0 [pt tb,u]) h=.ret e2 (hB.wr h.next 0 (A0 0 0 0 0 nilS))∧AB 4 e2=pt h.next∧AB 5 e2=.int .i64 0∧AB 6 e2=.int .u32 0∧AB 7 e2=.bool false:=by
    unfold PI
    simp only[iN,Nat.reduceAdd,sT,Nat.reduceLT,Nat.reduceEqDiff,reduceIte,gD,f1,cA0,k1,BA,BL,BM,AL,AK,c2,Ae,Vl,c3,C8,AX,w1]
    exact⟨_,rfl,by simp[AG]⟩
   obtain⟨e2,q1,q2,q3,q4,q5⟩:=hrun
   refine⟨_,w3,.inr ⟨?_,?_⟩⟩
   ·rintro⟨ms,body',q',j1,j2,_⟩
    rw[hu]at j1;cases j1
    exact h60 j2
   ·rw[LQ rfl,LZ,q1]
    exact K4 (h:=h) ⟨w3,q2,q3,q4,q5,w2⟩
 ·have c2:iNe c 0=true:=NK hc
  have hrun:∃ e2,PI (call AD (n+3)) (AQ e0 0 [pt tb,u]) h=.ret e2 (hB.wr h.next 0 (A0 0 0 0 0 nilS))∧AB 4 e2=pt h.next∧AB 5 e2=.int .i64 0∧AB 6 e2=.int .u32 0∧AB 7 e2=.bool false:=by
   unfold PI
   simp only[iN,Nat.reduceAdd,sT,Nat.reduceLT,Nat.reduceEqDiff,reduceIte,gD,f1,cA0,k1,BA,BL,BM,AL,AK,c2,C8,AX,w1]
   exact⟨_,rfl,by simp[AG]⟩
  obtain⟨e2,q1,q2,q3,q4,q5⟩:=hrun
  refine⟨_,w3,.inr ⟨?_,?_⟩⟩
  ·rintro⟨ms,body',q',j1,_⟩
   rw[hu]at j1;cases j1
  ·rw[LQ rfl,LZ,q1]
   exact K4 (h:=h) ⟨w3,q2,q3,q4,q5,w2⟩
end
noncomputable section
open Go
set_option maxRecDepth 100000
structure Fx (S:Nat→Prop)(h h':Hp):Prop where
 next:h.next≤h'.next
 get:∀ i,i<h.next→¬ S i→h'.bl.get i=h.bl.get i
 wf:h'.Wf
 low:∀ L,L≤h.low→L≤h.next→(∀ b,S b→L≤b)→L≤h'.low
theorem WK{h g:Hp}:(h.back g).low=min h.low g.low:=BC _ _
section
variable {S T:Nat→Prop}{h h' h1 h2:Hp}
theorem Fx.refl(W:h.Wf):Fx S h h:=⟨Nat.le_refl _,fun _ _ _=>rfl,W,fun _ h1 _ _=>h1⟩
theorem Fx.of(x:h.Ext h'):Fx S h h':=⟨x.next,fun i hi _=>x.get i hi,x.wf,fun L h1 h2 _=>by have:=x.low;omega⟩
theorem Fx.trans(a:Fx S h h1)(b:Fx S h1 h2):Fx S h h2:=⟨Nat.le_trans a.next b.next,fun i hi hs=>by rw[b.get i (Nat.lt_of_lt_of_le hi a.next) hs,a.get i hi hs],b.wf,fun L h1 h2 h3=>b.low L (a.low L h1 h2 h3) (Nat.le_trans h2 a.next) h3⟩
theorem Fx.mono(a:Fx S h h')(hs:∀ i,S i→T i):Fx T h h':=⟨a.next,fun i hi ht=>a.get i hi fun s=>ht (hs i s),a.wf,fun L h1 h2 h3=>a.low L h1 h2 fun b hb=>h3 b (hs b hb)⟩
theorem dr(W:h.Wf)(hb:h'.bl=h.bl)(hn:h'.next=h.next):h'.Wf:=⟨by rw[hn];exact W.big,by rw[hn,hb];exact W.has,by rw[hn,hb];exact W.fresh⟩
theorem Fx.same(a:Fx S h h1)(hb:h2.bl=h1.bl)(hn:h2.next=h1.next)(hl:min h.low h1.low≤h2.low:=by first|exact Nat.le_of_eq WK.symm|exact Nat.min_le_right _ _):Fx S h h2:=⟨by rw[hn];exact a.next,fun i hi hs=>by rw[hb];exact a.get i hi hs,dr a.wf hb hn,fun L q1 q2 q3=>by have:=a.low L q1 q2 q3;omega⟩
theorem Fx.from(a:Fx S h1 h')(hb:h1.bl=h.bl)(hn:h1.next=h.next)(hl:min h.low h.next≤h1.low:=by first|exact Nat.min_le_left _ _|exact Nat.min_le_right _ _):Fx S h h':=⟨by rw[← hn];exact a.next,fun i hi hs=>by rw[← hb];exact a.get i (by rw[hn];exact hi) hs,a.wf,fun L q1 q2 q3=>a.low L (by omega) (by omega) q3⟩
theorem Fx.row(x:Fx S h h')(W:h.Wf){b el:Nat}{l:List Value}(r:h.Row b el l)(hb:¬ S b):h'.Row b el l:=by
 have:=r.lt W
 obtain⟨c,hc,hl⟩:=r
 exact⟨c,(x.get b this hb).trans hc,hl⟩
theorem Fx.put(W:h.Wf){b:Nat}(hb:b<h.next)(hs:S b)(o:Blk):Fx S h (h.put b o):=⟨Nat.le_refl _,fun i hi hn=>by
 rw[W.put_get hb]
 exact if_neg fun e=>hn (by rw[e];exact hs),W.put hb o,fun L h1 _ h3=>by
 have:=h3 b hs
 have e:(h.put b o).low=min h.low b:=BC _ _
 omega⟩
theorem Fx.wr(W:h.Wf){b el off:Nat}{l vs:List Value}(r:h.Row b el l)(ho:off+vs.length≤l.length)(hs:S b):Fx S h (h.wr b off vs):=by
 obtain⟨c,_,e,_⟩:=r.wr_is ho
 rw[e];exact Fx.put W (r.lt W) hs _
theorem lZ{b el off bc:Nat}{l vs:List Value}{es:List Ent}{k:Nat}(W:h.Wf)(r:h.Row b el l)(ho:off+vs.length≤l.length)(m:h.bl.get bc=.map es k):(h.wr b off vs).bl.get bc=.map es k:=by
 obtain⟨c,_,e,_⟩:=r.wr_is ho
 rw[e,W.put_get (r.lt W),if_neg]
 ·exact m
 ·rintro rfl
  obtain⟨c,hc,_⟩:=r
  rw[m]at hc;cases hc
end
def Hp.VS(h:Hp)(S:Nat→Prop)(v:Value)(xs:List Value):Prop:=(v=nilS∧xs=[])∨∃ b off c el L,v=.slice (some ⟨b,off,none⟩) xs.length c∧xs.length≤c∧h.Row b el L∧off+xs.length≤L.length∧(L.drop off).take xs.length=xs∧S b
section
variable {h h':Hp}{S S':Nat→Prop}{v:Value}{xs:List Value}
theorem Hp.VS.vals(o:h.VS S v xs):h.Vals v xs:=by
 rcases o with h1|⟨b,off,c,el,L,h1,h2,h3,h4,h5,_⟩
 ·exact .inl h1
 ·exact .inr ⟨b,off,c,el,L,h1,h3,h4,h5⟩
theorem Hp.VS.keep(o:h.VS S v xs)(hk:∀ b el L,S b→h.Row b el L→h'.Row b el L):h'.VS S v xs:=by
 rcases o with h1|⟨b,off,c,el,L,h1,h2,h3,h4,h5,h6⟩
 ·exact .inl h1
 ·exact .inr ⟨b,off,c,el,L,h1,h2,hk _ _ _ h6 h3,h4,h5,h6⟩
theorem Hp.VS.same(o:h.VS S v xs)(hb:h'.bl=h.bl):h'.VS S v xs:=o.keep fun _ _ _ _ r=>r.same hb
theorem Hp.VS.mono(o:h.VS S v xs)(hs:∀ b,S b→S' b):h.VS S' v xs:=by
 rcases o with h1|⟨b,off,c,el,L,h1,h2,h3,h4,h5,h6⟩
 ·exact .inl h1
 ·exact .inr ⟨b,off,c,el,L,h1,h2,h3,h4,h5,hs _ h6⟩
theorem Hp.VS.one(o:h.VS S v xs):cellsOf v=[v]∧oneCell v=true∧known v=true:=by
 rcases o with ⟨rfl,_⟩|⟨b,off,c,el,L,rfl,_⟩<;>exact⟨rfl,rfl,rfl⟩
theorem Hp.VS.fx(o:h.VS S v xs)(W:h.Wf){T:Nat→Prop}(x:Fx T h h')(hs:∀ b,S b→¬ T b):h'.VS S v xs:=o.keep fun b _ _ hb r=>x.row W r (hs b hb)
theorem Oa{l:List Value}(h:∀ x∈l,oneCell x=true):BO l=true:=by
 induction l with
 |nil=>rfl
 |cons a l ih=>
  show(bif oneCell a then BO l else false)=true
  rw[h a List.mem_cons_self,ih fun x hx=>h x (List.mem_cons_of_mem _ hx)];rfl
end
def Hp.BS(h:Hp)(S:Nat→Prop)(v:Value)(xs:List Value):Prop:=(v=nilS∧xs=[])∨∃ b off c el L,v=.slice (some ⟨b,off,none⟩) xs.length c∧xs.length≤c∧h.Row b el L∧off+xs.length≤L.length∧(L.drop off).take xs.length=xs∧S b∧(el=0∨el=6)
section
variable {h h':Hp}{S S':Nat→Prop}{v:Value}{xs:List Value}
theorem Hp.BS.vs(o:h.BS S v xs):h.VS S v xs:=by
 rcases o with h1|⟨b,off,c,el,L,h1,h2,h3,h4,h5,h6,_⟩
 ·exact .inl h1
 ·exact .inr ⟨b,off,c,el,L,h1,h2,h3,h4,h5,h6⟩
theorem Hp.BS.keep(o:h.BS S v xs)(hk:∀ b el L,S b→(el=0∨el=6)→h.Row b el L→h'.Row b el L):h'.BS S v xs:=by
 rcases o with h1|⟨b,off,c,el,L,h1,h2,h3,h4,h5,h6,h7⟩
 ·exact .inl h1
 ·exact .inr ⟨b,off,c,el,L,h1,h2,hk _ _ _ h6 h7 h3,h4,h5,h6,h7⟩
theorem Hp.BS.ext(o:h.BS S v xs)(W:h.Wf)(x:h.Ext h'):h'.BS S v xs:=o.keep fun _ _ _ _ _ r=>r.ext W x
theorem Hp.BS.same(o:h.BS S v xs)(hb:h'.bl=h.bl):h'.BS S v xs:=o.keep fun _ _ _ _ _ r=>r.same hb
theorem Hp.BS.mono(o:h.BS S v xs)(hs:∀ b,S b→S' b):h.BS S' v xs:=by
 rcases o with h1|⟨b,off,c,el,L,h1,h2,h3,h4,h5,h6,h7⟩
 ·exact .inl h1
 ·exact .inr ⟨b,off,c,el,L,h1,h2,h3,h4,h5,hs _ h6,h7⟩
end
def DK(l:List Nat):Value:=.agg ⟨l.map bv⟩
def entsS:Nat→List (Nat×List Nat)→List Ent
 |_,[]=>[]
 |i,x::r=>⟨.int .i64 (x.1:Int),DK x.2,i⟩::entsS (i+1) r
def sec(M:List Nat)(i:Nat):List Nat:=(M.drop (64 * i)).take 64
theorem JF{M:List Nat}{n i:Nat}(hM:M.length=64 * n)(hi:i<n):(sec M i).length=64:=by
 unfold sec;rw[List.length_take,List.length_drop];omega
theorem lJ{M:List Nat}(hb:∀ x∈M,x<256)(i:Nat):∀ x∈sec M i,x<256:=fun x hx=>hb x (List.mem_of_mem_drop (List.mem_of_mem_take hx))
def dkL(bm bc n:Nat)(arm:Int)(dn:Bool):List Value:=[.slice (some ⟨bm,0,none⟩) n n,.map (some bc),.int .i64 arm,.bool dn]
structure Dk (h:Hp)(bd bm bc n:Nat)(M:List Nat)(c0:Nat)(cs:List (Nat×List Nat))(arm:Int)(dn:Bool):Prop where
 disk:h.Row bd 0 (dkL bm bc n arm dn)
 med:h.Row bm 0 (M.map bv)
 len:M.length=64 * n
 byt:∀ x∈M,x<256
 map:h.bl.get bc=.map (entsS c0 cs) (c0+cs.length)
 big:256≤bd∧256≤bm∧256≤bc
 n1:1≤n∧n≤65536
section
variable {F:CallF}{e:Env}{h h':Hp}{S:Nat→Prop}{bd bm bc n c0:Nat}{M:List Nat}{cs:List (Nat×List Nat)}{arm:Int}{dn:Bool}
theorem bW{h:Hp}{b b' el el':Nat}{L L':List Value}(r:h.Row b el L)(r':h.Row b' el' L')(he:L.length≠L'.length):b≠b':=fun hb=>by
 subst hb
 obtain⟨_,e1,_⟩:=r
 obtain⟨_,e2,_⟩:=r'
 rw[e1]at e2
 injection e2 with _ e3 _
 exact he e3
theorem Dk.bdm(d:Dk h bd bm bc n M c0 cs arm dn):bd≠bm:=bW d.disk d.med (by
 rw[List.length_map,d.len]
 show 4≠_
 have:=d.n1;omega)
theorem JD{h:Hp}{b bc el k:Nat}{L:List Value}{es:List Ent}(r:h.Row b el L)(m:h.bl.get bc=.map es k):b≠bc:=fun hb=>by
 subst hb
 obtain⟨_,e1,_⟩:=r
 rw[e1]at m;cases m
theorem Dk.bdc(d:Dk h bd bm bc n M c0 cs arm dn):bd≠bc:=JD d.disk d.map
theorem Dk.bmc(d:Dk h bd bm bc n M c0 cs arm dn):bm≠bc:=JD d.med d.map
theorem Dk.lt(d:Dk h bd bm bc n M c0 cs arm dn)(W:h.Wf):bd<h.next∧bm<h.next∧bc<h.next:=⟨d.disk.lt W,d.med.lt W,by
 rcases Nat.lt_or_ge bc h.next with h1|h1
 ·exact h1
 ·have:=W.fresh bc h1
  rw[d.map]at this;cases this⟩
theorem Dk.same(d:Dk h bd bm bc n M c0 cs arm dn)(hb:h'.bl=h.bl):Dk h' bd bm bc n M c0 cs arm dn:=⟨d.disk.same hb,d.med.same hb,d.len,d.byt,by rw[hb];exact d.map,d.big,d.n1⟩
theorem Dk.fr(d:Dk h bd bm bc n M c0 cs arm dn)(W:h.Wf)(x:Fx S h h')(h1:¬ S bd)(h2:¬ S bm)(h3:¬ S bc):Dk h' bd bm bc n M c0 cs arm dn:=⟨x.row W d.disk h1,x.row W d.med h2,d.len,d.byt,by rw[x.get bc (d.lt W).2.2 h3];exact d.map,d.big,d.n1⟩
theorem Dk.ext(d:Dk h bd bm bc n M c0 cs arm dn)(W:h.Wf)(x:h.Ext h'):Dk h' bd bm bc n M c0 cs arm dn:=d.fr (S:=fun _=>False) W (.of x) (fun h=>h) (fun h=>h) (fun h=>h)
theorem C3(R:h.Row bd 0 (dkL bm bc n arm dn)):load1 ⟨bd,0,none⟩ h=.ok (.slice (some ⟨bm,0,none⟩) n n) h∧load1 ⟨bd,1,none⟩ h=.ok (.map (some bc)) h∧load1 ⟨bd,2,none⟩ h=.ok (.int .i64 arm) h∧load1 ⟨bd,3,none⟩ h=.ok (.bool dn) h:=
 ⟨R.load1 (off:=0) (by show 0<4;omega),R.load1 (off:=1) (by show 1<4;omega),R.load1 (off:=2) (by show 2<4;omega),R.load1 (off:=3) (by show 3<4;omega)⟩
theorem JA{k:TK}{t:Nat}{a:Addr}{g:O}(hk:k=.ptr t)(hg:g e=.pointer (some a)):oEq k false g (kV (.pointer none)) F e h=.ok (.bool false) h:=by
 subst hk
 show(match eqV (.ptr t) (g e) (.pointer none)with|some r=>okB (false != r) h|none=>.no)=_
 rw[hg]
 exact Fp
theorem bY{k:TK}{a b r:Nat}{g:O}(hk:k=.map a b)(hg:g e=.map (some r)):oEq k false g (kV (.map none)) F e h=.ok (.bool false) h:=by
 subst hk
 show(match eqV (.map a b) (g e) (.map none)with|some r=>okB (false != r) h|none=>.no)=_
 rw[hg]
 exact Fp
theorem eW:Vt.k=.ptr 98:=by kernel_rfl
theorem qc:dm.k=.map 3 100:=by kernel_rfl
theorem OR{m:Nat}(d:Dk h bd bm bc n M c0 cs arm dn):call AD (m+1) 54 [pt bd] h=.ok (.bool false) h:=by
 obtain⟨_,l1,_,_⟩:=C3 d.disk
 have e1:∀ e:Env,AB 0 e=pt bd→oEq Vt.k false (AB 0) (kV (.pointer none)) (call AD m) e h=.ok (.bool false) h:=fun e he=>JA eW he
 have e2:∀ e:Env,AB 9 e=.map (some bc)→oEq dm.k false (AB 9) (kV (.map none)) (call AD m) e h=.ok (.bool false) h:=fun e he=>bY qc he
 rw[iU rfl]
 unfold d54
 simp only[iN,Nat.reduceAdd,sT,Nat.reduceLT,Nat.reduceEqDiff,reduceIte,gD,e1,Au,Aj,AJ,AN,AM,AP,l1,e2,lV0]
theorem Mc{m:Nat}(d:Dk h bd bm bc n M c0 cs arm false){i:Nat}(hi:i<n):call AD (m+2) 95 [pt bd,.int .i64 (i:Int)] h=.ok (.int .i64 0) h:=by
 obtain⟨l0,_,_,l3⟩:=C3 d.disk
 have k1:=OR (m:=m) d
 have c1:iLt (i:Int) 0=false:=E5 (by omega)
 have c2:iGe (i:Int) (n:Int)=false:=E3 (by omega)
 rw[jG rfl]
 unfold d95
 simp only[iN,Nat.reduceAdd,sT,Nat.reduceLT,Nat.reduceEqDiff,reduceIte,gD,cA0,k1,Au,Aj,AJ,AN,AM,AP,l0,l3,Ae,Dt,AL,AK,c1,c2,lV0]
theorem dU{m:Nat}(d:Dk h bd bm bc n M c0 cs arm dn):call AD (m+2) 56 [pt bd] h=.ok (.int .i64 (n:Int)) h:=by
 obtain⟨l0,_,_,l3⟩:=C3 d.disk
 have k1:=OR (m:=m) d
 rw[iW rfl]
 unfold d56
 simp only[iN,Nat.reduceAdd,sT,Nat.reduceLT,Nat.reduceEqDiff,reduceIte,gD,cA0,k1,Au,Aj,AJ,AN,AM,AP,l0,l3,Ae,Dt,lV0]
theorem aj{m:Nat}(d:Dk h bd bm bc n M c0 cs arm dn):call AD (m+2) 58 [pt bd] h=.ok (.bool dn) h:=by
 obtain⟨l0,_,_,l3⟩:=C3 d.disk
 have k1:=OR (m:=m) d
 rw[iY rfl]
 unfold d58
 simp only[iN,Nat.reduceAdd,sT,Nat.reduceLT,Nat.reduceEqDiff,reduceIte,gD,cA0,k1,Bt,Br,Bool.not_false,Au,Aj,AJ,AN,AM,AP,l0,l3,lV0]
theorem kR{x y:O}{k j:IntKind}{a b:Int}(hx:x e=.int k a)(hy:y e=.int j b):VU x y F e h=.ok (.int k (max a b)) h:=by
 show G8 false (x e) (y e) h=_
 rw[hx,hy]
 show(bif iLt a b then R.ok (.int k b) h else .ok (.int k a) h)=_
 rw[Cr]
 by_cases hab:a<b
 ·rw[decide_eq_true hab,Int.max_eq_right (by omega)];rfl
 ·rw[decide_eq_false hab,Int.max_eq_left (by omega)];rfl
def Fm(a:Int):Int:=max (a - 1) (-1)
def Bk(a:Int)(k:Nat):Prop:=a≤1099511627776∧-1≤a∧(a<0∨(k:Int)≤a)
theorem Bk.one{a:Int}{k:Nat}(h:Bk a (k+1)):Bk (Fm a) k∧a≠0:=by
 unfold Bk Fm at *
 omega
theorem Bk.le{a:Int}{k j:Nat}(h:Bk a k)(hj:j≤k):Bk a j:=by
 unfold Bk at *
 omega
theorem Tp{m:Nat}(W:h.Wf)(d:Dk h bd bm bc n M c0 cs arm false){k:Nat}(ha:Bk arm (k+1)):
  ∃ h',call AD (m+1) 96 [pt bd] h=.ok (.int .i64 0) h'∧Fx (fun i=>i=bd) h h'∧Dk h' bd bm bc n M c0 cs (Fm arm) false:=by
 obtain⟨_,_,l2,_⟩:=C3 d.disk
 obtain⟨_,hne⟩:=ha.one
 have c1:iEq arm 0=false:=BW hne
 have hs:=d.disk.storeR (n:=1) (off:=2) W d.big.1 (v:=.int .i64 (Fm arm)) rfl (by show 2+1≤4;omega) rfl
 have fr:=Fx.wr (S:=fun i=>i=bd) W d.disk (off:=2) (vs:=[.int .i64 (Fm arm)]) (by show 2+1≤4;omega) rfl
 have r1:=d.disk.wr_self W (off:=2) (vs:=[.int .i64 (Fm arm)]) (by show 2+1≤4;omega)
 have hw:IntKind.i64.wrap (Int.sub arm 1)=arm - 1:=by
  obtain⟨h1,h2,h3⟩:=ha
  show IntKind.i64.wrap (arm - 1)=_
  rcases Int.lt_or_le arm 1 with hlt|hge
  ·have:arm= -1∨arm=0:=by omega
   rcases this with rfl|rfl<;>rfl
  ·exact ZP (by omega) (by omega)
 have mx:∀ e:Env,AB 19 e=.int .i64 (arm - 1)→VU (AB 19) (kV (.int .i64 (-1))) (call AD m) e h=.ok (.int .i64 (Fm arm)) h:=fun e he=>kR he rfl
 have hs:storeR 1 (.pointer (some ⟨bd,2,none⟩)) (.int .i64 (Fm arm)) h=.ok noRes (h.wr bd 2 [.int .i64 (Fm arm)]):=hs
 refine⟨_,?_,fr,⟨r1,fr.row W d.med (fun h=>d.bdm h.symm),d.len,d.byt,lZ W d.disk (by show 2+1≤4;omega) d.map,d.big,d.n1⟩⟩
 rw[jH rfl]
 unfold d96
 simp only[iN,Nat.reduceAdd,sT,Nat.reduceLT,Nat.reduceEqDiff,reduceIte,Au,Aj,AJ,AN,AM,AP,Nat.zero_add,l2,AL,AK,c1,Bs,CT,hw,mx,AX,hs,lV0]
end
end
noncomputable section
open Go
set_option maxRecDepth 100000
section
variable {F:CallF}{e:Env}{h h':Hp}{S:Nat→Prop}{bd bm bc n c0:Nat}{M:List Nat}{cs:List (Nat×List Nat)}{arm:Int}{dn:Bool}
theorem jr{n:Nat}(hn:n≤9223372036854775807):FL ⟨false,[.i .i64]⟩ (.int .i64 (n:Int))=true:=by
 show(match (match FE .i64 .i64 with|true=>Nat.ble n (A7 .i64)|false=>false)with|true=>true|false=>false)=true
 have h1:FE .i64 .i64=true:=rfl
 have h2:Nat.ble n (A7 .i64)=true:=Af.2 hn
 simp only[h1,h2]
theorem qr{n m:Nat}(hm:m≤9223372036854775807):G4 ⟨false,[.i .i64]⟩ (.int .i64 (n:Int)) (.int .i64 (m:Int))=some (decide (n=m)):=by
 unfold G4
 rw[jr hm]
 show(match (match FE .i64 .i64 with|true=>some (iEq (n:Int) (m:Int))|false=>none)with|some true=>some true|some false=>some false|none=>none)=_
 have h1:FE .i64 .i64=true:=rfl
 simp only[h1,Dp]
 by_cases h:n=m
 ·subst h;simp
 ·have:((n:Int) == (m:Int))=false:=by rw[beq_eq_false_iff_ne];omega
  rw[this,decide_eq_false h]
theorem Qv{k:Nat}{v:Value}:∀ (cs:List (Nat×List Nat)) (i:Nat),(∀ x∈cs,x.1≠k∧x.1≤65536)→Mr ⟨false,[.i .i64]⟩ (.int .i64 (k:Int)) v (entsS i cs)=some none
 |[],_,_=>rfl
 |x::l,i,hx=>by
  obtain⟨h1,h2⟩:=hx x List.mem_cons_self
  show(match G4 ⟨false,[.i .i64]⟩ (.int .i64 (k:Int)) (.int .i64 (x.1:Int))with|some true=>some (some ((⟨.int .i64 (k:Int),v,i⟩:Ent)::entsS (i+1) l))|some false=>(match Mr ⟨false,[.i .i64]⟩ (.int .i64 (k:Int)) v (entsS (i+1) l)with|some (some l')=>some (some ((⟨.int .i64 (x.1:Int),DK x.2,i⟩:Ent)::l'))|some none=>some none|none=>none)|none=>none)=some none
  rw[qr (by omega),decide_eq_false (fun h=>h1 h.symm)]
  simp only
  rw[Qv l (i+1) fun y hy=>hx y (List.mem_cons_of_mem _ hy)]
theorem Sk{k:Nat}{l:List Nat}:∀ (cs:List (Nat×List Nat)) (i:Nat),UT ⟨.int .i64 (k:Int),DK l,i+cs.length⟩ (entsS i cs)=entsS i (cs++[(k,l)])
 |[],i=>rfl
 |x::cs,i=>by
  show(⟨.int .i64 (x.1:Int),DK x.2,i⟩:Ent)::UT ⟨.int .i64 (k:Int),DK l,i+(cs.length+1)⟩ (entsS (i+1) cs)=_::entsS (i+1) (cs++[(k,l)])
  rw[← Sk cs (i+1),Nat.add_assoc,Nat.add_comm 1]
theorem UO:GE.zero=(List.replicate 64 0).map bv:=by
 have:GE.zero=BJ ty5.zero 64:=by kernel_rfl
 rw[this,K5]
theorem RF:Bv .mt 0 ((List.replicate 64 0).map bv)=some FJ:=by kernel_rfl
theorem bZ(R:h.Row bm 0 (M.map bv))(hM:M.length=64 * n){i:Nat}(hi:i<n):loadN 64 ⟨bm,0+i * 64,none⟩ h=.ok (DK (sec M i)) h:=by
 rw[R.loadN (by rw[List.length_map];omega),← List.map_drop,← List.map_take,Nat.zero_add,Nat.mul_comm i 64];rfl
theorem Xt(d:Dk h bd bm bc n M c0 [] arm dn){z:Value}{x y:O}{i:Nat}(hx:x e=.map (some bc))(hy:y e=.int .i64 (i:Int))(hi:i<n):GP ⟨false,[.i .i64]⟩ z true x y F e h=.ok (.tuple ⟨[z,.bool false]⟩) h:=by
 have:=d.n1
 show Ha ⟨false,[.i .i64]⟩ z (x e) (y e) true h=_
 rw[hx,hy]
 have he:BR h bc=.ok [] (c0+0):=by unfold BR;rw[d.map];rfl
 unfold Ha
 rw[jr (by omega)]
 simp only[he,Lh]
 unfold DP
 simp only[A8]
theorem Um{g:O}{r:Nat}(hg:g e=pt r):Ff 64 1 g none none none F e h=.ok (.slice (some ⟨r,0,none⟩) 64 64) h:=by
 show(match DT (g e)with|.ok a=>DB e 64 64 none none none fun l hh m=>Bc (some a) 1 l hh m h|.no=>.no)=_
 rw[hg];rfl
theorem Tv{m:Nat}(W:h.Wf)(d:Dk h bd bm bc n M c0 [] arm false){i:Nat}(hi:i<n):
  ∃ h' v,call AD (m+3) 84 [pt bd,.int .i64 (i:Int)] h=.ok (.tuple ⟨[v,.int .i64 0]⟩) h'∧h.Ext h'∧Mk h' h.next v (sec M i)∧h'.next=h.next+1∧h'.mark=h.mark∧h.low=h.low:=by
 have k1:=Mc (m:=m) d hi
 obtain⟨l0,l1,_,_⟩:=C3 d.disk
 have c0':iNe 0 0=false:=Cm rfl
 have lk:∀ e:Env,AB 19 e=.map (some bc)→AB 1 e=.int .i64 (i:Int)→GP ⟨false,[.i .i64]⟩ (.agg ⟨GE.zero⟩) true (AB 19) (AB 1) (call AD (m+2)) e h=.ok (.tuple ⟨[.agg ⟨GE.zero⟩,.bool false]⟩) h:=fun e h1 h2=>Xt d h1 h2 hi
 have al:=fun (F:CallF) (e:Env)=>Bd (F:=F) (e:=e) W (n:=64) (t:=FJ)
 have R1:=Hp.Row.alloc W RF (by rw[List.length_map,List.length_replicate])
 have x1:h.Ext (h.push (.cells FJ 64 0)):=(Hp.Ext.refl W).push _
 have n1:(h.push (.cells FJ 64 0)).next=h.next+1:=rfl
 have m1:(h.push (.cells FJ 64 0)).mark=h.mark:=rfl
 generalize h.push (.cells FJ 64 0)=h1 at al R1 x1 n1 m1
 have hz:((List.replicate 64 0).map bv).length=64:=by rw[List.length_map,List.length_replicate]
 have big:=W.big
 have st:storeR 64 (pt h.next) (.agg ⟨GE.zero⟩) h1=.ok noRes (h1.wr h.next 0 ((List.replicate 64 0).map bv)):=by
  rw[UO]
  exact R1.storeR (n:=64) (off:=0) x1.wf big (v:=.agg ⟨(List.replicate 64 0).map bv⟩) hz (by show 0+((List.replicate 64 0).map bv).length≤_;omega) (C7 _)
 have x2:=R1.wr_ext x1 (Nat.le_refl _) (off:=0) (vs:=(List.replicate 64 0).map bv) (by omega)
 have R2:=R1.wr_self x1.wf (off:=0) (vs:=(List.replicate 64 0).map bv) (by omega)
 rw[HE rfl]at R2
 have n2:(h1.wr h.next 0 ((List.replicate 64 0).map bv)).next=h.next+1:=(R1.wr_next (by omega)).trans n1
 have m2:(h1.wr h.next 0 ((List.replicate 64 0).map bv)).mark=h.mark:=by
  obtain⟨_,_,e,_⟩:=R1.wr_is (off:=0) (vs:=(List.replicate 64 0).map bv) (by omega)
  rw[e];exact m1
 generalize h1.wr h.next 0 ((List.replicate 64 0).map bv)=h2 at st x2 R2 n2 m2
 have d2:=d.ext W x2
 obtain⟨l0,_,_,_⟩:=C3 d2.disk
 have ix:idxSR 64 (.slice (some ⟨bm,0,none⟩) n n) (.int .i64 (i:Int)) h2=.ok (.pointer (some ⟨bm,0+i * 64,none⟩)) h2:=DX hi
 have ld:=bZ d2.med d2.len hi
 have hsl:=JF d2.len hi
 have hsm:((sec M i).map bv).length=64:=by rw[List.length_map,hsl]
 have st2:storeR 64 (pt h.next) (DK (sec M i)) h2=.ok noRes (h2.wr h.next 0 ((sec M i).map bv)):=R2.storeR (n:=64) (off:=0) x2.wf big (v:=DK (sec M i)) hsm (by show 0+((sec M i).map bv).length≤_;omega) (C7 _)
 have x3:=R2.wr_ext x2 (Nat.le_refl _) (off:=0) (vs:=(sec M i).map bv) (by omega)
 have R3:=R2.wr_self x2.wf (off:=0) (vs:=(sec M i).map bv) (by omega)
 rw[HE (by omega)]at R3
 have n3:(h2.wr h.next 0 ((sec M i).map bv)).next=h.next+1:=(R2.wr_next (by omega)).trans n2
 have m3:(h2.wr h.next 0 ((sec M i).map bv)).mark=h.mark:=by
  obtain⟨_,_,e,_⟩:=R2.wr_is (off:=0) (vs:=(sec M i).map bv) (by omega)
  rw[e];exact m2
 generalize h2.wr h.next 0 ((sec M i).map bv)=h3 at st2 x3 R3 n3 m3
 have ct:∀ e:Env,AB 7 e=pt h.next→Ff 64 1 (AB 7) none none none (call AD (m+2)) e h3=.ok (.slice (some ⟨h.next,0,none⟩) 64 64) h3:=fun e he=>Um he
 refine⟨h3,.slice (some ⟨h.next,0,none⟩) 64 64,?_,x3,⟨h.next,0,by rw[hsl],.inl rfl,R3,Nat.le_refl _⟩,n3,m3,rfl⟩
 obtain⟨_,l1,_,_⟩:=C3 d.disk
 rw[jA rfl]
 unfold d84
 simp only[iN,Nat.reduceAdd,sT,Nat.reduceLT,Nat.reduceEqDiff,reduceIte,cA0,k1,AL,AK,c0',Au,Aj,AJ,AN,AM,AP,Nat.zero_add,l1,lk,BA,BL,BM,al,AX,st,Bt,Br,Bool.not_false,l0,Az,ix,Aq,Ao,ld,st2,ct,BX,DH]
 simp only[Nat.zero_add]at ld
 simp only[ld,sT,Nat.reduceLT,Nat.reduceEqDiff,reduceIte,AX,st2,ct,BX,DH]
theorem lW(W:h.Wf)(d:Dk h bd bm bc n M c0 cs arm dn){i:Nat}(hi:i<n)(hc:∀ x∈cs,x.1≠i∧x.1<n){l:List Nat}{g1 g2 g3:O}(h1:g1 e=.map (some bc))(h2:g2 e=.int .i64 (i:Int))(h3:g3 e=DK l):
  Ep ⟨false,[.i .i64]⟩ g1 g2 g3 F e h=.ok noRes (h.put bc (.map (entsS c0 (cs++[(i,l)])) (Nat.succ (c0+cs.length))))∧Fx (fun b=>b=bc) h (h.put bc (.map (entsS c0 (cs++[(i,l)])) (Nat.succ (c0+cs.length))))∧Dk (h.put bc (.map (entsS c0 (cs++[(i,l)])) (Nat.succ (c0+cs.length)))) bd bm bc n M c0 (cs++[(i,l)]) arm dn:=by
 have hn:=d.n1
 have hlt:=(d.lt W).2.2
 have he:BR h bc=.ok (entsS c0 cs) (c0+cs.length):=by unfold BR;rw[d.map];rfl
 have fx:Fx (fun b=>b=bc) h (h.put bc (.map (entsS c0 (cs++[(i,l)])) (Nat.succ (c0+cs.length)))):=Fx.put (S:=fun b=>b=bc) W hlt rfl _
 refine⟨?_,fx,⟨fx.row W d.disk d.bdc,fx.row W d.med d.bmc,d.len,d.byt,?_,d.big,d.n1⟩⟩
 ·show forceV (g2 e) (fun key=>forceV (g3 e) fun v=>K8 ⟨false,[.i .i64]⟩ (g1 e) key v h)=_
  rw[A8,A8,h1,h2,h3]
  unfold K8
  rw[jr (by omega)]
  simp only[he,Qv cs c0 fun x hx=>⟨(hc x hx).1,by have:=(hc x hx).2;omega⟩,Sk]
  rw[Df W d.big.2.2 hlt];rfl
 ·rw[W.put_get hlt,if_pos rfl,List.length_append];rfl
theorem fJ{g:O}{a:Addr}{c:Nat}(hg:g e=.slice (some a) 64 c):QE 64 g F e h=.ok (.pointer (some a)) h:=by
 show(match g e with|.slice (some a) l _=>bif Nat.ble 64 l then R.ok (.pointer (some a)) h else .no|_=>.no)=_
 rw[hg];rfl
theorem RE{m:Nat}(W:h.Wf)(d:Dk h bd bm bc n M c0 cs arm false){k:Nat}(ha:Bk arm (k+1)){i:Nat}(hi:i<n)(hc:∀ x∈cs,x.1≠i∧x.1<n){u:Value}{l:List Nat}(U:h.VS (fun b=>b≠bd) u (l.map bv))(hl:l.length=64):
  ∃ h',call AD (m+3) 75 [pt bd,.int .i64 (i:Int),u] h=.ok (.int .i64 0) h'∧Fx (fun b=>b=bd∨b=bc) h h'∧Dk h' bd bm bc n M c0 (cs++[(i,l)]) (Fm arm) false:=by
 have k1:=Mc (m:=m) d hi
 have Ul:=U.vals.bl h
 rw[hl]at Ul
 obtain⟨h1,k2,f1,d1⟩:=Tp (m:=m+1) W d ha
 have U1:=U.fx W f1 (fun b h1 h2=>h1 h2)
 have c1:iNe 0 0=false:=Cm rfl
 have c2:iNe ((64:Nat):Int) 64=false:=Cm rfl
 rcases U1 with ⟨_,hx⟩|⟨b,off,c,el,L,hu,_,R1,ho,hL,_⟩
 ·have:=congrArg List.length hx
  rw[List.length_map,hl]at this;cases this
 rw[List.length_map,hl]at hu ho hL
 have d1m:=d1.same (h':=h1.marked) rfl
 obtain⟨_,l1,_,_⟩:=C3 d1m.disk
 have Rm:h1.marked.Row b el L:=R1.same rfl
 have ld:loadN 64 ⟨b,off,none⟩ h1.marked=.ok (DK l) h1.marked:=by rw[Rm.loadN ho,hL];rfl
 have ar:∀ (F:CallF) (e:Env),AB 2 e=u→QE 64 (AB 2) F e h1.marked=.ok (.pointer (some ⟨b,off,none⟩)) h1.marked:=fun F e he=>fJ (he.trans hu)
 have up:=fun (F:CallF) (e:Env) (g1 g2 g3:O) (e1:g1 e=.map (some bc)) (e2:g2 e=.int .i64 (i:Int)) (e3:g3 e=DK l)=>lW (F:=F) f1.wf.marked.quiet (d1m.same (h':=h1.marked.quiet) rfl) hi hc e1 e2 e3
 obtain⟨_,f2,d2⟩:=up (call AD m) e0 (kV (.map (some bc))) (kV (.int .i64 (i:Int))) (kV (DK l)) rfl rfl rfl
 have up:=fun F e g1 g2 g3 e1 e2 e3=>(up F e g1 g2 g3 e1 e2 e3).1
 generalize h1.marked.quiet.put bc (.map (entsS c0 (cs++[(i,l)])) (Nat.succ (c0+cs.length)))=h2 at up f2 d2
 have u2:∀ (F:CallF) (e:Env),AB 26 e=.map (some bc)→AB 1 e=.int .i64 (i:Int)→AB 30 e=DK l→Am .free (Ep ⟨false,[.i .i64]⟩ (AB 26) (AB 1) (AB 30)) F e h1.marked=.ok noRes (h1.marked.back h2):=fun F e e1 e2 e3=>BQ (up F e _ _ _ e1 e2 e3)
 refine⟨h1.marked.back h2,?_,?_,d2.same rfl⟩
 ·rw[ir rfl]
  unfold d75
  simp only[iN,Nat.reduceAdd,sT,Nat.reduceLT,Nat.reduceEqDiff,reduceIte,cA0,k1,AL,AK,c1,Ae,Ul,c2,k2,Ay,Au,Aj,AJ,AN,AM,AP,Nat.zero_add,l1,ar,Aq,Ao,ld,u2,lV0]
 ·exact(f1.mono fun i h=>.inl h).trans (((f2.mono fun i h=>.inr h).from (h:=h1.marked) rfl rfl).same (h2:=h1.marked.back h2) rfl rfl |>.from (h:=h1) rfl rfl)
theorem Yu:∀ n:Nat,BJ GE.zero n=(List.replicate (64 * n) 0).map bv
 |0=>rfl
 |n+1=>by
  show GE.zero++BJ GE.zero n=_
  rw[Yu n,UO,← List.map_append,List.replicate_append_replicate]
  congr 2;omega
theorem lm:dp.zero=[.slice none 0 0,.map none,.int .i64 0,.bool false]:=by kernel_rfl
theorem ag{m:Nat}(W:h.Wf)(hn:1≤n∧n≤65536):
  ∃ h' bd bm bc,call AD (m+1) 35 [.int .i64 (n:Int)] h=.ok (.tuple ⟨[pt bd,.int .i64 0]⟩) h'∧h.Ext h'∧Dk h' bd bm bc n (List.replicate (64 * n) 0) 0 [] (-1) false∧h.next≤bd∧h.next≤bm∧h.next≤bc:=by
 have big:=W.big
 have c1:iLt (n:Int) 1=false:=E5 (by omega)
 have c2:iGt (n:Int) 65536=false:=Ee (by omega)
 have mk:∀ (F:CallF) (e:Env),AB 0 e=.int .i64 (n:Int)→Gi 64 GE.zero (AB 0) (AB 0) F e h=.ok (.slice (some ⟨h.next,0,none⟩) n n) (h.pushRow 0 ((List.replicate (64 * n) 0).map bv)):=fun F e he=>by
  show P5 64 GE.zero (Cu (AB 0 e)) (Cu (AB 0 e)) h=_
  rw[he,Cs]
  unfold P5
  simp only
  have e1:Nat.ble n n=true:=Af.2 (Nat.le_refl _)
  have e2:Nat.ble (Nat.mul (Nat.succ n) (Nat.succ 64)) most=true:=Af.2 (by show(n+1) * 65≤1099511627776;omega)
  rw[e1,e2,Yu]
  simp only[cond_true]
  rw[DA W];rfl
 have x1:=(Hp.Ext.refl W).pushRow 0 ((List.replicate (64 * n) 0).map bv)
 have R1:=Hp.Row.new W 0 ((List.replicate (64 * n) 0).map bv)
 have n1:(h.pushRow 0 ((List.replicate (64 * n) 0).map bv)).next=h.next+1:=rfl
 generalize h.pushRow 0 ((List.replicate (64 * n) 0).map bv)=h1 at mk x1 R1 n1
 have mp:∀ (F:CallF) (e:Env),VR F e h1=.ok (.map (some h1.next)) (h1.push (.map [] 0)):=fun F e=>by
  unfold VR
  rw[Ci x1.wf]
 have y2:h1.Ext (h1.push (.map [] 0)):=(Hp.Ext.refl x1.wf).push _
 have M2:(h1.push (.map [] 0)).bl.get h1.next=.map [] 0:=by rw[x1.wf.push_get,if_pos rfl]
 have n2:(h1.push (.map [] 0)).next=h1.next+1:=rfl
 generalize h1.push (.map [] 0)=h2 at mp y2 M2 n2
 have x2:=x1.trans y2
 have bl:∀ (F:CallF) (e:Env),AB 11 e=.slice (some ⟨h.next,0,none⟩) n n→AB 12 e=.map (some h1.next)→Bp dp.zero [(0,1,AB 11),(1,1,AB 12),(2,1,kV (.int .i64 (-1)))] F e h2=.ok (.agg ⟨dkL h.next h1.next n (-1) false⟩) h2:=fun F e e1 e2=>by
  rw[EN,lm,A6 (hk:=by rw[e1];rfl),e1,A6 (hk:=by rw[e2];rfl),e2,A6]
  simp only[show cellsOf (.slice (some ⟨h.next,0,none⟩) n n)=[.slice (some ⟨h.next,0,none⟩) n n]from rfl,show cellsOf (.map (some h1.next))=[.map (some h1.next)]from rfl,G1,DO,List.length_singleton,List.length_cons,List.length_nil,over,List.take,List.drop,List.append_eq,List.nil_append,List.cons_append,Nat.reduceAdd,Nat.reduceLeDiff,if_true,CL,reduceIte]
  rfl
 have bx:∀ (F:CallF) (e:Env),AB 13 e=.agg ⟨dkL h.next h1.next n (-1) false⟩→DD (AB 13) F e h2=.ok (pt h2.next) (h2.pushRow 0 (dkL h.next h1.next n (-1) false)):=fun F e he=>by
  rw[Fe,he,FR x2.wf];rfl
 have y3:=(Hp.Ext.refl x2.wf).pushRow 0 (dkL h.next h1.next n (-1) false)
 have R3:=Hp.Row.new x2.wf 0 (dkL h.next h1.next n (-1) false)
 generalize h2.pushRow 0 (dkL h.next h1.next n (-1) false)=h3 at bx y3 R3
 refine⟨h3,h2.next,h.next,h1.next,?_,x2.trans y3,⟨R3,(R1.ext x1.wf y2).ext x2.wf y3,List.length_replicate,fun x hx=>by rw[List.eq_of_mem_replicate hx];decide,?_,⟨by omega,by omega,by omega⟩,hn⟩,by omega,Nat.le_refl _,by omega⟩
 ·rw[iJ rfl]
  unfold d35
  simp only[iN,Nat.reduceAdd,sT,Nat.reduceLT,Nat.reduceEqDiff,reduceIte,gD,AL,AK,c1,c2,mk,mp,bl,bx,BX,DH]
 ·rw[y3.get _ (by omega),M2];rfl
end
end
noncomputable section
open Go
set_option maxRecDepth 100000
theorem VT.ext:∀ (a b:VT),(∀ j,a.has j↔b.has j)→(∀ j,a.get j=b.get j)→a=b
 |.mt,.mt,_,_=>rfl
 |.mt,.nd v l r,h,_=>by
  have:=(h 0).2 (by unfold VT.has;trivial)
  unfold VT.has at this;exact this.elim
 |.nd v l r,.mt,h,_=>by
  have:=(h 0).1 (by unfold VT.has;trivial)
  unfold VT.has at this;exact this.elim
 |.nd v l r,.nd v' l' r',h,g=>by
  have e1:v=v':=g 0
  have lo:∀ j,(2 * j) % 2=0∧2 * j / 2=j:=fun j=>by omega
  have hi:∀ j,¬ (2 * j+1) % 2=0∧(2 * j+1) / 2=j:=fun j=>by omega
  have e2:l=l':=VT.ext l l' (fun j=>by
   have:=h (2 * j+1)
   rw[VT.has_succ,VT.has_succ,if_pos (lo j).1,if_pos (lo j).1,(lo j).2]at this;exact this) (fun j=>by
   have:=g (2 * j+1)
   rw[VT.get_nd_succ,VT.get_nd_succ,if_pos (lo j).1,if_pos (lo j).1,(lo j).2]at this;exact this)
  have e3:r=r':=VT.ext r r' (fun j=>by
   have:=h (2 * j+1+1)
   rw[VT.has_succ,VT.has_succ,if_neg (hi j).1,if_neg (hi j).1,(hi j).2]at this;exact this) (fun j=>by
   have:=g (2 * j+1+1)
   rw[VT.get_nd_succ,VT.get_nd_succ,if_neg (hi j).1,if_neg (hi j).1,(hi j).2]at this;exact this)
  rw[e1,e2,e3]
theorem VT.set_same:∀ (t:VT) (i:Nat) (x:Value) (t':VT),t.set i x=some t'→t.has i→∀ j,t'.has j→t.has j
 |.mt,i,x,t',_,h,_,_=>by unfold VT.has at h;exact h.elim
 |.nd v l r,0,x,t',hs,_,j,hj=>by
  have hs:some (VT.nd x l r)=some t':=hs
  cases hs
  cases j with
  |zero=>unfold VT.has;trivial
  |succ k=>rw[VT.has_succ]at hj ⊢;exact hj
 |.nd v l r,k+1,x,t',hs,h,j,hj=>by
  rw[VT.set_nd_succ]at hs
  rw[VT.has_succ]at h
  by_cases hk:k % 2=0
  ·rw[if_pos hk]at hs h
   cases hl:l.set (k / 2) x with
   |none=>rw[hl]at hs;cases hs
   |some l'=>
    rw[hl]at hs;cases hs
    cases j with
    |zero=>unfold VT.has;trivial
    |succ m=>
     rw[VT.has_succ]at hj ⊢
     by_cases hm:m % 2=0
     ·rw[if_pos hm]at hj ⊢;exact VT.set_same l _ x l' hl h _ hj
     ·rw[if_neg hm]at hj ⊢;exact hj
  ·rw[if_neg hk]at hs h
   cases hl:r.set (k / 2) x with
   |none=>rw[hl]at hs;cases hs
   |some l'=>
    rw[hl]at hs;cases hs
    cases j with
    |zero=>unfold VT.has;trivial
    |succ m=>
     rw[VT.has_succ]at hj ⊢
     by_cases hm:m % 2=0
     ·rw[if_pos hm]at hj ⊢;exact hj
     ·rw[if_neg hm]at hj ⊢;exact VT.set_same r _ x l' hl h _ hj
theorem KM:∀ (vs:List Value) (t:VT) (i:Nat),(∀ j,j<i+vs.length→t.has j)→∃ t',Bv t i vs=some t'∧(∀ j,t'.has j↔t.has j)∧∀ j,t'.get j=if i≤j∧j<i+vs.length then vs.getD (j - i) noRes else t.get j
 |[],t,i,h=>⟨t,rfl,fun _=>Iff.rfl,fun j=>by rw[if_neg (by simp only[List.length_nil];omega)]⟩
 |v::vs,t,i,h=>by
  simp only[List.length_cons]at h
  have hh:∀ j,j<i→t.has j:=fun j hj=>h j (by omega)
  have hs:=VT.lay_is (x:=v) hh
  have h1:∀ j,(t.lay i v).has j↔t.has j:=fun j=>⟨VT.set_same t i v _ hs (h i (by omega)) j,fun hj=>VT.lay_has hh j (.inr hj)⟩
  obtain⟨t',a1,a2,a3⟩:=KM vs (t.lay i v) (i+1) fun j hj=>(h1 j).2 (h j (by omega))
  refine⟨t',?_,fun j=>(a2 j).trans (h1 j),fun j=>?_⟩
  ·show(match t.set i v with|some t'=>Bv t' (Nat.succ i) vs|none=>none)=_
   rw[hs];exact a1
  ·rw[a3 j,VT.lay_get hh]
   simp only[List.length_cons]
   by_cases c1:i+1≤j∧j<i+1+vs.length
   ·rw[if_pos c1,if_pos (by omega),show j - i=(j - (i+1))+1 by omega];rfl
   ·rw[if_neg c1]
    by_cases c2:j=i
    ·rw[if_pos c2,if_pos (by omega),c2,Nat.sub_self];rfl
    ·rw[if_neg c2,if_neg (by omega)]
section
variable {F:CallF}{e:Env}{h r:Hp}{k:Walk}{body:C}{b:Nat}
theorem N2{b n0:Nat}{r h1:Hp}{tr:Rds}:Us b n0 r h1 tr=true↔XU b n0 r h1:=by
 unfold Us
 split
 ·rename_i h _;exact⟨fun _=>h,fun _=>rfl⟩
 ·rename_i h _;exact⟨fun e=>(by cases e),fun e=>absurd e h⟩
theorem Ov{f:Ent→Bool}:∀ {l:List Ent},(∀ x∈l,f x=true)→Ou f l=true
 |[],_=>rfl
 |x::l,h=>by
  show(bif f x then Ou f l else false)=true
  rw[h x List.mem_cons_self,Ov fun y hy=>h y (List.mem_cons_of_mem _ hy)];rfl
theorem IA{fin:Hp→Rds→Bool}:∀ (n:Nat) (h:Hp) (tr:Rds),KC k body F e b fin n h tr=true→∃ p,Ri k body F e b n h tr=some p∧fin p.1 p.2=true
 |0,h,tr,hx=>by cases hx
 |n+1,h,tr,hx=>by
  unfold KC NJ at hx
  unfold Ri NJ
  cases hi:Dq (h.bl.get b)with
  |no=>rw[hi]at hx;cases hx
  |cur _ _ _=>rw[hi]at hx;cases hx
  |pick _ _ _ _=>rw[hi]at hx;cases hx
  |ok m since seen last=>
   rw[hi]at hx
   cases m with
   |none=>cases hx
   |some m=>
    simp only at hx ⊢
    cases he:BR h m with
    |no=>rw[he]at hx;cases hx
    |ok es c=>
     rw[he]at hx
     simp only at hx ⊢
     cases q1:Nat.beq c since with
     |false=>rw[q1]at hx;cases hx
     |true=>
      cases q2:Nat.beq c last with
      |false=>rw[q1,q2]at hx;cases hx
      |true=>
       cases q3:Es c 0 es with
       |false=>rw[q1,q2,q3]at hx;cases hx
       |true=>
        rw[q1,q2,q3]at hx
        simp only[cond_true]at hx ⊢
        cases hr:restE seen es with
        |nil=>rw[hr]at hx;exact⟨_,rfl,hx⟩
        |cons y l=>
         rw[hr]at hx
         have hy:=LE hx y List.mem_cons_self
         simp only
         cases hst:Nm k body F e b m c seen h y with
         |none=>rw[hst]at hy;cases hy
         |some h1=>
          rw[hst]at hy
          exact IA n h1 _ hy
theorem RX(W:h.Wf)(S:Ns k body F e h b r)(hn:h.next≤r.next):
  ∃ h',FV k body F e h b=.exit k.out (Env.set k.more (.bool false) (Ce e k.ws)) h'∧h'.Wf∧h'.next=r.next∧(∀ i,i<h.next→i≠b→h'.bl.get i=r.bl.get i)∧h'.mark=h.mark∧h'.low=min h.low r.low:=by
 obtain⟨p,hp,hend⟩:=IA _ _ _ S.2
 obtain⟨q1,q2,q3,q4⟩:=N2.1 hend
 have hbig:=W.big
 unfold FV
 split
 case h_2=>rename_i hx _;exact absurd ⟨r,S⟩ hx
 rename_i hx _
 have S':=Classical.choose_spec hx
 generalize Classical.choose hx=r' at S'
 obtain⟨p',hp',hend'⟩:=IA _ _ _ S'.2
 obtain rfl:p'=p:=by rw[hp]at hp';exact(Option.some.inj hp').symm
 obtain⟨t1,t2,t3,t4⟩:=N2.1 hend'
 refine⟨_,rfl,⟨?_,S'.1,fun i hi=>?_⟩,t1.symm.trans q1,fun i hi hib=>?_,rfl,(BC _ _).trans (by rw[t2,← q2])⟩
 ·show 256≤r'.next;omega
 ·have hi:r'.next≤i:=hi
  show r'.bl.get i=_
  rw[t4,if_pos (by omega)]
 ·show r'.bl.get i=_
  rw[t4,q4]
end
end
end Go.Proofs.YtedbmmfebjfibaaGreat

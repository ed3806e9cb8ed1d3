/-
  Part ZK of what Lawnl stands on: printed by program, names and spaces cut.
-/
import Derived.Test.YtbjadbhkogcfeaaGreatZJ
open Go.Value renaming int→AI
open Go.IntKind renaming i64→AT
open Nat renaming reduceEqDiff→BY,reduceLT→By,reduceAdd→IS,le_refl→IT,zero_add→OF,succ→xM,ble→xU,beq→xW,lt_or_ge→xx,zero_le→yC,mul→yK,le_trans→yO,add_eq→zC,beq_refl→zG,reduceLeDiff→zf,min_le_right→zg,mul_one→AAN,sub_self→ACV,le_succ→ADS
open Go renaming Value→IN
open List renaming length_append→No,length_map→sh,getElem?_eq_getElem→xL,getD_eq_getElem?_getD→xN,length_cons→xP,mem_cons_of_mem→xS,mem_cons_self→xT,replicate→xV,append_nil→xZ,append_assoc→xp,length_take→yE,length_nil→yM,nil_append→yP,map_append→yR,length_singleton→ya,length_drop→yd,getElem?_map→yk,drop_of_length_le→yw,length_replicate→zF,mem_of_mem_take→zI,cons_append→zO,take_of_length_le→ze,getElem_mem→zn,append_eq→zr,mem_of_mem_drop→AAf,drop_length→AAz,drop→ABM,take→ABR,map_drop→ADT
open Int renaming sub→yQ,toNat_natCast→yh,eq_ofNat_of_zero_le→zq,lt_or_le→ADj
open Bool renaming not_true→yT,not_false→yZ
open Go.IntKind renaming i64→zU
open Classical renaming choose→ADl,choose_spec→ADw
set_option linter.unusedVariables false
set_option linter.unusedSimpArgs false
namespace Go.Proofs.YtbjadbhkogcfeaaGreat
noncomputable section
open Go
set_option maxRecDepth 100000
def Bn(a b c:Int)(s:Nat)(u:IN):IN:=.agg ⟨[AI AT a,AI AT b,AI AT c,.int .u8 (s:Int),u]⟩
def A2(a b c:Int)(s:Nat)(u:IN):List IN:=[AI AT a,AI AT b,AI AT c,.int .u8 (s:Int),u]
theorem Ru{F:AEB}{h:Hp}(W:h.Wf){a b c:Int}{s:Nat}{u:IN}{g:O}{e:Env}(he:g e=Bn a b c s u):CZ g F e h=.ok (.pointer (some ⟨h.next,0,none⟩)) (h.AEA 0 (A2 a b c s u)):=by
 rw[Ew,he,Et W];rfl
theorem Bq{h:Hp}{r:Nat}{a b c:Int}{s:Nat}{u:IN}(R:h.Row r 0 (A2 a b c s u)):AEF ⟨r,0,none⟩ h=.ok (AI AT a) h/\AEF ⟨r,1,none⟩ h=.ok (AI AT b) h/\AEF ⟨r,2,none⟩ h=.ok (AI AT c) h/\AEF ⟨r,3,none⟩ h=.ok (.int .u8 (s:Int)) h/\AEF ⟨r,4,none⟩ h=.ok u h/\loadN 5 ⟨r,0,none⟩ h=.ok (Bn a b c s u) h:=
 ⟨R.AEF (off:=0) (by show 0<5;omega),R.AEF (off:=1) (by show 1<5;omega),R.AEF (off:=2) (by show 2<5;omega),R.AEF (off:=3) (by show 3<5;omega),R.AEF (off:=4) (by show 4<5;omega),R.loadN (off:=0) (n:=5) (by show 0+5<=5;omega)⟩
theorem F4{a b:Int}(h:b<=a):iGe a b=true:=(Om a b).trans (decide_eq_true h)
theorem Ea{a b:Int}(h:¬ b<=a):iGe a b=false:=(Om a b).trans (decide_eq_false h)
theorem HT{a b:Int}(h:a<=b):iLe a b=true:=(On a b).trans (decide_eq_true h)
theorem JV{a b:Int}(h:¬ a<=b):iLe a b=false:=(On a b).trans (decide_eq_false h)
theorem GT{a b:Int}(h:a<b):iLt a b=true:=(DB a b).trans (decide_eq_true h)
theorem E5{a b:Int}(h:¬ a<b):iLt a b=false:=(DB a b).trans (decide_eq_false h)
theorem HB{a b:Int}(h:b<a):iGt a b=true:=(Gj a b).trans (decide_eq_true h)
theorem F5{a b:Int}(h:¬ b<a):iGt a b=false:=(Gj a b).trans (decide_eq_false h)
theorem CV{a b:Int}(h:a=b):iEq a b=true:=by rw[DZ];simpa using h
theorem B8{a b:Int}(h:¬ a=b):iEq a b=false:=by rw[DZ];simpa using h
theorem FZ{a b:Int}(h:¬ a=b):iNe a b=true:=by rw[HU];simpa using h
theorem CE{a b:Int}(h:a=b):iNe a b=false:=by rw[HU];simpa using h
theorem Te{F:AEB}{h:Hp}(W:h.Wf){a b c:Int}{s n:Nat}{u:IN}(hu:∀ g,AEv u g=.ok (AI AT (n:Int)) g):A3 [.t (J 2)] (d94 F (AS e0 0 [Bn a b c s u]) h)=.ok (.bool (AET a b c s n)) (h.AEA 0 (A2 a b c s u)):=by
 have R:=Hp.Row.new W 0 (A2 a b c s u);have bx:∀ e:Env,J 0 e=Bn a b c s u->CZ (J 0) F e h=.ok (.pointer (some ⟨h.next,0,none⟩)) (h.AEA 0 (A2 a b c s u)):=fun e he=>Ru W he
 generalize h.AEA 0 (A2 a b c s u)=h1 at R bx;obtain⟨l0,l1,l2,l3,l4,_⟩:=Bq R;unfold d94;by_cases k1:0<=a
 ·have c1:iGe a 0=true:=F4 k1
  by_cases k2:a<=1099511627776
  ·have c2:iLe a 1099511627776=true:=HT k2
   by_cases k3:0<=b
   ·have c3:iGe b 0=true:=F4 k3
    by_cases k4:b<255
    ·have c4:iLt b 255=true:=GT k4
     by_cases k5:1<=c
     ·have c5:iGe c 1=true:=F4 k5
      by_cases k6:c<=1099511627776
      ·have c6:iLe c 1099511627776=true:=HT k6
       by_cases k7:(s:Int)=1
       ·have c7:iEq (s:Int) 1=true:=CV k7
        by_cases k9:(n:Int)<=65536
        ·have c9:iLe (n:Int) 65536=true:=HT k9
         rw[show AET a b c s n=true from decide_eq_true (by omega)];simp only[iN,IS,sT,By,BY,reduceIte,gD,bx,AH,AN,AM,AP,l0,l1,l2,l3,l4,AK,AJ,Ae,hu,c1,c2,c3,c4,c5,c6,c7,c9,lV0]
        ·have c9:iLe (n:Int) 65536=false:=JV k9
         rw[show AET a b c s n=false from decide_eq_false (by omega)];simp only[iN,IS,sT,By,BY,reduceIte,gD,bx,AH,AN,AM,AP,l0,l1,l2,l3,l4,AK,AJ,Ae,hu,c1,c2,c3,c4,c5,c6,c7,c9,lV0]
       ·have c7:iEq (s:Int) 1=false:=B8 k7
        by_cases k8:(s:Int)=2
        ·have c8:iEq (s:Int) 2=true:=CV k8
         by_cases k9:(n:Int)<=65536
         ·have c9:iLe (n:Int) 65536=true:=HT k9
          rw[show AET a b c s n=true from decide_eq_true (by omega)];simp only[iN,IS,sT,By,BY,reduceIte,gD,bx,AH,AN,AM,AP,l0,l1,l2,l3,l4,AK,AJ,Ae,hu,c1,c2,c3,c4,c5,c6,c7,c8,c9,lV0]
         ·have c9:iLe (n:Int) 65536=false:=JV k9
          rw[show AET a b c s n=false from decide_eq_false (by omega)];simp only[iN,IS,sT,By,BY,reduceIte,gD,bx,AH,AN,AM,AP,l0,l1,l2,l3,l4,AK,AJ,Ae,hu,c1,c2,c3,c4,c5,c6,c7,c8,c9,lV0]
        ·have c8:iEq (s:Int) 2=false:=B8 k8
         rw[show AET a b c s n=false from decide_eq_false (by omega)];simp only[iN,IS,sT,By,BY,reduceIte,gD,bx,AH,AN,AM,AP,l0,l1,l2,l3,l4,AK,AJ,Ae,hu,c1,c2,c3,c4,c5,c6,c7,c8,lV0]
      ·have c6:iLe c 1099511627776=false:=JV k6
       rw[show AET a b c s n=false from decide_eq_false (by omega)];simp only[iN,IS,sT,By,BY,reduceIte,gD,bx,AH,AN,AM,AP,l0,l1,l2,l3,l4,AK,AJ,Ae,hu,c1,c2,c3,c4,c5,c6,lV0]
     ·have c5:iGe c 1=false:=Ea k5
      rw[show AET a b c s n=false from decide_eq_false (by omega)];simp only[iN,IS,sT,By,BY,reduceIte,gD,bx,AH,AN,AM,AP,l0,l1,l2,l3,l4,AK,AJ,Ae,hu,c1,c2,c3,c4,c5,lV0]
    ·have c4:iLt b 255=false:=E5 k4
     rw[show AET a b c s n=false from decide_eq_false (by omega)];simp only[iN,IS,sT,By,BY,reduceIte,gD,bx,AH,AN,AM,AP,l0,l1,l2,l3,l4,AK,AJ,Ae,hu,c1,c2,c3,c4,lV0]
   ·have c3:iGe b 0=false:=Ea k3
    rw[show AET a b c s n=false from decide_eq_false (by omega)];simp only[iN,IS,sT,By,BY,reduceIte,gD,bx,AH,AN,AM,AP,l0,l1,l2,l3,l4,AK,AJ,Ae,hu,c1,c2,c3,lV0]
  ·have c2:iLe a 1099511627776=false:=JV k2
   rw[show AET a b c s n=false from decide_eq_false (by omega)];simp only[iN,IS,sT,By,BY,reduceIte,gD,bx,AH,AN,AM,AP,l0,l1,l2,l3,l4,AK,AJ,Ae,hu,c1,c2,lV0]
 ·have c1:iGe a 0=false:=Ea k1
  rw[show AET a b c s n=false from decide_eq_false (by omega)];simp only[iN,IS,sT,By,BY,reduceIte,gD,bx,AH,AN,AM,AP,l0,l1,l2,l3,l4,AK,AJ,Ae,hu,c1,lV0]
theorem Jl{n:Nat}{h:Hp}(W:h.Wf){a b c:Int}{s m:Nat}{u:IN}(hu:∀ g,AEv u g=.ok (AI AT (m:Int)) g):call AC (n+1) 94 [Bn a b c s u] h=.ok (.bool (AET a b c s m)) (h.AEA 0 (A2 a b c s u)):=by
 rw[pU rfl];exact Te W hu
def OJ(z:Int):Nat:=if z<0\/65536<z then 0 else 1+(z.toNat+63)/64
theorem rR{F:AEB}{e:Env}{h:Hp}{x y:O}{k j:IntKind}{a b:Int}(hx:x e=.int k a)(hy:y e=.int j b):X9 x y F e h=.ok (.int k (min a b)) h:=by
 show Hf true (x e) (y e) h=_;rw[hx,hy];show(bif iLt b a then R.ok (.int k b) h else .ok (.int k a) h)=_;rw[DB];rcases ADj b a with hlt|hle
 ·rw[decide_eq_true hlt,Int.min_eq_right (by omega)];rfl
 ·rw[decide_eq_false (by omega),Int.min_eq_left hle];rfl
theorem WD{n:Nat}{h:Hp}{z:Int}:call AC (n+1) 72 [AI AT z] h=.ok (AI AT (OJ z:Nat)) h:=by
 rw[pJ rfl];unfold d72;by_cases k1:z<0
 ·have c1:iLt z 0=true:=GT k1
  rw[show OJ z=0 from if_pos (by omega)];simp only[iN,IS,sT,By,BY,reduceIte,gD,AK,AJ,c1,lV0];rfl
 ·have c1:iLt z 0=false:=E5 k1
  by_cases k2:65536<z
  ·have c2:iGt z 65536=true:=HB k2
   rw[show OJ z=0 from if_pos (by omega)];simp only[iN,IS,sT,By,BY,reduceIte,gD,AK,AJ,c1,c2,lV0];rfl
  ·have c2:iGt z 65536=false:=F5 k2
   obtain⟨m,rfl⟩:=zq (show 0<=z by omega);have a1:FE .i64 (AI AT (m:Int)) (AI AT 64) h=.ok (AI AT ((m+64:Nat):Int)) h:=by
    rw[D0,show(m:Int)+64=((m+64:Nat):Int)by omega,Bj (by omega)]
   have a2:GG yQ .i64 (AI AT ((m+64:Nat):Int)) (AI AT 1) h=.ok (AI AT ((m+63:Nat):Int)) h:=by
    have:yQ ((m+64:Nat):Int) 1=((m+63:Nat):Int):=by show((m+64:Nat):Int) - 1=_;omega
    rw[Ck,this,Bj (by omega)]
   have a3:Ss .i64 (AI AT ((m+63:Nat):Int)) (AI AT 64) h=.ok (AI AT (((m+63)/64:Nat):Int)) h:=by
    have:zU.wrap (((m+63:Nat):Int).tdiv 64)=(((m+63)/64:Nat):Int):=Bj (n:=(m+63)/64) (by omega);rw[LX (by omega),this]
   have a4:FE .i64 (AI AT 1) (AI AT (((m+63)/64:Nat):Int)) h=.ok (AI AT ((OJ (m:Int):Nat):Int)) h:=by
    rw[show OJ (m:Int)=1+((m:Int).toNat+63)/64 from if_neg (by omega),yh,D0,show(1:Int)+(((m+63)/64:Nat):Int)=((1+(m+63)/64:Nat):Int)by omega,Bj (by omega)]
   simp only[iN,IS,sT,By,BY,reduceIte,gD,AK,AJ,c1,c2,BP,a1,B5,a2,Je,a3,a4,lV0]
end
noncomputable section
open Go
set_option maxRecDepth 100000
def CH(a b c s m t:Nat):List Nat:=[s,a,b,c,m,t]
theorem aO{a b c s m t:Nat}(ha:a<=1099511627776)(hb:b<255)(hc:c<=1099511627776)(hs:s<256)(hm:m<=65536)(ht:t<4294967296):∀ v∈CH a b c s m t,v<18446744073709551616:=fun v hv=>by
 unfold CH at hv;simp only[List.mem_cons,List.mem_nil_iff,or_false]at hv;omega
theorem N7{a b c s m t:Nat}(ha:a<=1099511627776)(hb:b<255)(hc:c<=1099511627776)(hs:s<256)(hm:m<=65536)(ht:t<4294967296):(Bz (CH a b c s m t)).length<=40:=by
 have h1:=EH 1 s (by show s<16384;omega);have h2:=EH 5 a (by show a<4398046511104;omega);have h3:=EH 1 b (by show b<16384;omega);have h4:=EH 5 c (by show c<4398046511104;omega);have h5:=EH 2 m (by show m<2097152;omega);have h6:=EH 4 t (by show t<34359738368;omega);show(CB s++(CB a++(CB b++(CB c++(CB m++(CB t++[])))))).length<=40;simp only[No,yM];omega
theorem KF{k:IntKind}{n:Nat}(hn:n<=18446744073709551615){h:Hp}:Dr .u64 (.int k (n:Int)) h=.ok (.int .u64 (n:Int)) h:=by rw[C5,EY hn]
def wY(T:List Nat)(a b c:Int)(s:Nat)(l:List Nat)(h h':Hp)(r:R):Prop:=(AET a b c s l.length=true/\∃ v,r=.ok (.tuple ⟨[v,AI AT 0]⟩) h'/\Mk h' h.next v (Ec T (LJ (CH a.toNat b.toNat c.toNat s l.length (CC T l)))))\/(AET a b c s l.length=false/\r=.ok (.tuple ⟨[.slice none 0 0,AI AT 2]⟩) h')
end
noncomputable section
open Go
set_option maxRecDepth 100000
def nv(n:Nat):IN:=.int .u64 (n:Int)
theorem Hp.Own.apart{h:Hp}{k en b:Nat}{v:IN}{xs:List IN}(o:h.Own k en v xs)(hb:b<k):¬ AEe v b:=by
 rcases o with ⟨rfl,_⟩|⟨c,rfl,_,h3,_⟩
 ·exact GL
 ·exact LT (by omega)
theorem YG{h0 h:Hp}{k n:Nat}{v:IN}{xs:List Nat}(x0:h0.Ext h)(hk:h0.next<=k)(hk2:k<=h.next)(o:h.Own k 5 v (xs.map bv))(hn:0<n)(hm:xs.length+n<=1000000):
  ∃ h' v',Hv 1 1 5 ty5.zero v (.ok n) h=.ok v' h'/\h0.Ext h'/\h'.Own k 5 v' ((xs++xV n 0).map bv)/\h.next<=h'.next:=by
 have W:=x0.wf;have hz:Bb ty5.zero=true:=by kernel_rfl
 have hyl:((xV n 0).map bv).length=n:=by simp
 rw[yR];have hx:(xs.map bv).length=xs.length:=sh ..;generalize hY:(xV n 0).map bv=ys at hyl;rcases o with ⟨rfl,AH9⟩|⟨b,rfl,r,hb,hb2⟩
 ·rw[AH9]
  obtain⟨t1,t2⟩:=Hi ys;refine⟨h.push (.cells (ofL ys) ys.length 6),.slice (some ⟨h.next,0,none⟩) ys.length ys.length,?_,x0.push _,.inr ⟨h.next,rfl,⟨ofL ys,by rw[W.AEb,if_pos rfl];rfl,t2⟩,hk2,W.big⟩,ADS _⟩;unfold Hv;simp only[Ao,zC,OF];have e1:xU n 0=false:=by
   cases e:xU n 0
   ·rfl
   ·have:=Au.1 e;omega
  have e2:xU (yK (xM n) (xM 1)) JX=true:=Au.2 (H9 (by show(n+1)*2<=1099511627776;omega));rw[e1];simp only[e2,cond_true,hz,Lj,hY];unfold G9 BO JS;simp only[yP,t1];unfold E4;simp only[Bf];unfold CX;rw[Ao,C2 W,hyl];rfl
 ·obtain⟨cc,hcc,hl⟩:=r.rowOf
  rw[hx]at hcc;obtain⟨t,h2,h3⟩:=EF ys cc (xs.map bv) xs.length hl (.inr hx.symm);have h3:t.Is (xs.map bv++ys):=by
   have e:(xs.map bv).drop (xs.length+ys.length)=[]:=yw (by omega);have e':(xs.map bv).take xs.length=xs.map bv:=ze (by omega);rw[e,e']at h3
   simpa using h3
  have hlen:(xs.map bv++ys).length=xs.length+n:=by rw[No,hx,hyl]
  have hlt:=r.lt W;have W1:(h.put b .dead).Wf:=W.put hlt _;have x1:h0.Ext (h.put b .dead):=x0.put (by omega) hlt _;refine⟨(h.put b .dead).push (.cells t (xs.length+n) 6),.slice (some ⟨h.next,0,none⟩) (xs.length+n) (xs.length+n),?_,x1.push _,.inr ⟨h.next,by rw[hlen],⟨t,by
   have:=W1.AEb (.cells t (xs.length+n) 6) h.next;rw[this,if_pos (show h.next=(h.put b .dead).next from rfl),hlen],h3⟩,hk2,W.big⟩,ADS _⟩
  rw[hx];unfold Hv;simp only[Ao,zC];have e1:xU (xs.length+n) xs.length=false:=by
   cases e:xU (xs.length+n) xs.length
   ·rfl
   ·have:=Au.1 e;omega
  have e2:xU (yK (xM (xs.length+n)) (xM 1)) JX=true:=Au.2 (H9 (by show(xs.length+n+1)*2<=1099511627776;omega));rw[e1];simp only[e2,cond_true,hz,Lj,hY];unfold G9;have e3:xW xs.length (yK xs.length 1)=true:=Ax.2 (AAN _).symm;simp only[hcc,e3,h2];unfold E4;have e4:Ks 0 xs.length 1 xs.length=true:=by
   unfold Ks;cases xs.length with
   |zero=>rfl
   |succ n=>exact Ax.2 (by show 0+(n+1)*1=n+1;omega)
  simp only[hcc,Bf,zC,zG,cond_true,e4];rw[ED W hb2 hlt];unfold CX;rw[Ao,C2 W1,hyl];rfl
theorem Qw{F:AEB}{e:Env}{h:Hp}{x y:O}{n:Nat}{v:IN}(hx:x e=v)(hy:y e=AI AT (n:Int)):Fd 1 1 5 ty5.zero x y F e h=Hv 1 1 5 ty5.zero v (.ok n) h:=by
 unfold Fd;rw[hx,hy,DD]
theorem kN:Ba SG.zero 6=[nv 0,nv 0,nv 0,nv 0,nv 0,nv 0]:=by kernel_rfl
theorem Y7{n:Nat}:cellsOf (nv n)=[nv n]:=rfl
theorem YN{F:AEB}{e:Env}{h:Hp}(W:h.Wf){g1 g2 g3 g4 g5 g6:O}{a b c d i j:Nat}(h1:g1 e=nv a)(h2:g2 e=nv b)(h3:g3 e=nv c)(h4:g4 e=nv d)(h5:g5 e=nv i)(h6:g6 e=nv j):
  As 6 (Ba SG.zero 6) [(0,1,g1),(1,1,g2),(2,1,g3),(3,1,g4),(4,1,g5),(5,1,g6)] F e h=.ok (.slice (some ⟨h.next,0,none⟩) 6 6) (h.AEA 0 ([a,b,c,d,i,j].map nv)):=by
 rw[CM,kN,A1 (hk:=by rw[h1];rfl),h1,A1 (hk:=by rw[h2];rfl),h2,A1 (hk:=by rw[h3];rfl),h3,A1 (hk:=by rw[h4];rfl),h4,A1 (hk:=by rw[h5];rfl),h5,A1 (hk:=by rw[h6];rfl),h6];simp only[Y7,ya,xP,yM,over,ABR,ABM,zr,yP,zO,IS,zf,if_true,Bx,reduceIte];rw[C3 W];rfl
theorem qn:heS=BH (Ac 0 (A6 heB)) heE:=rfl
theorem ZQ:d98=ZR:=rfl
theorem gx{n:Nat}{h0 h:Hp}(x0:h0.Ext h){b6:Nat}(hb6:b6<h.next)(hk:h0.next<=h.next){ns:List Nat}(R6:h.Row b6 0 (ns.map nv))(hns:∀ v∈ns,v<18446744073709551616)(h6:ns.length=6){p:IN}{e:Env}
  (s0:J 0 e=p)(s6:J 6 e=.slice none 0 0)(s33:J 33 e=.slice (some ⟨b6,0,none⟩) 6 6)(s34:J 34 e=AI AT 6)(s35:J 35 e=AI AT ((0:Nat):Int)):
  ∃ e' h' v,A6 heB (call AC (n+1)) e h=.exit 0 e' h'/\h0.Ext h'/\h'.Own h.next 5 v ((Bz ns).map bv)/\J 0 e'=p/\J 6 e'=v/\h.next<=h'.next:=by
 refine Be (I:=fun i e' h'=>∃ v,h0.Ext h'/\h'.Own h.next 5 v ((Bz (ns.take i)).map bv)/\h'.Row b6 0 (ns.map nv)/\J 0 e'=p/\J 6 e'=v/\J 33 e'=.slice (some ⟨b6,0,none⟩) 6 6/\J 34 e'=AI AT 6/\J 35 e'=AI AT (i:Int)/\h.next<=h'.next/\i<=6)
  (Q:=fun x=>∃ e' h' v,x=.exit 0 e' h'/\h0.Ext h'/\h'.Own h.next 5 v ((Bz ns).map bv)/\J 0 e'=p/\J 6 e'=v/\h.next<=h'.next) 6 (by omega) (fun i e' h' ⟨v,x',o',R',t0,t6,t33,t34,t35,hn,hi⟩=>?_)
  ⟨_,x0,.inl ⟨rfl,rfl⟩,R6,s0,s6,s33,s34,s35,IT _,by omega⟩
 by_cases hlt:i<6
 ·left
  have c1:iLt (i:Int) 6=true:=Ep (b:=6) hlt;have hil:i<ns.length:=by omega
  have i1:AE6 1 (.slice (some ⟨b6,0,none⟩) 6 6) (AI AT (i:Int)) h'=.ok (.pointer (some ⟨b6,i,none⟩)) h':=by
   have:=DT (h:=h') (n:=6) (c:=6) (es:=1) (b:=b6) (off:=0) (i:=i) (k:=.i64) hlt
   rwa [OF,AAN]at this
  have l1:AEF ⟨b6,i,none⟩ h'=.ok (.int .u64 ((ns[i]'hil:Nat):Int)) h':=by
   rw[R'.AEF (off:=i) (by rw[sh];exact hil),xN,yk,xL hil];rfl
  have htl:(Bz (ns.take i)).length<=1000000:=by
   have h1:=Iz (ns:=ns.take i) fun v hv=>hns v (zI hv)
   rw[yE]at h1;omega
  obtain⟨h2,v2,k2,x2,o2,hn2,fr⟩:=kH (n:=n) x' hk hn o' htl (hns _ (zn hil));have a3:=CN (i:=i) (h:=h2) (by omega);have R2:=(fr b6 0 _ (o'.apart hb6) R').1;have htk:Bz (ns.take i)++CB (ns[i]'hil)=Bz (ns.take (i+1)):=by
   rw[List.take_succ_eq_append_getElem hil,Tp];show _=_++(CB _++[]);rw[xZ]
  rw[htk]at o2;have hrun:∃ e2,heB (call AC (n+1)) e' h'=.norm e2 h2/\J 0 e2=p/\J 6 e2=v2/\J 33 e2=.slice (some ⟨b6,0,none⟩) 6 6/\J 34 e2=AI AT 6/\J 35 e2=AI AT ((i+1:Nat):Int):=by
   unfold heB;simp only[sT,By,BY,reduceIte,AK,AJ,t35,t34,c1,A8,t33,i1,AM,AP,l1,cA0,t6,k2,BP,a3];exact⟨_,rfl,by simp[AG,t0,t33,t34]⟩
  obtain⟨e2,q1,q2,q3,q4,q5,q6⟩:=hrun;exact⟨by omega,e2,h2,q1,v2,x2,o2,R2,q2,q3,q4,q5,q6,by omega,by omega⟩
 ·right
  have hi6:i=6:=by omega
  subst hi6;have c1:iLt ((6:Nat):Int) 6=false:=DE (a:=6) (b:=6) (by omega);have hrun:∃ e2,heB (call AC (n+1)) e' h'=.exit 0 e2 h'/\J 0 e2=p/\J 6 e2=v:=by
   unfold heB;simp only[sT,By,BY,reduceIte,AK,AJ,t35,t34,c1];exact⟨_,rfl,by simp[AG,t0,t6]⟩
  obtain⟨e2,q1,q2,q3⟩:=hrun;rw[q1];rw[ze (by omega)]at o';exact⟨rfl,e2,h',v,rfl,x',o',q2,q3,hn⟩
theorem VJ{n:Nat}{h:Hp}(W:h.Wf){tb:Nat}{T:List Nat}(R:h.Row tb 0 (T.map wv))(hT:AE5 T){a b c:Int}{s:Nat}{u:IN}{l:List Nat}(V:h.AEY u (l.map bv))(hb:∀ x∈l,x<256)(hs:s<256)(hl:l.length<=900000):
  ∃ h',h.Ext h'/\wY T a b c s l h h' (call AC (n+3) 98 [pt tb,Bn a b c s u] h):=by
 have x1:=(Hp.Ext.refl W).AEA 0 (A2 a b c s u);have R1:=Hp.Row.new W 0 (A2 a b c s u);have bx:∀ e:Env,J 1 e=Bn a b c s u->CZ (J 1) (call AC (n+2)) e h=.ok (.pointer (some ⟨h.next,0,none⟩)) (h.AEA 0 (A2 a b c s u)):=fun e he=>Ru W he
 have n1:(h.AEA 0 (A2 a b c s u)).next=h.next+1:=rfl;generalize h.AEA 0 (A2 a b c s u)=h1 at x1 R1 bx n1;obtain⟨_,_,_,_,_,ln⟩:=Bq R1;have k1:=Jl (n:=n+1) x1.wf (a:=a) (b:=b) (c:=c) (s:=s) (u:=u) V.bl;have y2:=(Hp.Ext.refl x1.wf).AEA 0 (A2 a b c s u);have n2:(h1.AEA 0 (A2 a b c s u)).next=h1.next+1:=rfl;generalize h1.AEA 0 (A2 a b c s u)=h2 at y2 k1 n2;have x2:=x1.trans y2;cases hr:AET a b c s l.length with
 |false=>
  rw[hr]at k1;refine⟨h2,x2,.inr ⟨hr,?_⟩⟩;rw[Y5 rfl,ZQ];unfold ZR;simp only[iN,IS,sT,By,BY,reduceIte,bx,Ar,Aj,ln,cA0,k1,BZ,BX,yZ,BE,DR]
 |true=>
  rw[hr]at k1;obtain⟨ha1,ha2,hb1,hb2,hc1,hc2,hs2,hm⟩:=of_decide_eq_true hr;have xm:=x2.marked;have R2:h2.marked.Row h.next 0 (A2 a b c s u):=(R1.ext x1.wf y2).same rfl;obtain⟨m0,m1,m2,m3,m4,_⟩:=Bq R2;have hmk:h.next<h2.marked.mark:=by show h.next<h2.next;omega
  have old:∀ (off:Nat) (k:C) (F:AEB) (e:Env),Ir (.pointer (some ⟨h.next,off,none⟩)) k F e h2.marked=k F e h2.marked:=fun off k F e=>Dh hmk
  have Vl:=V.bl h2.marked;obtain⟨a',rfl⟩:=zq ha1;obtain⟨b',rfl⟩:=zq hb1;obtain⟨c',rfl⟩:=zq (show 0<=c by omega);have cs:=KF (k:=.u8) (n:=s) (by omega) (h:=h2.marked);have ca:=KF (k:=.i64) (n:=a') (by omega) (h:=h2.marked);have cb:=KF (k:=.i64) (n:=b') (by omega) (h:=h2.marked);have cc:=KF (k:=.i64) (n:=c') (by omega) (h:=h2.marked);have cm:=KF (k:=.i64) (n:=l.length) (by omega) (h:=h2.marked);obtain⟨hq,kq,hq2⟩:=Tk (n:=n+1) (h:=h2.marked.quiet) (R.ext W xm.quiet) hT (V.ext W xm.quiet) hb hl;have yq:h2.marked.quiet.Ext hq:=by
   rcases hq2 with rfl|rfl
   ·exact Hp.Ext.refl xm.quiet.wf
   ·exact(Hp.Ext.refl xm.quiet.wf).marked
  have nq:hq.next=h2.next:=by rcases hq2 with rfl|rfl<;>rfl
  have q1:∀ e:Env,J 0 e=pt tb->J 30 e=u->Ad .weak (AU 48 [J 0,J 30]) (call AC (n+2)) e h2.marked=.ok (.int .u32 ((CC T l:Nat):Int)) (h2.marked.back hq):=fun e h0 h6=>by
   refine Ci ?_ yq (IT _);rw[BN,AV,AV,A0,h0,h6];exact kq
  have yb:h2.marked.Ext (h2.marked.back hq):=Hp.Ext.back yq;have nb:(h2.marked.back hq).next=h2.next:=nq;have mb:(h2.marked.back hq).mark=h2.next:=rfl;generalize h2.marked.back hq=h3 at q1 yb nb mb;have x3:=xm.trans yb;have ct:=KF (k:=.u32) (n:=CC T l) (by have:=IJ T l;omega) (h:=h3);have y4:h3.quiet.Ext (h3.quiet.AEA 0 ((CH a' b' c' s l.length (CC T l)).map nv)):=(Hp.Ext.refl x3.quiet.wf).AEA _ _;have R4:=Hp.Row.new x3.quiet.wf 0 ((CH a' b' c' s l.length (CC T l)).map nv);have q2:∀ (F:AEB) (e:Env),J 14 e=nv s->J 17 e=nv a'->J 20 e=nv b'->J 23 e=nv c'->J 27 e=nv l.length->J 32 e=nv (CC T l)->
    Ad .AER (As 6 (Ba SG.zero 6) [(0,1,J 14),(1,1,J 17),(2,1,J 20),(3,1,J 23),(4,1,J 27),(5,1,J 32)]) F e h3=.ok (.slice (some ⟨h3.next,0,none⟩) 6 6) (h3.back (h3.quiet.AEA 0 ((CH a' b' c' s l.length (CC T l)).map nv))):=fun F e e1 e2 e3 e4 e5 e6=>
   Ci (YN x3.quiet.wf e1 e2 e3 e4 e5 e6) y4 (by omega)
  have z4:h3.Ext (h3.back (h3.quiet.AEA 0 ((CH a' b' c' s l.length (CC T l)).map nv))):=Hp.Ext.back y4;have n4:(h3.back (h3.quiet.AEA 0 ((CH a' b' c' s l.length (CC T l)).map nv))).next=h3.next+1:=rfl;have R5:(h3.back (h3.quiet.AEA 0 ((CH a' b' c' s l.length (CC T l)).map nv))).Row h3.next 0 ((CH a' b' c' s l.length (CC T l)).map nv):=R4.same rfl;generalize h3.back (h3.quiet.AEA 0 ((CH a' b' c' s l.length (CC T l)).map nv))=h4 at q2 z4 n4 R5;have x4:=x3.trans z4;have hnl:=aO (a:=a') (b:=b') (c:=c') (s:=s) (m:=l.length) (t:=CC T l) (by omega) (by omega) (by omega) hs (by omega) (IJ T l);have hl7:=N7 (a:=a') (b:=b') (c:=c') (s:=s) (m:=l.length) (t:=CC T l) (by omega) (by omega) (by omega) hs (by omega) (IJ T l);have pre:∃ e1,ZR (call AC (n+2)) (AS e0 0 [pt tb,Bn (a':Int) (b':Int) (c':Int) s u]) h=heS (call AC (n+2)) e1 h4/\J 0 e1=pt tb/\J 6 e1=.slice none 0 0/\J 33 e1=.slice (some ⟨h3.next,0,none⟩) 6 6/\J 34 e1=AI AT 6/\J 35 e1=AI AT ((0:Nat):Int):=by
   have cs:Dr .u64 (.int .u8 (s:Int)) h2.marked=.ok (nv s) h2.marked:=cs;have ca:Dr .u64 (AI AT (a':Int)) h2.marked=.ok (nv a') h2.marked:=ca;have cb:Dr .u64 (AI AT (b':Int)) h2.marked=.ok (nv b') h2.marked:=cb;have cc:Dr .u64 (AI AT (c':Int)) h2.marked=.ok (nv c') h2.marked:=cc;have cm:Dr .u64 (AI AT (l.length:Int)) h2.marked=.ok (nv l.length) h2.marked:=cm;have ct:Dr .u64 (.int .u32 ((CC T l:Nat):Int)) h3=.ok (nv (CC T l)) h3:=ct;unfold ZR;simp only[iN,IS,sT,By,BY,reduceIte,bx,Ar,Aj,ln,cA0,k1,BZ,BX,yT,Ay,AH,AN,D4,old,DP,AM,AP,m0,m1,m2,m3,m4,Ca,cs,ca,cb,cc,Ae,Vl,cm,q1,ct,q2,Df];exact⟨_,rfl,by simp[AG]⟩
  obtain⟨e1,p1,p2,p3,p4,p5,p6⟩:=pre;obtain⟨e2,h5,v5,r1,x5,o5,r2,r3,n5⟩:=gx (n:=n+1) x4 (b6:=h3.next) (by omega) x4.next R5 hnl rfl p2 p3 p4 p5 p6;have Vl5:=o5.vals.bl h5;have a1:GG yQ .i64 (AI AT 60) (AI AT ((Bz (CH a' b' c' s l.length (CC T l))).length:Int)) h5=.ok (AI AT ((60 - (Bz (CH a' b' c' s l.length (CC T l))).length:Nat):Int)) h5:=by
   have:yQ 60 ((Bz (CH a' b' c' s l.length (CC T l))).length:Int)=((60 - (Bz (CH a' b' c' s l.length (CC T l))).length:Nat):Int):=by
    show(60:Int) - _=_;omega
   rw[Ck,this,Bj (by omega)]
  obtain⟨h6,v6,k6,x6,o6,n6⟩:=YG x5 (k:=h4.next) x4.next n5 o5 (n:=60 - (Bz (CH a' b' c' s l.length (CC T l))).length) (by omega) (by omega);have ap:∀ (F:AEB) (e:Env),J 6 e=v5->J 47 e=AI AT ((60 - (Bz (CH a' b' c' s l.length (CC T l))).length:Nat):Int)->Fd 1 1 5 ty5.zero (J 6) (J 47) F e h5=.ok v6 h6:=fun F e e1 e2=>(Qw e1 e2).trans k6
  have hpl:=Mu (l:=Bz (CH a' b' c' s l.length (CC T l))) (by omega);have Vp:h6.AEY v6 ((PL (Bz (CH a' b' c' s l.length (CC T l)))).map bv):=o6.vals;obtain⟨h7,w,k7,y7,m7⟩:=V6 (n:=n) x6.wf (R.ext W x6) hT Vp (Vy OQ) (by omega);refine⟨h7,x6.trans y7,.inl ⟨hr,w,?_,?_⟩⟩
  ·rw[Y5 rfl,ZQ,p1,qn]
   simp only[BJ,Az,r1,A9,BD];unfold heE;simp only[sT,By,BY,reduceIte,Ae,r3,Vl5,B5,a1,ap,cA0,r2,k7,BE,DR]
  ·rw[yh,yh,yh]
   exact m7.le x6.next
end
noncomputable section
open Go
set_option maxRecDepth 100000
abbrev AEG:IN:=.slice none 0 0
def okT(ns:List Nat):IN:=.tuple ⟨[Bn (at6 ns 1) (at6 ns 2) (at6 ns 3) (at6 ns 0) AEG,AI AT (at6 ns 4:Nat),.int .u32 (at6 ns 5:Nat),.bool true]⟩
def noT:IN:=.tuple ⟨[Bn 0 0 0 0 AEG,AI AT 0,.int .u32 0,.bool false]⟩
theorem Ts:IO.zero=A2 0 0 0 0 AEG:=by kernel_rfl
theorem FN:Bt .mt 0 (A2 0 0 0 0 AEG)=some DH:=by kernel_rfl
theorem cu:Bt .mt 0 ([0,0,0,0,0,0].map nv)=some OS:=by kernel_rfl
theorem KM{e:Env}{h:Hp}{g g1 g2 g3:O}{n:Nat}{v:IN}(hv:KY n (g e) h=.ok v h):Ei [.cN g n,.t g1,.t g2,.t g3] e h=.ok (.tuple ⟨[v,g1 e,g2 e,g3 e]⟩) h:=by
 have h1:FL e h (.cN g n)=.ok v h:=hv;show(match FL e h (.cN g n)with|.ok v _=>AEN v fun v=>AEN (g1 e) (fun x=>AEN (g2 e) fun y=>AEN (g3 e) fun z=>JM h [v,x,y,z])|.no=>.no)=_;rw[h1];simp only[BK];rfl
theorem LP{h g:Hp}(W0:h.Wf)(x:h.Ext g){r:Nat}(hr:h.next<=r){L:List IN}(R:g.Row r 0 L)(hL:L.length=5){a b c:Int}{s:Nat}{u:IN}(hu:oneCell u=true):
  AEK 5 (pt r) (Bn a b c s u) g=.ok AEE (g.wr r 0 (A2 a b c s u))/\loadN 5 ⟨r,0,none⟩ (g.wr r 0 (A2 a b c s u))=.ok (Bn a b c s u) (g.wr r 0 (A2 a b c s u))/\h.Ext (g.wr r 0 (A2 a b c s u))/\(g.wr r 0 (A2 a b c s u)).Row r 0 (A2 a b c s u)/\(g.wr r 0 (A2 a b c s u)).next=g.next:=by
 have AEM:256<=r:=by have:=W0.big;omega
 have ho:0+(A2 a b c s u).length<=L.length:=by rw[hL];show 0+5<=5;omega
 have h1:Bb (A2 a b c s u)=true:=by
  show(bif oneCell u then true else false)=true;rw[hu];rfl
 have st:=R.AEK (n:=5) (off:=0) x.wf AEM (v:=Bn a b c s u) rfl ho h1;have wr:=R.AEP x.wf ho;rw[Ff (show L.length=(A2 a b c s u).length from hL)]at wr;exact⟨st,(Bq wr).2.2.2.2.2,R.AEi x hr ho,wr,R.AEr ho⟩
theorem eC{F:AEB}{e:Env}{h:Hp}{g1 g2 g3 g4:O}{a b c:Int}{s:Nat}(h1:g1 e=.int .u8 (s:Int))(h2:g2 e=AI AT a)(h3:g3 e=AI AT b)(h4:g4 e=AI AT c):
  BU IO.zero [(3,1,g1),(0,1,g2),(1,1,g3),(2,1,g4)] F e h=.ok (Bn a b c s AEG) h:=by
 rw[Cr,Ts,A1 (hk:=by rw[h1];rfl),h1,A1 (hk:=by rw[h2];rfl),h2,A1 (hk:=by rw[h3];rfl),h3,A1 (hk:=by rw[h4];rfl),h4];simp only[Co,ya,xP,yM,A2,over,ABR,ABM,zr,yP,zO,IS,zf,if_true,Bx,reduceIte];rfl
theorem Dm{F:AEB}{e:Env}{h:Hp}:BU IO.zero [] F e h=.ok (Bn 0 0 0 0 AEG) h:=by
 rw[Cr,Bx,Ts];rfl
theorem QV{r k:Nat}(hk:k<6){g:Hp}:NM 6 1 (pt r) (AI AT (k:Int)) g=.ok (.pointer (some ⟨r,k,none⟩)) g:=by
 have:=VO (h:=g) (n:=6) (es:=1) (b:=r) (off:=0) (i:=k) (k:=.i64) hk
 rwa [OF,AAN]at this
theorem Qt{g:Hp}{r k:Nat}{ns:List Nat}(R:g.Row r 0 (ns.map nv))(h6:ns.length=6)(hk:k<6):AEF ⟨r,k,none⟩ g=.ok (.int .u64 ((at6 ns k:Nat):Int)) g:=by
 have hil:k<ns.length:=by omega
 unfold at6;rw[R.AEF (off:=k) (by rw[sh];exact hil),xN,yk,xN,xL hil];rfl
abbrev f112:IN:=.func (.func 135) ⟨[]⟩ ⟨[]⟩
theorem Ys{n:Nat}{h:Hp}{c:Nat}:call AC (n+1) 135 [.int .u8 (c:Int)] h=.ok (.bool (iNe (c:Int) 0)) h:=by
 rw[ef rfl];unfold gG;simp only[iN,IS,sT,By,BY,reduceIte,AK,AJ,lV0]
theorem Oq:ifS=BH (Ac 0 (A6 ifB)) ifE:=rfl
theorem LW:gF=Nd:=rfl
theorem hJ{n:Nat}{h:Hp}{u:IN}{l:List Nat}(V:h.AEY u (l.map bv))(hl:l.length<=900000){e:Env}(s0:J 0 e=u)(s1:J 1 e=f112)(s7:J 7 e=AI AT (l.length:Int))(s8:J 8 e=AI AT ((0:Nat):Int)):
  (∃ e',A6 ifB (call AC (n+1)) e h=.exit 0 e' h/\∀ x∈l,x=0)\/(∃ e' i,A6 ifB (call AC (n+1)) e h=.ret e' h/\J 4 e'=AI AT ((i:Nat):Int)/\∃ x∈l,x≠0):=by
 refine Be (I:=fun i e' h'=>h'=h/\J 0 e'=u/\J 1 e'=f112/\J 7 e'=AI AT (l.length:Int)/\J 8 e'=AI AT (i:Int)/\i<=l.length/\((∀ x∈l,x=0)↔∀ x∈l.drop i,x=0))
  (Q:=fun x=>(∃ e',x=.exit 0 e' h/\∀ x∈l,x=0)\/(∃ e' i,x=.ret e' h/\J 4 e'=AI AT ((i:Nat):Int)/\∃ x∈l,x≠0)) l.length (by omega) (fun i e' h' ⟨hh,t0,t1,t7,t8,hi,hr⟩=>?_) ⟨rfl,s0,s1,s7,s8,yC _,by simp⟩
 subst hh;by_cases hlt:i<l.length
 ·obtain⟨a,g1,g2⟩:=I5 V hlt
  have hmem:l.getD i 0∈l:=by
   rw[xN,xL hlt];exact zn hlt
  rw[GN hlt]at hr;generalize l.getD i 0=c at g2 hr hmem;have c1:=Ep hlt;have k1:=Ys (n:=n) (h:=h') (c:=c);by_cases hc:c=0
  ·left
   subst hc;have k1:call AC (n+1) 135 [.int .u8 ((0:Nat):Int)] h'=.ok (.bool false) h':=k1;have a3:=CN (i:=i) (h:=h') (by omega);have hrun:∃ e2,ifB (call AC (n+1)) e' h'=.norm e2 h'/\J 0 e2=u/\J 1 e2=f112/\J 7 e2=AI AT (l.length:Int)/\J 8 e2=AI AT ((i+1:Nat):Int):=by
    unfold ifB;simp only[sT,By,BY,reduceIte,AK,AJ,t8,t7,c1,A8,t0,g1,AM,g2,CT,t1,Cn,AV,A0,yP,xZ,k1,BP,a3];exact⟨_,rfl,by simp[AG,t0,t1,t7]⟩
   obtain⟨e2,q1,q2,q3,q4,q5⟩:=hrun;refine⟨hlt,e2,h',q1,rfl,q2,q3,q4,q5,hlt,hr.trans ?_⟩;simp
  ·right
   have c2:iNe (c:Int) 0=true:=by rw[HU];simpa using hc
   rw[c2]at k1;have hrun:∃ e2,ifB (call AC (n+1)) e' h'=.ret e2 h'/\J 4 e2=AI AT (i:Int):=by
    unfold ifB;simp only[sT,By,BY,reduceIte,AK,AJ,t8,t7,c1,A8,t0,g1,AM,g2,CT,t1,Cn,AV,A0,yP,xZ,k1];exact⟨_,rfl,by simp[AG]⟩
   obtain⟨e2,q1,q2⟩:=hrun;rw[q1];exact⟨rfl,.inr ⟨e2,i,rfl,q2,c,hmem,hc⟩⟩
 ·right
  have c1:=DE (show l.length<=i by omega);have hrun:∃ e2,ifB (call AC (n+1)) e' h'=.exit 0 e2 h':=by
   unfold ifB;simp only[sT,By,BY,reduceIte,AK,AJ,t8,t7,c1];exact⟨_,rfl⟩
  obtain⟨e2,q1⟩:=hrun;rw[q1];refine⟨rfl,.inl ⟨e2,rfl,hr.2 ?_⟩⟩;rw[yw (by omega)];intro x hx;cases hx
theorem XQ{n:Nat}{h:Hp}{u:IN}{l:List Nat}(V:h.AEY u (l.map bv))(hl:l.length<=900000):∃ r:Bool,call AC (n+3) 110 [u,f112] h=.ok (.bool r) h/\(r=true↔∃ x∈l,x≠0):=by
 have Vl:=V.bl h;have pre:∃ e1,Nd (call AC (n+1)) (AS e0 0 [u,f112]) h=ifS (call AC (n+1)) e1 h/\J 0 e1=u/\J 1 e1=f112/\J 7 e1=AI AT (l.length:Int)/\J 8 e1=AI AT ((0:Nat):Int):=by
  unfold Nd;simp only[iN,IS,sT,By,BY,reduceIte,Ae,Vl];exact⟨_,rfl,by simp[AG]⟩
 obtain⟨e1,p1,p2,p3,p4,p5⟩:=pre;rcases hJ (n:=n) V hl p2 p3 p4 p5 with ⟨e2,q1,q2⟩|⟨e2,i,q1,q2,q3⟩
 ·have k1:call AC (n+2) 134 [u,f112] h=.ok (AI AT (-1)) h:=by
   rw[LV rfl,LW,p1,Oq];simp only[BJ,Az,q1,A9,BD];unfold ifE;simp only[sT,By,BY,reduceIte,lV0]
  refine⟨false,?_,by simp;exact q2⟩;have c1:iGe (-1) 0=false:=Ea (by omega);rw[LU rfl];unfold Sp;simp only[iN,IS,sT,By,BY,reduceIte,cA0,k1,AK,AJ,c1,lV0]
 ·have k1:call AC (n+2) 134 [u,f112] h=.ok (AI AT (i:Int)) h:=by
   rw[LV rfl,LW,p1,Oq];simp only[BJ,Az,q1,CJ,C7,lV0,q2]
  refine⟨true,?_,by simp only[true_iff];exact q3⟩;have c1:iGe (i:Int) 0=true:=F4 (by omega);rw[LU rfl];unfold Sp;simp only[iN,IS,sT,By,BY,reduceIte,cA0,k1,AK,AJ,c1,lV0]
theorem P5{h:Hp}{k m:Nat}{v:IN}{l:List Nat}(M:Mk h k v l)(hm:m<=l.length):∃ w,(∀ (F:AEB) (e:Env) (x y:O),x e=v->y e=AI AT (m:Int)->D9 5 1 x (some y) none none F e h=.ok w h)/\h.AEY w ((l.drop m).map bv):=by
 obtain⟨b,el,hv,hel,Rb,_⟩:=M;have hdl:(l.drop m).length=l.length - m:=yd;have key:∀ (F:AEB) (e:Env) (x y:O),x e=v->y e=AI AT (m:Int)->D9 5 1 x (some y) none none F e h=EM 5 1 (some ⟨b,0,none⟩) false m l.length l.length h:=fun F e x y hx hy=>by
  have hb:∀ K:Nat->R,Ct e (some y) 0 l.length K=K m:=fun K=>by
   show(match DG (y e)with|.ok n=>(bif xU n l.length then K n else .no)|.no=>.no)=_;rw[hy,DD];simp only;rw[Au.2 hm];rfl
  show(match x e with|.slice a n c=>DY e n c (some y) none none (fun l hh m=>EM 5 1 a false l hh m h)|_=>.no)=_;rw[hx,hv];show Ct e none l.length l.length (fun hh=>Ct e (some y) 0 hh fun l'=>EM 5 1 (some ⟨b,0,none⟩) false l' hh l.length h)=_;show Ct e (some y) 0 l.length (fun l'=>EM 5 1 (some ⟨b,0,none⟩) false l' l.length l.length h)=_;rw[hb]
 have AIr:EM 5 1 (some ⟨b,0,none⟩) false m l.length l.length h=Bp (some ⟨b,0,none⟩) 1 m l.length l.length h:=by
  cases m with
  |zero=>rfl
  |succ m=>
   show(bif E0 5 (some ⟨b,0,none⟩) h then Bp (some ⟨b,0,none⟩) 1 (m+1) l.length l.length h else .no)=_;have:E0 5 (some ⟨b,0,none⟩) h=true:=by
    obtain⟨cc,hcc,_⟩:=Rb.rowOf;unfold E0;simp only[hcc];rcases hel with rfl|rfl<;>rfl
   rw[this];rfl
 rcases xx m l.length with hlt|hge
 ·refine⟨.slice (some ⟨b,m,none⟩) (l.length - m) (l.length - m),?_,.inr ⟨b,m,l.length - m,el,_,by rw[sh,hdl],Rb,by rw[sh,sh,hdl];omega,?_⟩⟩
  ·intro F e x y hx hy
   rw[key F e x y hx hy,AIr];unfold Bp;simp only[Ao];have e1:xW l.length m=false:=by
    cases e:xW l.length m
    ·rfl
    ·have:=Ax.1 e;omega
   rw[e1];cases m with
   |zero=>rfl
   |succ m=>
    have e2:yK (m+1) 1=xM m:=AAN _;simp only[e2,zC,OF];rfl
  ·rw[sh,hdl,<- ADT,ze (by rw[sh,hdl];exact IT _)]
 ·have hml:m=l.length:=by omega
  subst hml;refine⟨.slice (some ⟨b,0,none⟩) 0 0,?_,.inr ⟨b,0,0,el,_,by rw[AAz];rfl,Rb,by rw[AAz];exact yC _,by rw[AAz];rfl⟩⟩;intro F e x y hx hy;rw[key F e x y hx hy,AIr];unfold Bp;simp only[Ao,Nat.sub_eq,ACV,zG]
end
noncomputable section
open Go
set_option maxRecDepth 100000
theorem Tb:paS=BH (Ac 0 (A6 paB)) paE:=rfl
theorem JE:fU=Kv:=rfl
theorem RQ(k:Nat)(l:List Nat)(p:Nat):rdN (k+1) l p=(match Fs 0 0 (l.drop p)with
 |none=>none
 |some (v,j)=>if v<=1099511627776 then(match rdN k l (p+j)with
  |none=>none
  |some (vs,q)=>some (v::vs,q))else none):=rfl
def Yc(h:Hp)(r4:Nat)(e:Env)(g:Hp):Prop:=h.Ext g/\J 4 e=pt r4/\J 5 e=AI AT 0/\J 6 e=.int .u32 0/\J 7 e=.bool false/\loadN 5 ⟨r4,0,none⟩ g=.ok (Bn 0 0 0 0 AEG) g
theorem je{n:Nat}{h hB g:Hp}(W0:h.Wf)(xB:h.Ext hB)(x:hB.Ext g){r4 r10:Nat}(hr4:h.next<=r4)(AJl:hB.next<=r10)(R4:hB.Row r4 0 (A2 0 0 0 0 AEG)){v:IN}{l:List Nat}(V:hB.AEY v (l.map bv))(hb:∀ x∈l,x<256)(hl:l.length<=900000)
  (R10:g.Row r10 0 ([0,0,0,0,0,0].map nv)){e:Env}(s4:J 4 e=pt r4)(s8:J 8 e=v)(s10:J 10 e=pt r10)(s11:J 11 e=AI AT ((0:Nat):Int))(s29:J 29 e=AI AT ((0:Nat):Int)):
  (∃ e' g' ns q,A6 paB (call AC (n+1)) e g=.exit 0 e' g'/\hB.Ext g'/\g'.Row r10 0 (ns.map nv)/\rdN 6 l 0=some (ns,q)/\J 4 e'=pt r4/\J 8 e'=v/\J 10 e'=pt r10/\J 11 e'=AI AT (q:Int))\/
  (∃ e' g',A6 paB (call AC (n+1)) e g=.ret e' g'/\rdN 6 l 0=none/\Yc h r4 e' g'):=by
 have WB:=xB.wf;refine Be (I:=fun i e' g'=>hB.Ext g'/\∃ (ns:List Nat) (Z:List IN) (p:Nat),ns.length=i/\Z.length=6 - i/\g'.Row r10 0 (ns.map nv++Z)/\J 4 e'=pt r4/\J 8 e'=v/\J 10 e'=pt r10/\J 11 e'=AI AT (p:Int)/\J 29 e'=AI AT (i:Int)/\p<=l.length/\i<=6/\
   rdN 6 l 0=(match rdN (6 - i) l p with|none=>none|some (vs,q)=>some (ns++vs,q)))
  (Q:=fun x=>(∃ e' g' ns q,x=.exit 0 e' g'/\hB.Ext g'/\g'.Row r10 0 (ns.map nv)/\rdN 6 l 0=some (ns,q)/\J 4 e'=pt r4/\J 8 e'=v/\J 10 e'=pt r10/\J 11 e'=AI AT (q:Int))\/
   (∃ e' g',x=.ret e' g'/\rdN 6 l 0=none/\Yc h r4 e' g')) 6 (by omega) (fun i e' g' ⟨x',ns,Z,p,hns,hZ,R',t4,t8,t10,t11,t29,hp,hi,hr⟩=>?_)
  ⟨x,[],_,0,rfl,rfl,R10,s4,s8,s10,s11,s29,yC _,by omega,by
   rw[Nat.sub_zero];cases rdN 6 l 0 with
   |none=>rfl
   |some y=>rfl⟩
 by_cases hlt:i<6
 ·have W:=x'.wf
  obtain⟨k,hk⟩:∃ k,6 - i=k+1:=⟨5 - i,by omega⟩;obtain⟨z,Z',rfl⟩:∃ z Z',Z=z::Z':=by
   cases Z with
   |nil=>rw[yM]at hZ;omega
   |cons z Z'=>exact⟨z,Z',rfl⟩
  rw[hk,RQ k l p]at hr;have c1:iLt (i:Int) 6=true:=Ep (b:=6) hlt;obtain⟨a,b,c,k1,AKo⟩:=ql (n:=n) (V.ext WB x') hb hp (by omega);have i1:=QV (r:=r10) hlt (g:=g');have hal:(ns.map nv).length=i:=by rw[sh];exact hns
  have ho:i+[Value.int .u64 a].length<=(ns.map nv++z::Z').length:=by
   simp only[No,xP,yM,hal];omega
  have AEM:256<=r10:=by have:=WB.big;omega
  have st:=R'.AEK (n:=1) (off:=i) W AEM (v:=.int .u64 a) rfl ho rfl;rw[Co]at st;have wr:=R'.AEP W (off:=i) (vs:=[.int .u64 a]) ho;have x2:=R'.AEi x' AJl (off:=i) (vs:=[.int .u64 a]) ho;have hov:over (ns.map nv++z::Z') i [.int .u64 a]=ns.map nv++.int .u64 a::Z':=by
   have:=RD (A:=ns.map nv) (B:=Z') (x:=z) (y:=.int .u64 a)
   rwa [hal]at this
  rw[hov]at wr;generalize g'.wr r10 i [.int .u64 a]=g2 at st wr x2;have i2:=QV (r:=r10) hlt (g:=g2);have l2:AEF ⟨r10,i,none⟩ g2=.ok (.int .u64 a) g2:=by
   rw[wr.AEF (off:=i) (by simp only[No,xP,hal];omega),xN,List.getElem?_append_right (by rw[hal];exact IT _),hal,ACV];rfl
  have a3:=CN (i:=i) (h:=g2) (by omega);obtain⟨w1,w2,w3,_,_⟩:=LP W0 (xB.trans x2) hr4 (R4.ext WB x2) rfl (a:=0) (b:=0) (c:=0) (s:=0) (u:=AEG) rfl;have fail:rdN 6 l 0=none->(iNe c 0=true\/iNe c 0=false/\iGt a 1099511627776=true)->∃ e2,paB (call AC (n+1)) e' g'=.ret e2 (g2.wr r4 0 (A2 0 0 0 0 AEG))/\J 4 e2=pt r4/\J 5 e2=AI AT 0/\J 6 e2=.int .u32 0/\J 7 e2=.bool false:=fun _ hc=>by
   unfold paB;rcases hc with c2|⟨c2,c3⟩
   ·simp only[sT,By,BY,reduceIte,gD,AK,AJ,t29,c1,cA0,t8,t11,k1,A7,BA,BC,Cu,DM,t10,i1,AX,st,c2,Dm,t4,w1]
    exact⟨_,rfl,by simp[AG,t4]⟩
   ·simp only[sT,By,BY,reduceIte,gD,AK,AJ,t29,c1,cA0,t8,t11,k1,A7,BA,BC,Cu,DM,t10,i1,AX,st,c2,i2,AM,AP,l2,c3,Dm,t4,w1]
    exact⟨_,rfl,by simp[AG,t4]⟩
  rcases AKo with ⟨vv,j,hu,rfl,rfl,rfl⟩|⟨hu,hc⟩
  ·rw[hu]at hr
   simp only at hr;have c2:iNe 0 0=false:=CE rfl;by_cases hv:vv<=1099511627776
   ·left
    rw[if_pos hv]at hr;have c3:iGt (vv:Int) 1099511627776=false:=F5 (by omega);have hbd:∀ x∈l.drop p,x<256:=fun x hx=>hb x (AAf hx)
    have hj:=mB hbd hu;rw[yd]at hj;have hrun:∃ e2,paB (call AC (n+1)) e' g'=.norm e2 g2/\J 4 e2=pt r4/\J 8 e2=v/\J 10 e2=pt r10/\J 11 e2=AI AT ((p+j:Nat):Int)/\J 29 e2=AI AT ((i+1:Nat):Int):=by
     unfold paB;simp only[sT,By,BY,reduceIte,gD,AK,AJ,t29,c1,cA0,t8,t11,k1,A7,BA,BC,Cu,DM,t10,i1,AX,st,c2,i2,AM,AP,l2,c3,BP,a3];exact⟨_,rfl,by simp[AG,t4,t8,t10]⟩
    obtain⟨e2,q1,q2,q3,q4,q5,q6⟩:=hrun;refine⟨hlt,e2,g2,q1,x2,ns++[vv],Z',p+j,by rw[No,hns];rfl,by rw[xP]at hZ;omega,?_,q2,q3,q4,q5,q6,by omega,by omega,?_⟩
    ·rw[yR,xp];exact wr
    ·rw[hr,show 6 - (i+1)=k by omega]
     cases rdN k l (p+j)with
     |none=>rfl
     |some y=>
      obtain⟨vs,q⟩:=y;show some (ns++vv::vs,q)=some (ns++[vv]++vs,q);rw[xp];rfl
   ·right
    rw[if_neg hv]at hr;have hr:rdN 6 l 0=none:=hr;obtain⟨e2,q1,q2,q3,q4,q5⟩:=fail hr (.inr ⟨c2,HB (by omega)⟩);rw[q1];exact⟨rfl,.inr ⟨e2,_,rfl,hr,w3,q2,q3,q4,q5,w2⟩⟩
  ·right
   rw[hu]at hr;have hr:rdN 6 l 0=none:=hr;obtain⟨e2,q1,q2,q3,q4,q5⟩:=fail hr (.inl (FZ hc));rw[q1];exact⟨rfl,.inr ⟨e2,_,rfl,hr,w3,q2,q3,q4,q5,w2⟩⟩
 ·right
  have hi6:i=6:=by omega
  subst hi6;have c1:iLt ((6:Nat):Int) 6=false:=DE (a:=6) (b:=6) (by omega);have hrun:∃ e2,paB (call AC (n+1)) e' g'=.exit 0 e2 g'/\J 4 e2=pt r4/\J 8 e2=v/\J 10 e2=pt r10/\J 11 e2=AI AT (p:Int):=by
   unfold paB;simp only[sT,By,BY,reduceIte,AK,AJ,t29,c1];exact⟨_,rfl,by simp[AG,t4,t8,t10,t11]⟩
  obtain⟨e2,q1,q2,q3,q4,q5⟩:=hrun;rw[q1];have hZ0:Z=[]:=List.eq_nil_of_length_eq_zero hZ;rw[hZ0,xZ]at R';have hr:rdN 6 l 0=some (ns++[],p):=hr;rw[xZ]at hr;exact⟨rfl,.inl ⟨e2,g',ns,p,rfl,x',R',hr,q2,q3,q4,q5⟩⟩
theorem Yx{F:AEB}{e:Env}{h:Hp}{x y z:O}{k:C}{a b c i j m:Nat}(hx:x e=.pointer (some ⟨a,i,none⟩))(hy:y e=.pointer (some ⟨b,j,none⟩))(hz:z e=.pointer (some ⟨c,m,none⟩))(h1:b≠a)(h2:c≠a):Cf x [y,z] k F e h=k F e h:=by
 have n1:xW b a=false:=by
  cases e:xW b a
  ·rfl
  ·exact absurd (Ax.1 e) h1
 have n2:xW c a=false:=by
  cases e:xW c a
  ·rfl
  ·exact absurd (Ax.1 e) h2
 unfold Cf;rw[hx];show(bif DA a e [y,z]then k F e h else .no)=_;have:DA a e [y,z]=true:=by
  unfold DA;rw[hy];show(bif xW b a then false else DA a e [z])=true;rw[n1];unfold DA;rw[hz];show(bif xW c a then false else DA a e [])=true;rw[n2];rfl
 rw[this];rfl
theorem ig{F:AEB}{e:Env}{h:Hp}(W:h.Wf){x y:O}{r:Nat}{L:List IN}{a b c:Int}{s:Nat}{u:IN}(hx:x e=pt r)(hy:y e=Bn a b c s u)(R:h.Row r 0 L)(hL:L.length=5)(AEM:256<=r)(hu:oneCell u=true):
  Jc x (Ai 5 x y) F e h=.ok AEE (h.back (h.quiet.wr r 0 (A2 a b c s u))):=by
 have Rq:h.quiet.Row r 0 L:=R.same rfl;have ho:0+(A2 a b c s u).length<=L.length:=by rw[hL];show 0+5<=5;omega
 have h1:Bb (A2 a b c s u)=true:=by
  show(bif oneCell u then true else false)=true;rw[hu];rfl
 have st:=Rq.AEK (n:=5) (off:=0) W.quiet AEM (v:=Bn a b c s u) rfl ho h1;have st:AEK 5 (pt r) (Bn a b c s u) h.quiet=.ok AEE (h.quiet.wr r 0 (A2 a b c s u)):=st;obtain⟨cc,_,hw,_⟩:=Rq.AFN ho;have AGy:(h.quiet.wr r 0 (A2 a b c s u)).low=r:=by
  rw[hw];show B9 h.next r=r;have:=R.lt W;rw[BV];omega
 have AF2:(h.quiet.wr r 0 (A2 a b c s u)).high=r:=by
  rw[hw];show Cv 0 r=r;rw[B4];omega
 show(match Ai 5 x y F e h.quiet with|.ok v h'=>bif IZ (AEl (x e)) h h'.low h'.high then Dd h v h' else .no|.no=>.no)=_;rw[AX,hx,hy,st];show(bif IZ (.ok r) h (h.quiet.wr r 0 (A2 a b c s u)).low (h.quiet.wr r 0 (A2 a b c s u)).high then Dd h AEE (h.quiet.wr r 0 (A2 a b c s u))else .no)=_;rw[AGy,AF2];have:IZ (.ok r) h r r=true:=by
  show(bif xU r r then xU r r else false)=true;rw[Au.2 (IT r)];rfl
 rw[this];show Dd h AEE (h.quiet.wr r 0 (A2 a b c s u))=_;unfold Dd;simp only[Ao];rfl
end
noncomputable section
open Go
set_option maxRecDepth 100000
def Ok4(h:Hp)(r4:Nat)(ns:List Nat)(e:Env)(g:Hp):Prop:=h.Ext g/\J 4 e=pt r4/\J 5 e=AI AT (at6 ns 4:Nat)/\J 6 e=.int .u32 (at6 ns 5:Nat)/\J 7 e=.bool true/\loadN 5 ⟨r4,0,none⟩ g=.ok (Bn (at6 ns 1) (at6 ns 2) (at6 ns 3) (at6 ns 0) AEG) g
theorem Li{h g:Hp}{r4:Nat}{e:Env}(D:Yc h r4 e g):A3 [.cN (J 4) 5,.t (J 5),.t (J 6),.t (J 7)] (.ret e g)=.ok noT g:=by
 obtain⟨_,h4,h5,h6,h7,hl⟩:=D;rw[BE,KM (v:=Bn 0 0 0 0 AEG) (by rw[h4];exact hl),h5,h6,h7];rfl
theorem rj{h g:Hp}{r4:Nat}{ns:List Nat}{e:Env}(D:Ok4 h r4 ns e g):A3 [.cN (J 4) 5,.t (J 5),.t (J 6),.t (J 7)] (.ret e g)=.ok (okT ns) g:=by
 obtain⟨_,h4,h5,h6,h7,hl⟩:=D;rw[BE,KM (v:=Bn (at6 ns 1) (at6 ns 2) (at6 ns 3) (at6 ns 0) AEG) (by rw[h4];exact hl),h5,h6,h7];rfl
theorem wG{n:Nat}{h hB g:Hp}(W0:h.Wf)(xB:h.Ext hB)(x:hB.Ext g){r4 r10 k q:Nat}(hr4:h.next<=r4)(AHH:r10≠r4)(R4:hB.Row r4 0 (A2 0 0 0 0 AEG)){v:IN}{l ns:List Nat}(M:Mk hB k v l)(hl:l.length<=900000)(hq:q<=l.length)
  (R10:g.Row r10 0 (ns.map nv))(h6:ns.length=6)(hns:∀ v∈ns,v<=1099511627776){e:Env}(s4:J 4 e=pt r4)(s8:J 8 e=v)(s10:J 10 e=pt r10)(s11:J 11 e=AI AT (q:Int)):
  (PH ns/\(∀ x∈l.drop q,x=0)/\∃ e2 g2,paE (call AC (n+3)) e g=.ret e2 g2/\Ok4 h r4 ns e2 g2)\/(¬ (PH ns/\∀ x∈l.drop q,x=0)/\∃ e2 g2,paE (call AC (n+3)) e g=.ret e2 g2/\Yc h r4 e2 g2):=by
 have W:=x.wf;have WB:=xB.wf;have hat:∀ i,at6 ns i<=1099511627776:=fun i=>by
  unfold at6;rw[xN];cases h:ns[i]? with
  |none=>exact yC _
  |some y=>exact hns y (List.mem_of_getElem? h)
 have i0:∀ g:Hp,NM 6 1 (pt r10) (AI AT 0) g=.ok (.pointer (some ⟨r10,0,none⟩)) g:=fun g=>QV (k:=0) (by omega)
 have i1:∀ g:Hp,NM 6 1 (pt r10) (AI AT 1) g=.ok (.pointer (some ⟨r10,1,none⟩)) g:=fun g=>QV (k:=1) (by omega)
 have i2:∀ g:Hp,NM 6 1 (pt r10) (AI AT 2) g=.ok (.pointer (some ⟨r10,2,none⟩)) g:=fun g=>QV (k:=2) (by omega)
 have i3:∀ g:Hp,NM 6 1 (pt r10) (AI AT 3) g=.ok (.pointer (some ⟨r10,3,none⟩)) g:=fun g=>QV (k:=3) (by omega)
 have i4:∀ g:Hp,NM 6 1 (pt r10) (AI AT 4) g=.ok (.pointer (some ⟨r10,4,none⟩)) g:=fun g=>QV (k:=4) (by omega)
 have i5:∀ g:Hp,NM 6 1 (pt r10) (AI AT 5) g=.ok (.pointer (some ⟨r10,5,none⟩)) g:=fun g=>QV (k:=5) (by omega)
 have l0:=Qt R10 h6 (k:=0) (by omega);have l1:=Qt R10 h6 (k:=1) (by omega);have l2:=Qt R10 h6 (k:=2) (by omega);have l3:=Qt R10 h6 (k:=3) (by omega);have a0:=hat 0;have a1:=hat 1;have a2:=hat 2;have a3:=hat 3;have a4:=hat 4;have a5:=hat 5;have hcast:min ((at6 ns 0:Nat):Int) 9=((min (at6 ns 0) 9:Nat):Int):=by omega
 have mn:∀ (F:AEB) (e:Env),J 52 e=.int .u64 ((at6 ns 0:Nat):Int)->X9 (J 52) (kV (.int .u64 9)) F e g=.ok (.int .u64 ((min (at6 ns 0) 9:Nat):Int)) g:=fun F e he=>by rw[rR he rfl,hcast]
 have v0:Dr .u8 (.int .u64 ((min (at6 ns 0) 9:Nat):Int)) g=.ok (.int .u8 ((min (at6 ns 0) 9:Nat):Int)) g:=by rw[C5,IK,Nat.mod_eq_of_lt (by omega)]
 have cv:∀ (i:Nat) (g:Hp),Dr .i64 (.int .u64 ((at6 ns i:Nat):Int)) g=.ok (AI AT ((at6 ns i:Nat):Int)) g:=fun i g=>by rw[C5,Bj (by have:=hat i;omega)]
 have bd:∀ (F:AEB) (e:Env),J 54 e=.int .u8 ((min (at6 ns 0) 9:Nat):Int)->J 57 e=AI AT ((at6 ns 1:Nat):Int)->J 60 e=AI AT ((at6 ns 2:Nat):Int)->J 63 e=AI AT ((at6 ns 3:Nat):Int)->
   BU IO.zero [(3,1,J 54),(0,1,J 57),(1,1,J 60),(2,1,J 63)] F e g=.ok (Bn (at6 ns 1) (at6 ns 2) (at6 ns 3) (min (at6 ns 0) 9) AEG) g:=fun F e h1 h2 h3 h4=>eC h1 h2 h3 h4
 have f1:=fun (F:AEB) (e:Env)=>BQ (F:=F) (e:=e) (n:=5) (t:=DH) W
 have x1:=(Hp.Ext.refl W).push (.cells DH 5 0);have R13:(g.push (.cells DH 5 0)).Row g.next 0 (A2 0 0 0 0 AEG):=Hp.Row.alloc W FN rfl;generalize g.push (.cells DH 5 0)=g1 at f1 x1 R13;obtain⟨st,ld,x2,AIs,_⟩:=LP W x1 (IT _) R13 rfl (a:=at6 ns 1) (b:=at6 ns 2) (c:=at6 ns 3) (s:=min (at6 ns 0) 9) (u:=AEG) rfl;generalize g1.wr g.next 0 (A2 (at6 ns 1) (at6 ns 2) (at6 ns 3) (min (at6 ns 0) 9) AEG)=g2 at st ld x2 AIs;have k24:=Jl (n:=n+2) x2.wf (a:=at6 ns 1) (b:=at6 ns 2) (c:=at6 ns 3) (s:=min (at6 ns 0) 9) (m:=0) (u:=AEG) (fun _=>rfl);have y3:=(Hp.Ext.refl x2.wf).AEA 0 (A2 (at6 ns 1) (at6 ns 2) (at6 ns 3) (min (at6 ns 0) 9) AEG);generalize g2.AEA 0 (A2 (at6 ns 1) (at6 ns 2) (at6 ns 3) (min (at6 ns 0) 9) AEG)=g3 at k24 y3;have x3:=x2.trans y3;have xB3:=x.trans x3;have xh3:=xB.trans xB3;obtain⟨w1,w2,w3,_,_⟩:=LP W0 xh3 hr4 (R4.ext WB xB3) rfl (a:=0) (b:=0) (c:=0) (s:=0) (u:=AEG) rfl;have AHI:=R10.ext W x3;have l4:=Qt AHI h6 (k:=4) (by omega);have l5:=Qt AHI h6 (k:=5) (by omega);have nok:¬ (PH ns/\∀ x∈l.drop q,x=0)->(∃ e2,paE (call AC (n+3)) e g=.ret e2 (g3.wr r4 0 (A2 0 0 0 0 AEG))/\J 4 e2=pt r4/\J 5 e2=AI AT 0/\J 6 e2=.int .u32 0/\J 7 e2=.bool false)->
   (PH ns/\(∀ x∈l.drop q,x=0)/\∃ e2 g2,paE (call AC (n+3)) e g=.ret e2 g2/\Ok4 h r4 ns e2 g2)\/(¬ (PH ns/\∀ x∈l.drop q,x=0)/\∃ e2 g2,paE (call AC (n+3)) e g=.ret e2 g2/\Yc h r4 e2 g2):=fun hn ⟨e2,q1,q2,q3,q4,q5⟩=>.inr ⟨hn,e2,_,q1,w3,q2,q3,q4,q5,w2⟩
 cases hr:AET (at6 ns 1) (at6 ns 2) (at6 ns 3) (min (at6 ns 0) 9) 0 with
 |false=>
  rw[hr]at k24;refine nok (fun hh=>by rw[hh.1.1]at hr;cases hr) ?_;unfold paE;simp only[sT,By,BY,reduceIte,gD,DM,s10,i0,i1,i2,i3,AM,AP,l0,l1,l2,l3,mn,Ca,v0,cv,bd,f1,AX,st,Ar,Aj,ld,cA0,k24,BZ,BX,yZ,Dm,s4,w1];exact⟨_,rfl,by simp[AG,s4]⟩
 |true=>
  rw[hr]at k24;by_cases h4:at6 ns 4<=65536
  ·have c4:iGt ((at6 ns 4:Nat):Int) 65536=false:=F5 (by omega)
   by_cases h5:at6 ns 5<=4294967295
   ·have c5:iGt ((at6 ns 5:Nat):Int) 4294967295=false:=F5 (by omega)
    have M3:=M.ext WB xB3;obtain⟨w,ct,Vw⟩:=P5 M3 hq;obtain⟨rb,kb,hrb⟩:=XQ (n:=n) Vw (by rw[yd];omega);have kb:call AC (n+3) 110 [w,.func (.func 135) #[] #[]] g3=.ok (.bool rb) g3:=kb;cases rb with
    |true=>
     obtain⟨y,hy1,hy2⟩:=hrb.1 rfl;refine nok (fun hh=>hy2 (hh.2 y hy1)) ?_;unfold paE;simp only[sT,By,BY,reduceIte,gD,DM,s10,i0,i1,i2,i3,i4,i5,AM,AP,l0,l1,l2,l3,l4,l5,mn,Ca,v0,cv,bd,f1,AX,st,Ar,Aj,ld,cA0,k24,BZ,BX,yT,AK,AJ,c4,c5,s8,s11,ct,kb,Dm,s4,w1];exact⟨_,rfl,by simp[AG,s4]⟩
    |false=>
     have hz:∀ x∈l.drop q,x=0:=fun y hy=>by
      rcases Nat.eq_zero_or_pos y with h0|h0
      ·exact h0
      ·have:=hrb.2 ⟨y,hy,by omega⟩;cases this
     have hok:PH ns:=⟨hr,h4,h5⟩;have hmin:min (at6 ns 0) 9=at6 ns 0:=Nat.min_eq_left (yO (jU.1 hok).1 (by decide));left;refine⟨hok,hz,?_⟩;have xm:=x3.marked;have AIt:g3.marked.Row r10 0 (ns.map nv):=AHI.same rfl;have m4:=Qt AIt h6 (k:=4) (by omega);have m5:=Qt AIt h6 (k:=5) (by omega);have AJm:g3.marked.Row g.next 0 (A2 (at6 ns 1) (at6 ns 2) (at6 ns 3) (min (at6 ns 0) 9) AEG):=(AIs.ext x2.wf y3).same rfl;have mld:=(Bq AJm).2.2.2.2.2;have v5:Dr .u32 (.int .u64 ((at6 ns 5:Nat):Int)) g3.marked=.ok (.int .u32 ((at6 ns 5:Nat):Int)) g3.marked:=by rw[C5,SP h5]
     have ck:∀ (k:C) (F:AEB) (e:Env),J 4 e=pt r4->J 87 e=.pointer (some ⟨r10,4,none⟩)->J 90 e=.pointer (some ⟨r10,5,none⟩)->Cf (J 4) [J 87,J 90] k F e g3.marked=k F e g3.marked:=fun k F e e1 e2 e3=>Yx e1 e2 e3 AHH AHH
     have AEM:256<=r4:=by have:=W0.big;omega
     have R4m:g3.marked.Row r4 0 (A2 0 0 0 0 AEG):=(R4.ext WB xB3).same rfl;have ta:∀ (F:AEB) (e:Env),J 4 e=pt r4->J 86 e=Bn (at6 ns 1) (at6 ns 2) (at6 ns 3) (min (at6 ns 0) 9) AEG->Jc (J 4) (Ai 5 (J 4) (J 86)) F e g3.marked=.ok AEE (g3.marked.back (g3.marked.quiet.wr r4 0 (A2 (at6 ns 1) (at6 ns 2) (at6 ns 3) (min (at6 ns 0) 9) AEG))):=fun F e e1 e2=>ig xm.wf e1 e2 R4m rfl AEM rfl
     have xhm:=xh3.marked;obtain⟨_,z2,z3,z4,_⟩:=LP W0 xhm.quiet hr4 (R4m.same (h':=g3.marked.quiet) rfl) rfl (a:=at6 ns 1) (b:=at6 ns 2) (c:=at6 ns 3) (s:=min (at6 ns 0) 9) (u:=AEG) rfl;have xf:h.Ext (g3.marked.back (g3.marked.quiet.wr r4 0 (A2 (at6 ns 1) (at6 ns 2) (at6 ns 3) (min (at6 ns 0) 9) AEG))):=Hp.Ext.AFI xhm z3;have Rf:(g3.marked.back (g3.marked.quiet.wr r4 0 (A2 (at6 ns 1) (at6 ns 2) (at6 ns 3) (min (at6 ns 0) 9) AEG))).Row r4 0 (A2 (at6 ns 1) (at6 ns 2) (at6 ns 3) (min (at6 ns 0) 9) AEG):=z4.same rfl;generalize g3.marked.back (g3.marked.quiet.wr r4 0 (A2 (at6 ns 1) (at6 ns 2) (at6 ns 3) (min (at6 ns 0) 9) AEG))=g4 at ta xf Rf;have ldf:=(Bq Rf).2.2.2.2.2;rw[hmin]at ldf;have hrun:∃ e2,paE (call AC (n+3)) e g=.ret e2 g4/\J 4 e2=pt r4/\J 5 e2=AI AT (at6 ns 4:Nat)/\J 6 e2=.int .u32 (at6 ns 5:Nat)/\J 7 e2=.bool true:=by
      unfold paE;simp only[sT,By,BY,reduceIte,gD,DM,s10,i0,i1,i2,i3,i4,i5,AM,AP,l0,l1,l2,l3,l4,l5,mn,Ca,v0,cv,bd,f1,AX,st,Ar,Aj,ld,cA0,k24,BZ,BX,yT,AK,AJ,c4,c5,s8,s11,ct,kb,Ay,mld,m4,m5,v5,s4,ck,ta];exact⟨_,rfl,by simp[AG,s4]⟩
     obtain⟨e2,q1,q2,q3,q4,q5⟩:=hrun;exact⟨e2,g4,q1,xf,q2,q3,q4,q5,ldf⟩
   ·have c5:iGt ((at6 ns 5:Nat):Int) 4294967295=true:=HB (by omega)
    refine nok (fun hh=>h5 hh.1.2.2) ?_;unfold paE;simp only[sT,By,BY,reduceIte,gD,DM,s10,i0,i1,i2,i3,i4,i5,AM,AP,l0,l1,l2,l3,l4,l5,mn,Ca,v0,cv,bd,f1,AX,st,Ar,Aj,ld,cA0,k24,BZ,BX,yT,AK,AJ,c4,c5,Dm,s4,w1];exact⟨_,rfl,by simp[AG,s4]⟩
  ·have c4:iGt ((at6 ns 4:Nat):Int) 65536=true:=HB (by omega)
   refine nok (fun hh=>h4 hh.1.2.1) ?_;unfold paE;simp only[sT,By,BY,reduceIte,gD,DM,s10,i0,i1,i2,i3,i4,i5,AM,AP,l0,l1,l2,l3,l4,mn,Ca,v0,cv,bd,f1,AX,st,Ar,Aj,ld,cA0,k24,BZ,BX,yT,AK,AJ,c4,Dm,s4,w1];exact⟨_,rfl,by simp[AG,s4]⟩
theorem bR{n:Nat}{h:Hp}(W:h.Wf){tb:Nat}{T:List Nat}(R:h.Row tb 0 (T.map wv))(hT:AE5 T){u:IN}{l:List Nat}(V:h.AEY u (l.map bv))(hC:YZ u)(hb:∀ x∈l,x<256)(hl:l.length<=900000):
  ∃ h',h.Ext h'/\((∃ ns,LF T l ns/\call AC (n+4) 112 [pt tb,u] h=.ok (okT ns) h')\/((¬ ∃ ns,LF T l ns)/\call AC (n+4) 112 [pt tb,u] h=.ok noT h')):=by
 have f1:=fun (F:AEB) (e:Env)=>BQ (F:=F) (e:=e) (n:=5) (t:=DH) W
 have x1:=(Hp.Ext.refl W).push (.cells DH 5 0);have R4:(h.push (.cells DH 5 0)).Row h.next 0 (A2 0 0 0 0 AEG):=Hp.Row.alloc W FN rfl;have nA:(h.push (.cells DH 5 0)).next=h.next+1:=rfl;generalize h.push (.cells DH 5 0)=hA at f1 x1 R4 nA;obtain⟨hB,yB,U⟩:=YY (n:=n) x1.wf (R.ext W x1) hT (V.ext W x1) hC hb hl;have xB:=x1.trans yB;have R4B:=R4.ext x1.wf yB;obtain⟨w1,w2,w3,_,_⟩:=LP W xB (IT _) R4B rfl (a:=0) (b:=0) (c:=0) (s:=0) (u:=AEG) rfl;rcases U with ⟨body,v,hu,k1,M⟩|⟨hu,c,hc,k1⟩
 ·have c2:iNe 0 0=false:=CE rfl
  have Vl:=M.vals.bl hB;by_cases h60:body.length=60
  ·have c3:iNe (body.length:Int) 60=false:=CE (by omega)
   have f2:=fun (F:AEB) (e:Env)=>BQ (F:=F) (e:=e) (n:=6) (t:=OS) xB.wf
   have y2:=(Hp.Ext.refl xB.wf).push (.cells OS 6 0);have R10:(hB.push (.cells OS 6 0)).Row hB.next 0 ([0,0,0,0,0,0].map nv):=Hp.Row.alloc xB.wf cu rfl;generalize hB.push (.cells OS 6 0)=hC' at f2 y2 R10;have pre:∃ e1,Kv (call AC (n+3)) (AS e0 0 [pt tb,u]) h=paS (call AC (n+3)) e1 hC'/\J 4 e1=pt h.next/\J 8 e1=v/\J 10 e1=pt hB.next/\J 11 e1=AI AT ((0:Nat):Int)/\J 29 e1=AI AT ((0:Nat):Int):=by
    unfold Kv;simp only[iN,IS,sT,By,BY,reduceIte,gD,f1,cA0,k1,A7,BA,BC,AK,AJ,c2,Ae,Vl,c3,f2];exact⟨_,rfl,by simp[AG]⟩
   obtain⟨e1,p1,p2,p3,p4,p5,p6⟩:=pre;obtain⟨hsl,hbt⟩:=Jw hu;have hbb:∀ x∈body,x<256:=fun x hx=>hb x (by rw[hbt]at hx;exact zI hx)
   rcases je (n:=n+2) W xB y2 (IT h.next) (IT _) R4B M.vals hbb (by omega) R10 p2 p3 p4 p5 p6 with ⟨e2,g,ns,q,q1,x2,AHI,hrd,t4,t8,t10,t11⟩|⟨e2,g,q1,hrd,D⟩
   ·obtain⟨g1,g2,g3,g4,g5⟩:=Lg 6 body 0 ns q hbb (yC _) hrd
    have hn2:hB.next≠h.next:=by have:=yB.next;omega
    rcases wG (n:=n) W xB x2 (IT _) hn2 R4B M (by omega) g4 AHI g1 g5 t4 t8 t10 t11 with ⟨ho,hz,e3,g',r1,D⟩|⟨hno,e3,g',r1,D⟩
    ·refine⟨g',D.1,.inl ⟨ns,⟨body,q,hu,h60,hrd,ho,hz⟩,?_⟩⟩
     rw[I8 rfl,JE,p1,Tb];simp only[BJ,Az,q1,A9,BD,r1];exact rj D
    ·refine⟨g',D.1,.inr ⟨?_,?_⟩⟩
     ·rintro⟨ms,body',q',j1,j2,j3,j4,j5⟩
      rw[hu]at j1;cases j1;rw[hrd]at j3;cases j3;exact hno ⟨j4,j5⟩
     ·rw[I8 rfl,JE,p1,Tb]
      simp only[BJ,Az,q1,A9,BD,r1];exact Li D
   ·refine⟨g,D.1,.inr ⟨?_,?_⟩⟩
    ·rintro⟨ms,body',q',j1,j2,j3,j4,j5⟩
     rw[hu]at j1;cases j1;rw[hrd]at j3;cases j3
    ·rw[I8 rfl,JE,p1,Tb]
     simp only[BJ,Az,q1,CJ,C7];exact Li D
  ·have c3:iNe (body.length:Int) 60=true:=FZ (by omega)
   have hrun:∃ e2,Kv (call AC (n+3)) (AS e0 0 [pt tb,u]) h=.ret e2 (hB.wr h.next 0 (A2 0 0 0 0 AEG))/\J 4 e2=pt h.next/\J 5 e2=AI AT 0/\J 6 e2=.int .u32 0/\J 7 e2=.bool false:=by
    unfold Kv;simp only[iN,IS,sT,By,BY,reduceIte,gD,f1,cA0,k1,A7,BA,BC,AK,AJ,c2,Ae,Vl,c3,Dm,AX,w1];exact⟨_,rfl,by simp[AG]⟩
   obtain⟨e2,q1,q2,q3,q4,q5⟩:=hrun;refine⟨_,w3,.inr ⟨?_,?_⟩⟩
   ·rintro⟨ms,body',q',j1,j2,_⟩
    rw[hu]at j1;cases j1;exact h60 j2
   ·rw[I8 rfl,JE,q1]
    exact Li (h:=h) ⟨w3,q2,q3,q4,q5,w2⟩
 ·have c2:iNe c 0=true:=FZ hc
  have hrun:∃ e2,Kv (call AC (n+3)) (AS e0 0 [pt tb,u]) h=.ret e2 (hB.wr h.next 0 (A2 0 0 0 0 AEG))/\J 4 e2=pt h.next/\J 5 e2=AI AT 0/\J 6 e2=.int .u32 0/\J 7 e2=.bool false:=by
   unfold Kv;simp only[iN,IS,sT,By,BY,reduceIte,gD,f1,cA0,k1,A7,BA,BC,AK,AJ,c2,Dm,AX,w1];exact⟨_,rfl,by simp[AG]⟩
  obtain⟨e2,q1,q2,q3,q4,q5⟩:=hrun;refine⟨_,w3,.inr ⟨?_,?_⟩⟩
  ·rintro⟨ms,body',q',j1,_⟩
   rw[hu]at j1;cases j1
  ·rw[I8 rfl,JE,q1]
   exact Li (h:=h) ⟨w3,q2,q3,q4,q5,w2⟩
end
noncomputable section
open Go
set_option maxRecDepth 100000
structure Fx (S:Nat->Prop)(h h':Hp):Prop where
 next:h.next<=h'.next
 get:∀ i,i<h.next->¬ S i->h'.bl.get i=h.bl.get i
 wf:h'.Wf
 low:∀ L,L<=h.low->L<=h.next->(∀ b,S b->L<=b)->L<=h'.low
theorem Pq{h g:Hp}:(h.back g).low=min h.low g.low:=BV _ _
section
variable {S T:Nat->Prop}{h h' h1 h2:Hp}
theorem Fx.refl(W:h.Wf):Fx S h h:=⟨IT _,fun _ _ _=>rfl,W,fun _ h1 _ _=>h1⟩
theorem Fx.of(x:h.Ext h'):Fx S h h':=⟨x.next,fun i hi _=>x.get i hi,x.wf,fun L h1 h2 _=>by have:=x.low;omega⟩
theorem Fx.trans(a:Fx S h h1)(b:Fx S h1 h2):Fx S h h2:=⟨yO a.next b.next,fun i hi hs=>by rw[b.get i (Nat.lt_of_lt_of_le hi a.next) hs,a.get i hi hs],b.wf,fun L h1 h2 h3=>b.low L (a.low L h1 h2 h3) (yO h2 a.next) h3⟩
theorem Fx.mono(a:Fx S h h')(hs:∀ i,S i->T i):Fx T h h':=⟨a.next,fun i hi ht=>a.get i hi fun s=>ht (hs i s),a.wf,fun L h1 h2 h3=>a.low L h1 h2 fun b hb=>h3 b (hs b hb)⟩
theorem kI(W:h.Wf)(hb:h'.bl=h.bl)(hn:h'.next=h.next):h'.Wf:=⟨by rw[hn];exact W.big,by rw[hn,hb];exact W.has,by rw[hn,hb];exact W.fresh⟩
theorem Fx.same(a:Fx S h h1)(hb:h2.bl=h1.bl)(hn:h2.next=h1.next)(hl:min h.low h1.low<=h2.low:=by first|exact Nat.le_of_eq Pq.symm|exact Nat.min_le_right _ _):Fx S h h2:=⟨by rw[hn];exact a.next,fun i hi hs=>by rw[hb];exact a.get i hi hs,kI a.wf hb hn,fun L q1 q2 q3=>by have:=a.low L q1 q2 q3;omega⟩
theorem Fx.from(a:Fx S h1 h')(hb:h1.bl=h.bl)(hn:h1.next=h.next)(hl:min h.low h.next<=h1.low:=by first|exact Nat.min_le_left _ _|exact Nat.min_le_right _ _):Fx S h h':=⟨by rw[<- hn];exact a.next,fun i hi hs=>by rw[<- hb];exact a.get i (by rw[hn];exact hi) hs,a.wf,fun L q1 q2 q3=>a.low L (by omega) (by omega) q3⟩
theorem Fx.back(x:Fx S h.quiet h'):Fx S h (h.back h'):=⟨x.next,x.get,⟨x.wf.big,x.wf.has,x.wf.fresh⟩,fun L h1 h2 h3=>by
 have h2':L<=h.quiet.next:=h2;have:=x.low L h2 h2' h3;rw[Pq];omega⟩
theorem Fx.row(x:Fx S h h')(W:h.Wf){b el:Nat}{l:List IN}(r:h.Row b el l)(hb:¬ S b):h'.Row b el l:=by
 have:=r.lt W;obtain⟨c,hc,hl⟩:=r;exact⟨c,(x.get b this hb).trans hc,hl⟩
theorem Fx.put(W:h.Wf){b:Nat}(hb:b<h.next)(hs:S b)(o:Blk):Fx S h (h.put b o):=⟨IT _,fun i hi hn=>by
 rw[W.AEq hb];exact if_neg fun e=>hn (by rw[e];exact hs),W.put hb o,fun L h1 _ h3=>by
 have:=h3 b hs;have e:(h.put b o).low=min h.low b:=BV _ _;omega⟩
theorem Fx.wr(W:h.Wf){b el off:Nat}{l vs:List IN}(r:h.Row b el l)(ho:off+vs.length<=l.length)(hs:S b):Fx S h (h.wr b off vs):=by
 obtain⟨c,_,e,_⟩:=r.AFN ho;rw[e];exact Fx.put W (r.lt W) hs _
theorem sR{b el off bc:Nat}{l vs:List IN}{es:List Ent}{k:Nat}(W:h.Wf)(r:h.Row b el l)(ho:off+vs.length<=l.length)(m:h.bl.get bc=.map es k):(h.wr b off vs).bl.get bc=.map es k:=by
 obtain⟨c,_,e,_⟩:=r.AFN ho;rw[e,W.AEq (r.lt W),if_neg]
 ·exact m
 ·rintro rfl
  obtain⟨c,hc,_⟩:=r;rw[m]at hc;cases hc
end
def Hp.VS(h:Hp)(S:Nat->Prop)(v:IN)(xs:List IN):Prop:=(v=AEG/\xs=[])\/∃ b off c el L,v=.slice (some ⟨b,off,none⟩) xs.length c/\xs.length<=c/\h.Row b el L/\off+xs.length<=L.length/\(L.drop off).take xs.length=xs/\S b
section
variable {h h':Hp}{S S':Nat->Prop}{v:IN}{xs:List IN}
theorem Hp.VS.vals(o:h.VS S v xs):h.AEY v xs:=by
 rcases o with h1|⟨b,off,c,el,L,h1,h2,h3,h4,h5,_⟩
 ·exact .inl h1
 ·exact .inr ⟨b,off,c,el,L,h1,h3,h4,h5⟩
theorem Hp.VS.keep(o:h.VS S v xs)(hk:∀ b el L,S b->h.Row b el L->h'.Row b el L):h'.VS S v xs:=by
 rcases o with h1|⟨b,off,c,el,L,h1,h2,h3,h4,h5,h6⟩
 ·exact .inl h1
 ·exact .inr ⟨b,off,c,el,L,h1,h2,hk _ _ _ h6 h3,h4,h5,h6⟩
theorem Hp.VS.same(o:h.VS S v xs)(hb:h'.bl=h.bl):h'.VS S v xs:=o.keep fun _ _ _ _ r=>r.same hb
theorem Hp.VS.mono(o:h.VS S v xs)(hs:∀ b,S b->S' b):h.VS S' v xs:=by
 rcases o with h1|⟨b,off,c,el,L,h1,h2,h3,h4,h5,h6⟩
 ·exact .inl h1
 ·exact .inr ⟨b,off,c,el,L,h1,h2,h3,h4,h5,hs _ h6⟩
theorem Hp.VS.one(o:h.VS S v xs):cellsOf v=[v]/\oneCell v=true/\known v=true:=by
 rcases o with ⟨rfl,_⟩|⟨b,off,c,el,L,rfl,_⟩<;>exact⟨rfl,rfl,rfl⟩
theorem Hp.VS.fx(o:h.VS S v xs)(W:h.Wf){T:Nat->Prop}(x:Fx T h h')(hs:∀ b,S b->¬ T b):h'.VS S v xs:=o.keep fun b _ _ hb r=>x.row W r (hs b hb)
theorem PJ{l:List IN}(h:∀ x∈l,oneCell x=true):Bb l=true:=by
 induction l with
 |nil=>rfl
 |cons a l ih=>
  show(bif oneCell a then Bb l else false)=true;rw[h a xT,ih fun x hx=>h x (xS _ hx)];rfl
end
def Hp.BS(h:Hp)(S:Nat->Prop)(v:IN)(xs:List IN):Prop:=(v=AEG/\xs=[])\/∃ b off c el L,v=.slice (some ⟨b,off,none⟩) xs.length c/\xs.length<=c/\h.Row b el L/\off+xs.length<=L.length/\(L.drop off).take xs.length=xs/\S b/\(el=0\/el=6)
section
variable {h h':Hp}{S S':Nat->Prop}{v:IN}{xs:List IN}
theorem Hp.BS.vs(o:h.BS S v xs):h.VS S v xs:=by
 rcases o with h1|⟨b,off,c,el,L,h1,h2,h3,h4,h5,h6,_⟩
 ·exact .inl h1
 ·exact .inr ⟨b,off,c,el,L,h1,h2,h3,h4,h5,h6⟩
theorem Hp.BS.keep(o:h.BS S v xs)(hk:∀ b el L,S b->(el=0\/el=6)->h.Row b el L->h'.Row b el L):h'.BS S v xs:=by
 rcases o with h1|⟨b,off,c,el,L,h1,h2,h3,h4,h5,h6,h7⟩
 ·exact .inl h1
 ·exact .inr ⟨b,off,c,el,L,h1,h2,hk _ _ _ h6 h7 h3,h4,h5,h6,h7⟩
theorem Hp.BS.ext(o:h.BS S v xs)(W:h.Wf)(x:h.Ext h'):h'.BS S v xs:=o.keep fun _ _ _ _ _ r=>r.ext W x
theorem Hp.BS.same(o:h.BS S v xs)(hb:h'.bl=h.bl):h'.BS S v xs:=o.keep fun _ _ _ _ _ r=>r.same hb
theorem Hp.BS.mono(o:h.BS S v xs)(hs:∀ b,S b->S' b):h.BS S' v xs:=by
 rcases o with h1|⟨b,off,c,el,L,h1,h2,h3,h4,h5,h6,h7⟩
 ·exact .inl h1
 ·exact .inr ⟨b,off,c,el,L,h1,h2,h3,h4,h5,hs _ h6,h7⟩
end
def Di(l:List Nat):IN:=.agg ⟨l.map bv⟩
def AEU:Nat->List (Nat×List Nat)->List Ent
 |_,[]=>[]
 |i,x::r=>⟨AI AT (x.1:Int),Di x.2,i⟩::AEU (i+1) r
def sec(M:List Nat)(i:Nat):List Nat:=(M.drop (64*i)).take 64
theorem Jo{M:List Nat}{n i:Nat}(hM:M.length=64*n)(hi:i<n):(sec M i).length=64:=by
 unfold sec;rw[yE,yd];omega
theorem rz{M:List Nat}(hb:∀ x∈M,x<256)(i:Nat):∀ x∈sec M i,x<256:=fun x hx=>hb x (AAf (zI hx))
def dkL(bm bc n:Nat)(arm:Int)(dn:Bool):List IN:=[.slice (some ⟨bm,0,none⟩) n n,.map (some bc),AI AT arm,.bool dn]
structure Dk (h:Hp)(bd bm bc n:Nat)(M:List Nat)(c0:Nat)(cs:List (Nat×List Nat))(arm:Int)(dn:Bool):Prop where
 disk:h.Row bd 0 (dkL bm bc n arm dn)
 med:h.Row bm 0 (M.map bv)
 len:M.length=64*n
 byt:∀ x∈M,x<256
 map:h.bl.get bc=.map (AEU c0 cs) (c0+cs.length)
 big:256<=bd/\256<=bm/\256<=bc
 n1:1<=n/\n<=65536
section
variable {F:AEB}{e:Env}{h h':Hp}{S:Nat->Prop}{bd bm bc n c0:Nat}{M:List Nat}{cs:List (Nat×List Nat)}{arm:Int}{dn:Bool}
theorem iH{h:Hp}{b b' el el':Nat}{L L':List IN}(r:h.Row b el L)(r':h.Row b' el' L')(he:L.length≠L'.length):b≠b':=fun hb=>by
 subst hb;obtain⟨_,e1,_⟩:=r;obtain⟨_,e2,_⟩:=r';rw[e1]at e2;injection e2 with _ e3 _
 exact he e3
theorem Dk.bdm(d:Dk h bd bm bc n M c0 cs arm dn):bd≠bm:=iH d.disk d.med (by
 rw[sh,d.len];show 4≠_;have:=d.n1;omega)
theorem Jm{h:Hp}{b bc el k:Nat}{L:List IN}{es:List Ent}(r:h.Row b el L)(m:h.bl.get bc=.map es k):b≠bc:=fun hb=>by
 subst hb;obtain⟨_,e1,_⟩:=r;rw[e1]at m;cases m
theorem Dk.bdc(d:Dk h bd bm bc n M c0 cs arm dn):bd≠bc:=Jm d.disk d.map
theorem Dk.bmc(d:Dk h bd bm bc n M c0 cs arm dn):bm≠bc:=Jm d.med d.map
theorem Dk.lt(d:Dk h bd bm bc n M c0 cs arm dn)(W:h.Wf):bd<h.next/\bm<h.next/\bc<h.next:=⟨d.disk.lt W,d.med.lt W,by
 rcases xx bc h.next with h1|h1
 ·exact h1
 ·have:=W.fresh bc h1
  rw[d.map]at this;cases this⟩
theorem Dk.same(d:Dk h bd bm bc n M c0 cs arm dn)(hb:h'.bl=h.bl):Dk h' bd bm bc n M c0 cs arm dn:=⟨d.disk.same hb,d.med.same hb,d.len,d.byt,by rw[hb];exact d.map,d.big,d.n1⟩
theorem Dk.fr(d:Dk h bd bm bc n M c0 cs arm dn)(W:h.Wf)(x:Fx S h h')(h1:¬ S bd)(h2:¬ S bm)(h3:¬ S bc):Dk h' bd bm bc n M c0 cs arm dn:=⟨x.row W d.disk h1,x.row W d.med h2,d.len,d.byt,by rw[x.get bc (d.lt W).2.2 h3];exact d.map,d.big,d.n1⟩
theorem Dk.ext(d:Dk h bd bm bc n M c0 cs arm dn)(W:h.Wf)(x:h.Ext h'):Dk h' bd bm bc n M c0 cs arm dn:=d.fr (S:=fun _=>False) W (.of x) (fun h=>h) (fun h=>h) (fun h=>h)
theorem DQ(R:h.Row bd 0 (dkL bm bc n arm dn)):AEF ⟨bd,0,none⟩ h=.ok (.slice (some ⟨bm,0,none⟩) n n) h/\AEF ⟨bd,1,none⟩ h=.ok (.map (some bc)) h/\AEF ⟨bd,2,none⟩ h=.ok (AI AT arm) h/\AEF ⟨bd,3,none⟩ h=.ok (.bool dn) h:=
 ⟨R.AEF (off:=0) (by show 0<4;omega),R.AEF (off:=1) (by show 1<4;omega),R.AEF (off:=2) (by show 2<4;omega),R.AEF (off:=3) (by show 3<4;omega)⟩
theorem FK{k:TK}{t:Nat}{a:Addr}{g:O}(hk:k=.ptr t)(hg:g e=.pointer (some a)):oEq k false g (kV (.pointer none)) F e h=.ok (.bool false) h:=by
 subst hk;show(match eqV (.ptr t) (g e) (.pointer none)with|some r=>okB (false != r) h|none=>.no)=_;rw[hg];exact FC
theorem iO{k:TK}{a b r:Nat}{g:O}(hk:k=.map a b)(hg:g e=.map (some r)):oEq k false g (kV (.map none)) F e h=.ok (.bool false) h:=by
 subst hk;show(match eqV (.map a b) (g e) (.map none)with|some r=>okB (false != r) h|none=>.no)=_;rw[hg];exact FC
theorem l7:YV.k=.ptr 91:=by kernel_rfl
theorem wS:kF.k=.map 3 95:=by kernel_rfl
theorem O9{m:Nat}(d:Dk h bd bm bc n M c0 cs arm dn):call AC (m+1) 45 [pt bd] h=.ok (.bool false) h:=by
 obtain⟨_,l1,_,_⟩:=DQ d.disk;have e1:∀ e:Env,J 0 e=pt bd->oEq YV.k false (J 0) (kV (.pointer none)) (call AC m) e h=.ok (.bool false) h:=fun e he=>FK l7 he
 have e2:∀ e:Env,J 9 e=.map (some bc)->oEq kF.k false (J 9) (kV (.map none)) (call AC m) e h=.ok (.bool false) h:=fun e he=>iO wS he
 rw[oq rfl];unfold d45;simp only[iN,IS,sT,By,BY,reduceIte,gD,e1,Av,Af,AH,AN,AM,AP,l1,e2,lV0]
theorem NE{m:Nat}(d:Dk h bd bm bc n M c0 cs arm false){i:Nat}(hi:i<n):call AC (m+2) 133 [pt bd,AI AT (i:Int)] h=.ok (AI AT 0) h:=by
 obtain⟨l0,_,_,l3⟩:=DQ d.disk;have k1:=O9 (m:=m) d;have c1:iLt (i:Int) 0=false:=E5 (by omega);have c2:iGe (i:Int) (n:Int)=false:=Ea (by omega);rw[ee rfl];unfold gE;simp only[iN,IS,sT,By,BY,reduceIte,gD,cA0,k1,Av,Af,AH,AN,AM,AP,l0,l3,Ae,Df,AK,AJ,c1,c2,lV0]
theorem jv{m:Nat}(d:Dk h bd bm bc n M c0 cs arm dn):call AC (m+2) 71 [pt bd] h=.ok (AI AT (n:Int)) h:=by
 obtain⟨l0,_,_,l3⟩:=DQ d.disk;have k1:=O9 (m:=m) d;rw[pI rfl];unfold d71;simp only[iN,IS,sT,By,BY,reduceIte,gD,cA0,k1,Av,Af,AH,AN,AM,AP,l0,l3,Ae,Df,lV0]
theorem Up{m:Nat}(d:Dk h bd bm bc n M c0 cs arm dn):call AC (m+2) 19 [pt bd] h=.ok (.bool dn) h:=by
 obtain⟨l0,_,_,l3⟩:=DQ d.disk;have k1:=O9 (m:=m) d;rw[oR rfl];unfold d19;simp only[iN,IS,sT,By,BY,reduceIte,gD,cA0,k1,BZ,BX,yZ,Av,Af,AH,AN,AM,AP,l0,l3,lV0]
theorem TH{x y:O}{k j:IntKind}{a b:Int}(hx:x e=.int k a)(hy:y e=.int j b):Q2 x y F e h=.ok (.int k (max a b)) h:=by
 show Hf false (x e) (y e) h=_;rw[hx,hy];show(bif iLt a b then R.ok (.int k b) h else .ok (.int k a) h)=_;rw[DB];by_cases hab:a<b
 ·rw[decide_eq_true hab,Int.max_eq_right (by omega)];rfl
 ·rw[decide_eq_false hab,Int.max_eq_left (by omega)];rfl
def GH(a:Int):Int:=max (a - 1) (-1)
def CA(a:Int)(k:Nat):Prop:=a<=1099511627776/\-1<=a/\(a<0\/(k:Int)<=a)
theorem CA.one{a:Int}{k:Nat}(h:CA a (k+1)):CA (GH a) k/\a≠0:=by
 unfold CA GH at *;omega
theorem CA.le{a:Int}{k j:Nat}(h:CA a k)(hj:j<=k):CA a j:=by
 unfold CA at *;omega
theorem Vu{m:Nat}(W:h.Wf)(d:Dk h bd bm bc n M c0 cs arm false){k:Nat}(ha:CA arm (k+1)):
  ∃ h',call AC (m+1) 147 [pt bd] h=.ok (AI AT 0) h'/\Fx (fun i=>i=bd) h h'/\Dk h' bd bm bc n M c0 cs (GH arm) false:=by
 obtain⟨_,_,l2,_⟩:=DQ d.disk;obtain⟨_,hne⟩:=ha.one;have c1:iEq arm 0=false:=B8 hne;have hs:=d.disk.AEK (n:=1) (off:=2) W d.big.1 (v:=AI AT (GH arm)) rfl (by show 2+1<=4;omega) rfl;have fr:=Fx.wr (S:=fun i=>i=bd) W d.disk (off:=2) (vs:=[AI AT (GH arm)]) (by show 2+1<=4;omega) rfl;have r1:=d.disk.AEP W (off:=2) (vs:=[AI AT (GH arm)]) (by show 2+1<=4;omega);have hw:zU.wrap (yQ arm 1)=arm - 1:=by
  obtain⟨h1,h2,h3⟩:=ha;show zU.wrap (arm - 1)=_;rcases ADj arm 1 with hlt|hge
  ·have:arm= -1\/arm=0:=by omega
   rcases this with rfl|rfl<;>rfl
  ·exact ch (by omega) (by omega)
 have mx:∀ e:Env,J 19 e=AI AT (arm - 1)->Q2 (J 19) (kV (AI AT (-1))) (call AC m) e h=.ok (AI AT (GH arm)) h:=fun e he=>TH he rfl
 have hs:AEK 1 (.pointer (some ⟨bd,2,none⟩)) (AI AT (GH arm)) h=.ok AEE (h.wr bd 2 [AI AT (GH arm)]):=hs;refine⟨_,?_,fr,⟨r1,fr.row W d.med (fun h=>d.bdm h.symm),d.len,d.byt,sR W d.disk (by show 2+1<=4;omega) d.map,d.big,d.n1⟩⟩;rw[eo rfl];unfold gJ;simp only[iN,IS,sT,By,BY,reduceIte,Av,Af,AH,AN,AM,AP,OF,l2,AK,AJ,c1,B5,Ck,hw,mx,AX,hs,lV0]
end
end
noncomputable section
open Go
set_option maxRecDepth 100000
section
variable {F:AEB}{e:Env}{h h':Hp}{S:Nat->Prop}{bd bm bc n c0:Nat}{M:List Nat}{cs:List (Nat×List Nat)}{arm:Int}{dn:Bool}
theorem qZ{n:Nat}(hn:n<=9223372036854775807):Fo ⟨false,[.i .i64]⟩ (AI AT (n:Int))=true:=by
 show(match (match Fi .i64 .i64 with|true=>xU n (BG .i64)|false=>false)with|true=>true|false=>false)=true;have h1:Fi .i64 .i64=true:=rfl;have h2:xU n (BG .i64)=true:=Au.2 hn;simp only[h1,h2]
theorem wi{n m:Nat}(hm:m<=9223372036854775807):Hb ⟨false,[.i .i64]⟩ (AI AT (n:Int)) (AI AT (m:Int))=some (decide (n=m)):=by
 unfold Hb;rw[qZ hm];show(match (match Fi .i64 .i64 with|true=>some (iEq (n:Int) (m:Int))|false=>none)with|some true=>some true|some false=>some false|none=>none)=_;have h1:Fi .i64 .i64=true:=rfl;simp only[h1,DZ];by_cases h:n=m
 ·subst h;simp
 ·have:((n:Int) == (m:Int))=false:=by rw[beq_eq_false_iff_ne];omega
  rw[this,decide_eq_false h]
theorem Rj{k:Nat}{v:IN}:∀ (cs:List (Nat×List Nat)) (i:Nat),(∀ x∈cs,x.1≠k/\x.1<=65536)->NU ⟨false,[.i .i64]⟩ (AI AT (k:Int)) v (AEU i cs)=some none
 |[],_,_=>rfl
 |x::l,i,hx=>by
  obtain⟨h1,h2⟩:=hx x xT;show(match Hb ⟨false,[.i .i64]⟩ (AI AT (k:Int)) (AI AT (x.1:Int))with|some true=>some (some ((⟨AI AT (k:Int),v,i⟩:Ent)::AEU (i+1) l))|some false=>(match NU ⟨false,[.i .i64]⟩ (AI AT (k:Int)) v (AEU (i+1) l)with|some (some l')=>some (some ((⟨AI AT (x.1:Int),Di x.2,i⟩:Ent)::l'))|some none=>some none|none=>none)|none=>none)=some none;rw[wi (by omega),decide_eq_false (fun h=>h1 h.symm)];simp only;rw[Rj l (i+1) fun y hy=>hx y (xS _ hy)]
theorem UD{k:Nat}{l:List Nat}:∀ (cs:List (Nat×List Nat)) (i:Nat),WY ⟨AI AT (k:Int),Di l,i+cs.length⟩ (AEU i cs)=AEU i (cs++[(k,l)])
 |[],i=>rfl
 |x::cs,i=>by
  show(⟨AI AT (x.1:Int),Di x.2,i⟩:Ent)::WY ⟨AI AT (k:Int),Di l,i+(cs.length+1)⟩ (AEU (i+1) cs)=_::AEU (i+1) (cs++[(k,l)]);rw[<- UD cs (i+1),Nat.add_assoc,Nat.add_comm 1]
theorem WS:Kl.zero=(xV 64 0).map bv:=by
 have:Kl.zero=Ba ty5.zero 64:=by kernel_rfl
 rw[this,Lj]
theorem WV:Bt .mt 0 ((xV 64 0).map bv)=some I2:=by kernel_rfl
theorem iQ(R:h.Row bm 0 (M.map bv))(hM:M.length=64*n){i:Nat}(hi:i<n):loadN 64 ⟨bm,0+i*64,none⟩ h=.ok (Di (sec M i)) h:=by
 rw[R.loadN (by rw[sh];omega),<- ADT,<- List.map_take,OF,Nat.mul_comm i 64];rfl
theorem Z9(d:Dk h bd bm bc n M c0 [] arm dn){z:IN}{x y:O}{i:Nat}(hx:x e=.map (some bc))(hy:y e=AI AT (i:Int))(hi:i<n):Gn ⟨false,[.i .i64]⟩ z true x y F e h=.ok (.tuple ⟨[z,.bool false]⟩) h:=by
 have:=d.n1;show H8 ⟨false,[.i .i64]⟩ z (x e) (y e) true h=_;rw[hx,hy];have he:Bk h bc=.ok [] (c0+0):=by unfold Bk;rw[d.map];rfl
 unfold H8;rw[qZ (by omega)];simp only[he,MK];unfold Dp;simp only[BK]
theorem XV{g:O}{r:Nat}(hg:g e=pt r):F9 64 1 g none none none F e h=.ok (.slice (some ⟨r,0,none⟩) 64 64) h:=by
 show(match Ds (g e)with|.ok a=>DY e 64 64 none none none fun l hh m=>Bp (some a) 1 l hh m h|.no=>.no)=_;rw[hg];rfl
theorem V5{m:Nat}(W:h.Wf)(d:Dk h bd bm bc n M c0 [] arm false){i:Nat}(hi:i<n):
  ∃ h' v,call AC (m+3) 109 [pt bd,AI AT (i:Int)] h=.ok (.tuple ⟨[v,AI AT 0]⟩) h'/\h.Ext h'/\Mk h' h.next v (sec M i)/\h'.next=h.next+1/\h'.mark=h.mark/\h.low=h.low:=by
 have k1:=NE (m:=m) d hi;obtain⟨l0,l1,_,_⟩:=DQ d.disk;have c0':iNe 0 0=false:=CE rfl;have lk:∀ e:Env,J 19 e=.map (some bc)->J 1 e=AI AT (i:Int)->Gn ⟨false,[.i .i64]⟩ (.agg ⟨Kl.zero⟩) true (J 19) (J 1) (call AC (m+2)) e h=.ok (.tuple ⟨[.agg ⟨Kl.zero⟩,.bool false]⟩) h:=fun e h1 h2=>Z9 d h1 h2 hi
 have al:=fun (F:AEB) (e:Env)=>BQ (F:=F) (e:=e) W (n:=64) (t:=I2)
 have R1:=Hp.Row.alloc W WV (by rw[sh,zF]);have x1:h.Ext (h.push (.cells I2 64 0)):=(Hp.Ext.refl W).push _;have n1:(h.push (.cells I2 64 0)).next=h.next+1:=rfl;have m1:(h.push (.cells I2 64 0)).mark=h.mark:=rfl;generalize h.push (.cells I2 64 0)=h1 at al R1 x1 n1 m1;have hz:((xV 64 0).map bv).length=64:=by rw[sh,zF]
 have big:=W.big;have st:AEK 64 (pt h.next) (.agg ⟨Kl.zero⟩) h1=.ok AEE (h1.wr h.next 0 ((xV 64 0).map bv)):=by
  rw[WS];exact R1.AEK (n:=64) (off:=0) x1.wf big (v:=.agg ⟨(xV 64 0).map bv⟩) hz (by show 0+((xV 64 0).map bv).length<=_;omega) (DW _)
 have x2:=R1.AEi x1 (IT _) (off:=0) (vs:=(xV 64 0).map bv) (by omega);have R2:=R1.AEP x1.wf (off:=0) (vs:=(xV 64 0).map bv) (by omega);rw[Ff rfl]at R2;have n2:(h1.wr h.next 0 ((xV 64 0).map bv)).next=h.next+1:=(R1.AEr (by omega)).trans n1;have m2:(h1.wr h.next 0 ((xV 64 0).map bv)).mark=h.mark:=by
  obtain⟨_,_,e,_⟩:=R1.AFN (off:=0) (vs:=(xV 64 0).map bv) (by omega);rw[e];exact m1
 generalize h1.wr h.next 0 ((xV 64 0).map bv)=h2 at st x2 R2 n2 m2;have d2:=d.ext W x2;obtain⟨l0,_,_,_⟩:=DQ d2.disk;have ix:AE6 64 (.slice (some ⟨bm,0,none⟩) n n) (AI AT (i:Int)) h2=.ok (.pointer (some ⟨bm,0+i * 64,none⟩)) h2:=DT hi;have ld:=iQ d2.med d2.len hi;have hsl:=Jo d2.len hi;have hsm:((sec M i).map bv).length=64:=by rw[sh,hsl]
 have st2:AEK 64 (pt h.next) (Di (sec M i)) h2=.ok AEE (h2.wr h.next 0 ((sec M i).map bv)):=R2.AEK (n:=64) (off:=0) x2.wf big (v:=Di (sec M i)) hsm (by show 0+((sec M i).map bv).length<=_;omega) (DW _);have x3:=R2.AEi x2 (IT _) (off:=0) (vs:=(sec M i).map bv) (by omega);have R3:=R2.AEP x2.wf (off:=0) (vs:=(sec M i).map bv) (by omega);rw[Ff (by omega)]at R3;have n3:(h2.wr h.next 0 ((sec M i).map bv)).next=h.next+1:=(R2.AEr (by omega)).trans n2;have m3:(h2.wr h.next 0 ((sec M i).map bv)).mark=h.mark:=by
  obtain⟨_,_,e,_⟩:=R2.AFN (off:=0) (vs:=(sec M i).map bv) (by omega);rw[e];exact m2
 generalize h2.wr h.next 0 ((sec M i).map bv)=h3 at st2 x3 R3 n3 m3;have ct:∀ e:Env,J 7 e=pt h.next->F9 64 1 (J 7) none none none (call AC (m+2)) e h3=.ok (.slice (some ⟨h.next,0,none⟩) 64 64) h3:=fun e he=>XV he
 refine⟨h3,.slice (some ⟨h.next,0,none⟩) 64 64,?_,x3,⟨h.next,0,by rw[hsl],.inl rfl,R3,IT _⟩,n3,m3,rfl⟩;obtain⟨_,l1,_,_⟩:=DQ d.disk;rw[eL rfl];unfold fR;simp only[iN,IS,sT,By,BY,reduceIte,cA0,k1,AK,AJ,c0',Av,Af,AH,AN,AM,AP,OF,l1,lk,A7,BA,BC,al,AX,st,BZ,BX,yZ,l0,A8,ix,Ar,Aj,ld,st2,ct,BE,DR];simp only[OF]at ld;simp only[ld,sT,By,BY,reduceIte,AX,st2,ct,BE,DR]
theorem sO(W:h.Wf)(d:Dk h bd bm bc n M c0 cs arm dn){i:Nat}(hi:i<n)(hc:∀ x∈cs,x.1≠i/\x.1<n){l:List Nat}{g1 g2 g3:O}(h1:g1 e=.map (some bc))(h2:g2 e=AI AT (i:Int))(h3:g3 e=Di l):
  FI ⟨false,[.i .i64]⟩ g1 g2 g3 F e h=.ok AEE (h.put bc (.map (AEU c0 (cs++[(i,l)])) (xM (c0+cs.length))))/\Fx (fun b=>b=bc) h (h.put bc (.map (AEU c0 (cs++[(i,l)])) (xM (c0+cs.length))))/\Dk (h.put bc (.map (AEU c0 (cs++[(i,l)])) (xM (c0+cs.length)))) bd bm bc n M c0 (cs++[(i,l)]) arm dn:=by
 have hn:=d.n1;have hlt:=(d.lt W).2.2;have he:Bk h bc=.ok (AEU c0 cs) (c0+cs.length):=by unfold Bk;rw[d.map];rfl
 have fx:Fx (fun b=>b=bc) h (h.put bc (.map (AEU c0 (cs++[(i,l)])) (xM (c0+cs.length)))):=Fx.put (S:=fun b=>b=bc) W hlt rfl _;refine⟨?_,fx,⟨fx.row W d.disk d.bdc,fx.row W d.med d.bmc,d.len,d.byt,?_,d.big,d.n1⟩⟩
 ·show AEN (g2 e) (fun key=>AEN (g3 e) fun v=>Lm ⟨false,[.i .i64]⟩ (g1 e) key v h)=_
  rw[BK,BK,h1,h2,h3];unfold Lm;rw[qZ (by omega)];simp only[he,Rj cs c0 fun x hx=>⟨(hc x hx).1,by have:=(hc x hx).2;omega⟩,UD];rw[ED W d.big.2.2 hlt];rfl
 ·rw[W.AEq hlt,if_pos rfl,No];rfl
theorem mL{g:O}{a:Addr}{c:Nat}(hg:g e=.slice (some a) 64 c):Qy 64 g F e h=.ok (.pointer (some a)) h:=by
 show(match g e with|.slice (some a) l _=>bif xU 64 l then R.ok (.pointer (some a)) h else .no|_=>.no)=_;rw[hg];rfl
theorem SQ{m:Nat}(W:h.Wf)(d:Dk h bd bm bc n M c0 cs arm false){k:Nat}(ha:CA arm (k+1)){i:Nat}(hi:i<n)(hc:∀ x∈cs,x.1≠i/\x.1<n){u:IN}{l:List Nat}(U:h.VS (fun b=>b≠bd) u (l.map bv))(hl:l.length=64):
  ∃ h',call AC (m+3) 123 [pt bd,AI AT (i:Int),u] h=.ok (AI AT 0) h'/\Fx (fun b=>b=bd\/b=bc) h h'/\Dk h' bd bm bc n M c0 (cs++[(i,l)]) (GH arm) false:=by
 have k1:=NE (m:=m) d hi;have Ul:=U.vals.bl h;rw[hl]at Ul;obtain⟨h1,k2,f1,d1⟩:=Vu (m:=m+1) W d ha;have U1:=U.fx W f1 (fun b h1 h2=>h1 h2);have c1:iNe 0 0=false:=CE rfl;have c2:iNe ((64:Nat):Int) 64=false:=CE rfl;rcases U1 with ⟨_,hx⟩|⟨b,off,c,el,L,hu,_,R1,ho,hL,_⟩
 ·have:=congrArg List.length hx
  rw[sh,hl]at this;cases this
 rw[sh,hl]at hu ho hL;have d1m:=d1.same (h':=h1.marked) rfl;obtain⟨_,l1,_,_⟩:=DQ d1m.disk;have Rm:h1.marked.Row b el L:=R1.same rfl;have ld:loadN 64 ⟨b,off,none⟩ h1.marked=.ok (Di l) h1.marked:=by rw[Rm.loadN ho,hL];rfl
 have ar:∀ (F:AEB) (e:Env),J 2 e=u->Qy 64 (J 2) F e h1.marked=.ok (.pointer (some ⟨b,off,none⟩)) h1.marked:=fun F e he=>mL (he.trans hu)
 have up:=fun (F:AEB) (e:Env) (g1 g2 g3:O) (e1:g1 e=.map (some bc)) (e2:g2 e=AI AT (i:Int)) (e3:g3 e=Di l)=>sO (F:=F) f1.wf.marked.quiet (d1m.same (h':=h1.marked.quiet) rfl) hi hc e1 e2 e3
 obtain⟨_,f2,d2⟩:=up (call AC m) e0 (kV (.map (some bc))) (kV (AI AT (i:Int))) (kV (Di l)) rfl rfl rfl;have up:=fun F e g1 g2 g3 e1 e2 e3=>(up F e g1 g2 g3 e1 e2 e3).1
 generalize h1.marked.quiet.put bc (.map (AEU c0 (cs++[(i,l)])) (xM (c0+cs.length)))=h2 at up f2 d2;have u2:∀ (F:AEB) (e:Env),J 26 e=.map (some bc)->J 1 e=AI AT (i:Int)->J 30 e=Di l->Ad .free (FI ⟨false,[.i .i64]⟩ (J 26) (J 1) (J 30)) F e h1.marked=.ok AEE (h1.marked.back h2):=fun F e e1 e2 e3=>BI (up F e _ _ _ e1 e2 e3)
 refine⟨h1.marked.back h2,?_,?_,d2.same rfl⟩
 ·rw[eU rfl]
  unfold fp;simp only[iN,IS,sT,By,BY,reduceIte,cA0,k1,AK,AJ,c1,Ae,Ul,c2,k2,Ay,Av,Af,AH,AN,AM,AP,OF,l1,ar,Ar,Aj,ld,u2,lV0]
 ·exact(f1.mono fun i h=>.inl h).trans (((f2.mono fun i h=>.inr h).from (h:=h1.marked) rfl rfl).same (h2:=h1.marked.back h2) rfl rfl |>.from (h:=h1) rfl rfl)
theorem bi:∀ n:Nat,Ba Kl.zero n=(xV (64*n) 0).map bv
 |0=>rfl
 |n+1=>by
  show Kl.zero++Ba Kl.zero n=_;rw[bi n,WS,<- yR,List.replicate_append_replicate]
  congr 2;omega
theorem sZ:kG.zero=[.slice none 0 0,.map none,AI AT 0,.bool false]:=by kernel_rfl
theorem ga{m:Nat}(W:h.Wf)(hn:1<=n/\n<=65536):
  ∃ h' bd bm bc,call AC (m+1) 30 [AI AT (n:Int)] h=.ok (.tuple ⟨[pt bd,AI AT 0]⟩) h'/\h.Ext h'/\Dk h' bd bm bc n (xV (64*n) 0) 0 [] (-1) false/\h.next<=bd/\h.next<=bm/\h.next<=bc:=by
 have big:=W.big;have c1:iLt (n:Int) 1=false:=E5 (by omega);have c2:iGt (n:Int) 65536=false:=F5 (by omega);have mk:∀ (F:AEB) (e:Env),J 0 e=AI AT (n:Int)->HC 64 Kl.zero (J 0) (J 0) F e h=.ok (.slice (some ⟨h.next,0,none⟩) n n) (h.AEA 0 ((xV (64*n) 0).map bv)):=fun F e he=>by
  show Qq 64 Kl.zero (DG (J 0 e)) (DG (J 0 e)) h=_;rw[he,DD];unfold Qq;simp only;have e1:xU n n=true:=Au.2 (IT _);have e2:xU (yK (xM n) (xM 64)) most=true:=Au.2 (by show(n+1)*65<=1099511627776;omega);rw[e1,e2,bi];simp only[cond_true];rw[C3 W];rfl
 have x1:=(Hp.Ext.refl W).AEA 0 ((xV (64 * n) 0).map bv);have R1:=Hp.Row.new W 0 ((xV (64 * n) 0).map bv);have n1:(h.AEA 0 ((xV (64 * n) 0).map bv)).next=h.next+1:=rfl;generalize h.AEA 0 ((xV (64 * n) 0).map bv)=h1 at mk x1 R1 n1;have mp:∀ (F:AEB) (e:Env),X8 F e h1=.ok (.map (some h1.next)) (h1.push (.map [] 0)):=fun F e=>by
  unfold X8;rw[C2 x1.wf]
 have y2:h1.Ext (h1.push (.map [] 0)):=(Hp.Ext.refl x1.wf).push _;have M2:(h1.push (.map [] 0)).bl.get h1.next=.map [] 0:=by rw[x1.wf.AEb,if_pos rfl]
 have n2:(h1.push (.map [] 0)).next=h1.next+1:=rfl;generalize h1.push (.map [] 0)=h2 at mp y2 M2 n2;have x2:=x1.trans y2;have bl:∀ (F:AEB) (e:Env),J 11 e=.slice (some ⟨h.next,0,none⟩) n n->J 12 e=.map (some h1.next)->BU kG.zero [(0,1,J 11),(1,1,J 12),(2,1,kV (AI AT (-1)))] F e h2=.ok (.agg ⟨dkL h.next h1.next n (-1) false⟩) h2:=fun F e e1 e2=>by
  rw[Cr,sZ,A1 (hk:=by rw[e1];rfl),e1,A1 (hk:=by rw[e2];rfl),e2,A1];simp only[show cellsOf (.slice (some ⟨h.next,0,none⟩) n n)=[.slice (some ⟨h.next,0,none⟩) n n]from rfl,show cellsOf (.map (some h1.next))=[.map (some h1.next)]from rfl,HZ,Co,ya,xP,yM,over,ABR,ABM,zr,yP,zO,IS,zf,if_true,Bx,reduceIte];rfl
 have bx:∀ (F:AEB) (e:Env),J 13 e=.agg ⟨dkL h.next h1.next n (-1) false⟩->CZ (J 13) F e h2=.ok (pt h2.next) (h2.AEA 0 (dkL h.next h1.next n (-1) false)):=fun F e he=>by
  rw[Ew,he,Et x2.wf];rfl
 have y3:=(Hp.Ext.refl x2.wf).AEA 0 (dkL h.next h1.next n (-1) false);have R3:=Hp.Row.new x2.wf 0 (dkL h.next h1.next n (-1) false);generalize h2.AEA 0 (dkL h.next h1.next n (-1) false)=h3 at bx y3 R3;refine⟨h3,h2.next,h.next,h1.next,?_,x2.trans y3,⟨R3,(R1.ext x1.wf y2).ext x2.wf y3,zF,fun x hx=>by rw[List.eq_of_mem_replicate hx];decide,?_,⟨by omega,by omega,by omega⟩,hn⟩,by omega,IT _,by omega⟩
 ·rw[oV rfl]
  unfold d30;simp only[iN,IS,sT,By,BY,reduceIte,gD,AK,AJ,c1,c2,mk,mp,bl,bx,BE,DR]
 ·rw[y3.get _ (by omega),M2];rfl
end
end
noncomputable section
open Go
set_option maxRecDepth 100000
theorem VT.ext:∀ (a b:VT),(∀ j,a.has j↔b.has j)->(∀ j,a.get j=b.get j)->a=b
 |.mt,.mt,_,_=>rfl
 |.mt,.nd v l r,h,_=>by
  have:=(h 0).2 (by unfold VT.has;trivial);unfold VT.has at this;exact this.elim
 |.nd v l r,.mt,h,_=>by
  have:=(h 0).1 (by unfold VT.has;trivial);unfold VT.has at this;exact this.elim
 |.nd v l r,.nd v' l' r',h,g=>by
  have e1:v=v':=g 0;have lo:∀ j,(2*j) % 2=0/\2*j/2=j:=fun j=>by omega
  have hi:∀ j,¬ (2*j+1) % 2=0/\(2*j+1)/2=j:=fun j=>by omega
  have e2:l=l':=VT.ext l l' (fun j=>by
   have:=h (2*j+1);rw[VT.AEL,VT.AEL,if_pos (lo j).1,if_pos (lo j).1,(lo j).2]at this;exact this) (fun j=>by
   have:=g (2*j+1);rw[VT.AEJ,VT.AEJ,if_pos (lo j).1,if_pos (lo j).1,(lo j).2]at this;exact this)
  have e3:r=r':=VT.ext r r' (fun j=>by
   have:=h (2*j+1+1);rw[VT.AEL,VT.AEL,if_neg (hi j).1,if_neg (hi j).1,(hi j).2]at this;exact this) (fun j=>by
   have:=g (2*j+1+1);rw[VT.AEJ,VT.AEJ,if_neg (hi j).1,if_neg (hi j).1,(hi j).2]at this;exact this)
  rw[e1,e2,e3]
theorem VT.AFe:∀ (t:VT) (i:Nat) (x:IN) (t':VT),t.set i x=some t'->t.has i->∀ j,t'.has j->t.has j
 |.mt,i,x,t',_,h,_,_=>by unfold VT.has at h;exact h.elim
 |.nd v l r,0,x,t',hs,_,j,hj=>by
  have hs:some (VT.nd x l r)=some t':=hs;cases hs;cases j with
  |zero=>unfold VT.has;trivial
  |succ k=>rw[VT.AEL]at hj ⊢;exact hj
 |.nd v l r,k+1,x,t',hs,h,j,hj=>by
  rw[VT.AEh]at hs;rw[VT.AEL]at h;by_cases hk:k % 2=0
  ·rw[if_pos hk]at hs h
   cases hl:l.set (k/2) x with
   |none=>rw[hl]at hs;cases hs
   |some l'=>
    rw[hl]at hs;cases hs;cases j with
    |zero=>unfold VT.has;trivial
    |succ m=>
     rw[VT.AEL]at hj ⊢;by_cases hm:m % 2=0
     ·rw[if_pos hm]at hj ⊢;exact VT.AFe l _ x l' hl h _ hj
     ·rw[if_neg hm]at hj ⊢;exact hj
  ·rw[if_neg hk]at hs h
   cases hl:r.set (k/2) x with
   |none=>rw[hl]at hs;cases hs
   |some l'=>
    rw[hl]at hs;cases hs;cases j with
    |zero=>unfold VT.has;trivial
    |succ m=>
     rw[VT.AEL]at hj ⊢;by_cases hm:m % 2=0
     ·rw[if_pos hm]at hj ⊢;exact hj
     ·rw[if_neg hm]at hj ⊢;exact VT.AFe r _ x l' hl h _ hj
theorem LA:∀ (vs:List IN) (t:VT) (i:Nat),(∀ j,j<i+vs.length->t.has j)->∃ t',Bt t i vs=some t'/\(∀ j,t'.has j↔t.has j)/\∀ j,t'.get j=if i<=j/\j<i+vs.length then vs.getD (j - i) AEE else t.get j
 |[],t,i,h=>⟨t,rfl,fun _=>Iff.rfl,fun j=>by rw[if_neg (by simp only[yM];omega)]⟩
 |v::vs,t,i,h=>by
  simp only[xP]at h;have hh:∀ j,j<i->t.has j:=fun j hj=>h j (by omega)
  have hs:=VT.AEt (x:=v) hh;have h1:∀ j,(t.lay i v).has j↔t.has j:=fun j=>⟨VT.AFe t i v _ hs (h i (by omega)) j,fun hj=>VT.AFH hh j (.inr hj)⟩
  obtain⟨t',a1,a2,a3⟩:=LA vs (t.lay i v) (i+1) fun j hj=>(h1 j).2 (h j (by omega))
  refine⟨t',?_,fun j=>(a2 j).trans (h1 j),fun j=>?_⟩
  ·show(match t.set i v with|some t'=>Bt t' (xM i) vs|none=>none)=_
   rw[hs];exact a1
  ·rw[a3 j,VT.AFB hh]
   simp only[xP];by_cases c1:i+1<=j/\j<i+1+vs.length
   ·rw[if_pos c1,if_pos (by omega),show j - i=(j - (i+1))+1 by omega];rfl
   ·rw[if_neg c1]
    by_cases c2:j=i
    ·rw[if_pos c2,if_pos (by omega),c2,ACV];rfl
    ·rw[if_neg c2,if_neg (by omega)]
section
variable {F:AEB}{e:Env}{h r:Hp}{k:Walk}{body:C}{b:Nat}
theorem Od{b n0:Nat}{r h1:Hp}{tr:Rds}:Xc b n0 r h1 tr=true↔Zh b n0 r h1:=by
 unfold Xc;split
 ·rename_i h _;exact⟨fun _=>h,fun _=>rfl⟩
 ·rename_i h _;exact⟨fun e=>(by cases e),fun e=>absurd e h⟩
theorem Ph{f:Ent->Bool}:∀ {l:List Ent},(∀ x∈l,f x=true)->Pg f l=true
 |[],_=>rfl
 |x::l,h=>by
  show(bif f x then Pg f l else false)=true;rw[h x xT,Ph fun y hy=>h y (xS _ hy)];rfl
theorem Ih{fin:Hp->Rds->Bool}:∀ (n:Nat) (h:Hp) (tr:Rds),Kw k body F e b fin n h tr=true->∃ p,Sw k body F e b n h tr=some p/\fin p.1 p.2=true
 |0,h,tr,hx=>by cases hx
 |n+1,h,tr,hx=>by
  unfold Kw Nv at hx;unfold Sw Nv;cases hi:EO (h.bl.get b)with
  |no=>rw[hi]at hx;cases hx
  |cur _ _ _=>rw[hi]at hx;cases hx
  |pick _ _ _ _=>rw[hi]at hx;cases hx
  |ok m since seen last=>
   rw[hi]at hx;cases m with
   |none=>cases hx
   |some m=>
    simp only at hx ⊢;cases he:Bk h m with
    |no=>rw[he]at hx;cases hx
    |ok es c=>
     rw[he]at hx;simp only at hx ⊢;cases q1:xW c since with
     |false=>rw[q1]at hx;cases hx
     |true=>
      cases q2:xW c last with
      |false=>rw[q1,q2]at hx;cases hx
      |true=>
       cases q3:FM c 0 es with
       |false=>rw[q1,q2,q3]at hx;cases hx
       |true=>
        rw[q1,q2,q3]at hx;simp only[cond_true]at hx ⊢;cases hr:AEm seen es with
        |nil=>rw[hr]at hx;exact⟨_,rfl,hx⟩
        |cons y l=>
         rw[hr]at hx;have hy:=Lr hx y xT;simp only;cases hst:ON k body F e b m c seen h y with
         |none=>rw[hst]at hy;cases hy
         |some h1=>
          rw[hst]at hy;exact Ih n h1 _ hy
theorem Sn(W:h.Wf)(S:OT k body F e h b r)(hn:h.next<=r.next):
  ∃ h',Fw k body F e h b=.exit k.out (Env.set k.more (.bool false) (Cz e k.ws)) h'/\h'.Wf/\h'.next=r.next/\(∀ i,i<h.next->i≠b->h'.bl.get i=r.bl.get i)/\h'.mark=h.mark/\h'.low=min h.low r.low:=by
 obtain⟨p,hp,hend⟩:=Ih _ _ _ S.2;obtain⟨q1,q2,q3,q4⟩:=Od.1 hend;have AGN:=W.big;unfold Fw;split
 case h_2=>rename_i hx _;exact absurd ⟨r,S⟩ hx
 rename_i hx _;have S':=ADw hx;generalize ADl hx=r' at S';obtain⟨p',hp',AIA⟩:=Ih _ _ _ S'.2;obtain rfl:p'=p:=by rw[hp]at hp';exact(Option.some.inj hp').symm
 obtain⟨t1,t2,t3,t4⟩:=Od.1 AIA;refine⟨_,rfl,⟨?_,S'.1,fun i hi=>?_⟩,t1.symm.trans q1,fun i hi hib=>?_,rfl,(BV _ _).trans (by rw[t2,<- q2])⟩
 ·show 256<=r'.next;omega
 ·have hi:r'.next<=i:=hi
  show r'.bl.get i=_;rw[t4,if_pos (by omega)]
 ·show r'.bl.get i=_
  rw[t4,q4]
end
end
end Go.Proofs.YtbjadbhkogcfeaaGreat

/-
  Part ZK of what Lawnr stands on: printed by program, names and spaces cut.
-/
import Derived.Test.YtbjadbhkogcfeaaGreatZJ
open Go.Value renaming int→AI
open Go.IntKind renaming i64→AT
open Nat renaming reduceEqDiff→BY,reduceLT→By,reduceAdd→IS,le_refl→IT,zero_add→If,succ→xW,ble→xd,beq→xr,lt_or_ge→yG,zero_le→yK,le_trans→yP,mul→yl,add_eq→zL,beq_refl→zU,reduceLeDiff→zr,min_le_right→zt,mul_one→AAi,sub_self→ACY,le_succ→ADQ
open Go renaming Value→IN
open List renaming length_append→No,length_map→OF,getElem?_eq_getElem→sh,getD_eq_getElem?_getD→xV,length_cons→xY,mem_cons_of_mem→xZ,mem_cons_self→xa,replicate→xn,append_nil→xx,append_assoc→yF,length_take→yM,length_nil→yS,nil_append→yU,map_append→yc,length_singleton→yg,length_drop→yk,getElem?_map→yx,drop_of_length_le→zC,length_replicate→zO,mem_of_mem_take→zV,cons_append→zb,take_of_length_le→zq,append_eq→AAH,getElem_mem→AAX,mem_of_mem_drop→AAm,drop_length→AA3,drop→ABR,take→ABY,map_drop→ADS
open Int renaming sub→yZ,toNat_natCast→yy,eq_ofNat_of_zero_le→AAG,lt_or_le→ADl
open Bool renaming not_false→yh,not_true→yi
open Go.IntKind renaming i64→zk
open Classical renaming choose→ADo,choose_spec→ADy
set_option linter.unusedVariables false
set_option linter.unusedSimpArgs false
namespace Go.Proofs.YtbjadbhkogcfeaaGreat
noncomputable section
open Go
set_option maxRecDepth 100000
def Bk(a b c:Int)(s:Nat)(u:IN):IN:=.agg ⟨[AI AT a,AI AT b,AI AT c,.int .u8 (s:Int),u]⟩
def A4(a b c:Int)(s:Nat)(u:IN):List IN:=[AI AT a,AI AT b,AI AT c,.int .u8 (s:Int),u]
theorem RT{F:AEA}{h:Hp}(W:h.Wf){a b c:Int}{s:Nat}{u:IN}{g:O}{e:Env}(he:g e=Bk a b c s u):Cc g F e h=.ok (.pointer (some ⟨h.next,0,none⟩)) (h.AD9 0 (A4 a b c s u)):=by
 rw[Eu,he,Eq W];rfl
theorem Bh{h:Hp}{r:Nat}{a b c:Int}{s:Nat}{u:IN}(R:h.Row r 0 (A4 a b c s u)):AEC ⟨r,0,none⟩ h=.ok (AI AT a) h/\AEC ⟨r,1,none⟩ h=.ok (AI AT b) h/\AEC ⟨r,2,none⟩ h=.ok (AI AT c) h/\AEC ⟨r,3,none⟩ h=.ok (.int .u8 (s:Int)) h/\AEC ⟨r,4,none⟩ h=.ok u h/\loadN 5 ⟨r,0,none⟩ h=.ok (Bk a b c s u) h:=
 ⟨R.AEC (off:=0) (by show 0<5;omega),R.AEC (off:=1) (by show 1<5;omega),R.AEC (off:=2) (by show 2<5;omega),R.AEC (off:=3) (by show 3<5;omega),R.AEC (off:=4) (by show 4<5;omega),R.loadN (off:=0) (n:=5) (by show 0+5<=5;omega)⟩
theorem Fs{a b:Int}(h:b<=a):iGe a b=true:=(Ol a b).trans (decide_eq_true h)
theorem EY{a b:Int}(h:¬ b<=a):iGe a b=false:=(Ol a b).trans (decide_eq_false h)
theorem HS{a b:Int}(h:a<=b):iLe a b=true:=(Om a b).trans (decide_eq_true h)
theorem Kx{a b:Int}(h:¬ a<=b):iLe a b=false:=(Om a b).trans (decide_eq_false h)
theorem HT{a b:Int}(h:a<b):iLt a b=true:=(DC a b).trans (decide_eq_true h)
theorem Fu{a b:Int}(h:¬ a<b):iLt a b=false:=(DC a b).trans (decide_eq_false h)
theorem HB{a b:Int}(h:b<a):iGt a b=true:=(Gf a b).trans (decide_eq_true h)
theorem Ft{a b:Int}(h:¬ b<a):iGt a b=false:=(Gf a b).trans (decide_eq_false h)
theorem CL{a b:Int}(h:a=b):iEq a b=true:=by rw[DY];simpa using h
theorem B6{a b:Int}(h:¬ a=b):iEq a b=false:=by rw[DY];simpa using h
theorem Fv{a b:Int}(h:¬ a=b):iNe a b=true:=by rw[HU];simpa using h
theorem CN{a b:Int}(h:a=b):iNe a b=false:=by rw[HU];simpa using h
theorem TF{F:AEA}{h:Hp}(W:h.Wf){a b c:Int}{s n:Nat}{u:IN}(hu:∀ g,AEs u g=.ok (AI AT (n:Int)) g):A5 [.t (J 2)] (d94 F (AS e0 0 [Bk a b c s u]) h)=.ok (.bool (AEP a b c s n)) (h.AD9 0 (A4 a b c s u)):=by
 have R:=Hp.Row.new W 0 (A4 a b c s u);have bx:∀ e:Env,J 0 e=Bk a b c s u->Cc (J 0) F e h=.ok (.pointer (some ⟨h.next,0,none⟩)) (h.AD9 0 (A4 a b c s u)):=fun e he=>RT W he
 generalize h.AD9 0 (A4 a b c s u)=h1 at R bx;obtain⟨l0,l1,l2,l3,l4,_⟩:=Bh R;unfold d94;by_cases k1:0<=a
 ·have c1:iGe a 0=true:=Fs k1
  by_cases k2:a<=1099511627776
  ·have c2:iLe a 1099511627776=true:=HS k2
   by_cases k3:0<=b
   ·have c3:iGe b 0=true:=Fs k3
    by_cases k4:b<255
    ·have c4:iLt b 255=true:=HT k4
     by_cases k5:1<=c
     ·have c5:iGe c 1=true:=Fs k5
      by_cases k6:c<=1099511627776
      ·have c6:iLe c 1099511627776=true:=HS k6
       by_cases k7:(s:Int)=1
       ·have c7:iEq (s:Int) 1=true:=CL k7
        by_cases k9:(n:Int)<=65536
        ·have c9:iLe (n:Int) 65536=true:=HS k9
         rw[show AEP a b c s n=true from decide_eq_true (by omega)];simp only[iN,IS,sT,By,BY,reduceIte,gD,bx,AH,AO,AN,AP,l0,l1,l2,l3,l4,AK,AJ,Af,hu,c1,c2,c3,c4,c5,c6,c7,c9,lV0]
        ·have c9:iLe (n:Int) 65536=false:=Kx k9
         rw[show AEP a b c s n=false from decide_eq_false (by omega)];simp only[iN,IS,sT,By,BY,reduceIte,gD,bx,AH,AO,AN,AP,l0,l1,l2,l3,l4,AK,AJ,Af,hu,c1,c2,c3,c4,c5,c6,c7,c9,lV0]
       ·have c7:iEq (s:Int) 1=false:=B6 k7
        by_cases k8:(s:Int)=2
        ·have c8:iEq (s:Int) 2=true:=CL k8
         by_cases k9:(n:Int)<=65536
         ·have c9:iLe (n:Int) 65536=true:=HS k9
          rw[show AEP a b c s n=true from decide_eq_true (by omega)];simp only[iN,IS,sT,By,BY,reduceIte,gD,bx,AH,AO,AN,AP,l0,l1,l2,l3,l4,AK,AJ,Af,hu,c1,c2,c3,c4,c5,c6,c7,c8,c9,lV0]
         ·have c9:iLe (n:Int) 65536=false:=Kx k9
          rw[show AEP a b c s n=false from decide_eq_false (by omega)];simp only[iN,IS,sT,By,BY,reduceIte,gD,bx,AH,AO,AN,AP,l0,l1,l2,l3,l4,AK,AJ,Af,hu,c1,c2,c3,c4,c5,c6,c7,c8,c9,lV0]
        ·have c8:iEq (s:Int) 2=false:=B6 k8
         rw[show AEP a b c s n=false from decide_eq_false (by omega)];simp only[iN,IS,sT,By,BY,reduceIte,gD,bx,AH,AO,AN,AP,l0,l1,l2,l3,l4,AK,AJ,Af,hu,c1,c2,c3,c4,c5,c6,c7,c8,lV0]
      ·have c6:iLe c 1099511627776=false:=Kx k6
       rw[show AEP a b c s n=false from decide_eq_false (by omega)];simp only[iN,IS,sT,By,BY,reduceIte,gD,bx,AH,AO,AN,AP,l0,l1,l2,l3,l4,AK,AJ,Af,hu,c1,c2,c3,c4,c5,c6,lV0]
     ·have c5:iGe c 1=false:=EY k5
      rw[show AEP a b c s n=false from decide_eq_false (by omega)];simp only[iN,IS,sT,By,BY,reduceIte,gD,bx,AH,AO,AN,AP,l0,l1,l2,l3,l4,AK,AJ,Af,hu,c1,c2,c3,c4,c5,lV0]
    ·have c4:iLt b 255=false:=Fu k4
     rw[show AEP a b c s n=false from decide_eq_false (by omega)];simp only[iN,IS,sT,By,BY,reduceIte,gD,bx,AH,AO,AN,AP,l0,l1,l2,l3,l4,AK,AJ,Af,hu,c1,c2,c3,c4,lV0]
   ·have c3:iGe b 0=false:=EY k3
    rw[show AEP a b c s n=false from decide_eq_false (by omega)];simp only[iN,IS,sT,By,BY,reduceIte,gD,bx,AH,AO,AN,AP,l0,l1,l2,l3,l4,AK,AJ,Af,hu,c1,c2,c3,lV0]
  ·have c2:iLe a 1099511627776=false:=Kx k2
   rw[show AEP a b c s n=false from decide_eq_false (by omega)];simp only[iN,IS,sT,By,BY,reduceIte,gD,bx,AH,AO,AN,AP,l0,l1,l2,l3,l4,AK,AJ,Af,hu,c1,c2,lV0]
 ·have c1:iGe a 0=false:=EY k1
  rw[show AEP a b c s n=false from decide_eq_false (by omega)];simp only[iN,IS,sT,By,BY,reduceIte,gD,bx,AH,AO,AN,AP,l0,l1,l2,l3,l4,AK,AJ,Af,hu,c1,lV0]
theorem Ji{n:Nat}{h:Hp}(W:h.Wf){a b c:Int}{s m:Nat}{u:IN}(hu:∀ g,AEs u g=.ok (AI AT (m:Int)) g):call AC (n+1) 94 [Bk a b c s u] h=.ok (.bool (AEP a b c s m)) (h.AD9 0 (A4 a b c s u)):=by
 rw[pN rfl];exact TF W hu
def OE(z:Int):Nat:=if z<0\/65536<z then 0 else 1+(z.toNat+63)/64
theorem rF{F:AEA}{e:Env}{h:Hp}{x y:O}{k j:IntKind}{a b:Int}(hx:x e=.int k a)(hy:y e=.int j b):Xt x y F e h=.ok (.int k (min a b)) h:=by
 show Hf true (x e) (y e) h=_;rw[hx,hy];show(bif iLt b a then R.ok (.int k b) h else .ok (.int k a) h)=_;rw[DC];rcases ADl b a with hlt|hle
 ·rw[decide_eq_true hlt,Int.min_eq_right (by omega)];rfl
 ·rw[decide_eq_false (by omega),Int.min_eq_left hle];rfl
theorem Vn{n:Nat}{h:Hp}{z:Int}:call AC (n+1) 72 [AI AT z] h=.ok (AI AT (OE z:Nat)) h:=by
 rw[pC rfl];unfold d72;by_cases k1:z<0
 ·have c1:iLt z 0=true:=HT k1
  rw[show OE z=0 from if_pos (by omega)];simp only[iN,IS,sT,By,BY,reduceIte,gD,AK,AJ,c1,lV0];rfl
 ·have c1:iLt z 0=false:=Fu k1
  by_cases k2:65536<z
  ·have c2:iGt z 65536=true:=HB k2
   rw[show OE z=0 from if_pos (by omega)];simp only[iN,IS,sT,By,BY,reduceIte,gD,AK,AJ,c1,c2,lV0];rfl
  ·have c2:iGt z 65536=false:=Ft k2
   obtain⟨m,rfl⟩:=AAG (show 0<=z by omega);have a1:Fg .i64 (AI AT (m:Int)) (AI AT 64) h=.ok (AI AT ((m+64:Nat):Int)) h:=by
    rw[Ep,show(m:Int)+64=((m+64:Nat):Int)by omega,Bn (by omega)]
   have a2:GA yZ .i64 (AI AT ((m+64:Nat):Int)) (AI AT 1) h=.ok (AI AT ((m+63:Nat):Int)) h:=by
    have:yZ ((m+64:Nat):Int) 1=((m+63:Nat):Int):=by show((m+64:Nat):Int) - 1=_;omega
    rw[Cm,this,Bn (by omega)]
   have a3:SY .i64 (AI AT ((m+63:Nat):Int)) (AI AT 64) h=.ok (AI AT (((m+63)/64:Nat):Int)) h:=by
    have:zk.wrap (((m+63:Nat):Int).tdiv 64)=(((m+63)/64:Nat):Int):=Bn (n:=(m+63)/64) (by omega);rw[LV (by omega),this]
   have a4:Fg .i64 (AI AT 1) (AI AT (((m+63)/64:Nat):Int)) h=.ok (AI AT ((OE (m:Int):Nat):Int)) h:=by
    rw[show OE (m:Int)=1+((m:Int).toNat+63)/64 from if_neg (by omega),yy,Ep,show(1:Int)+(((m+63)/64:Nat):Int)=((1+(m+63)/64:Nat):Int)by omega,Bn (by omega)]
   simp only[iN,IS,sT,By,BY,reduceIte,gD,AK,AJ,c1,c2,BM,a1,B4,a2,Jc,a3,a4,lV0]
end
noncomputable section
open Go
set_option maxRecDepth 100000
def CJ(a b c s m t:Nat):List Nat:=[s,a,b,c,m,t]
theorem aA{a b c s m t:Nat}(ha:a<=1099511627776)(hb:b<255)(hc:c<=1099511627776)(hs:s<256)(hm:m<=65536)(ht:t<4294967296):∀ v∈CJ a b c s m t,v<18446744073709551616:=fun v hv=>by
 unfold CJ at hv;simp only[List.mem_cons,List.mem_nil_iff,or_false]at hv;omega
theorem N4{a b c s m t:Nat}(ha:a<=1099511627776)(hb:b<255)(hc:c<=1099511627776)(hs:s<256)(hm:m<=65536)(ht:t<4294967296):(Bz (CJ a b c s m t)).length<=40:=by
 have h1:=EH 1 s (by show s<16384;omega);have h2:=EH 5 a (by show a<4398046511104;omega);have h3:=EH 1 b (by show b<16384;omega);have h4:=EH 5 c (by show c<4398046511104;omega);have h5:=EH 2 m (by show m<2097152;omega);have h6:=EH 4 t (by show t<34359738368;omega);show(CC s++(CC a++(CC b++(CC c++(CC m++(CC t++[])))))).length<=40;simp only[No,yS];omega
theorem KC{k:IntKind}{n:Nat}(hn:n<=18446744073709551615){h:Hp}:Dr .u64 (.int k (n:Int)) h=.ok (.int .u64 (n:Int)) h:=by rw[C5,EV hn]
def wl(T:List Nat)(a b c:Int)(s:Nat)(l:List Nat)(h h':Hp)(r:R):Prop:=(AEP a b c s l.length=true/\∃ v,r=.ok (.tuple ⟨[v,AI AT 0]⟩) h'/\Mk h' h.next v (Ea T (LG (CJ a.toNat b.toNat c.toNat s l.length (CD T l)))))\/(AEP a b c s l.length=false/\r=.ok (.tuple ⟨[.slice none 0 0,AI AT 2]⟩) h')
end
noncomputable section
open Go
set_option maxRecDepth 100000
def nv(n:Nat):IN:=.int .u64 (n:Int)
theorem Hp.Own.apart{h:Hp}{k en b:Nat}{v:IN}{xs:List IN}(o:h.Own k en v xs)(hb:b<k):¬ AEc v b:=by
 rcases o with ⟨rfl,_⟩|⟨c,rfl,_,h3,_⟩
 ·exact GH
 ·exact LR (by omega)
theorem X0{h0 h:Hp}{k n:Nat}{v:IN}{xs:List Nat}(x0:h0.Ext h)(hk:h0.next<=k)(hk2:k<=h.next)(o:h.Own k 5 v (xs.map bv))(hn:0<n)(hm:xs.length+n<=1000000):
  ∃ h' v',Ht 1 1 5 ty5.zero v (.ok n) h=.ok v' h'/\h0.Ext h'/\h'.Own k 5 v' ((xs++xn n 0).map bv)/\h.next<=h'.next:=by
 have W:=x0.wf;have hz:Ba ty5.zero=true:=by kernel_rfl
 have hyl:((xn n 0).map bv).length=n:=by simp
 rw[yc];have hx:(xs.map bv).length=xs.length:=OF ..;generalize hY:(xn n 0).map bv=ys at hyl;rcases o with ⟨rfl,AH7⟩|⟨b,rfl,r,hb,hb2⟩
 ·rw[AH7]
  obtain⟨t1,t2⟩:=Hh ys;refine⟨h.push (.cells (ofL ys) ys.length 6),.slice (some ⟨h.next,0,none⟩) ys.length ys.length,?_,x0.push _,.inr ⟨h.next,rfl,⟨ofL ys,by rw[W.AEZ,if_pos rfl];rfl,t2⟩,hk2,W.big⟩,ADQ _⟩;unfold Ht;simp only[Ap,zL,If];have e1:xd n 0=false:=by
   cases e:xd n 0
   ·rfl
   ·have:=Au.1 e;omega
  have e2:xd (yl (xW n) (xW 1)) JU=true:=Au.2 (H8 (by show(n+1)*2<=1099511627776;omega));rw[e1];simp only[e2,cond_true,hz,Lg,hY];unfold G9 BP JQ;simp only[yU,t1];unfold E3;simp only[Bm];unfold CY;rw[Ap,C3 W,hyl];rfl
 ·obtain⟨cc,hcc,hl⟩:=r.rowOf
  rw[hx]at hcc;obtain⟨t,h2,h3⟩:=EG ys cc (xs.map bv) xs.length hl (.inr hx.symm);have h3:t.Is (xs.map bv++ys):=by
   have e:(xs.map bv).drop (xs.length+ys.length)=[]:=zC (by omega);have e':(xs.map bv).take xs.length=xs.map bv:=zq (by omega);rw[e,e']at h3
   simpa using h3
  have hlen:(xs.map bv++ys).length=xs.length+n:=by rw[No,hx,hyl]
  have hlt:=r.lt W;have W1:(h.put b .dead).Wf:=W.put hlt _;have x1:h0.Ext (h.put b .dead):=x0.put (by omega) hlt _;refine⟨(h.put b .dead).push (.cells t (xs.length+n) 6),.slice (some ⟨h.next,0,none⟩) (xs.length+n) (xs.length+n),?_,x1.push _,.inr ⟨h.next,by rw[hlen],⟨t,by
   have:=W1.AEZ (.cells t (xs.length+n) 6) h.next;rw[this,if_pos (show h.next=(h.put b .dead).next from rfl),hlen],h3⟩,hk2,W.big⟩,ADQ _⟩
  rw[hx];unfold Ht;simp only[Ap,zL];have e1:xd (xs.length+n) xs.length=false:=by
   cases e:xd (xs.length+n) xs.length
   ·rfl
   ·have:=Au.1 e;omega
  have e2:xd (yl (xW (xs.length+n)) (xW 1)) JU=true:=Au.2 (H8 (by show(xs.length+n+1)*2<=1099511627776;omega));rw[e1];simp only[e2,cond_true,hz,Lg,hY];unfold G9;have e3:xr xs.length (yl xs.length 1)=true:=Az.2 (AAi _).symm;simp only[hcc,e3,h2];unfold E3;have e4:Ko 0 xs.length 1 xs.length=true:=by
   unfold Ko;cases xs.length with
   |zero=>rfl
   |succ n=>exact Az.2 (by show 0+(n+1)*1=n+1;omega)
  simp only[hcc,Bm,zL,zU,cond_true,e4];rw[EE W hb2 hlt];unfold CY;rw[Ap,C3 W1,hyl];rfl
theorem Qq{F:AEA}{e:Env}{h:Hp}{x y:O}{n:Nat}{v:IN}(hx:x e=v)(hy:y e=AI AT (n:Int)):FW 1 1 5 ty5.zero x y F e h=Ht 1 1 5 ty5.zero v (.ok n) h:=by
 unfold FW;rw[hx,hy,DH]
theorem kD:Bc Rj.zero 6=[nv 0,nv 0,nv 0,nv 0,nv 0,nv 0]:=by kernel_rfl
theorem Yz{n:Nat}:cellsOf (nv n)=[nv n]:=rfl
theorem X7{F:AEA}{e:Env}{h:Hp}(W:h.Wf){g1 g2 g3 g4 g5 g6:O}{a b c d i j:Nat}(h1:g1 e=nv a)(h2:g2 e=nv b)(h3:g3 e=nv c)(h4:g4 e=nv d)(h5:g5 e=nv i)(h6:g6 e=nv j):
  Ar 6 (Bc Rj.zero 6) [(0,1,g1),(1,1,g2),(2,1,g3),(3,1,g4),(4,1,g5),(5,1,g6)] F e h=.ok (.slice (some ⟨h.next,0,none⟩) 6 6) (h.AD9 0 ([a,b,c,d,i,j].map nv)):=by
 rw[CO,kD,As (hk:=by rw[h1];rfl),h1,As (hk:=by rw[h2];rfl),h2,As (hk:=by rw[h3];rfl),h3,As (hk:=by rw[h4];rfl),h4,As (hk:=by rw[h5];rfl),h5,As (hk:=by rw[h6];rfl),h6];simp only[Yz,yg,xY,yS,over,ABY,ABR,AAH,yU,zb,IS,zr,if_true,Bu,reduceIte];rw[C4 W];rfl
theorem qh:heS=BI (Ab 0 (A3 heB)) heE:=rfl
theorem ZI:d98=ZJ:=rfl
theorem gf{n:Nat}{h0 h:Hp}(x0:h0.Ext h){b6:Nat}(hb6:b6<h.next)(hk:h0.next<=h.next){ns:List Nat}(R6:h.Row b6 0 (ns.map nv))(hns:∀ v∈ns,v<18446744073709551616)(h6:ns.length=6){p:IN}{e:Env}
  (s0:J 0 e=p)(s6:J 6 e=.slice none 0 0)(s33:J 33 e=.slice (some ⟨b6,0,none⟩) 6 6)(s34:J 34 e=AI AT 6)(s35:J 35 e=AI AT ((0:Nat):Int)):
  ∃ e' h' v,A3 heB (call AC (n+1)) e h=.exit 0 e' h'/\h0.Ext h'/\h'.Own h.next 5 v ((Bz ns).map bv)/\J 0 e'=p/\J 6 e'=v/\h.next<=h'.next:=by
 refine Bd (I:=fun i e' h'=>∃ v,h0.Ext h'/\h'.Own h.next 5 v ((Bz (ns.take i)).map bv)/\h'.Row b6 0 (ns.map nv)/\J 0 e'=p/\J 6 e'=v/\J 33 e'=.slice (some ⟨b6,0,none⟩) 6 6/\J 34 e'=AI AT 6/\J 35 e'=AI AT (i:Int)/\h.next<=h'.next/\i<=6)
  (Q:=fun x=>∃ e' h' v,x=.exit 0 e' h'/\h0.Ext h'/\h'.Own h.next 5 v ((Bz ns).map bv)/\J 0 e'=p/\J 6 e'=v/\h.next<=h'.next) 6 (by omega) (fun i e' h' ⟨v,x',o',R',t0,t6,t33,t34,t35,hn,hi⟩=>?_)
  ⟨_,x0,.inl ⟨rfl,rfl⟩,R6,s0,s6,s33,s34,s35,IT _,by omega⟩
 by_cases hlt:i<6
 ·left
  have c1:iLt (i:Int) 6=true:=EW (b:=6) hlt;have hil:i<ns.length:=by omega
  have i1:AE2 1 (.slice (some ⟨b6,0,none⟩) 6 6) (AI AT (i:Int)) h'=.ok (.pointer (some ⟨b6,i,none⟩)) h':=by
   have:=C6 (h:=h') (n:=6) (c:=6) (es:=1) (b:=b6) (off:=0) (i:=i) (k:=.i64) hlt
   rwa [If,AAi]at this
  have l1:AEC ⟨b6,i,none⟩ h'=.ok (.int .u64 ((ns[i]'hil:Nat):Int)) h':=by
   rw[R'.AEC (off:=i) (by rw[OF];exact hil),xV,yx,sh hil];rfl
  have htl:(Bz (ns.take i)).length<=1000000:=by
   have h1:=Iw (ns:=ns.take i) fun v hv=>hns v (zV hv)
   rw[yM]at h1;omega
  obtain⟨h2,v2,k2,x2,o2,hn2,fr⟩:=j7 (n:=n) x' hk hn o' htl (hns _ (AAX hil));have a3:=CI (i:=i) (h:=h2) (by omega);have R2:=(fr b6 0 _ (o'.apart hb6) R').1;have htk:Bz (ns.take i)++CC (ns[i]'hil)=Bz (ns.take (i+1)):=by
   rw[List.take_succ_eq_append_getElem hil,TV];show _=_++(CC _++[]);rw[xx]
  rw[htk]at o2;have hrun:∃ e2,heB (call AC (n+1)) e' h'=.norm e2 h2/\J 0 e2=p/\J 6 e2=v2/\J 33 e2=.slice (some ⟨b6,0,none⟩) 6 6/\J 34 e2=AI AT 6/\J 35 e2=AI AT ((i+1:Nat):Int):=by
   unfold heB;simp only[sT,By,BY,reduceIte,AK,AJ,t35,t34,c1,A9,t33,i1,AN,AP,l1,cA0,t6,k2,BM,a3];exact⟨_,rfl,by simp[AG,t0,t33,t34]⟩
  obtain⟨e2,q1,q2,q3,q4,q5,q6⟩:=hrun;exact⟨by omega,e2,h2,q1,v2,x2,o2,R2,q2,q3,q4,q5,q6,by omega,by omega⟩
 ·right
  have hi6:i=6:=by omega
  subst hi6;have c1:iLt ((6:Nat):Int) 6=false:=DD (a:=6) (b:=6) (by omega);have hrun:∃ e2,heB (call AC (n+1)) e' h'=.exit 0 e2 h'/\J 0 e2=p/\J 6 e2=v:=by
   unfold heB;simp only[sT,By,BY,reduceIte,AK,AJ,t35,t34,c1];exact⟨_,rfl,by simp[AG,t0,t6]⟩
  obtain⟨e2,q1,q2,q3⟩:=hrun;rw[q1];rw[zq (by omega)]at o';exact⟨rfl,e2,h',v,rfl,x',o',q2,q3,hn⟩
theorem Um{n:Nat}{h:Hp}(W:h.Wf){tb:Nat}{T:List Nat}(R:h.Row tb 0 (T.map wv))(hT:AE4 T){a b c:Int}{s:Nat}{u:IN}{l:List Nat}(V:h.AEX u (l.map bv))(hb:∀ x∈l,x<256)(hs:s<256)(hl:l.length<=900000):
  ∃ h',h.Ext h'/\wl T a b c s l h h' (call AC (n+3) 98 [pt tb,Bk a b c s u] h):=by
 have x1:=(Hp.Ext.refl W).AD9 0 (A4 a b c s u);have R1:=Hp.Row.new W 0 (A4 a b c s u);have bx:∀ e:Env,J 1 e=Bk a b c s u->Cc (J 1) (call AC (n+2)) e h=.ok (.pointer (some ⟨h.next,0,none⟩)) (h.AD9 0 (A4 a b c s u)):=fun e he=>RT W he
 have n1:(h.AD9 0 (A4 a b c s u)).next=h.next+1:=rfl;generalize h.AD9 0 (A4 a b c s u)=h1 at x1 R1 bx n1;obtain⟨_,_,_,_,_,ln⟩:=Bh R1;have k1:=Ji (n:=n+1) x1.wf (a:=a) (b:=b) (c:=c) (s:=s) (u:=u) V.bl;have y2:=(Hp.Ext.refl x1.wf).AD9 0 (A4 a b c s u);have n2:(h1.AD9 0 (A4 a b c s u)).next=h1.next+1:=rfl;generalize h1.AD9 0 (A4 a b c s u)=h2 at y2 k1 n2;have x2:=x1.trans y2;cases hr:AEP a b c s l.length with
 |false=>
  rw[hr]at k1;refine⟨h2,x2,.inr ⟨hr,?_⟩⟩;rw[Yw rfl,ZI];unfold ZJ;simp only[iN,IS,sT,By,BY,reduceIte,bx,Av,Am,ln,cA0,k1,BZ,BX,yh,BG,DR]
 |true=>
  rw[hr]at k1;obtain⟨ha1,ha2,hb1,hb2,hc1,hc2,hs2,hm⟩:=of_decide_eq_true hr;have xm:=x2.marked;have R2:h2.marked.Row h.next 0 (A4 a b c s u):=(R1.ext x1.wf y2).same rfl;obtain⟨m0,m1,m2,m3,m4,_⟩:=Bh R2;have hmk:h.next<h2.marked.mark:=by show h.next<h2.next;omega
  have old:∀ (off:Nat) (k:C) (F:AEA) (e:Env),Iq (.pointer (some ⟨h.next,off,none⟩)) k F e h2.marked=k F e h2.marked:=fun off k F e=>Dg hmk
  have Vl:=V.bl h2.marked;obtain⟨a',rfl⟩:=AAG ha1;obtain⟨b',rfl⟩:=AAG hb1;obtain⟨c',rfl⟩:=AAG (show 0<=c by omega);have cs:=KC (k:=.u8) (n:=s) (by omega) (h:=h2.marked);have ca:=KC (k:=.i64) (n:=a') (by omega) (h:=h2.marked);have cb:=KC (k:=.i64) (n:=b') (by omega) (h:=h2.marked);have cc:=KC (k:=.i64) (n:=c') (by omega) (h:=h2.marked);have cm:=KC (k:=.i64) (n:=l.length) (by omega) (h:=h2.marked);obtain⟨hq,kq,hq2⟩:=TN (n:=n+1) (h:=h2.marked.quiet) (R.ext W xm.quiet) hT (V.ext W xm.quiet) hb hl;have yq:h2.marked.quiet.Ext hq:=by
   rcases hq2 with rfl|rfl
   ·exact Hp.Ext.refl xm.quiet.wf
   ·exact(Hp.Ext.refl xm.quiet.wf).marked
  have nq:hq.next=h2.next:=by rcases hq2 with rfl|rfl<;>rfl
  have q1:∀ e:Env,J 0 e=pt tb->J 30 e=u->Ae .weak (AU 48 [J 0,J 30]) (call AC (n+2)) e h2.marked=.ok (.int .u32 ((CD T l:Nat):Int)) (h2.marked.back hq):=fun e h0 h6=>by
   refine Ck ?_ yq (IT _);rw[BO,AV,AV,A2,h0,h6];exact kq
  have yb:h2.marked.Ext (h2.marked.back hq):=Hp.Ext.back yq;have nb:(h2.marked.back hq).next=h2.next:=nq;have mb:(h2.marked.back hq).mark=h2.next:=rfl;generalize h2.marked.back hq=h3 at q1 yb nb mb;have x3:=xm.trans yb;have ct:=KC (k:=.u32) (n:=CD T l) (by have:=II T l;omega) (h:=h3);have y4:h3.quiet.Ext (h3.quiet.AD9 0 ((CJ a' b' c' s l.length (CD T l)).map nv)):=(Hp.Ext.refl x3.quiet.wf).AD9 _ _;have R4:=Hp.Row.new x3.quiet.wf 0 ((CJ a' b' c' s l.length (CD T l)).map nv);have q2:∀ (F:AEA) (e:Env),J 14 e=nv s->J 17 e=nv a'->J 20 e=nv b'->J 23 e=nv c'->J 27 e=nv l.length->J 32 e=nv (CD T l)->
    Ae .AER (Ar 6 (Bc Rj.zero 6) [(0,1,J 14),(1,1,J 17),(2,1,J 20),(3,1,J 23),(4,1,J 27),(5,1,J 32)]) F e h3=.ok (.slice (some ⟨h3.next,0,none⟩) 6 6) (h3.back (h3.quiet.AD9 0 ((CJ a' b' c' s l.length (CD T l)).map nv))):=fun F e e1 e2 e3 e4 e5 e6=>
   Ck (X7 x3.quiet.wf e1 e2 e3 e4 e5 e6) y4 (by omega)
  have z4:h3.Ext (h3.back (h3.quiet.AD9 0 ((CJ a' b' c' s l.length (CD T l)).map nv))):=Hp.Ext.back y4;have n4:(h3.back (h3.quiet.AD9 0 ((CJ a' b' c' s l.length (CD T l)).map nv))).next=h3.next+1:=rfl;have R5:(h3.back (h3.quiet.AD9 0 ((CJ a' b' c' s l.length (CD T l)).map nv))).Row h3.next 0 ((CJ a' b' c' s l.length (CD T l)).map nv):=R4.same rfl;generalize h3.back (h3.quiet.AD9 0 ((CJ a' b' c' s l.length (CD T l)).map nv))=h4 at q2 z4 n4 R5;have x4:=x3.trans z4;have hnl:=aA (a:=a') (b:=b') (c:=c') (s:=s) (m:=l.length) (t:=CD T l) (by omega) (by omega) (by omega) hs (by omega) (II T l);have hl7:=N4 (a:=a') (b:=b') (c:=c') (s:=s) (m:=l.length) (t:=CD T l) (by omega) (by omega) (by omega) hs (by omega) (II T l);have pre:∃ e1,ZJ (call AC (n+2)) (AS e0 0 [pt tb,Bk (a':Int) (b':Int) (c':Int) s u]) h=heS (call AC (n+2)) e1 h4/\J 0 e1=pt tb/\J 6 e1=.slice none 0 0/\J 33 e1=.slice (some ⟨h3.next,0,none⟩) 6 6/\J 34 e1=AI AT 6/\J 35 e1=AI AT ((0:Nat):Int):=by
   have cs:Dr .u64 (.int .u8 (s:Int)) h2.marked=.ok (nv s) h2.marked:=cs;have ca:Dr .u64 (AI AT (a':Int)) h2.marked=.ok (nv a') h2.marked:=ca;have cb:Dr .u64 (AI AT (b':Int)) h2.marked=.ok (nv b') h2.marked:=cb;have cc:Dr .u64 (AI AT (c':Int)) h2.marked=.ok (nv c') h2.marked:=cc;have cm:Dr .u64 (AI AT (l.length:Int)) h2.marked=.ok (nv l.length) h2.marked:=cm;have ct:Dr .u64 (.int .u32 ((CD T l:Nat):Int)) h3=.ok (nv (CD T l)) h3:=ct;unfold ZJ;simp only[iN,IS,sT,By,BY,reduceIte,bx,Av,Am,ln,cA0,k1,BZ,BX,yi,A0,AH,AO,D5,old,DQ,AN,AP,m0,m1,m2,m3,m4,Cd,cs,ca,cb,cc,Af,Vl,cm,q1,ct,q2,Dy];exact⟨_,rfl,by simp[AG]⟩
  obtain⟨e1,p1,p2,p3,p4,p5,p6⟩:=pre;obtain⟨e2,h5,v5,r1,x5,o5,r2,r3,n5⟩:=gf (n:=n+1) x4 (b6:=h3.next) (by omega) x4.next R5 hnl rfl p2 p3 p4 p5 p6;have Vl5:=o5.vals.bl h5;have a1:GA yZ .i64 (AI AT 60) (AI AT ((Bz (CJ a' b' c' s l.length (CD T l))).length:Int)) h5=.ok (AI AT ((60 - (Bz (CJ a' b' c' s l.length (CD T l))).length:Nat):Int)) h5:=by
   have:yZ 60 ((Bz (CJ a' b' c' s l.length (CD T l))).length:Int)=((60 - (Bz (CJ a' b' c' s l.length (CD T l))).length:Nat):Int):=by
    show(60:Int) - _=_;omega
   rw[Cm,this,Bn (by omega)]
  obtain⟨h6,v6,k6,x6,o6,n6⟩:=X0 x5 (k:=h4.next) x4.next n5 o5 (n:=60 - (Bz (CJ a' b' c' s l.length (CD T l))).length) (by omega) (by omega);have ap:∀ (F:AEA) (e:Env),J 6 e=v5->J 47 e=AI AT ((60 - (Bz (CJ a' b' c' s l.length (CD T l))).length:Nat):Int)->FW 1 1 5 ty5.zero (J 6) (J 47) F e h5=.ok v6 h6:=fun F e e1 e2=>(Qq e1 e2).trans k6
  have hpl:=Mo (l:=Bz (CJ a' b' c' s l.length (CD T l))) (by omega);have Vp:h6.AEX v6 ((PH (Bz (CJ a' b' c' s l.length (CD T l)))).map bv):=o6.vals;obtain⟨h7,w,k7,y7,m7⟩:=Vf (n:=n) x6.wf (R.ext W x6) hT Vp (VX OM) (by omega);refine⟨h7,x6.trans y7,.inl ⟨hr,w,?_,?_⟩⟩
  ·rw[Yw rfl,ZI,p1,qh]
   simp only[BJ,Ay,r1,A7,BA];unfold heE;simp only[sT,By,BY,reduceIte,Af,r3,Vl5,B4,a1,ap,cA0,r2,k7,BG,DR]
  ·rw[yy,yy,yy]
   exact m7.le x6.next
end
noncomputable section
open Go
set_option maxRecDepth 100000
abbrev AEF:IN:=.slice none 0 0
def okT(ns:List Nat):IN:=.tuple ⟨[Bk (at6 ns 1) (at6 ns 2) (at6 ns 3) (at6 ns 0) AEF,AI AT (at6 ns 4:Nat),.int .u32 (at6 ns 5:Nat),.bool true]⟩
def noT:IN:=.tuple ⟨[Bk 0 0 0 0 AEF,AI AT 0,.int .u32 0,.bool false]⟩
theorem TY:IO.zero=A4 0 0 0 0 AEF:=by kernel_rfl
theorem Ew:Bt .mt 0 (A4 0 0 0 0 AEF)=some DL:=by kernel_rfl
theorem cX:Bt .mt 0 ([0,0,0,0,0,0].map nv)=some OO:=by kernel_rfl
theorem KI{e:Env}{h:Hp}{g g1 g2 g3:O}{n:Nat}{v:IN}(hv:KX n (g e) h=.ok v h):Eg [.cN g n,.t g1,.t g2,.t g3] e h=.ok (.tuple ⟨[v,g1 e,g2 e,g3 e]⟩) h:=by
 have h1:FJ e h (.cN g n)=.ok v h:=hv;show(match FJ e h (.cN g n)with|.ok v _=>AEN v fun v=>AEN (g1 e) (fun x=>AEN (g2 e) fun y=>AEN (g3 e) fun z=>JK h [v,x,y,z])|.no=>.no)=_;rw[h1];simp only[BR];rfl
theorem LN{h g:Hp}(W0:h.Wf)(x:h.Ext g){r:Nat}(hr:h.next<=r){L:List IN}(R:g.Row r 0 L)(hL:L.length=5){a b c:Int}{s:Nat}{u:IN}(hu:oneCell u=true):
  AEH 5 (pt r) (Bk a b c s u) g=.ok AED (g.wr r 0 (A4 a b c s u))/\loadN 5 ⟨r,0,none⟩ (g.wr r 0 (A4 a b c s u))=.ok (Bk a b c s u) (g.wr r 0 (A4 a b c s u))/\h.Ext (g.wr r 0 (A4 a b c s u))/\(g.wr r 0 (A4 a b c s u)).Row r 0 (A4 a b c s u)/\(g.wr r 0 (A4 a b c s u)).next=g.next:=by
 have AEK:256<=r:=by have:=W0.big;omega
 have ho:0+(A4 a b c s u).length<=L.length:=by rw[hL];show 0+5<=5;omega
 have h1:Ba (A4 a b c s u)=true:=by
  show(bif oneCell u then true else false)=true;rw[hu];rfl
 have st:=R.AEH (n:=5) (off:=0) x.wf AEK (v:=Bk a b c s u) rfl ho h1;have wr:=R.AEM x.wf ho;rw[Em (show L.length=(A4 a b c s u).length from hL)]at wr;exact⟨st,(Bh wr).2.2.2.2.2,R.AEe x hr ho,wr,R.AEo ho⟩
theorem dm{F:AEA}{e:Env}{h:Hp}{g1 g2 g3 g4:O}{a b c:Int}{s:Nat}(h1:g1 e=.int .u8 (s:Int))(h2:g2 e=AI AT a)(h3:g3 e=AI AT b)(h4:g4 e=AI AT c):
  BC IO.zero [(3,1,g1),(0,1,g2),(1,1,g3),(2,1,g4)] F e h=.ok (Bk a b c s AEF) h:=by
 rw[CQ,TY,As (hk:=by rw[h1];rfl),h1,As (hk:=by rw[h2];rfl),h2,As (hk:=by rw[h3];rfl),h3,As (hk:=by rw[h4];rfl),h4];simp only[Cq,yg,xY,yS,A4,over,ABY,ABR,AAH,yU,zb,IS,zr,if_true,Bu,reduceIte];rfl
theorem Dn{F:AEA}{e:Env}{h:Hp}:BC IO.zero [] F e h=.ok (Bk 0 0 0 0 AEF) h:=by
 rw[CQ,Bu,TY];rfl
theorem QQ{r k:Nat}(hk:k<6){g:Hp}:NG 6 1 (pt r) (AI AT (k:Int)) g=.ok (.pointer (some ⟨r,k,none⟩)) g:=by
 have:=Ur (h:=g) (n:=6) (es:=1) (b:=r) (off:=0) (i:=k) (k:=.i64) hk
 rwa [If,AAi]at this
theorem Qn{g:Hp}{r k:Nat}{ns:List Nat}(R:g.Row r 0 (ns.map nv))(h6:ns.length=6)(hk:k<6):AEC ⟨r,k,none⟩ g=.ok (.int .u64 ((at6 ns k:Nat):Int)) g:=by
 have hil:k<ns.length:=by omega
 unfold at6;rw[R.AEC (off:=k) (by rw[OF];exact hil),xV,yx,xV,sh hil];rfl
abbrev f112:IN:=.func (.func 135) ⟨[]⟩ ⟨[]⟩
theorem Yh{n:Nat}{h:Hp}{c:Nat}:call AC (n+1) 135 [.int .u8 (c:Int)] h=.ok (.bool (iNe (c:Int) 0)) h:=by
 rw[eQ rfl];unfold fq;simp only[iN,IS,sT,By,BY,reduceIte,AK,AJ,lV0]
theorem Oo:ifS=BI (Ab 0 (A3 ifB)) ifE:=rfl
theorem LU:fp=NZ:=rfl
theorem gj{n:Nat}{h:Hp}{u:IN}{l:List Nat}(V:h.AEX u (l.map bv))(hl:l.length<=900000){e:Env}(s0:J 0 e=u)(s1:J 1 e=f112)(s7:J 7 e=AI AT (l.length:Int))(s8:J 8 e=AI AT ((0:Nat):Int)):
  (∃ e',A3 ifB (call AC (n+1)) e h=.exit 0 e' h/\∀ x∈l,x=0)\/(∃ e' i,A3 ifB (call AC (n+1)) e h=.ret e' h/\J 4 e'=AI AT ((i:Nat):Int)/\∃ x∈l,x≠0):=by
 refine Bd (I:=fun i e' h'=>h'=h/\J 0 e'=u/\J 1 e'=f112/\J 7 e'=AI AT (l.length:Int)/\J 8 e'=AI AT (i:Int)/\i<=l.length/\((∀ x∈l,x=0)↔∀ x∈l.drop i,x=0))
  (Q:=fun x=>(∃ e',x=.exit 0 e' h/\∀ x∈l,x=0)\/(∃ e' i,x=.ret e' h/\J 4 e'=AI AT ((i:Nat):Int)/\∃ x∈l,x≠0)) l.length (by omega) (fun i e' h' ⟨hh,t0,t1,t7,t8,hi,hr⟩=>?_) ⟨rfl,s0,s1,s7,s8,yK _,by simp⟩
 subst hh;by_cases hlt:i<l.length
 ·obtain⟨a,g1,g2⟩:=Iz V hlt
  have hmem:l.getD i 0∈l:=by
   rw[xV,sh hlt];exact AAX hlt
  rw[GJ hlt]at hr;generalize l.getD i 0=c at g2 hr hmem;have c1:=EW hlt;have k1:=Yh (n:=n) (h:=h') (c:=c);by_cases hc:c=0
  ·left
   subst hc;have k1:call AC (n+1) 135 [.int .u8 ((0:Nat):Int)] h'=.ok (.bool false) h':=k1;have a3:=CI (i:=i) (h:=h') (by omega);have hrun:∃ e2,ifB (call AC (n+1)) e' h'=.norm e2 h'/\J 0 e2=u/\J 1 e2=f112/\J 7 e2=AI AT (l.length:Int)/\J 8 e2=AI AT ((i+1:Nat):Int):=by
    unfold ifB;simp only[sT,By,BY,reduceIte,AK,AJ,t8,t7,c1,A9,t0,g1,AN,g2,CV,t1,Co,AV,A2,yU,xx,k1,BM,a3];exact⟨_,rfl,by simp[AG,t0,t1,t7]⟩
   obtain⟨e2,q1,q2,q3,q4,q5⟩:=hrun;refine⟨hlt,e2,h',q1,rfl,q2,q3,q4,q5,hlt,hr.trans ?_⟩;simp
  ·right
   have c2:iNe (c:Int) 0=true:=by rw[HU];simpa using hc
   rw[c2]at k1;have hrun:∃ e2,ifB (call AC (n+1)) e' h'=.ret e2 h'/\J 4 e2=AI AT (i:Int):=by
    unfold ifB;simp only[sT,By,BY,reduceIte,AK,AJ,t8,t7,c1,A9,t0,g1,AN,g2,CV,t1,Co,AV,A2,yU,xx,k1];exact⟨_,rfl,by simp[AG]⟩
   obtain⟨e2,q1,q2⟩:=hrun;rw[q1];exact⟨rfl,.inr ⟨e2,i,rfl,q2,c,hmem,hc⟩⟩
 ·right
  have c1:=DD (show l.length<=i by omega);have hrun:∃ e2,ifB (call AC (n+1)) e' h'=.exit 0 e2 h':=by
   unfold ifB;simp only[sT,By,BY,reduceIte,AK,AJ,t8,t7,c1];exact⟨_,rfl⟩
  obtain⟨e2,q1⟩:=hrun;rw[q1];refine⟨rfl,.inl ⟨e2,rfl,hr.2 ?_⟩⟩;rw[zC (by omega)];intro x hx;cases hx
theorem XC{n:Nat}{h:Hp}{u:IN}{l:List Nat}(V:h.AEX u (l.map bv))(hl:l.length<=900000):∃ r:Bool,call AC (n+3) 110 [u,f112] h=.ok (.bool r) h/\(r=true↔∃ x∈l,x≠0):=by
 have Vl:=V.bl h;have pre:∃ e1,NZ (call AC (n+1)) (AS e0 0 [u,f112]) h=ifS (call AC (n+1)) e1 h/\J 0 e1=u/\J 1 e1=f112/\J 7 e1=AI AT (l.length:Int)/\J 8 e1=AI AT ((0:Nat):Int):=by
  unfold NZ;simp only[iN,IS,sT,By,BY,reduceIte,Af,Vl];exact⟨_,rfl,by simp[AG]⟩
 obtain⟨e1,p1,p2,p3,p4,p5⟩:=pre;rcases gj (n:=n) V hl p2 p3 p4 p5 with ⟨e2,q1,q2⟩|⟨e2,i,q1,q2,q3⟩
 ·have k1:call AC (n+2) 134 [u,f112] h=.ok (AI AT (-1)) h:=by
   rw[LT rfl,LU,p1,Oo];simp only[BJ,Ay,q1,A7,BA];unfold ifE;simp only[sT,By,BY,reduceIte,lV0]
  refine⟨false,?_,by simp;exact q2⟩;have c1:iGe (-1) 0=false:=EY (by omega);rw[LS rfl];unfold SV;simp only[iN,IS,sT,By,BY,reduceIte,cA0,k1,AK,AJ,c1,lV0]
 ·have k1:call AC (n+2) 134 [u,f112] h=.ok (AI AT (i:Int)) h:=by
   rw[LT rfl,LU,p1,Oo];simp only[BJ,Ay,q1,CM,C8,lV0,q2]
  refine⟨true,?_,by simp only[true_iff];exact q3⟩;have c1:iGe (i:Int) 0=true:=Fs (by omega);rw[LS rfl];unfold SV;simp only[iN,IS,sT,By,BY,reduceIte,cA0,k1,AK,AJ,c1,lV0]
theorem Px{h:Hp}{k m:Nat}{v:IN}{l:List Nat}(M:Mk h k v l)(hm:m<=l.length):∃ w,(∀ (F:AEA) (e:Env) (x y:O),x e=v->y e=AI AT (m:Int)->EB 5 1 x (some y) none none F e h=.ok w h)/\h.AEX w ((l.drop m).map bv):=by
 obtain⟨b,el,hv,hel,Rb,_⟩:=M;have hdl:(l.drop m).length=l.length - m:=yk;have key:∀ (F:AEA) (e:Env) (x y:O),x e=v->y e=AI AT (m:Int)->EB 5 1 x (some y) none none F e h=EL 5 1 (some ⟨b,0,none⟩) false m l.length l.length h:=fun F e x y hx hy=>by
  have hb:∀ K:Nat->R,Cu e (some y) 0 l.length K=K m:=fun K=>by
   show(match DZ (y e)with|.ok n=>(bif xd n l.length then K n else .no)|.no=>.no)=_;rw[hy,DH];simp only;rw[Au.2 hm];rfl
  show(match x e with|.slice a n c=>Dc e n c (some y) none none (fun l hh m=>EL 5 1 a false l hh m h)|_=>.no)=_;rw[hx,hv];show Cu e none l.length l.length (fun hh=>Cu e (some y) 0 hh fun l'=>EL 5 1 (some ⟨b,0,none⟩) false l' hh l.length h)=_;show Cu e (some y) 0 l.length (fun l'=>EL 5 1 (some ⟨b,0,none⟩) false l' l.length l.length h)=_;rw[hb]
 have AIu:EL 5 1 (some ⟨b,0,none⟩) false m l.length l.length h=Br (some ⟨b,0,none⟩) 1 m l.length l.length h:=by
  cases m with
  |zero=>rfl
  |succ m=>
   show(bif Ez 5 (some ⟨b,0,none⟩) h then Br (some ⟨b,0,none⟩) 1 (m+1) l.length l.length h else .no)=_;have:Ez 5 (some ⟨b,0,none⟩) h=true:=by
    obtain⟨cc,hcc,_⟩:=Rb.rowOf;unfold Ez;simp only[hcc];rcases hel with rfl|rfl<;>rfl
   rw[this];rfl
 rcases yG m l.length with hlt|hge
 ·refine⟨.slice (some ⟨b,m,none⟩) (l.length - m) (l.length - m),?_,.inr ⟨b,m,l.length - m,el,_,by rw[OF,hdl],Rb,by rw[OF,OF,hdl];omega,?_⟩⟩
  ·intro F e x y hx hy
   rw[key F e x y hx hy,AIu];unfold Br;simp only[Ap];have e1:xr l.length m=false:=by
    cases e:xr l.length m
    ·rfl
    ·have:=Az.1 e;omega
   rw[e1];cases m with
   |zero=>rfl
   |succ m=>
    have e2:yl (m+1) 1=xW m:=AAi _;simp only[e2,zL,If];rfl
  ·rw[OF,hdl,<- ADS,zq (by rw[OF,hdl];exact IT _)]
 ·have hml:m=l.length:=by omega
  subst hml;refine⟨.slice (some ⟨b,0,none⟩) 0 0,?_,.inr ⟨b,0,0,el,_,by rw[AA3];rfl,Rb,by rw[AA3];exact yK _,by rw[AA3];rfl⟩⟩;intro F e x y hx hy;rw[key F e x y hx hy,AIu];unfold Br;simp only[Ap,Nat.sub_eq,ACY,zU]
end
noncomputable section
open Go
set_option maxRecDepth 100000
theorem TA:paS=BI (Ab 0 (A3 paB)) paE:=rfl
theorem JD:fH=Ks:=rfl
theorem RE(k:Nat)(l:List Nat)(p:Nat):rdN (k+1) l p=(match Fi 0 0 (l.drop p)with
 |none=>none
 |some (v,j)=>if v<=1099511627776 then(match rdN k l (p+j)with
  |none=>none
  |some (vs,q)=>some (v::vs,q))else none):=rfl
def YP(h:Hp)(r4:Nat)(e:Env)(g:Hp):Prop:=h.Ext g/\J 4 e=pt r4/\J 5 e=AI AT 0/\J 6 e=.int .u32 0/\J 7 e=.bool false/\loadN 5 ⟨r4,0,none⟩ g=.ok (Bk 0 0 0 0 AEF) g
theorem jL{n:Nat}{h hB g:Hp}(W0:h.Wf)(xB:h.Ext hB)(x:hB.Ext g){r4 r10:Nat}(hr4:h.next<=r4)(AJn:hB.next<=r10)(R4:hB.Row r4 0 (A4 0 0 0 0 AEF)){v:IN}{l:List Nat}(V:hB.AEX v (l.map bv))(hb:∀ x∈l,x<256)(hl:l.length<=900000)
  (R10:g.Row r10 0 ([0,0,0,0,0,0].map nv)){e:Env}(s4:J 4 e=pt r4)(s8:J 8 e=v)(s10:J 10 e=pt r10)(s11:J 11 e=AI AT ((0:Nat):Int))(s29:J 29 e=AI AT ((0:Nat):Int)):
  (∃ e' g' ns q,A3 paB (call AC (n+1)) e g=.exit 0 e' g'/\hB.Ext g'/\g'.Row r10 0 (ns.map nv)/\rdN 6 l 0=some (ns,q)/\J 4 e'=pt r4/\J 8 e'=v/\J 10 e'=pt r10/\J 11 e'=AI AT (q:Int))\/
  (∃ e' g',A3 paB (call AC (n+1)) e g=.ret e' g'/\rdN 6 l 0=none/\YP h r4 e' g'):=by
 have WB:=xB.wf;refine Bd (I:=fun i e' g'=>hB.Ext g'/\∃ (ns:List Nat) (Z:List IN) (p:Nat),ns.length=i/\Z.length=6 - i/\g'.Row r10 0 (ns.map nv++Z)/\J 4 e'=pt r4/\J 8 e'=v/\J 10 e'=pt r10/\J 11 e'=AI AT (p:Int)/\J 29 e'=AI AT (i:Int)/\p<=l.length/\i<=6/\
   rdN 6 l 0=(match rdN (6 - i) l p with|none=>none|some (vs,q)=>some (ns++vs,q)))
  (Q:=fun x=>(∃ e' g' ns q,x=.exit 0 e' g'/\hB.Ext g'/\g'.Row r10 0 (ns.map nv)/\rdN 6 l 0=some (ns,q)/\J 4 e'=pt r4/\J 8 e'=v/\J 10 e'=pt r10/\J 11 e'=AI AT (q:Int))\/
   (∃ e' g',x=.ret e' g'/\rdN 6 l 0=none/\YP h r4 e' g')) 6 (by omega) (fun i e' g' ⟨x',ns,Z,p,hns,hZ,R',t4,t8,t10,t11,t29,hp,hi,hr⟩=>?_)
  ⟨x,[],_,0,rfl,rfl,R10,s4,s8,s10,s11,s29,yK _,by omega,by
   rw[Nat.sub_zero];cases rdN 6 l 0 with
   |none=>rfl
   |some y=>rfl⟩
 by_cases hlt:i<6
 ·have W:=x'.wf
  obtain⟨k,hk⟩:∃ k,6 - i=k+1:=⟨5 - i,by omega⟩;obtain⟨z,Z',rfl⟩:∃ z Z',Z=z::Z':=by
   cases Z with
   |nil=>rw[yS]at hZ;omega
   |cons z Z'=>exact⟨z,Z',rfl⟩
  rw[hk,RE k l p]at hr;have c1:iLt (i:Int) 6=true:=EW (b:=6) hlt;obtain⟨a,b,c,k1,AKw⟩:=qf (n:=n) (V.ext WB x') hb hp (by omega);have i1:=QQ (r:=r10) hlt (g:=g');have hal:(ns.map nv).length=i:=by rw[OF];exact hns
  have ho:i+[Value.int .u64 a].length<=(ns.map nv++z::Z').length:=by
   simp only[No,xY,yS,hal];omega
  have AEK:256<=r10:=by have:=WB.big;omega
  have st:=R'.AEH (n:=1) (off:=i) W AEK (v:=.int .u64 a) rfl ho rfl;rw[Cq]at st;have wr:=R'.AEM W (off:=i) (vs:=[.int .u64 a]) ho;have x2:=R'.AEe x' AJn (off:=i) (vs:=[.int .u64 a]) ho;have hov:over (ns.map nv++z::Z') i [.int .u64 a]=ns.map nv++.int .u64 a::Z':=by
   have:=Q3 (A:=ns.map nv) (B:=Z') (x:=z) (y:=.int .u64 a)
   rwa [hal]at this
  rw[hov]at wr;generalize g'.wr r10 i [.int .u64 a]=g2 at st wr x2;have i2:=QQ (r:=r10) hlt (g:=g2);have l2:AEC ⟨r10,i,none⟩ g2=.ok (.int .u64 a) g2:=by
   rw[wr.AEC (off:=i) (by simp only[No,xY,hal];omega),xV,List.getElem?_append_right (by rw[hal];exact IT _),hal,ACY];rfl
  have a3:=CI (i:=i) (h:=g2) (by omega);obtain⟨w1,w2,w3,_,_⟩:=LN W0 (xB.trans x2) hr4 (R4.ext WB x2) rfl (a:=0) (b:=0) (c:=0) (s:=0) (u:=AEF) rfl;have fail:rdN 6 l 0=none->(iNe c 0=true\/iNe c 0=false/\iGt a 1099511627776=true)->∃ e2,paB (call AC (n+1)) e' g'=.ret e2 (g2.wr r4 0 (A4 0 0 0 0 AEF))/\J 4 e2=pt r4/\J 5 e2=AI AT 0/\J 6 e2=.int .u32 0/\J 7 e2=.bool false:=fun _ hc=>by
   unfold paB;rcases hc with c2|⟨c2,c3⟩
   ·simp only[sT,By,BY,reduceIte,gD,AK,AJ,t29,c1,cA0,t8,t11,k1,A8,BB,BH,Cv,DO,t10,i1,AX,st,c2,Dn,t4,w1]
    exact⟨_,rfl,by simp[AG,t4]⟩
   ·simp only[sT,By,BY,reduceIte,gD,AK,AJ,t29,c1,cA0,t8,t11,k1,A8,BB,BH,Cv,DO,t10,i1,AX,st,c2,i2,AN,AP,l2,c3,Dn,t4,w1]
    exact⟨_,rfl,by simp[AG,t4]⟩
  rcases AKw with ⟨vv,j,hu,rfl,rfl,rfl⟩|⟨hu,hc⟩
  ·rw[hu]at hr
   simp only at hr;have c2:iNe 0 0=false:=CN rfl;by_cases hv:vv<=1099511627776
   ·left
    rw[if_pos hv]at hr;have c3:iGt (vv:Int) 1099511627776=false:=Ft (by omega);have hbd:∀ x∈l.drop p,x<256:=fun x hx=>hb x (AAm hx)
    have hj:=lr hbd hu;rw[yk]at hj;have hrun:∃ e2,paB (call AC (n+1)) e' g'=.norm e2 g2/\J 4 e2=pt r4/\J 8 e2=v/\J 10 e2=pt r10/\J 11 e2=AI AT ((p+j:Nat):Int)/\J 29 e2=AI AT ((i+1:Nat):Int):=by
     unfold paB;simp only[sT,By,BY,reduceIte,gD,AK,AJ,t29,c1,cA0,t8,t11,k1,A8,BB,BH,Cv,DO,t10,i1,AX,st,c2,i2,AN,AP,l2,c3,BM,a3];exact⟨_,rfl,by simp[AG,t4,t8,t10]⟩
    obtain⟨e2,q1,q2,q3,q4,q5,q6⟩:=hrun;refine⟨hlt,e2,g2,q1,x2,ns++[vv],Z',p+j,by rw[No,hns];rfl,by rw[xY]at hZ;omega,?_,q2,q3,q4,q5,q6,by omega,by omega,?_⟩
    ·rw[yc,yF];exact wr
    ·rw[hr,show 6 - (i+1)=k by omega]
     cases rdN k l (p+j)with
     |none=>rfl
     |some y=>
      obtain⟨vs,q⟩:=y;show some (ns++vv::vs,q)=some (ns++[vv]++vs,q);rw[yF];rfl
   ·right
    rw[if_neg hv]at hr;have hr:rdN 6 l 0=none:=hr;obtain⟨e2,q1,q2,q3,q4,q5⟩:=fail hr (.inr ⟨c2,HB (by omega)⟩);rw[q1];exact⟨rfl,.inr ⟨e2,_,rfl,hr,w3,q2,q3,q4,q5,w2⟩⟩
  ·right
   rw[hu]at hr;have hr:rdN 6 l 0=none:=hr;obtain⟨e2,q1,q2,q3,q4,q5⟩:=fail hr (.inl (Fv hc));rw[q1];exact⟨rfl,.inr ⟨e2,_,rfl,hr,w3,q2,q3,q4,q5,w2⟩⟩
 ·right
  have hi6:i=6:=by omega
  subst hi6;have c1:iLt ((6:Nat):Int) 6=false:=DD (a:=6) (b:=6) (by omega);have hrun:∃ e2,paB (call AC (n+1)) e' g'=.exit 0 e2 g'/\J 4 e2=pt r4/\J 8 e2=v/\J 10 e2=pt r10/\J 11 e2=AI AT (p:Int):=by
   unfold paB;simp only[sT,By,BY,reduceIte,AK,AJ,t29,c1];exact⟨_,rfl,by simp[AG,t4,t8,t10,t11]⟩
  obtain⟨e2,q1,q2,q3,q4,q5⟩:=hrun;rw[q1];have hZ0:Z=[]:=List.eq_nil_of_length_eq_zero hZ;rw[hZ0,xx]at R';have hr:rdN 6 l 0=some (ns++[],p):=hr;rw[xx]at hr;exact⟨rfl,.inl ⟨e2,g',ns,p,rfl,x',R',hr,q2,q3,q4,q5⟩⟩
theorem Yo{F:AEA}{e:Env}{h:Hp}{x y z:O}{k:C}{a b c i j m:Nat}(hx:x e=.pointer (some ⟨a,i,none⟩))(hy:y e=.pointer (some ⟨b,j,none⟩))(hz:z e=.pointer (some ⟨c,m,none⟩))(h1:b≠a)(h2:c≠a):Ci x [y,z] k F e h=k F e h:=by
 have n1:xr b a=false:=by
  cases e:xr b a
  ·rfl
  ·exact absurd (Az.1 e) h1
 have n2:xr c a=false:=by
  cases e:xr c a
  ·rfl
  ·exact absurd (Az.1 e) h2
 unfold Ci;rw[hx];show(bif DA a e [y,z]then k F e h else .no)=_;have:DA a e [y,z]=true:=by
  unfold DA;rw[hy];show(bif xr b a then false else DA a e [z])=true;rw[n1];unfold DA;rw[hz];show(bif xr c a then false else DA a e [])=true;rw[n2];rfl
 rw[this];rfl
theorem iS{F:AEA}{e:Env}{h:Hp}(W:h.Wf){x y:O}{r:Nat}{L:List IN}{a b c:Int}{s:Nat}{u:IN}(hx:x e=pt r)(hy:y e=Bk a b c s u)(R:h.Row r 0 L)(hL:L.length=5)(AEK:256<=r)(hu:oneCell u=true):
  Ja x (Ah 5 x y) F e h=.ok AED (h.back (h.quiet.wr r 0 (A4 a b c s u))):=by
 have Rq:h.quiet.Row r 0 L:=R.same rfl;have ho:0+(A4 a b c s u).length<=L.length:=by rw[hL];show 0+5<=5;omega
 have h1:Ba (A4 a b c s u)=true:=by
  show(bif oneCell u then true else false)=true;rw[hu];rfl
 have st:=Rq.AEH (n:=5) (off:=0) W.quiet AEK (v:=Bk a b c s u) rfl ho h1;have st:AEH 5 (pt r) (Bk a b c s u) h.quiet=.ok AED (h.quiet.wr r 0 (A4 a b c s u)):=st;obtain⟨cc,_,hw,_⟩:=Rq.AFM ho;have AGu:(h.quiet.wr r 0 (A4 a b c s u)).low=r:=by
  rw[hw];show B8 h.next r=r;have:=R.lt W;rw[BW];omega
 have AF0:(h.quiet.wr r 0 (A4 a b c s u)).high=r:=by
  rw[hw];show Cw 0 r=r;rw[B3];omega
 show(match Ah 5 x y F e h.quiet with|.ok v h'=>bif IZ (AEh (x e)) h h'.low h'.high then Db h v h' else .no|.no=>.no)=_;rw[AX,hx,hy,st];show(bif IZ (.ok r) h (h.quiet.wr r 0 (A4 a b c s u)).low (h.quiet.wr r 0 (A4 a b c s u)).high then Db h AED (h.quiet.wr r 0 (A4 a b c s u))else .no)=_;rw[AGu,AF0];have:IZ (.ok r) h r r=true:=by
  show(bif xd r r then xd r r else false)=true;rw[Au.2 (IT r)];rfl
 rw[this];show Db h AED (h.quiet.wr r 0 (A4 a b c s u))=_;unfold Db;simp only[Ap];rfl
end
noncomputable section
open Go
set_option maxRecDepth 100000
def Ok4(h:Hp)(r4:Nat)(ns:List Nat)(e:Env)(g:Hp):Prop:=h.Ext g/\J 4 e=pt r4/\J 5 e=AI AT (at6 ns 4:Nat)/\J 6 e=.int .u32 (at6 ns 5:Nat)/\J 7 e=.bool true/\loadN 5 ⟨r4,0,none⟩ g=.ok (Bk (at6 ns 1) (at6 ns 2) (at6 ns 3) (at6 ns 0) AEF) g
theorem Lf{h g:Hp}{r4:Nat}{e:Env}(D:YP h r4 e g):A5 [.cN (J 4) 5,.t (J 5),.t (J 6),.t (J 7)] (.ret e g)=.ok noT g:=by
 obtain⟨_,h4,h5,h6,h7,hl⟩:=D;rw[BG,KI (v:=Bk 0 0 0 0 AEF) (by rw[h4];exact hl),h5,h6,h7];rfl
theorem rS{h g:Hp}{r4:Nat}{ns:List Nat}{e:Env}(D:Ok4 h r4 ns e g):A5 [.cN (J 4) 5,.t (J 5),.t (J 6),.t (J 7)] (.ret e g)=.ok (okT ns) g:=by
 obtain⟨_,h4,h5,h6,h7,hl⟩:=D;rw[BG,KI (v:=Bk (at6 ns 1) (at6 ns 2) (at6 ns 3) (at6 ns 0) AEF) (by rw[h4];exact hl),h5,h6,h7];rfl
theorem wN{n:Nat}{h hB g:Hp}(W0:h.Wf)(xB:h.Ext hB)(x:hB.Ext g){r4 r10 k q:Nat}(hr4:h.next<=r4)(AHC:r10≠r4)(R4:hB.Row r4 0 (A4 0 0 0 0 AEF)){v:IN}{l ns:List Nat}(M:Mk hB k v l)(hl:l.length<=900000)(hq:q<=l.length)
  (R10:g.Row r10 0 (ns.map nv))(h6:ns.length=6)(hns:∀ v∈ns,v<=1099511627776){e:Env}(s4:J 4 e=pt r4)(s8:J 8 e=v)(s10:J 10 e=pt r10)(s11:J 11 e=AI AT (q:Int)):
  (PC ns/\(∀ x∈l.drop q,x=0)/\∃ e2 g2,paE (call AC (n+3)) e g=.ret e2 g2/\Ok4 h r4 ns e2 g2)\/(¬ (PC ns/\∀ x∈l.drop q,x=0)/\∃ e2 g2,paE (call AC (n+3)) e g=.ret e2 g2/\YP h r4 e2 g2):=by
 have W:=x.wf;have WB:=xB.wf;have hat:∀ i,at6 ns i<=1099511627776:=fun i=>by
  unfold at6;rw[xV];cases h:ns[i]? with
  |none=>exact yK _
  |some y=>exact hns y (List.mem_of_getElem? h)
 have i0:∀ g:Hp,NG 6 1 (pt r10) (AI AT 0) g=.ok (.pointer (some ⟨r10,0,none⟩)) g:=fun g=>QQ (k:=0) (by omega)
 have i1:∀ g:Hp,NG 6 1 (pt r10) (AI AT 1) g=.ok (.pointer (some ⟨r10,1,none⟩)) g:=fun g=>QQ (k:=1) (by omega)
 have i2:∀ g:Hp,NG 6 1 (pt r10) (AI AT 2) g=.ok (.pointer (some ⟨r10,2,none⟩)) g:=fun g=>QQ (k:=2) (by omega)
 have i3:∀ g:Hp,NG 6 1 (pt r10) (AI AT 3) g=.ok (.pointer (some ⟨r10,3,none⟩)) g:=fun g=>QQ (k:=3) (by omega)
 have i4:∀ g:Hp,NG 6 1 (pt r10) (AI AT 4) g=.ok (.pointer (some ⟨r10,4,none⟩)) g:=fun g=>QQ (k:=4) (by omega)
 have i5:∀ g:Hp,NG 6 1 (pt r10) (AI AT 5) g=.ok (.pointer (some ⟨r10,5,none⟩)) g:=fun g=>QQ (k:=5) (by omega)
 have l0:=Qn R10 h6 (k:=0) (by omega);have l1:=Qn R10 h6 (k:=1) (by omega);have l2:=Qn R10 h6 (k:=2) (by omega);have l3:=Qn R10 h6 (k:=3) (by omega);have a0:=hat 0;have a1:=hat 1;have a2:=hat 2;have a3:=hat 3;have a4:=hat 4;have a5:=hat 5;have hcast:min ((at6 ns 0:Nat):Int) 9=((min (at6 ns 0) 9:Nat):Int):=by omega
 have mn:∀ (F:AEA) (e:Env),J 52 e=.int .u64 ((at6 ns 0:Nat):Int)->Xt (J 52) (kV (.int .u64 9)) F e g=.ok (.int .u64 ((min (at6 ns 0) 9:Nat):Int)) g:=fun F e he=>by rw[rF he rfl,hcast]
 have v0:Dr .u8 (.int .u64 ((min (at6 ns 0) 9:Nat):Int)) g=.ok (.int .u8 ((min (at6 ns 0) 9:Nat):Int)) g:=by rw[C5,IJ,Nat.mod_eq_of_lt (by omega)]
 have cv:∀ (i:Nat) (g:Hp),Dr .i64 (.int .u64 ((at6 ns i:Nat):Int)) g=.ok (AI AT ((at6 ns i:Nat):Int)) g:=fun i g=>by rw[C5,Bn (by have:=hat i;omega)]
 have bd:∀ (F:AEA) (e:Env),J 54 e=.int .u8 ((min (at6 ns 0) 9:Nat):Int)->J 57 e=AI AT ((at6 ns 1:Nat):Int)->J 60 e=AI AT ((at6 ns 2:Nat):Int)->J 63 e=AI AT ((at6 ns 3:Nat):Int)->
   BC IO.zero [(3,1,J 54),(0,1,J 57),(1,1,J 60),(2,1,J 63)] F e g=.ok (Bk (at6 ns 1) (at6 ns 2) (at6 ns 3) (min (at6 ns 0) 9) AEF) g:=fun F e h1 h2 h3 h4=>dm h1 h2 h3 h4
 have f1:=fun (F:AEA) (e:Env)=>BQ (F:=F) (e:=e) (n:=5) (t:=DL) W
 have x1:=(Hp.Ext.refl W).push (.cells DL 5 0);have R13:(g.push (.cells DL 5 0)).Row g.next 0 (A4 0 0 0 0 AEF):=Hp.Row.alloc W Ew rfl;generalize g.push (.cells DL 5 0)=g1 at f1 x1 R13;obtain⟨st,ld,x2,AIv,_⟩:=LN W x1 (IT _) R13 rfl (a:=at6 ns 1) (b:=at6 ns 2) (c:=at6 ns 3) (s:=min (at6 ns 0) 9) (u:=AEF) rfl;generalize g1.wr g.next 0 (A4 (at6 ns 1) (at6 ns 2) (at6 ns 3) (min (at6 ns 0) 9) AEF)=g2 at st ld x2 AIv;have k24:=Ji (n:=n+2) x2.wf (a:=at6 ns 1) (b:=at6 ns 2) (c:=at6 ns 3) (s:=min (at6 ns 0) 9) (m:=0) (u:=AEF) (fun _=>rfl);have y3:=(Hp.Ext.refl x2.wf).AD9 0 (A4 (at6 ns 1) (at6 ns 2) (at6 ns 3) (min (at6 ns 0) 9) AEF);generalize g2.AD9 0 (A4 (at6 ns 1) (at6 ns 2) (at6 ns 3) (min (at6 ns 0) 9) AEF)=g3 at k24 y3;have x3:=x2.trans y3;have xB3:=x.trans x3;have xh3:=xB.trans xB3;obtain⟨w1,w2,w3,_,_⟩:=LN W0 xh3 hr4 (R4.ext WB xB3) rfl (a:=0) (b:=0) (c:=0) (s:=0) (u:=AEF) rfl;have AHD:=R10.ext W x3;have l4:=Qn AHD h6 (k:=4) (by omega);have l5:=Qn AHD h6 (k:=5) (by omega);have nok:¬ (PC ns/\∀ x∈l.drop q,x=0)->(∃ e2,paE (call AC (n+3)) e g=.ret e2 (g3.wr r4 0 (A4 0 0 0 0 AEF))/\J 4 e2=pt r4/\J 5 e2=AI AT 0/\J 6 e2=.int .u32 0/\J 7 e2=.bool false)->
   (PC ns/\(∀ x∈l.drop q,x=0)/\∃ e2 g2,paE (call AC (n+3)) e g=.ret e2 g2/\Ok4 h r4 ns e2 g2)\/(¬ (PC ns/\∀ x∈l.drop q,x=0)/\∃ e2 g2,paE (call AC (n+3)) e g=.ret e2 g2/\YP h r4 e2 g2):=fun hn ⟨e2,q1,q2,q3,q4,q5⟩=>.inr ⟨hn,e2,_,q1,w3,q2,q3,q4,q5,w2⟩
 cases hr:AEP (at6 ns 1) (at6 ns 2) (at6 ns 3) (min (at6 ns 0) 9) 0 with
 |false=>
  rw[hr]at k24;refine nok (fun hh=>by rw[hh.1.1]at hr;cases hr) ?_;unfold paE;simp only[sT,By,BY,reduceIte,gD,DO,s10,i0,i1,i2,i3,AN,AP,l0,l1,l2,l3,mn,Cd,v0,cv,bd,f1,AX,st,Av,Am,ld,cA0,k24,BZ,BX,yh,Dn,s4,w1];exact⟨_,rfl,by simp[AG,s4]⟩
 |true=>
  rw[hr]at k24;by_cases h4:at6 ns 4<=65536
  ·have c4:iGt ((at6 ns 4:Nat):Int) 65536=false:=Ft (by omega)
   by_cases h5:at6 ns 5<=4294967295
   ·have c5:iGt ((at6 ns 5:Nat):Int) 4294967295=false:=Ft (by omega)
    have M3:=M.ext WB xB3;obtain⟨w,ct,Vw⟩:=Px M3 hq;obtain⟨rb,kb,hrb⟩:=XC (n:=n) Vw (by rw[yk];omega);have kb:call AC (n+3) 110 [w,.func (.func 135) #[] #[]] g3=.ok (.bool rb) g3:=kb;cases rb with
    |true=>
     obtain⟨y,hy1,hy2⟩:=hrb.1 rfl;refine nok (fun hh=>hy2 (hh.2 y hy1)) ?_;unfold paE;simp only[sT,By,BY,reduceIte,gD,DO,s10,i0,i1,i2,i3,i4,i5,AN,AP,l0,l1,l2,l3,l4,l5,mn,Cd,v0,cv,bd,f1,AX,st,Av,Am,ld,cA0,k24,BZ,BX,yi,AK,AJ,c4,c5,s8,s11,ct,kb,Dn,s4,w1];exact⟨_,rfl,by simp[AG,s4]⟩
    |false=>
     have hz:∀ x∈l.drop q,x=0:=fun y hy=>by
      rcases Nat.eq_zero_or_pos y with h0|h0
      ·exact h0
      ·have:=hrb.2 ⟨y,hy,by omega⟩;cases this
     have hok:PC ns:=⟨hr,h4,h5⟩;have hmin:min (at6 ns 0) 9=at6 ns 0:=Nat.min_eq_left (yP (jB.1 hok).1 (by decide));left;refine⟨hok,hz,?_⟩;have xm:=x3.marked;have AIw:g3.marked.Row r10 0 (ns.map nv):=AHD.same rfl;have m4:=Qn AIw h6 (k:=4) (by omega);have m5:=Qn AIw h6 (k:=5) (by omega);have AJo:g3.marked.Row g.next 0 (A4 (at6 ns 1) (at6 ns 2) (at6 ns 3) (min (at6 ns 0) 9) AEF):=(AIv.ext x2.wf y3).same rfl;have mld:=(Bh AJo).2.2.2.2.2;have v5:Dr .u32 (.int .u64 ((at6 ns 5:Nat):Int)) g3.marked=.ok (.int .u32 ((at6 ns 5:Nat):Int)) g3.marked:=by rw[C5,R0 h5]
     have ck:∀ (k:C) (F:AEA) (e:Env),J 4 e=pt r4->J 87 e=.pointer (some ⟨r10,4,none⟩)->J 90 e=.pointer (some ⟨r10,5,none⟩)->Ci (J 4) [J 87,J 90] k F e g3.marked=k F e g3.marked:=fun k F e e1 e2 e3=>Yo e1 e2 e3 AHC AHC
     have AEK:256<=r4:=by have:=W0.big;omega
     have R4m:g3.marked.Row r4 0 (A4 0 0 0 0 AEF):=(R4.ext WB xB3).same rfl;have ta:∀ (F:AEA) (e:Env),J 4 e=pt r4->J 86 e=Bk (at6 ns 1) (at6 ns 2) (at6 ns 3) (min (at6 ns 0) 9) AEF->Ja (J 4) (Ah 5 (J 4) (J 86)) F e g3.marked=.ok AED (g3.marked.back (g3.marked.quiet.wr r4 0 (A4 (at6 ns 1) (at6 ns 2) (at6 ns 3) (min (at6 ns 0) 9) AEF))):=fun F e e1 e2=>iS xm.wf e1 e2 R4m rfl AEK rfl
     have xhm:=xh3.marked;obtain⟨_,z2,z3,z4,_⟩:=LN W0 xhm.quiet hr4 (R4m.same (h':=g3.marked.quiet) rfl) rfl (a:=at6 ns 1) (b:=at6 ns 2) (c:=at6 ns 3) (s:=min (at6 ns 0) 9) (u:=AEF) rfl;have xf:h.Ext (g3.marked.back (g3.marked.quiet.wr r4 0 (A4 (at6 ns 1) (at6 ns 2) (at6 ns 3) (min (at6 ns 0) 9) AEF))):=Hp.Ext.AFF xhm z3;have Rf:(g3.marked.back (g3.marked.quiet.wr r4 0 (A4 (at6 ns 1) (at6 ns 2) (at6 ns 3) (min (at6 ns 0) 9) AEF))).Row r4 0 (A4 (at6 ns 1) (at6 ns 2) (at6 ns 3) (min (at6 ns 0) 9) AEF):=z4.same rfl;generalize g3.marked.back (g3.marked.quiet.wr r4 0 (A4 (at6 ns 1) (at6 ns 2) (at6 ns 3) (min (at6 ns 0) 9) AEF))=g4 at ta xf Rf;have ldf:=(Bh Rf).2.2.2.2.2;rw[hmin]at ldf;have hrun:∃ e2,paE (call AC (n+3)) e g=.ret e2 g4/\J 4 e2=pt r4/\J 5 e2=AI AT (at6 ns 4:Nat)/\J 6 e2=.int .u32 (at6 ns 5:Nat)/\J 7 e2=.bool true:=by
      unfold paE;simp only[sT,By,BY,reduceIte,gD,DO,s10,i0,i1,i2,i3,i4,i5,AN,AP,l0,l1,l2,l3,l4,l5,mn,Cd,v0,cv,bd,f1,AX,st,Av,Am,ld,cA0,k24,BZ,BX,yi,AK,AJ,c4,c5,s8,s11,ct,kb,A0,mld,m4,m5,v5,s4,ck,ta];exact⟨_,rfl,by simp[AG,s4]⟩
     obtain⟨e2,q1,q2,q3,q4,q5⟩:=hrun;exact⟨e2,g4,q1,xf,q2,q3,q4,q5,ldf⟩
   ·have c5:iGt ((at6 ns 5:Nat):Int) 4294967295=true:=HB (by omega)
    refine nok (fun hh=>h5 hh.1.2.2) ?_;unfold paE;simp only[sT,By,BY,reduceIte,gD,DO,s10,i0,i1,i2,i3,i4,i5,AN,AP,l0,l1,l2,l3,l4,l5,mn,Cd,v0,cv,bd,f1,AX,st,Av,Am,ld,cA0,k24,BZ,BX,yi,AK,AJ,c4,c5,Dn,s4,w1];exact⟨_,rfl,by simp[AG,s4]⟩
  ·have c4:iGt ((at6 ns 4:Nat):Int) 65536=true:=HB (by omega)
   refine nok (fun hh=>h4 hh.1.2.1) ?_;unfold paE;simp only[sT,By,BY,reduceIte,gD,DO,s10,i0,i1,i2,i3,i4,i5,AN,AP,l0,l1,l2,l3,l4,mn,Cd,v0,cv,bd,f1,AX,st,Av,Am,ld,cA0,k24,BZ,BX,yi,AK,AJ,c4,Dn,s4,w1];exact⟨_,rfl,by simp[AG,s4]⟩
theorem au{n:Nat}{h:Hp}(W:h.Wf){tb:Nat}{T:List Nat}(R:h.Row tb 0 (T.map wv))(hT:AE4 T){u:IN}{l:List Nat}(V:h.AEX u (l.map bv))(hC:YL u)(hb:∀ x∈l,x<256)(hl:l.length<=900000):
  ∃ h',h.Ext h'/\((∃ ns,LC T l ns/\call AC (n+4) 112 [pt tb,u] h=.ok (okT ns) h')\/((¬ ∃ ns,LC T l ns)/\call AC (n+4) 112 [pt tb,u] h=.ok noT h')):=by
 have f1:=fun (F:AEA) (e:Env)=>BQ (F:=F) (e:=e) (n:=5) (t:=DL) W
 have x1:=(Hp.Ext.refl W).push (.cells DL 5 0);have R4:(h.push (.cells DL 5 0)).Row h.next 0 (A4 0 0 0 0 AEF):=Hp.Row.alloc W Ew rfl;have nA:(h.push (.cells DL 5 0)).next=h.next+1:=rfl;generalize h.push (.cells DL 5 0)=hA at f1 x1 R4 nA;obtain⟨hB,yB,U⟩:=YJ (n:=n) x1.wf (R.ext W x1) hT (V.ext W x1) hC hb hl;have xB:=x1.trans yB;have R4B:=R4.ext x1.wf yB;obtain⟨w1,w2,w3,_,_⟩:=LN W xB (IT _) R4B rfl (a:=0) (b:=0) (c:=0) (s:=0) (u:=AEF) rfl;rcases U with ⟨body,v,hu,k1,M⟩|⟨hu,c,hc,k1⟩
 ·have c2:iNe 0 0=false:=CN rfl
  have Vl:=M.vals.bl hB;by_cases h60:body.length=60
  ·have c3:iNe (body.length:Int) 60=false:=CN (by omega)
   have f2:=fun (F:AEA) (e:Env)=>BQ (F:=F) (e:=e) (n:=6) (t:=OO) xB.wf
   have y2:=(Hp.Ext.refl xB.wf).push (.cells OO 6 0);have R10:(hB.push (.cells OO 6 0)).Row hB.next 0 ([0,0,0,0,0,0].map nv):=Hp.Row.alloc xB.wf cX rfl;generalize hB.push (.cells OO 6 0)=hC' at f2 y2 R10;have pre:∃ e1,Ks (call AC (n+3)) (AS e0 0 [pt tb,u]) h=paS (call AC (n+3)) e1 hC'/\J 4 e1=pt h.next/\J 8 e1=v/\J 10 e1=pt hB.next/\J 11 e1=AI AT ((0:Nat):Int)/\J 29 e1=AI AT ((0:Nat):Int):=by
    unfold Ks;simp only[iN,IS,sT,By,BY,reduceIte,gD,f1,cA0,k1,A8,BB,BH,AK,AJ,c2,Af,Vl,c3,f2];exact⟨_,rfl,by simp[AG]⟩
   obtain⟨e1,p1,p2,p3,p4,p5,p6⟩:=pre;obtain⟨hsl,hbt⟩:=Ju hu;have hbb:∀ x∈body,x<256:=fun x hx=>hb x (by rw[hbt]at hx;exact zV hx)
   rcases jL (n:=n+2) W xB y2 (IT h.next) (IT _) R4B M.vals hbb (by omega) R10 p2 p3 p4 p5 p6 with ⟨e2,g,ns,q,q1,x2,AHD,hrd,t4,t8,t10,t11⟩|⟨e2,g,q1,hrd,D⟩
   ·obtain⟨g1,g2,g3,g4,g5⟩:=Lc 6 body 0 ns q hbb (yK _) hrd
    have hn2:hB.next≠h.next:=by have:=yB.next;omega
    rcases wN (n:=n) W xB x2 (IT _) hn2 R4B M (by omega) g4 AHD g1 g5 t4 t8 t10 t11 with ⟨ho,hz,e3,g',r1,D⟩|⟨hno,e3,g',r1,D⟩
    ·refine⟨g',D.1,.inl ⟨ns,⟨body,q,hu,h60,hrd,ho,hz⟩,?_⟩⟩
     rw[I7 rfl,JD,p1,TA];simp only[BJ,Ay,q1,A7,BA,r1];exact rS D
    ·refine⟨g',D.1,.inr ⟨?_,?_⟩⟩
     ·rintro⟨ms,body',q',j1,j2,j3,j4,j5⟩
      rw[hu]at j1;cases j1;rw[hrd]at j3;cases j3;exact hno ⟨j4,j5⟩
     ·rw[I7 rfl,JD,p1,TA]
      simp only[BJ,Ay,q1,A7,BA,r1];exact Lf D
   ·refine⟨g,D.1,.inr ⟨?_,?_⟩⟩
    ·rintro⟨ms,body',q',j1,j2,j3,j4,j5⟩
     rw[hu]at j1;cases j1;rw[hrd]at j3;cases j3
    ·rw[I7 rfl,JD,p1,TA]
     simp only[BJ,Ay,q1,CM,C8];exact Lf D
  ·have c3:iNe (body.length:Int) 60=true:=Fv (by omega)
   have hrun:∃ e2,Ks (call AC (n+3)) (AS e0 0 [pt tb,u]) h=.ret e2 (hB.wr h.next 0 (A4 0 0 0 0 AEF))/\J 4 e2=pt h.next/\J 5 e2=AI AT 0/\J 6 e2=.int .u32 0/\J 7 e2=.bool false:=by
    unfold Ks;simp only[iN,IS,sT,By,BY,reduceIte,gD,f1,cA0,k1,A8,BB,BH,AK,AJ,c2,Af,Vl,c3,Dn,AX,w1];exact⟨_,rfl,by simp[AG]⟩
   obtain⟨e2,q1,q2,q3,q4,q5⟩:=hrun;refine⟨_,w3,.inr ⟨?_,?_⟩⟩
   ·rintro⟨ms,body',q',j1,j2,_⟩
    rw[hu]at j1;cases j1;exact h60 j2
   ·rw[I7 rfl,JD,q1]
    exact Lf (h:=h) ⟨w3,q2,q3,q4,q5,w2⟩
 ·have c2:iNe c 0=true:=Fv hc
  have hrun:∃ e2,Ks (call AC (n+3)) (AS e0 0 [pt tb,u]) h=.ret e2 (hB.wr h.next 0 (A4 0 0 0 0 AEF))/\J 4 e2=pt h.next/\J 5 e2=AI AT 0/\J 6 e2=.int .u32 0/\J 7 e2=.bool false:=by
   unfold Ks;simp only[iN,IS,sT,By,BY,reduceIte,gD,f1,cA0,k1,A8,BB,BH,AK,AJ,c2,Dn,AX,w1];exact⟨_,rfl,by simp[AG]⟩
  obtain⟨e2,q1,q2,q3,q4,q5⟩:=hrun;refine⟨_,w3,.inr ⟨?_,?_⟩⟩
  ·rintro⟨ms,body',q',j1,_⟩
   rw[hu]at j1;cases j1
  ·rw[I7 rfl,JD,q1]
   exact Lf (h:=h) ⟨w3,q2,q3,q4,q5,w2⟩
end
noncomputable section
open Go
set_option maxRecDepth 100000
structure Fx (S:Nat->Prop)(h h':Hp):Prop where
 next:h.next<=h'.next
 get:∀ i,i<h.next->¬ S i->h'.bl.get i=h.bl.get i
 wf:h'.Wf
 low:∀ L,L<=h.low->L<=h.next->(∀ b,S b->L<=b)->L<=h'.low
theorem Pn{h g:Hp}:(h.back g).low=min h.low g.low:=BW _ _
section
variable {S T:Nat->Prop}{h h' h1 h2:Hp}
theorem Fx.refl(W:h.Wf):Fx S h h:=⟨IT _,fun _ _ _=>rfl,W,fun _ h1 _ _=>h1⟩
theorem Fx.of(x:h.Ext h'):Fx S h h':=⟨x.next,fun i hi _=>x.get i hi,x.wf,fun L h1 h2 _=>by have:=x.low;omega⟩
theorem Fx.trans(a:Fx S h h1)(b:Fx S h1 h2):Fx S h h2:=⟨yP a.next b.next,fun i hi hs=>by rw[b.get i (Nat.lt_of_lt_of_le hi a.next) hs,a.get i hi hs],b.wf,fun L h1 h2 h3=>b.low L (a.low L h1 h2 h3) (yP h2 a.next) h3⟩
theorem Fx.mono(a:Fx S h h')(hs:∀ i,S i->T i):Fx T h h':=⟨a.next,fun i hi ht=>a.get i hi fun s=>ht (hs i s),a.wf,fun L h1 h2 h3=>a.low L h1 h2 fun b hb=>h3 b (hs b hb)⟩
theorem j8(W:h.Wf)(hb:h'.bl=h.bl)(hn:h'.next=h.next):h'.Wf:=⟨by rw[hn];exact W.big,by rw[hn,hb];exact W.has,by rw[hn,hb];exact W.fresh⟩
theorem Fx.same(a:Fx S h h1)(hb:h2.bl=h1.bl)(hn:h2.next=h1.next)(hl:min h.low h1.low<=h2.low:=by first|exact Nat.le_of_eq Pn.symm|exact Nat.min_le_right _ _):Fx S h h2:=⟨by rw[hn];exact a.next,fun i hi hs=>by rw[hb];exact a.get i hi hs,j8 a.wf hb hn,fun L q1 q2 q3=>by have:=a.low L q1 q2 q3;omega⟩
theorem Fx.from(a:Fx S h1 h')(hb:h1.bl=h.bl)(hn:h1.next=h.next)(hl:min h.low h.next<=h1.low:=by first|exact Nat.min_le_left _ _|exact Nat.min_le_right _ _):Fx S h h':=⟨by rw[<- hn];exact a.next,fun i hi hs=>by rw[<- hb];exact a.get i (by rw[hn];exact hi) hs,a.wf,fun L q1 q2 q3=>a.low L (by omega) (by omega) q3⟩
theorem Fx.back(x:Fx S h.quiet h'):Fx S h (h.back h'):=⟨x.next,x.get,⟨x.wf.big,x.wf.has,x.wf.fresh⟩,fun L h1 h2 h3=>by
 have h2':L<=h.quiet.next:=h2;have:=x.low L h2 h2' h3;rw[Pn];omega⟩
theorem Fx.row(x:Fx S h h')(W:h.Wf){b el:Nat}{l:List IN}(r:h.Row b el l)(hb:¬ S b):h'.Row b el l:=by
 have:=r.lt W;obtain⟨c,hc,hl⟩:=r;exact⟨c,(x.get b this hb).trans hc,hl⟩
theorem Fx.put(W:h.Wf){b:Nat}(hb:b<h.next)(hs:S b)(o:Blk):Fx S h (h.put b o):=⟨IT _,fun i hi hn=>by
 rw[W.AEn hb];exact if_neg fun e=>hn (by rw[e];exact hs),W.put hb o,fun L h1 _ h3=>by
 have:=h3 b hs;have e:(h.put b o).low=min h.low b:=BW _ _;omega⟩
theorem Fx.wr(W:h.Wf){b el off:Nat}{l vs:List IN}(r:h.Row b el l)(ho:off+vs.length<=l.length)(hs:S b):Fx S h (h.wr b off vs):=by
 obtain⟨c,_,e,_⟩:=r.AFM ho;rw[e];exact Fx.put W (r.lt W) hs _
theorem sd{b el off bc:Nat}{l vs:List IN}{es:List Ent}{k:Nat}(W:h.Wf)(r:h.Row b el l)(ho:off+vs.length<=l.length)(m:h.bl.get bc=.map es k):(h.wr b off vs).bl.get bc=.map es k:=by
 obtain⟨c,_,e,_⟩:=r.AFM ho;rw[e,W.AEn (r.lt W),if_neg]
 ·exact m
 ·rintro rfl
  obtain⟨c,hc,_⟩:=r;rw[m]at hc;cases hc
end
def Hp.VS(h:Hp)(S:Nat->Prop)(v:IN)(xs:List IN):Prop:=(v=AEF/\xs=[])\/∃ b off c el L,v=.slice (some ⟨b,off,none⟩) xs.length c/\xs.length<=c/\h.Row b el L/\off+xs.length<=L.length/\(L.drop off).take xs.length=xs/\S b
section
variable {h h':Hp}{S S':Nat->Prop}{v:IN}{xs:List IN}
theorem Hp.VS.vals(o:h.VS S v xs):h.AEX v xs:=by
 rcases o with h1|⟨b,off,c,el,L,h1,h2,h3,h4,h5,_⟩
 ·exact .inl h1
 ·exact .inr ⟨b,off,c,el,L,h1,h3,h4,h5⟩
theorem Hp.VS.keep(o:h.VS S v xs)(hk:∀ b el L,S b->h.Row b el L->h'.Row b el L):h'.VS S v xs:=by
 rcases o with h1|⟨b,off,c,el,L,h1,h2,h3,h4,h5,h6⟩
 ·exact .inl h1
 ·exact .inr ⟨b,off,c,el,L,h1,h2,hk _ _ _ h6 h3,h4,h5,h6⟩
theorem Hp.VS.same(o:h.VS S v xs)(hb:h'.bl=h.bl):h'.VS S v xs:=o.keep fun _ _ _ _ r=>r.same hb
theorem Hp.VS.mono(o:h.VS S v xs)(hs:∀ b,S b->S' b):h.VS S' v xs:=by
 rcases o with h1|⟨b,off,c,el,L,h1,h2,h3,h4,h5,h6⟩
 ·exact .inl h1
 ·exact .inr ⟨b,off,c,el,L,h1,h2,h3,h4,h5,hs _ h6⟩
theorem Hp.VS.one(o:h.VS S v xs):cellsOf v=[v]/\oneCell v=true/\known v=true:=by
 rcases o with ⟨rfl,_⟩|⟨b,off,c,el,L,rfl,_⟩<;>exact⟨rfl,rfl,rfl⟩
theorem Hp.VS.fx(o:h.VS S v xs)(W:h.Wf){T:Nat->Prop}(x:Fx T h h')(hs:∀ b,S b->¬ T b):h'.VS S v xs:=o.keep fun b _ _ hb r=>x.row W r (hs b hb)
theorem PE{l:List IN}(h:∀ x∈l,oneCell x=true):Ba l=true:=by
 induction l with
 |nil=>rfl
 |cons a l ih=>
  show(bif oneCell a then Ba l else false)=true;rw[h a xa,ih fun x hx=>h x (xZ _ hx)];rfl
end
def Hp.BS(h:Hp)(S:Nat->Prop)(v:IN)(xs:List IN):Prop:=(v=AEF/\xs=[])\/∃ b off c el L,v=.slice (some ⟨b,off,none⟩) xs.length c/\xs.length<=c/\h.Row b el L/\off+xs.length<=L.length/\(L.drop off).take xs.length=xs/\S b/\(el=0\/el=6)
section
variable {h h':Hp}{S S':Nat->Prop}{v:IN}{xs:List IN}
theorem Hp.BS.vs(o:h.BS S v xs):h.VS S v xs:=by
 rcases o with h1|⟨b,off,c,el,L,h1,h2,h3,h4,h5,h6,_⟩
 ·exact .inl h1
 ·exact .inr ⟨b,off,c,el,L,h1,h2,h3,h4,h5,h6⟩
theorem Hp.BS.keep(o:h.BS S v xs)(hk:∀ b el L,S b->(el=0\/el=6)->h.Row b el L->h'.Row b el L):h'.BS S v xs:=by
 rcases o with h1|⟨b,off,c,el,L,h1,h2,h3,h4,h5,h6,h7⟩
 ·exact .inl h1
 ·exact .inr ⟨b,off,c,el,L,h1,h2,hk _ _ _ h6 h7 h3,h4,h5,h6,h7⟩
theorem Hp.BS.ext(o:h.BS S v xs)(W:h.Wf)(x:h.Ext h'):h'.BS S v xs:=o.keep fun _ _ _ _ _ r=>r.ext W x
theorem Hp.BS.same(o:h.BS S v xs)(hb:h'.bl=h.bl):h'.BS S v xs:=o.keep fun _ _ _ _ _ r=>r.same hb
theorem Hp.BS.mono(o:h.BS S v xs)(hs:∀ b,S b->S' b):h.BS S' v xs:=by
 rcases o with h1|⟨b,off,c,el,L,h1,h2,h3,h4,h5,h6,h7⟩
 ·exact .inl h1
 ·exact .inr ⟨b,off,c,el,L,h1,h2,h3,h4,h5,hs _ h6,h7⟩
end
def Di(l:List Nat):IN:=.agg ⟨l.map bv⟩
def AES:Nat->List (Nat×List Nat)->List Ent
 |_,[]=>[]
 |i,x::r=>⟨AI AT (x.1:Int),Di x.2,i⟩::AES (i+1) r
def sec(M:List Nat)(i:Nat):List Nat:=(M.drop (64*i)).take 64
theorem Jl{M:List Nat}{n i:Nat}(hM:M.length=64*n)(hi:i<n):(sec M i).length=64:=by
 unfold sec;rw[yM,yk];omega
theorem sE{M:List Nat}(hb:∀ x∈M,x<256)(i:Nat):∀ x∈sec M i,x<256:=fun x hx=>hb x (AAm (zV hx))
def dkL(bm bc n:Nat)(arm:Int)(dn:Bool):List IN:=[.slice (some ⟨bm,0,none⟩) n n,.map (some bc),AI AT arm,.bool dn]
structure Dk (h:Hp)(bd bm bc n:Nat)(M:List Nat)(c0:Nat)(cs:List (Nat×List Nat))(arm:Int)(dn:Bool):Prop where
 disk:h.Row bd 0 (dkL bm bc n arm dn)
 med:h.Row bm 0 (M.map bv)
 len:M.length=64*n
 byt:∀ x∈M,x<256
 map:h.bl.get bc=.map (AES c0 cs) (c0+cs.length)
 big:256<=bd/\256<=bm/\256<=bc
 n1:1<=n/\n<=65536
section
variable {F:AEA}{e:Env}{h h':Hp}{S:Nat->Prop}{bd bm bc n c0:Nat}{M:List Nat}{cs:List (Nat×List Nat)}{arm:Int}{dn:Bool}
theorem hJ{h:Hp}{b b' el el':Nat}{L L':List IN}(r:h.Row b el L)(r':h.Row b' el' L')(he:L.length≠L'.length):b≠b':=fun hb=>by
 subst hb;obtain⟨_,e1,_⟩:=r;obtain⟨_,e2,_⟩:=r';rw[e1]at e2;injection e2 with _ e3 _
 exact he e3
theorem Dk.bdm(d:Dk h bd bm bc n M c0 cs arm dn):bd≠bm:=hJ d.disk d.med (by
 rw[OF,d.len];show 4≠_;have:=d.n1;omega)
theorem Jj{h:Hp}{b bc el k:Nat}{L:List IN}{es:List Ent}(r:h.Row b el L)(m:h.bl.get bc=.map es k):b≠bc:=fun hb=>by
 subst hb;obtain⟨_,e1,_⟩:=r;rw[e1]at m;cases m
theorem Dk.bdc(d:Dk h bd bm bc n M c0 cs arm dn):bd≠bc:=Jj d.disk d.map
theorem Dk.bmc(d:Dk h bd bm bc n M c0 cs arm dn):bm≠bc:=Jj d.med d.map
theorem Dk.lt(d:Dk h bd bm bc n M c0 cs arm dn)(W:h.Wf):bd<h.next/\bm<h.next/\bc<h.next:=⟨d.disk.lt W,d.med.lt W,by
 rcases yG bc h.next with h1|h1
 ·exact h1
 ·have:=W.fresh bc h1
  rw[d.map]at this;cases this⟩
theorem Dk.same(d:Dk h bd bm bc n M c0 cs arm dn)(hb:h'.bl=h.bl):Dk h' bd bm bc n M c0 cs arm dn:=⟨d.disk.same hb,d.med.same hb,d.len,d.byt,by rw[hb];exact d.map,d.big,d.n1⟩
theorem Dk.fr(d:Dk h bd bm bc n M c0 cs arm dn)(W:h.Wf)(x:Fx S h h')(h1:¬ S bd)(h2:¬ S bm)(h3:¬ S bc):Dk h' bd bm bc n M c0 cs arm dn:=⟨x.row W d.disk h1,x.row W d.med h2,d.len,d.byt,by rw[x.get bc (d.lt W).2.2 h3];exact d.map,d.big,d.n1⟩
theorem Dk.ext(d:Dk h bd bm bc n M c0 cs arm dn)(W:h.Wf)(x:h.Ext h'):Dk h' bd bm bc n M c0 cs arm dn:=d.fr (S:=fun _=>False) W (.of x) (fun h=>h) (fun h=>h) (fun h=>h)
theorem DF(R:h.Row bd 0 (dkL bm bc n arm dn)):AEC ⟨bd,0,none⟩ h=.ok (.slice (some ⟨bm,0,none⟩) n n) h/\AEC ⟨bd,1,none⟩ h=.ok (.map (some bc)) h/\AEC ⟨bd,2,none⟩ h=.ok (AI AT arm) h/\AEC ⟨bd,3,none⟩ h=.ok (.bool dn) h:=
 ⟨R.AEC (off:=0) (by show 0<4;omega),R.AEC (off:=1) (by show 1<4;omega),R.AEC (off:=2) (by show 2<4;omega),R.AEC (off:=3) (by show 3<4;omega)⟩
theorem F2{k:TK}{t:Nat}{a:Addr}{g:O}(hk:k=.ptr t)(hg:g e=.pointer (some a)):oEq k false g (kV (.pointer none)) F e h=.ok (.bool false) h:=by
 subst hk;show(match eqV (.ptr t) (g e) (.pointer none)with|some r=>okB (false != r) h|none=>.no)=_;rw[hg];exact FC
theorem iB{k:TK}{a b r:Nat}{g:O}(hk:k=.map a b)(hg:g e=.map (some r)):oEq k false g (kV (.map none)) F e h=.ok (.bool false) h:=by
 subst hk;show(match eqV (.map a b) (g e) (.map none)with|some r=>okB (false != r) h|none=>.no)=_;rw[hg];exact FC
theorem ll:YG.k=.ptr 91:=by kernel_rfl
theorem wb:jz.k=.map 3 95:=by kernel_rfl
theorem La{m:Nat}(d:Dk h bd bm bc n M c0 cs arm dn):call AC (m+1) 45 [pt bd] h=.ok (.bool false) h:=by
 obtain⟨_,l1,_,_⟩:=DF d.disk;have e1:∀ e:Env,J 0 e=pt bd->oEq YG.k false (J 0) (kV (.pointer none)) (call AC m) e h=.ok (.bool false) h:=fun e he=>F2 ll he
 have e2:∀ e:Env,J 9 e=.map (some bc)->oEq jz.k false (J 9) (kV (.map none)) (call AC m) e h=.ok (.bool false) h:=fun e he=>iB wb he
 rw[oY rfl];unfold d45;simp only[iN,IS,sT,By,BY,reduceIte,gD,e1,Ax,Al,AH,AO,AN,AP,l1,e2,lV0]
theorem NA{m:Nat}(d:Dk h bd bm bc n M c0 cs arm false){i:Nat}(hi:i<n):call AC (m+2) 133 [pt bd,AI AT (i:Int)] h=.ok (AI AT 0) h:=by
 obtain⟨l0,_,_,l3⟩:=DF d.disk;have k1:=La (m:=m) d;have c1:iLt (i:Int) 0=false:=Fu (by omega);have c2:iGe (i:Int) (n:Int)=false:=EY (by omega);rw[eP rfl];unfold fk;simp only[iN,IS,sT,By,BY,reduceIte,gD,cA0,k1,Ax,Al,AH,AO,AN,AP,l0,l3,Af,Dy,AK,AJ,c1,c2,lV0]
theorem jl{m:Nat}(d:Dk h bd bm bc n M c0 cs arm dn):call AC (m+2) 71 [pt bd] h=.ok (AI AT (n:Int)) h:=by
 obtain⟨l0,_,_,l3⟩:=DF d.disk;have k1:=La (m:=m) d;rw[pB rfl];unfold d71;simp only[iN,IS,sT,By,BY,reduceIte,gD,cA0,k1,Ax,Al,AH,AO,AN,AP,l0,l3,Af,Dy,lV0]
theorem Oa{m:Nat}(d:Dk h bd bm bc n M c0 cs arm dn):call AC (m+2) 19 [pt bd] h=.ok (.bool dn) h:=by
 obtain⟨l0,_,_,l3⟩:=DF d.disk;have k1:=La (m:=m) d;rw[oJ rfl];unfold d19;simp only[iN,IS,sT,By,BY,reduceIte,gD,cA0,k1,BZ,BX,yh,Ax,Al,AH,AO,AN,AP,l0,l3,lV0]
theorem Z4{x y:O}{k j:IntKind}{a b:Int}(hx:x e=.int k a)(hy:y e=.int j b):S7 x y F e h=.ok (.int k (max a b)) h:=by
 show Hf false (x e) (y e) h=_;rw[hx,hy];show(bif iLt a b then R.ok (.int k b) h else .ok (.int k a) h)=_;rw[DC];by_cases hab:a<b
 ·rw[decide_eq_true hab,Int.max_eq_right (by omega)];rfl
 ·rw[decide_eq_false hab,Int.max_eq_left (by omega)];rfl
def GB(a:Int):Int:=max (a - 1) (-1)
def CA(a:Int)(k:Nat):Prop:=a<=1099511627776/\-1<=a/\(a<0\/(k:Int)<=a)
theorem CA.one{a:Int}{k:Nat}(h:CA a (k+1)):CA (GB a) k/\a≠0:=by
 unfold CA GB at *;omega
theorem CA.le{a:Int}{k j:Nat}(h:CA a k)(hj:j<=k):CA a j:=by
 unfold CA at *;omega
theorem VR{m:Nat}(W:h.Wf)(d:Dk h bd bm bc n M c0 cs arm false){k:Nat}(ha:CA arm (k+1)):
  ∃ h',call AC (m+1) 147 [pt bd] h=.ok (AI AT 0) h'/\Fx (fun i=>i=bd) h h'/\Dk h' bd bm bc n M c0 cs (GB arm) false:=by
 obtain⟨_,_,l2,_⟩:=DF d.disk;obtain⟨_,hne⟩:=ha.one;have c1:iEq arm 0=false:=B6 hne;have hs:=d.disk.AEH (n:=1) (off:=2) W d.big.1 (v:=AI AT (GB arm)) rfl (by show 2+1<=4;omega) rfl;have fr:=Fx.wr (S:=fun i=>i=bd) W d.disk (off:=2) (vs:=[AI AT (GB arm)]) (by show 2+1<=4;omega) rfl;have r1:=d.disk.AEM W (off:=2) (vs:=[AI AT (GB arm)]) (by show 2+1<=4;omega);have hw:zk.wrap (yZ arm 1)=arm - 1:=by
  obtain⟨h1,h2,h3⟩:=ha;show zk.wrap (arm - 1)=_;rcases ADl arm 1 with hlt|hge
  ·have:arm= -1\/arm=0:=by omega
   rcases this with rfl|rfl<;>rfl
  ·exact cM (by omega) (by omega)
 have mx:∀ e:Env,J 19 e=AI AT (arm - 1)->S7 (J 19) (kV (AI AT (-1))) (call AC m) e h=.ok (AI AT (GB arm)) h:=fun e he=>Z4 he rfl
 have hs:AEH 1 (.pointer (some ⟨bd,2,none⟩)) (AI AT (GB arm)) h=.ok AED (h.wr bd 2 [AI AT (GB arm)]):=hs;refine⟨_,?_,fr,⟨r1,fr.row W d.med (fun h=>d.bdm h.symm),d.len,d.byt,sd W d.disk (by show 2+1<=4;omega) d.map,d.big,d.n1⟩⟩;rw[eT rfl];unfold fy;simp only[iN,IS,sT,By,BY,reduceIte,Ax,Al,AH,AO,AN,AP,If,l2,AK,AJ,c1,B4,Cm,hw,mx,AX,hs,lV0]
end
end
noncomputable section
open Go
set_option maxRecDepth 100000
section
variable {F:AEA}{e:Env}{h h':Hp}{S:Nat->Prop}{bd bm bc n c0:Nat}{M:List Nat}{cs:List (Nat×List Nat)}{arm:Int}{dn:Bool}
theorem qV{n:Nat}(hn:n<=9223372036854775807):GC ⟨false,[.i .i64]⟩ (AI AT (n:Int))=true:=by
 show(match (match Dh .i64 .i64 with|true=>xd n (BE .i64)|false=>false)with|true=>true|false=>false)=true;have h1:Dh .i64 .i64=true:=rfl;have h2:xd n (BE .i64)=true:=Au.2 hn;simp only[h1,h2]
theorem xE{n m:Nat}(hm:m<=9223372036854775807):GP ⟨false,[.i .i64]⟩ (AI AT (n:Int)) (AI AT (m:Int))=some (decide (n=m)):=by
 unfold GP;rw[qV hm];show(match (match Dh .i64 .i64 with|true=>some (iEq (n:Int) (m:Int))|false=>none)with|some true=>some true|some false=>some false|none=>none)=_;have h1:Dh .i64 .i64=true:=rfl;simp only[h1,DY];by_cases h:n=m
 ·subst h;simp
 ·have:((n:Int) == (m:Int))=false:=by rw[beq_eq_false_iff_ne];omega
  rw[this,decide_eq_false h]
theorem RQ{k:Nat}{v:IN}:∀ (cs:List (Nat×List Nat)) (i:Nat),(∀ x∈cs,x.1≠k/\x.1<=65536)->NP ⟨false,[.i .i64]⟩ (AI AT (k:Int)) v (AES i cs)=some none
 |[],_,_=>rfl
 |x::l,i,hx=>by
  obtain⟨h1,h2⟩:=hx x xa;show(match GP ⟨false,[.i .i64]⟩ (AI AT (k:Int)) (AI AT (x.1:Int))with|some true=>some (some ((⟨AI AT (k:Int),v,i⟩:Ent)::AES (i+1) l))|some false=>(match NP ⟨false,[.i .i64]⟩ (AI AT (k:Int)) v (AES (i+1) l)with|some (some l')=>some (some ((⟨AI AT (x.1:Int),Di x.2,i⟩:Ent)::l'))|some none=>some none|none=>none)|none=>none)=some none;rw[xE (by omega),decide_eq_false (fun h=>h1 h.symm)];simp only;rw[RQ l (i+1) fun y hy=>hx y (xZ _ hy)]
theorem Tj{k:Nat}{l:List Nat}:∀ (cs:List (Nat×List Nat)) (i:Nat),WJ ⟨AI AT (k:Int),Di l,i+cs.length⟩ (AES i cs)=AES i (cs++[(k,l)])
 |[],i=>rfl
 |x::cs,i=>by
  show(⟨AI AT (x.1:Int),Di x.2,i⟩:Ent)::WJ ⟨AI AT (k:Int),Di l,i+(cs.length+1)⟩ (AES (i+1) cs)=_::AES (i+1) (cs++[(k,l)]);rw[<- Tj cs (i+1),Nat.add_assoc,Nat.add_comm 1]
theorem WE:Kj.zero=(xn 64 0).map bv:=by
 have:Kj.zero=Bc ty5.zero 64:=by kernel_rfl
 rw[this,Lg]
theorem WG:Bt .mt 0 ((xn 64 0).map bv)=some Ix:=by kernel_rfl
theorem iD(R:h.Row bm 0 (M.map bv))(hM:M.length=64*n){i:Nat}(hi:i<n):loadN 64 ⟨bm,0+i*64,none⟩ h=.ok (Di (sec M i)) h:=by
 rw[R.loadN (by rw[OF];omega),<- ADS,<- List.map_take,If,Nat.mul_comm i 64];rfl
theorem Z2(d:Dk h bd bm bc n M c0 [] arm dn){z:IN}{x y:O}{i:Nat}(hx:x e=.map (some bc))(hy:y e=AI AT (i:Int))(hi:i<n):Gk ⟨false,[.i .i64]⟩ z true x y F e h=.ok (.tuple ⟨[z,.bool false]⟩) h:=by
 have:=d.n1;show H7 ⟨false,[.i .i64]⟩ z (x e) (y e) true h=_;rw[hx,hy];have he:Bl h bc=.ok [] (c0+0):=by unfold Bl;rw[d.map];rfl
 unfold H7;rw[qV (by omega)];simp only[he,MD];unfold Et;simp only[BR]
theorem XH{g:O}{r:Nat}(hg:g e=pt r):F1 64 1 g none none none F e h=.ok (.slice (some ⟨r,0,none⟩) 64 64) h:=by
 show(match Dt (g e)with|.ok a=>Dc e 64 64 none none none fun l hh m=>Br (some a) 1 l hh m h|.no=>.no)=_;rw[hg];rfl
theorem Va{m:Nat}(W:h.Wf)(d:Dk h bd bm bc n M c0 [] arm false){i:Nat}(hi:i<n):
  ∃ h' v,call AC (m+3) 109 [pt bd,AI AT (i:Int)] h=.ok (.tuple ⟨[v,AI AT 0]⟩) h'/\h.Ext h'/\Mk h' h.next v (sec M i)/\h'.next=h.next+1/\h'.mark=h.mark/\h.low=h.low:=by
 have k1:=NA (m:=m) d hi;obtain⟨l0,l1,_,_⟩:=DF d.disk;have c0':iNe 0 0=false:=CN rfl;have lk:∀ e:Env,J 19 e=.map (some bc)->J 1 e=AI AT (i:Int)->Gk ⟨false,[.i .i64]⟩ (.agg ⟨Kj.zero⟩) true (J 19) (J 1) (call AC (m+2)) e h=.ok (.tuple ⟨[.agg ⟨Kj.zero⟩,.bool false]⟩) h:=fun e h1 h2=>Z2 d h1 h2 hi
 have al:=fun (F:AEA) (e:Env)=>BQ (F:=F) (e:=e) W (n:=64) (t:=Ix)
 have R1:=Hp.Row.alloc W WG (by rw[OF,zO]);have x1:h.Ext (h.push (.cells Ix 64 0)):=(Hp.Ext.refl W).push _;have n1:(h.push (.cells Ix 64 0)).next=h.next+1:=rfl;have m1:(h.push (.cells Ix 64 0)).mark=h.mark:=rfl;generalize h.push (.cells Ix 64 0)=h1 at al R1 x1 n1 m1;have hz:((xn 64 0).map bv).length=64:=by rw[OF,zO]
 have big:=W.big;have st:AEH 64 (pt h.next) (.agg ⟨Kj.zero⟩) h1=.ok AED (h1.wr h.next 0 ((xn 64 0).map bv)):=by
  rw[WE];exact R1.AEH (n:=64) (off:=0) x1.wf big (v:=.agg ⟨(xn 64 0).map bv⟩) hz (by show 0+((xn 64 0).map bv).length<=_;omega) (DV _)
 have x2:=R1.AEe x1 (IT _) (off:=0) (vs:=(xn 64 0).map bv) (by omega);have R2:=R1.AEM x1.wf (off:=0) (vs:=(xn 64 0).map bv) (by omega);rw[Em rfl]at R2;have n2:(h1.wr h.next 0 ((xn 64 0).map bv)).next=h.next+1:=(R1.AEo (by omega)).trans n1;have m2:(h1.wr h.next 0 ((xn 64 0).map bv)).mark=h.mark:=by
  obtain⟨_,_,e,_⟩:=R1.AFM (off:=0) (vs:=(xn 64 0).map bv) (by omega);rw[e];exact m1
 generalize h1.wr h.next 0 ((xn 64 0).map bv)=h2 at st x2 R2 n2 m2;have d2:=d.ext W x2;obtain⟨l0,_,_,_⟩:=DF d2.disk;have ix:AE2 64 (.slice (some ⟨bm,0,none⟩) n n) (AI AT (i:Int)) h2=.ok (.pointer (some ⟨bm,0+i * 64,none⟩)) h2:=C6 hi;have ld:=iD d2.med d2.len hi;have hsl:=Jl d2.len hi;have hsm:((sec M i).map bv).length=64:=by rw[OF,hsl]
 have st2:AEH 64 (pt h.next) (Di (sec M i)) h2=.ok AED (h2.wr h.next 0 ((sec M i).map bv)):=R2.AEH (n:=64) (off:=0) x2.wf big (v:=Di (sec M i)) hsm (by show 0+((sec M i).map bv).length<=_;omega) (DV _);have x3:=R2.AEe x2 (IT _) (off:=0) (vs:=(sec M i).map bv) (by omega);have R3:=R2.AEM x2.wf (off:=0) (vs:=(sec M i).map bv) (by omega);rw[Em (by omega)]at R3;have n3:(h2.wr h.next 0 ((sec M i).map bv)).next=h.next+1:=(R2.AEo (by omega)).trans n2;have m3:(h2.wr h.next 0 ((sec M i).map bv)).mark=h.mark:=by
  obtain⟨_,_,e,_⟩:=R2.AFM (off:=0) (vs:=(sec M i).map bv) (by omega);rw[e];exact m2
 generalize h2.wr h.next 0 ((sec M i).map bv)=h3 at st2 x3 R3 n3 m3;have ct:∀ e:Env,J 7 e=pt h.next->F1 64 1 (J 7) none none none (call AC (m+2)) e h3=.ok (.slice (some ⟨h.next,0,none⟩) 64 64) h3:=fun e he=>XH he
 refine⟨h3,.slice (some ⟨h.next,0,none⟩) 64 64,?_,x3,⟨h.next,0,by rw[hsl],.inl rfl,R3,IT _⟩,n3,m3,rfl⟩;obtain⟨_,l1,_,_⟩:=DF d.disk;rw[eA rfl];unfold fF;simp only[iN,IS,sT,By,BY,reduceIte,cA0,k1,AK,AJ,c0',Ax,Al,AH,AO,AN,AP,If,l1,lk,A8,BB,BH,al,AX,st,BZ,BX,yh,l0,A9,ix,Av,Am,ld,st2,ct,BG,DR];simp only[If]at ld;simp only[ld,sT,By,BY,reduceIte,AX,st2,ct,BG,DR]
theorem sX(W:h.Wf)(d:Dk h bd bm bc n M c0 cs arm dn){i:Nat}(hi:i<n)(hc:∀ x∈cs,x.1≠i/\x.1<n){l:List Nat}{g1 g2 g3:O}(h1:g1 e=.map (some bc))(h2:g2 e=AI AT (i:Int))(h3:g3 e=Di l):
  FH ⟨false,[.i .i64]⟩ g1 g2 g3 F e h=.ok AED (h.put bc (.map (AES c0 (cs++[(i,l)])) (xW (c0+cs.length))))/\Fx (fun b=>b=bc) h (h.put bc (.map (AES c0 (cs++[(i,l)])) (xW (c0+cs.length))))/\Dk (h.put bc (.map (AES c0 (cs++[(i,l)])) (xW (c0+cs.length)))) bd bm bc n M c0 (cs++[(i,l)]) arm dn:=by
 have hn:=d.n1;have hlt:=(d.lt W).2.2;have he:Bl h bc=.ok (AES c0 cs) (c0+cs.length):=by unfold Bl;rw[d.map];rfl
 have fx:Fx (fun b=>b=bc) h (h.put bc (.map (AES c0 (cs++[(i,l)])) (xW (c0+cs.length)))):=Fx.put (S:=fun b=>b=bc) W hlt rfl _;refine⟨?_,fx,⟨fx.row W d.disk d.bdc,fx.row W d.med d.bmc,d.len,d.byt,?_,d.big,d.n1⟩⟩
 ·show AEN (g2 e) (fun key=>AEN (g3 e) fun v=>Lj ⟨false,[.i .i64]⟩ (g1 e) key v h)=_
  rw[BR,BR,h1,h2,h3];unfold Lj;rw[qV (by omega)];simp only[he,RQ cs c0 fun x hx=>⟨(hc x hx).1,by have:=(hc x hx).2;omega⟩,Tj];rw[EE W d.big.2.2 hlt];rfl
 ·rw[W.AEn hlt,if_pos rfl,No];rfl
theorem mF{g:O}{a:Addr}{c:Nat}(hg:g e=.slice (some a) 64 c):Qs 64 g F e h=.ok (.pointer (some a)) h:=by
 show(match g e with|.slice (some a) l _=>bif xd 64 l then R.ok (.pointer (some a)) h else .no|_=>.no)=_;rw[hg];rfl
theorem SA{m:Nat}(W:h.Wf)(d:Dk h bd bm bc n M c0 cs arm false){k:Nat}(ha:CA arm (k+1)){i:Nat}(hi:i<n)(hc:∀ x∈cs,x.1≠i/\x.1<n){u:IN}{l:List Nat}(U:h.VS (fun b=>b≠bd) u (l.map bv))(hl:l.length=64):
  ∃ h',call AC (m+3) 123 [pt bd,AI AT (i:Int),u] h=.ok (AI AT 0) h'/\Fx (fun b=>b=bd\/b=bc) h h'/\Dk h' bd bm bc n M c0 (cs++[(i,l)]) (GB arm) false:=by
 have k1:=NA (m:=m) d hi;have Ul:=U.vals.bl h;rw[hl]at Ul;obtain⟨h1,k2,f1,d1⟩:=VR (m:=m+1) W d ha;have U1:=U.fx W f1 (fun b h1 h2=>h1 h2);have c1:iNe 0 0=false:=CN rfl;have c2:iNe ((64:Nat):Int) 64=false:=CN rfl;rcases U1 with ⟨_,hx⟩|⟨b,off,c,el,L,hu,_,R1,ho,hL,_⟩
 ·have:=congrArg List.length hx
  rw[OF,hl]at this;cases this
 rw[OF,hl]at hu ho hL;have d1m:=d1.same (h':=h1.marked) rfl;obtain⟨_,l1,_,_⟩:=DF d1m.disk;have Rm:h1.marked.Row b el L:=R1.same rfl;have ld:loadN 64 ⟨b,off,none⟩ h1.marked=.ok (Di l) h1.marked:=by rw[Rm.loadN ho,hL];rfl
 have ar:∀ (F:AEA) (e:Env),J 2 e=u->Qs 64 (J 2) F e h1.marked=.ok (.pointer (some ⟨b,off,none⟩)) h1.marked:=fun F e he=>mF (he.trans hu)
 have up:=fun (F:AEA) (e:Env) (g1 g2 g3:O) (e1:g1 e=.map (some bc)) (e2:g2 e=AI AT (i:Int)) (e3:g3 e=Di l)=>sX (F:=F) f1.wf.marked.quiet (d1m.same (h':=h1.marked.quiet) rfl) hi hc e1 e2 e3
 obtain⟨_,f2,d2⟩:=up (call AC m) e0 (kV (.map (some bc))) (kV (AI AT (i:Int))) (kV (Di l)) rfl rfl rfl;have up:=fun F e g1 g2 g3 e1 e2 e3=>(up F e g1 g2 g3 e1 e2 e3).1
 generalize h1.marked.quiet.put bc (.map (AES c0 (cs++[(i,l)])) (xW (c0+cs.length)))=h2 at up f2 d2;have u2:∀ (F:AEA) (e:Env),J 26 e=.map (some bc)->J 1 e=AI AT (i:Int)->J 30 e=Di l->Ae .free (FH ⟨false,[.i .i64]⟩ (J 26) (J 1) (J 30)) F e h1.marked=.ok AED (h1.marked.back h2):=fun F e e1 e2 e3=>BL (up F e _ _ _ e1 e2 e3)
 refine⟨h1.marked.back h2,?_,?_,d2.same rfl⟩
 ·rw[eI rfl]
  unfold fY;simp only[iN,IS,sT,By,BY,reduceIte,cA0,k1,AK,AJ,c1,Af,Ul,c2,k2,A0,Ax,Al,AH,AO,AN,AP,If,l1,ar,Av,Am,ld,u2,lV0]
 ·exact(f1.mono fun i h=>.inl h).trans (((f2.mono fun i h=>.inr h).from (h:=h1.marked) rfl rfl).same (h2:=h1.marked.back h2) rfl rfl |>.from (h:=h1) rfl rfl)
theorem bM:∀ n:Nat,Bc Kj.zero n=(xn (64*n) 0).map bv
 |0=>rfl
 |n+1=>by
  show Kj.zero++Bc Kj.zero n=_;rw[bM n,WE,<- yc,List.replicate_append_replicate]
  congr 2;omega
theorem sv:j0.zero=[.slice none 0 0,.map none,AI AT 0,.bool false]:=by kernel_rfl
theorem gP{m:Nat}(W:h.Wf)(hn:1<=n/\n<=65536):
  ∃ h' bd bm bc,call AC (m+1) 30 [AI AT (n:Int)] h=.ok (.tuple ⟨[pt bd,AI AT 0]⟩) h'/\h.Ext h'/\Dk h' bd bm bc n (xn (64*n) 0) 0 [] (-1) false/\h.next<=bd/\h.next<=bm/\h.next<=bc:=by
 have big:=W.big;have c1:iLt (n:Int) 1=false:=Fu (by omega);have c2:iGt (n:Int) 65536=false:=Ft (by omega);have mk:∀ (F:AEA) (e:Env),J 0 e=AI AT (n:Int)->HC 64 Kj.zero (J 0) (J 0) F e h=.ok (.slice (some ⟨h.next,0,none⟩) n n) (h.AD9 0 ((xn (64*n) 0).map bv)):=fun F e he=>by
  show Qj 64 Kj.zero (DZ (J 0 e)) (DZ (J 0 e)) h=_;rw[he,DH];unfold Qj;simp only;have e1:xd n n=true:=Au.2 (IT _);have e2:xd (yl (xW n) (xW 64)) most=true:=Au.2 (by show(n+1)*65<=1099511627776;omega);rw[e1,e2,bM];simp only[cond_true];rw[C4 W];rfl
 have x1:=(Hp.Ext.refl W).AD9 0 ((xn (64 * n) 0).map bv);have R1:=Hp.Row.new W 0 ((xn (64 * n) 0).map bv);have n1:(h.AD9 0 ((xn (64 * n) 0).map bv)).next=h.next+1:=rfl;generalize h.AD9 0 ((xn (64 * n) 0).map bv)=h1 at mk x1 R1 n1;have mp:∀ (F:AEA) (e:Env),Xs F e h1=.ok (.map (some h1.next)) (h1.push (.map [] 0)):=fun F e=>by
  unfold Xs;rw[C3 x1.wf]
 have y2:h1.Ext (h1.push (.map [] 0)):=(Hp.Ext.refl x1.wf).push _;have M2:(h1.push (.map [] 0)).bl.get h1.next=.map [] 0:=by rw[x1.wf.AEZ,if_pos rfl]
 have n2:(h1.push (.map [] 0)).next=h1.next+1:=rfl;generalize h1.push (.map [] 0)=h2 at mp y2 M2 n2;have x2:=x1.trans y2;have bl:∀ (F:AEA) (e:Env),J 11 e=.slice (some ⟨h.next,0,none⟩) n n->J 12 e=.map (some h1.next)->BC j0.zero [(0,1,J 11),(1,1,J 12),(2,1,kV (AI AT (-1)))] F e h2=.ok (.agg ⟨dkL h.next h1.next n (-1) false⟩) h2:=fun F e e1 e2=>by
  rw[CQ,sv,As (hk:=by rw[e1];rfl),e1,As (hk:=by rw[e2];rfl),e2,As];simp only[show cellsOf (.slice (some ⟨h.next,0,none⟩) n n)=[.slice (some ⟨h.next,0,none⟩) n n]from rfl,show cellsOf (.map (some h1.next))=[.map (some h1.next)]from rfl,HY,Cq,yg,xY,yS,over,ABY,ABR,AAH,yU,zb,IS,zr,if_true,Bu,reduceIte];rfl
 have bx:∀ (F:AEA) (e:Env),J 13 e=.agg ⟨dkL h.next h1.next n (-1) false⟩->Cc (J 13) F e h2=.ok (pt h2.next) (h2.AD9 0 (dkL h.next h1.next n (-1) false)):=fun F e he=>by
  rw[Eu,he,Eq x2.wf];rfl
 have y3:=(Hp.Ext.refl x2.wf).AD9 0 (dkL h.next h1.next n (-1) false);have R3:=Hp.Row.new x2.wf 0 (dkL h.next h1.next n (-1) false);generalize h2.AD9 0 (dkL h.next h1.next n (-1) false)=h3 at bx y3 R3;refine⟨h3,h2.next,h.next,h1.next,?_,x2.trans y3,⟨R3,(R1.ext x1.wf y2).ext x2.wf y3,zO,fun x hx=>by rw[List.eq_of_mem_replicate hx];decide,?_,⟨by omega,by omega,by omega⟩,hn⟩,by omega,IT _,by omega⟩
 ·rw[oM rfl]
  unfold d30;simp only[iN,IS,sT,By,BY,reduceIte,gD,AK,AJ,c1,c2,mk,mp,bl,bx,BG,DR]
 ·rw[y3.get _ (by omega),M2];rfl
end
end
noncomputable section
open Go
set_option maxRecDepth 100000
theorem VT.ext:∀ (a b:VT),(∀ j,a.has j↔b.has j)->(∀ j,a.get j=b.get j)->a=b
 |.mt,.mt,_,_=>rfl
 |.mt,.nd v l r,h,_=>by
  have:=(h 0).2 (by unfold VT.has;trivial);unfold VT.has at this;exact this.elim
 |.nd v l r,.mt,h,_=>by
  have:=(h 0).1 (by unfold VT.has;trivial);unfold VT.has at this;exact this.elim
 |.nd v l r,.nd v' l' r',h,g=>by
  have e1:v=v':=g 0;have lo:∀ j,(2*j) % 2=0/\2*j/2=j:=fun j=>by omega
  have hi:∀ j,¬ (2*j+1) % 2=0/\(2*j+1)/2=j:=fun j=>by omega
  have e2:l=l':=VT.ext l l' (fun j=>by
   have:=h (2*j+1);rw[VT.AEL,VT.AEL,if_pos (lo j).1,if_pos (lo j).1,(lo j).2]at this;exact this) (fun j=>by
   have:=g (2*j+1);rw[VT.AEJ,VT.AEJ,if_pos (lo j).1,if_pos (lo j).1,(lo j).2]at this;exact this)
  have e3:r=r':=VT.ext r r' (fun j=>by
   have:=h (2*j+1+1);rw[VT.AEL,VT.AEL,if_neg (hi j).1,if_neg (hi j).1,(hi j).2]at this;exact this) (fun j=>by
   have:=g (2*j+1+1);rw[VT.AEJ,VT.AEJ,if_neg (hi j).1,if_neg (hi j).1,(hi j).2]at this;exact this)
  rw[e1,e2,e3]
theorem VT.AFc:∀ (t:VT) (i:Nat) (x:IN) (t':VT),t.set i x=some t'->t.has i->∀ j,t'.has j->t.has j
 |.mt,i,x,t',_,h,_,_=>by unfold VT.has at h;exact h.elim
 |.nd v l r,0,x,t',hs,_,j,hj=>by
  have hs:some (VT.nd x l r)=some t':=hs;cases hs;cases j with
  |zero=>unfold VT.has;trivial
  |succ k=>rw[VT.AEL]at hj ⊢;exact hj
 |.nd v l r,k+1,x,t',hs,h,j,hj=>by
  rw[VT.AEf]at hs;rw[VT.AEL]at h;by_cases hk:k % 2=0
  ·rw[if_pos hk]at hs h
   cases hl:l.set (k/2) x with
   |none=>rw[hl]at hs;cases hs
   |some l'=>
    rw[hl]at hs;cases hs;cases j with
    |zero=>unfold VT.has;trivial
    |succ m=>
     rw[VT.AEL]at hj ⊢;by_cases hm:m % 2=0
     ·rw[if_pos hm]at hj ⊢;exact VT.AFc l _ x l' hl h _ hj
     ·rw[if_neg hm]at hj ⊢;exact hj
  ·rw[if_neg hk]at hs h
   cases hl:r.set (k/2) x with
   |none=>rw[hl]at hs;cases hs
   |some l'=>
    rw[hl]at hs;cases hs;cases j with
    |zero=>unfold VT.has;trivial
    |succ m=>
     rw[VT.AEL]at hj ⊢;by_cases hm:m % 2=0
     ·rw[if_pos hm]at hj ⊢;exact hj
     ·rw[if_neg hm]at hj ⊢;exact VT.AFc r _ x l' hl h _ hj
theorem K8:∀ (vs:List IN) (t:VT) (i:Nat),(∀ j,j<i+vs.length->t.has j)->∃ t',Bt t i vs=some t'/\(∀ j,t'.has j↔t.has j)/\∀ j,t'.get j=if i<=j/\j<i+vs.length then vs.getD (j - i) AED else t.get j
 |[],t,i,h=>⟨t,rfl,fun _=>Iff.rfl,fun j=>by rw[if_neg (by simp only[yS];omega)]⟩
 |v::vs,t,i,h=>by
  simp only[xY]at h;have hh:∀ j,j<i->t.has j:=fun j hj=>h j (by omega)
  have hs:=VT.AEr (x:=v) hh;have h1:∀ j,(t.lay i v).has j↔t.has j:=fun j=>⟨VT.AFc t i v _ hs (h i (by omega)) j,fun hj=>VT.AFE hh j (.inr hj)⟩
  obtain⟨t',a1,a2,a3⟩:=K8 vs (t.lay i v) (i+1) fun j hj=>(h1 j).2 (h j (by omega))
  refine⟨t',?_,fun j=>(a2 j).trans (h1 j),fun j=>?_⟩
  ·show(match t.set i v with|some t'=>Bt t' (xW i) vs|none=>none)=_
   rw[hs];exact a1
  ·rw[a3 j,VT.AE7 hh]
   simp only[xY];by_cases c1:i+1<=j/\j<i+1+vs.length
   ·rw[if_pos c1,if_pos (by omega),show j - i=(j - (i+1))+1 by omega];rfl
   ·rw[if_neg c1]
    by_cases c2:j=i
    ·rw[if_pos c2,if_pos (by omega),c2,ACY];rfl
    ·rw[if_neg c2,if_neg (by omega)]
section
variable {F:AEA}{e:Env}{h r:Hp}{k:Walk}{body:C}{b:Nat}
theorem Ob{b n0:Nat}{r h1:Hp}{tr:Rds}:XO b n0 r h1 tr=true↔ZY b n0 r h1:=by
 unfold XO;split
 ·rename_i h _;exact⟨fun _=>h,fun _=>rfl⟩
 ·rename_i h _;exact⟨fun e=>(by cases e),fun e=>absurd e h⟩
theorem Pe{f:Ent->Bool}:∀ {l:List Ent},(∀ x∈l,f x=true)->Pd f l=true
 |[],_=>rfl
 |x::l,h=>by
  show(bif f x then Pd f l else false)=true;rw[h x xa,Pe fun y hy=>h y (xZ _ hy)];rfl
theorem Ii{fin:Hp->Rds->Bool}:∀ (n:Nat) (h:Hp) (tr:Rds),Ku k body F e b fin n h tr=true->∃ p,Sd k body F e b n h tr=some p/\fin p.1 p.2=true
 |0,h,tr,hx=>by cases hx
 |n+1,h,tr,hx=>by
  unfold Ku Nq at hx;unfold Sd Nq;cases hi:EM (h.bl.get b)with
  |no=>rw[hi]at hx;cases hx
  |cur _ _ _=>rw[hi]at hx;cases hx
  |pick _ _ _ _=>rw[hi]at hx;cases hx
  |ok m since seen last=>
   rw[hi]at hx;cases m with
   |none=>cases hx
   |some m=>
    simp only at hx ⊢;cases he:Bl h m with
    |no=>rw[he]at hx;cases hx
    |ok es c=>
     rw[he]at hx;simp only at hx ⊢;cases q1:xr c since with
     |false=>rw[q1]at hx;cases hx
     |true=>
      cases q2:xr c last with
      |false=>rw[q1,q2]at hx;cases hx
      |true=>
       cases q3:FK c 0 es with
       |false=>rw[q1,q2,q3]at hx;cases hx
       |true=>
        rw[q1,q2,q3]at hx;simp only[cond_true]at hx ⊢;cases hr:AEi seen es with
        |nil=>rw[hr]at hx;exact⟨_,rfl,hx⟩
        |cons y l=>
         rw[hr]at hx;have hy:=Lo hx y xa;simp only;cases hst:OJ k body F e b m c seen h y with
         |none=>rw[hst]at hy;cases hy
         |some h1=>
          rw[hst]at hy;exact Ii n h1 _ hy
theorem ST(W:h.Wf)(S:OP k body F e h b r)(hn:h.next<=r.next):
  ∃ h',Fm k body F e h b=.exit k.out (Env.set k.more (.bool false) (Cz e k.ws)) h'/\h'.Wf/\h'.next=r.next/\(∀ i,i<h.next->i≠b->h'.bl.get i=r.bl.get i)/\h'.mark=h.mark/\h'.low=min h.low r.low:=by
 obtain⟨p,hp,hend⟩:=Ii _ _ _ S.2;obtain⟨q1,q2,q3,q4⟩:=Ob.1 hend;have AGJ:=W.big;unfold Fm;split
 case h_2=>rename_i hx _;exact absurd ⟨r,S⟩ hx
 rename_i hx _;have S':=ADy hx;generalize ADo hx=r' at S';obtain⟨p',hp',AH8⟩:=Ii _ _ _ S'.2;obtain rfl:p'=p:=by rw[hp]at hp';exact(Option.some.inj hp').symm
 obtain⟨t1,t2,t3,t4⟩:=Ob.1 AH8;refine⟨_,rfl,⟨?_,S'.1,fun i hi=>?_⟩,t1.symm.trans q1,fun i hi hib=>?_,rfl,(BW _ _).trans (by rw[t2,<- q2])⟩
 ·show 256<=r'.next;omega
 ·have hi:r'.next<=i:=hi
  show r'.bl.get i=_;rw[t4,if_pos (by omega)]
 ·show r'.bl.get i=_
  rw[t4,q4]
end
end
end Go.Proofs.YtbjadbhkogcfeaaGreat

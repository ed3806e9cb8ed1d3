/-
  Part ZL of what Lawnr stands on: printed by program, names and spaces cut.
-/
import Derived.Test.YtbjadbhkogcfeaaGreatZK
open Go.Value renaming int→AI
open Go.IntKind renaming i64→AT
open Nat renaming reduceEqDiff→BY,reduceLT→By,reduceAdd→IS,le_refl→IT,zero_add→If,ble→xd,beq→xr,zero_le→yK,add_zero→zJ,mul_comm→zT,beq_refl→zU,succ_pos→AA4,min_eq_left→ABk
open Go renaming Value→IN
open List renaming length_append→No,length_map→OF,getElem?_eq_getElem→sh,getD_eq_getElem?_getD→xV,length_cons→xY,mem_cons_of_mem→xZ,mem_cons_self→xa,mem_of_getElem?→xp,append_nil→xx,mem_cons→xz,getElem?_eq_some_iff→yD,mem_singleton→yE,append_assoc→yF,getElem?_append_left→yH,getElem?_append_right→yJ,mem_append→yL,length_take→yM,mem_append_right→yR,nil_append→yU,mem_append_left→yX,length_singleton→yg,getElem?_cons_succ→yj,length_drop→yk,drop_zero→yv,getElem?_map→yx,take_length→zK,length_replicate→zO,mem_of_mem_take→zV,getElem?_take→zy,getElem?_drop→AAP,mem_of_mem_drop→AAm,mem_iff_getElem?→ABH,take_take→ADH
open Bool renaming not_true→yi,eq_iff_iff→zS,not_not→ADc
open Classical renaming byContradiction→AD7
set_option linter.unusedVariables false
set_option linter.unusedSimpArgs false
namespace Go.Proofs.YtbjadbhkogcfeaaGreat
noncomputable section
open Go
set_option maxRecDepth 100000
def IM(M:List Nat)(k:Nat)(l:List Nat):List Nat:=M.take (64*k)++l++M.drop (64*k+64)
def Fy:List Nat->List (Nat×List Nat)->List Nat
 |M,[]=>M
 |M,y::cs=>Fy (IM M y.1 y.2) cs
def AGE(cs:List (Nat×List Nat)):Prop:=∀ (i j:Nat) (y z:Nat×List Nat),cs[i]? =some y->cs[j]? =some z->y.1=z.1->i=j
def AFW(n:Nat)(cs:List (Nat×List Nat)):Prop:=∀ y∈cs,y.1<n/\y.2.length=64/\∀ x∈y.2,x<256
theorem DT{M l:List Nat}{n k:Nat}(hM:M.length=64*n)(hk:k<n)(hl:l.length=64):(IM M k l).length=64*n:=by
 unfold IM;rw[No,No,yM,yk];omega
theorem jS{M l:List Nat}{k:Nat}(hM:∀ x∈M,x<256)(hl:∀ x∈l,x<256):∀ x∈IM M k l,x<256:=fun x hx=>by
 rcases yL.1 hx with hx|hx
 ·rcases yL.1 hx with hx|hx
  ·exact hM x (zV hx)
  ·exact hl x hx
 ·exact hM x (AAm hx)
theorem EQ{M l:List Nat}{n k p:Nat}(hM:M.length=64*n)(hk:k<n)(hl:l.length=64):(IM M k l).getD p 0=if p/64=k then l.getD (p % 64) 0 else M.getD p 0:=by
 unfold IM;have e1:(M.take (64*k)).length=64*k:=by rw[yM];omega
 simp only[xV];by_cases h:p/64=k
 ·rw[if_pos h,yF,yJ (by omega),yH (by omega),e1,show p - 64*k=p % 64 by omega]
 ·rw[if_neg h]
  rcases Nat.lt_or_ge p (64*k)with hp|hp
  ·rw[yF,yH (by omega),zy,if_pos hp]
  ·rw[yJ (by rw[No];omega),AAP,No,e1,hl]
   congr 2;omega
theorem GQ:∀ {cs:List (Nat×List Nat)} {M:List Nat} {n:Nat},M.length=64*n->AFW n cs->(Fy M cs).length=64*n
 |[],_,_,h,_=>h
 |y::cs,M,n,h,hc=>GQ (cs:=cs) (DT h (hc y xa).1 (hc y xa).2.1) fun z hz=>hc z (xZ _ hz)
theorem QZ:∀ {cs:List (Nat×List Nat)} {M:List Nat} {n:Nat},(∀ x∈M,x<256)->AFW n cs->∀ x∈Fy M cs,x<256
 |[],_,_,h,_=>h
 |y::cs,M,n,h,hc=>QZ (cs:=cs) (n:=n) (jS h (hc y xa).2.2) fun z hz=>hc z (xZ _ hz)
theorem AGE.tail{y:Nat×List Nat}{cs:List (Nat×List Nat)}(h:AGE (y::cs)):AGE cs/\∀ z∈cs,z.1≠y.1:=⟨fun i j a b h1 h2 h3=>by
 have:=h (i+1) (j+1) a b (by rw[yj];exact h1) (by rw[yj];exact h2) h3;omega,fun z hz e=>by
 obtain⟨i,hi⟩:=ABH.1 hz;have:=h (i+1) 0 z y (by rw[yj];exact hi) rfl e;omega⟩
theorem KU:∀ {cs:List (Nat×List Nat)} {M:List Nat} {n p:Nat},M.length=64*n->AFW n cs->(∀ y∈cs,p/64≠y.1)->(Fy M cs).getD p 0=M.getD p 0
 |[],_,_,_,_,_,_=>rfl
 |y::cs,M,n,p,h,hc,hp=>by
  obtain⟨c1,c2,c3⟩:=hc y xa;show(Fy (IM M y.1 y.2) cs).getD p 0=_;rw[KU (cs:=cs) (DT h c1 c2) (fun z hz=>hc z (xZ _ hz)) fun z hz=>hp z (xZ _ hz),EQ h c1 c2,if_neg (hp y xa)]
theorem QY:∀ {cs:List (Nat×List Nat)} {M:List Nat} {n:Nat},M.length=64*n->AFW n cs->AGE cs->∀ y∈cs,∀ q,q<64->(Fy M cs).getD (64*y.1+q) 0=y.2.getD q 0
 |[],_,_,_,_,_,_,hy,_,_=>by cases hy
 |z::cs,M,n,h,hc,hK,y,hy,q,hq=>by
  obtain⟨c1,c2,c3⟩:=hc z xa;obtain⟨k1,k2⟩:=hK.tail;show(Fy (IM M z.1 z.2) cs).getD _ 0=_;rcases xz.1 hy with rfl|hy
  ·rw[KU (cs:=cs) (DT h c1 c2) (fun z hz=>hc z (xZ _ hz)) (fun z hz=>by have:=k2 z hz;omega),EQ h c1 c2,if_pos (by omega),show(64*y.1+q) % 64=q by omega]
  ·exact QY (DT h c1 c2) (fun z hz=>hc z (xZ _ hz)) k1 y hy q hq
def AEx(T0:VT)(done:List (Nat×List Nat))(T:VT):Prop:=(∀ j,T.has j↔T0.has j)/\(∀ y∈done,∀ q,q<64->T.get (64*y.1+q)=bv (y.2.getD q 0))/\∀ p,(∀ y∈done,p/64≠y.1)->T.get p=T0.get p
theorem AEx.nil(T:VT):AEx T [] T:=⟨fun _=>Iff.rfl,fun y hy=>(by cases hy),fun _ _=>rfl⟩
theorem AEx.step{T0 T:VT}{done:List (Nat×List Nat)}{k s:Nat}{l:List Nat}(h:AEx T0 done T)(hh:∀ j,j<s->T0.has j)(hk:64*k+64<=s)(hl:l.length=64)(hd:∀ y∈done,y.1≠k):∃ T',Bt T (64*k) (l.map bv)=some T'/\AEx T0 (done++[(k,l)]) T':=by
 have hll:(l.map bv).length=64:=by rw[OF,hl]
 obtain⟨T',a1,a2,a3⟩:=K8 (l.map bv) T (64*k) fun j hj=>(h.1 j).2 (hh j (by omega))
 refine⟨T',a1,fun j=>(a2 j).trans (h.1 j),fun y hy q hq=>?_,fun p hp=>?_⟩
 ·rw[a3,hll]
  rcases yL.1 hy with hy|hy
  ·rw[if_neg (by have:=hd y hy;omega)]
   exact h.2.1 y hy q hq
  ·obtain rfl:=yE.1 hy
   have hq':64*k+q - 64*k=q:=by omega
   rw[if_pos ⟨Nat.le_add_right _ _,by show 64*k+q<_;omega⟩];show(l.map bv).getD (64*k+q - 64*k) AED=bv (l.getD q 0);rw[hq',xV,yx,xV,sh (by omega)];rfl
 ·have:=hp (k,l) (yR _ (yE.2 rfl))
  rw[a3,hll,if_neg (by show ¬ _;have:p/64≠k:=this;omega)];exact h.2.2 p fun y hy=>hp y (yX _ hy)
theorem AEx.uniq{T0 T T':VT}{a b:List (Nat×List Nat)}(h:AEx T0 a T)(h':AEx T0 b T')(hm:∀ y,y∈a↔y∈b):T=T':=by
 refine VT.ext _ _ (fun j=>(h.1 j).trans (h'.1 j).symm) fun p=>?_
 by_cases hp:∃ y∈a,p/64=y.1
 ·obtain⟨y,hy,he⟩:=hp
  have h1:=h.2.1 y hy (p % 64) (by omega);have h2:=h'.2.1 y ((hm y).1 hy) (p % 64) (by omega);rw[show 64*y.1+p % 64=p by omega]at h1 h2;rw[h1,h2]
 ·rw[h.2.2 p fun y hy he=>hp ⟨y,hy,he⟩,h'.2.2 p fun y hy he=>hp ⟨y,(hm y).2 hy,he⟩]
theorem AEx.all{T0:VT}{n:Nat}(hh:∀ j,j<64*n->T0.has j):∀ (cs done:List (Nat×List Nat)) (T:VT),AEx T0 done T->AFW n cs->AGE cs->(∀ y∈cs,∀ z∈done,z.1≠y.1)->∃ T',AEx T0 (done++cs) T'
 |[],done,T,h,_,_,_=>⟨T,by rw[xx];exact h⟩
 |y::cs,done,T,h,hc,hK,hd=>by
  obtain⟨c1,c2,c3⟩:=hc y xa;obtain⟨k1,k2⟩:=hK.tail;obtain⟨T1,_,h1⟩:=h.step hh (k:=y.1) (l:=y.2) (by omega) c2 (hd y xa);obtain⟨T2,h2⟩:=AEx.all hh cs (done++[(y.1,y.2)]) T1 h1 (fun z hz=>hc z (xZ _ hz)) k1 fun z hz w hw=>by
   rcases yL.1 hw with hw|hw
   ·exact hd z (xZ _ hz) w hw
   ·obtain rfl:=yE.1 hw
    exact fun e=>k2 z hz e.symm
  exact⟨T2,by rw[yF]at h2;exact h2⟩
theorem AEx.is{T0 T:VT}{M:List Nat}{n:Nat}{cs:List (Nat×List Nat)}(h:AEx T0 cs T)(hT:T0.Is (M.map bv))(hM:M.length=64*n)(hc:AFW n cs)(hK:AGE cs):T.Is ((Fy M cs).map bv):=fun p hp=>by
 rw[OF,GQ hM hc]at hp;have hp0:=hT p (by rw[OF];omega);refine⟨(h.1 p).2 hp0.1,?_⟩;have e1:∀ L:List Nat,p<L.length->(L.map bv).getD p AED=bv (L.getD p 0):=fun L hL=>by
  rw[xV,yx,xV,sh hL];rfl
 rw[e1 _ (by rw[GQ hM hc];exact hp)];by_cases hq:∃ y∈cs,p/64=y.1
 ·obtain⟨y,hy,he⟩:=hq
  have h1:=h.2.1 y hy (p % 64) (by omega);have h2:=QY hM hc hK y hy (p % 64) (by omega);rw[show 64*y.1+p % 64=p by omega]at h1 h2;rw[h1,h2]
 ·rw[h.2.2 p fun y hy he=>hq ⟨y,hy,he⟩,KU hM hc fun y hy he=>hq ⟨y,hy,he⟩,hp0.2,e1 _ (by omega)]
theorem MB:∀ (cs:List (Nat×List Nat)) (c:Nat),(AES c cs).length=cs.length
 |[],_=>rfl
 |x::cs,c=>by show(AES (c+1) cs).length+1=_;rw[MB cs];rfl
theorem P7:∀ {cs:List (Nat×List Nat)} {c:Nat} {x:Ent},x∈AES c cs->∃ (i:Nat) (y:Nat×List Nat),cs[i]? =some y/\x=⟨AI AT (y.1:Int),Di y.2,c+i⟩
 |[],_,_,h=>by cases h
 |y::cs,c,x,h=>by
  rcases xz.1 h with h|h
  ·exact⟨0,y,rfl,h⟩
  ·obtain⟨i,z,h1,h2⟩:=P7 h
   exact⟨i+1,z,by rw[yj];exact h1,by rw[h2,Nat.add_assoc,Nat.add_comm 1]⟩
theorem Hz:∀ {cs:List (Nat×List Nat)} {c i:Nat} {y:Nat×List Nat},cs[i]? =some y->GL (c+i) (AES c cs)=some ⟨AI AT (y.1:Int),Di y.2,c+i⟩
 |[],_,_,_,h=>by cases h
 |z::cs,c,0,y,h=>by
  have h:some z=some y:=h;cases h;show(bif xr c (c+0)then some (⟨AI AT (z.1:Int),Di z.2,c⟩:Ent)else GL (c+0) (AES (c+1) cs))=_;rw[zJ,zU];rfl
 |z::cs,c,i+1,y,h=>by
  rw[yj]at h;show(bif xr c (c+(i+1))then some (⟨AI AT (z.1:Int),Di z.2,c⟩:Ent)else GL (c+(i+1)) (AES (c+1) cs))=_;have:xr c (c+(i+1))=false:=by
   cases e:xr c (c+(i+1))
   ·rfl
   ·have:=Az.1 e;omega
  rw[this,show c+(i+1)=c+1+i by omega];exact Hz h
theorem K7:∀ {cs:List (Nat×List Nat)} {c lo clk:Nat},lo<=c->c+cs.length<=clk->FK clk lo (AES c cs)=true
 |[],_,_,_,_,_=>rfl
 |x::cs,c,lo,clk,h1,h2=>by
  rw[xY]at h2;show(bif xd lo c then(bif Nat.blt c clk then FK clk (Nat.succ c) (AES (c+1) cs)else false)else false)=true;rw[Au.2 h1,Bb.2 (by omega)];exact K7 (IT _) (by omega)
theorem Fz{n:Nat}:∀ {l:List Nat},Fh n l=true↔n∈l
 |[]=>⟨fun h=>(by cases h),fun h=>(by cases h)⟩
 |x::l=>by
  show(bif xr x n then true else Fh n l)=true↔_;cases h:xr x n with
  |true=>exact⟨fun _=>by rw[Az.1 h];exact xa,fun _=>rfl⟩
  |false=>
   refine Iff.trans (Fz (l:=l)) ⟨fun h1=>xZ _ h1,fun h1=>?_⟩;rcases xz.1 h1 with h1|h1
   ·rw[h1,zU]at h;cases h
   ·exact h1
theorem Mw{seen:List Nat}:∀ {es:List Ent} {x:Ent},x∈AEi seen es->x∈es/\x.born∉seen
 |[],_,h=>by cases h
 |y::es,x,h=>by
  have h:x∈(bif Fh y.born seen then AEi seen es else y::AEi seen es):=h;cases hm:Fh y.born seen with
  |true=>
   rw[hm]at h;obtain⟨h1,h2⟩:=Mw (es:=es) h;exact⟨xZ _ h1,h2⟩
  |false=>
   rw[hm]at h;rcases xz.1 h with h|h
   ·subst h
    exact⟨xa,fun h1=>by rw[Fz.2 h1]at hm;cases hm⟩
   ·obtain⟨h1,h2⟩:=Mw (es:=es) h
    exact⟨xZ _ h1,h2⟩
theorem OB{seen:List Nat}{s:Nat}:∀ {cs:List (Nat×List Nat)} {c:Nat},s<c->AEi (seen++[s]) (AES c cs)=AEi seen (AES c cs)
 |[],_,_=>rfl
 |x::cs,c,h=>by
  show(bif Fh c (seen++[s])then AEi (seen++[s]) (AES (c+1) cs)else _::AEi (seen++[s]) (AES (c+1) cs))=(bif Fh c seen then AEi seen (AES (c+1) cs)else _::AEi seen (AES (c+1) cs));rw[OB (cs:=cs) (by omega)];have:Fh c (seen++[s])=Fh c seen:=by
   rw[zS,Fz,Fz,yL,yE];exact⟨fun h1=>h1.elim (fun h=>h) fun h1=>by omega,.inl⟩
  rw[this]
theorem RK{seen:List Nat}{i:Nat}:∀ {cs:List (Nat×List Nat)} {c:Nat},i<cs.length->c+i∉seen->(AEi (seen++[c+i]) (AES c cs)).length+1=(AEi seen (AES c cs)).length
 |[],_,h,_=>by cases h
 |x::cs,c,h,hs=>by
  show(bif Fh c (seen++[c+i])then AEi (seen++[c+i]) (AES (c+1) cs)else _::AEi (seen++[c+i]) (AES (c+1) cs)).length+1=(bif Fh c seen then AEi seen (AES (c+1) cs)else _::AEi seen (AES (c+1) cs)).length;cases i with
  |zero=>
   simp only[zJ]at hs ⊢;have h1:Fh c seen=false:=by
    cases e:Fh c seen
    ·rfl
    ·exact absurd (Fz.1 e) hs
   have h2:Fh c (seen++[c])=true:=Fz.2 (yR _ (yE.2 rfl));rw[h1,h2,OB (cs:=cs) (Nat.lt_succ_self c)];rfl
  |succ i=>
   have h1:Fh c (seen++[c+(i+1)])=Fh c seen:=by
    rw[zS,Fz,Fz,yL,yE];exact⟨fun h1=>h1.elim (fun h=>h) fun h1=>by omega,.inl⟩
   have e:c+(i+1)=c+1+i:=by omega
   rw[e]at hs h1 ⊢;have ih:=RK (seen:=seen) (i:=i) (cs:=cs) (c:=c+1) (by simp only[xY]at h;omega) hs;rw[h1];cases Fh c seen with
   |true=>exact ih
   |false=>exact congrArg (· +1) ih
theorem Kg:∀ (es:List Ent),AEi [] es=es
 |[]=>rfl
 |x::es=>by
  show x::AEi [] es=_;rw[Kg es]
end
noncomputable section
open Go
set_option maxRecDepth 100000
def fB:C:=(G 22 (HD (J 21))
(G 23 (Aa 0 (J 22))
(Bj 23
(Ab 1 (G 24 (Ip (J 21))
(G 25 (Aa 0 (J 24))
(G 26 (Aa 1 (J 24))
(G 6 (BV 64 Ix)
(G 5 (Aj 25)
(cDo (Ah 64 (J 6) (J 26))
(B0 (G 28 (Bf (J 0))
(G 29 (AE 0 (J 28))
(G 30 (AM (J 29))
(G 32 (BK 64 (J 6))
(G 33 (B9 64 (J 30) (J 5))
(cDo (Ae .free (Ah 64 (J 33) (J 32)))
Aw))))))))))))))
(B7 0))))
def fK:Walk:=⟨21,22,23,0,[22,23,24,25,26,6,5,27,28,29,30,31,32,33],[]⟩
theorem lY:fW=I6 fK fB:=rfl
theorem vA:fS=BI (Ab 0 fW) fE:=rfl
theorem fa:fZ=UQ:=rfl
section
variable {F:AEA}{e:Env}{g g1:Hp}{it bd bm bc n k:Nat}{l:List Nat}{T:VT}{arm:Int}{dn:Bool}
theorem TL{q:Hp}{s el off:Nat}{vs:List IN}{T':VT}(W:q.Wf)(hT:q.bl.get bm=.cells T s el)(AEl:Bt T off vs=some T')(ho:off+vs.length<=s)(h1:Ba vs=true)(AEK:256<=bm)(hb:bm<q.next){K:Hp->R}:Cx ⟨bm,off,none⟩ vs q K=K (q.put bm (.cells T' s el)):=by
 have hr:rowOf q bm=.ok T s el:=by unfold rowOf;rw[hT];rfl
 unfold Cx;simp only[hr,Nat.add_eq];rw[Bm,Au.2 ho,h1];simp only[cond_true,AEl];rw[EE W AEK hb]
theorem QG(W1:g1.Wf)(s0:J 0 e=pt bd)(s21:J 21 e=pt it)
  (nx:∀ e,J 21 e=pt it->HD (J 21) F e g=.ok (.tuple ⟨[.bool true,AI AT (k:Int),Di l]⟩) g1)
  (en:∀ e,J 21 e=pt it->Ip (J 21) F e g1=.ok (.tuple ⟨[AI AT (k:Int),Di l]⟩) g1)
  (D:g1.Row bd 0 (dkL bm bc n arm dn))(hT:g1.bl.get bm=.cells T (64*n) 0){T':VT}(hs:Bt T (64*k) (l.map bv)=some T')(hk:k<n)(hl:l.length=64)(AEK:256<=bm)(hbm:bm<g1.next):
  ∃ e' g',fB F e g=.norm e' g'/\J 0 e'=pt bd/\J 21 e'=pt it/\g'.Wf/\g'.next=g1.next+1/\g'.bl.get bm=.cells T' (64*n) 0/\(∀ i,i<g1.next->i≠bm->g'.bl.get i=g1.bl.get i)/\g'.low=min (min g1.low g1.next) bm/\g'.high=max (max g1.high g1.next) bm:=by
 have big:=W1.big;have hll:(l.map bv).length=64:=by rw[OF,hl]
 have al:=fun (F:AEA) (e:Env)=>BQ (F:=F) (e:=e) W1 (n:=64) (t:=Ix)
 have R1:=Hp.Row.alloc W1 WG (by rw[OF,zO]);have x1:g1.Ext (g1.push (.cells Ix 64 0)):=(Hp.Ext.refl W1).push _;have n1:(g1.push (.cells Ix 64 0)).next=g1.next+1:=rfl;have lo1:(g1.push (.cells Ix 64 0)).low=g1.low:=rfl;have hi1:(g1.push (.cells Ix 64 0)).high=g1.high:=rfl;generalize g1.push (.cells Ix 64 0)=g2 at al R1 x1 n1 lo1 hi1;have hz:((List.replicate 64 0).map bv).length=64:=by rw[OF,zO]
 have st:AEH 64 (pt g1.next) (Di l) g2=.ok AED (g2.wr g1.next 0 (l.map bv)):=R1.AEH (n:=64) (off:=0) x1.wf big (v:=Di l) hll (by show 0+(l.map bv).length<=_;omega) (DV _);have x2:=R1.AEe x1 (IT _) (off:=0) (vs:=l.map bv) (by omega);have R2:=R1.AEM x1.wf (off:=0) (vs:=l.map bv) (by omega);rw[Em (by omega)]at R2;have n2:(g2.wr g1.next 0 (l.map bv)).next=g1.next+1:=(R1.AEo (by omega)).trans n1;obtain⟨_,_,ew,_⟩:=R1.AFM (off:=0) (vs:=l.map bv) (by omega);have lo2:(g2.wr g1.next 0 (l.map bv)).low=min g1.low g1.next:=by
  rw[ew];show B8 g2.low g1.next=_;rw[BW,lo1]
 have hi2:(g2.wr g1.next 0 (l.map bv)).high=max g1.high g1.next:=by
  rw[ew];show Cw g2.high g1.next=_;rw[B3,hi1]
 generalize g2.wr g1.next 0 (l.map bv)=g3 at st x2 R2 n2 lo2 hi2;have D3:g3.marked.Row bd 0 (dkL bm bc n arm dn):=(D.ext W1 x2).same rfl;obtain⟨l0,_,_,_⟩:=DF D3;have R3:g3.marked.Row g1.next 0 (l.map bv):=R2.same rfl;have ld:loadN 64 ⟨g1.next,0,none⟩ g3.marked=.ok (Di l) g3.marked:=by
  rw[R3.loadN (by omega),yv,List.take_of_length_le (by omega)];rfl
 have ix:AE2 64 (.slice (some ⟨bm,0,none⟩) n n) (AI AT (k:Int)) g3.marked=.ok (.pointer (some ⟨bm,0+k*64,none⟩)) g3.marked:=C6 hk;rw[If,zT]at ix;have hTq:g3.marked.quiet.bl.get bm=.cells T (64*n) 0:=by
  show g3.bl.get bm=_;rw[x2.get bm hbm];exact hT
 have sq:AEH 64 (.pointer (some ⟨bm,64*k,none⟩)) (Di l) g3.marked.quiet=.ok AED (g3.marked.quiet.put bm (.cells T' (64*n) 0)):=by
  show(bif xr (BF (l.map bv)) 64 then Cx ⟨bm,64*k,none⟩ (l.map bv) g3.marked.quiet EC else .no)=_;rw[Bm,Az.2 hll,cond_true,TL x2.wf.marked.quiet hTq hs (by omega) (DV _) AEK (by show bm<g3.next;omega)];rfl
 have q1:∀ (F:AEA) (e:Env),J 33 e=.pointer (some ⟨bm,64*k,none⟩)->J 32 e=Di l->Ae .free (Ah 64 (J 33) (J 32)) F e g3.marked=.ok AED (g3.marked.back (g3.marked.quiet.put bm (.cells T' (64*n) 0))):=fun F e e1 e2=>by
  refine BL ?_;rw[AX,e1,e2];exact sq
 have pg:=x2.wf.marked.quiet.AEn (b:=bm) (show bm<g3.next by omega) (.cells T' (64*n) 0);have pw:=x2.wf.marked.quiet.put (b:=bm) (show bm<g3.next by omega) (.cells T' (64*n) 0);have AGu:(g3.marked.back (g3.marked.quiet.put bm (.cells T' (64*n) 0))).low=min (min g1.low g1.next) bm:=by
  show B8 g3.low (B8 g3.next bm)=_;rw[BW,BW,lo2,n2];omega
 have AF0:(g3.marked.back (g3.marked.quiet.put bm (.cells T' (64*n) 0))).high=max (max g1.high g1.next) bm:=by
  show Cw g3.high (Cw 0 bm)=_;rw[B3,B3,hi2];omega
 have hrun:∃ e',fB F e g=.norm e' (g3.marked.back (g3.marked.quiet.put bm (.cells T' (64*n) 0)))/\J 0 e'=pt bd/\J 21 e'=pt it:=by
  unfold fB;have nx':=fun e he=>nx e he
  simp only[sT,By,BY,reduceIte,nx e s21,A8,BB,BH,Cv,en,s21,al,AX,st,A0,Ax,s0,Al,AH,AO,AN,AP,l0,Av,Am,ld,A9,ix,q1];exact⟨_,rfl,by simp[AG,s0,s21]⟩
 obtain⟨e',r1,r2,r3⟩:=hrun;refine⟨e',_,r1,r2,r3,⟨pw.big,pw.has,pw.fresh⟩,by show g3.next=_;exact n2,?_,fun i hi hib=>?_,AGu,AF0⟩
 ·show(g3.marked.quiet.put bm _).bl.get bm=_
  rw[pg,if_pos rfl]
 ·show(g3.marked.quiet.put bm _).bl.get i=_
  rw[pg,if_neg hib];exact x2.get i hi
end
end
noncomputable section
open Go
set_option maxRecDepth 100000
section
variable {F:AEA}{e:Env}{h g g1:Hp}{it bd bm bc n k c0:Nat}{l seen:List Nat}{T T0:VT}{cs:List (Nat×List Nat)}{arm:Int}{dn:Bool}
structure FlB (h:Hp)(it bd bm bc n c0:Nat)(cs:List (Nat×List Nat))(arm:Int)(dn:Bool)(T0:VT):Prop where
 wf:h.Wf
 nx:h.next=it+1
 itr:h.bl.get it=.iter (some bc) (c0+cs.length) [] (c0+cs.length)
 disk:h.Row bd 0 (dkL bm bc n arm dn)
 med:h.bl.get bm=.cells T0 (64*n) 0
 has:∀ j,j<64*n->T0.has j
 map:h.bl.get bc=.map (AES c0 cs) (c0+cs.length)
 lt:bd<it/\bm<it/\bc<it
 ne:bd≠bm/\bc≠bm
 big:256<=bm/\256<=it
 sec:AFW n cs
 key:AGE cs
structure FlI (h:Hp)(it bm bc n c0:Nat)(cs:List (Nat×List Nat))(T0:VT)(seen:List Nat)(g:Hp):Prop where
 wf:g.Wf
 nx:g.next=h.next+seen.length
 lh:(seen=[]/\g.low=h.next/\g.high=0)\/(seen≠[]/\g.low=bm/\g.high+1=h.next+seen.length)
 itr:g.bl.get it=.iter (some bc) (c0+cs.length) seen (c0+cs.length)
 old:∀ i,i<h.next->i≠it->i≠bm->g.bl.get i=h.bl.get i
 med:∃ (T:VT) (done:List (Nat×List Nat)),g.bl.get bm=.cells T (64*n) 0/\AEx T0 done T/\∀ y,y∈done↔∃ i:Nat,cs[i]? =some y/\c0+i∈seen
 cnt:seen.length+(AEi seen (AES c0 cs)).length=cs.length
theorem MV{s:Nat}:∀ l:List Nat,Qa (l++[s])=some s
 |[]=>rfl
 |[x]=>rfl
 |x::y::l=>MV (y::l)
theorem RD(s:Nat):∀ l:List Nat,Jh s l=l++[s]
 |[]=>rfl
 |x::l=>congrArg (x:: ·) (RD s l)
theorem Mx{h g:Hp}{b el:Nat}{L:List IN}(r:h.Row b el L)(hb:g.bl.get b=h.bl.get b):g.Row b el L:=by
 obtain⟨c,hc,hl⟩:=r;exact⟨c,hb.trans hc,hl⟩
theorem aB{g:Hp}{it:Nat}{v:R}(hv:GS ⟨it,0,none⟩ g=v){e:Env}(he:J 21 e=pt it):HD (J 21) F e g=v:=by
 show(match Dt (J 21 e)with|.ok a=>bif xr a.off 0 then GS a g else .no|.no=>.no)=_;rw[he];exact hv
theorem lX{g:Hp}{it:Nat}{v:R}(hv:KF ⟨it,0,none⟩ g=v){e:Env}(he:J 21 e=pt it):Ip (J 21) F e g=v:=by
 show(match Dt (J 21 e)with|.ok a=>bif xr a.off 0 then KF a g else .no|.no=>.no)=_;rw[he];exact hv
theorem P6{g:Hp}{it i:Nat}{y:Nat×List Nat}(hi:cs[i]? =some y){s0:Nat}(hit:g.bl.get it=.iter (some bc) s0 (seen++[c0+i]) (c0+cs.length))(hm:g.bl.get bc=.map (AES c0 cs) (c0+cs.length)):KF ⟨it,0,none⟩ g=.ok (.tuple ⟨[AI AT (y.1:Int),Di y.2]⟩) g:=by
 have hib:EM (g.bl.get it)=.ok (some bc) s0 (seen++[c0+i]) (c0+cs.length):=by rw[hit];rfl
 have he:Bl g bc=.ok (AES c0 cs) (c0+cs.length):=by unfold Bl;rw[hm];rfl
 unfold KF;simp only[hib,MV];unfold Hy;simp only[he,zU,cond_true,Hz hi]
theorem UE:J 0 (Cz e fK.ws)=J 0 e/\J 21 (Cz e fK.ws)=J 21 e:=by
 constructor
 ·simp[fK,Cz,AG]
 ·simp[fK,Cz,AG]
theorem gb(B:FlB h it bd bm bc n c0 cs arm dn T0)(I:FlI h it bm bc n c0 cs T0 seen g)(s0:J 0 e=pt bd)(s21:J 21 e=pt it){x:Ent}(hx:x∈AEi seen (AES c0 cs)):
  ∃ h1,OJ fK fB F e it bc (c0+cs.length) seen g x=some h1/\FlI h it bm bc n c0 cs T0 (seen++[x.born]) h1:=by
 obtain⟨hx1,hns⟩:=Mw hx;obtain⟨i,y,hi,rfl⟩:=P7 hx1;have hns:c0+i∉seen:=hns;obtain⟨y1,y2,y3⟩:=B.sec y (xp hi);have hil:i<cs.length:=(yD.1 hi).1;obtain⟨T,done,t1,t2,t3⟩:=I.med;have hnd:∀ z∈done,z.1≠y.1:=fun z hz he=>by
  obtain⟨j,j1,j2⟩:=(t3 z).1 hz;have:=B.key j i z y j1 hi he;rw[this]at j2;exact hns j2
 obtain⟨T',hs,ht'⟩:=t2.step B.has (k:=y.1) (l:=y.2) (by omega) y2 hnd;have hnx:=I.nx;have hbn:=B.nx;have hlt:=B.lt;have hne:=B.ne;have AGJ:=B.big;have AIx:it<g.next:=by omega
 have W0:=I.wf.put AIx (.pick bc (c0+i) (c0+cs.length) (some seen));have P0:=I.wf.AEn AIx (.pick bc (c0+i) (c0+cs.length) (some seen));have e1:g.bl.set it (.pick bc (c0+i) (c0+cs.length) (some seen))=some (g.bl.lay it (.pick bc (c0+i) (c0+cs.length) (some seen))):=BT.AEr fun j hj=>I.wf.has j (by omega)
 have lo0:(g.put it (.pick bc (c0+i) (c0+cs.length) (some seen))).low=min g.low it:=BW _ _;have hi0:(g.put it (.pick bc (c0+i) (c0+cs.length) (some seen))).high=max g.high it:=B3 _ _;have n0:(g.put it (.pick bc (c0+i) (c0+cs.length) (some seen))).next=g.next:=rfl;have eg:(⟨g.next,B8 g.low it,Cw g.high it,g.mark,g.bl.lay it (.pick bc (c0+i) (c0+cs.length) (some seen))⟩:Hp)=g.put it (.pick bc (c0+i) (c0+cs.length) (some seen)):=rfl;generalize g.put it (.pick bc (c0+i) (c0+cs.length) (some seen))=g0 at W0 P0 lo0 hi0 n0 eg;have e2:g0.bl.set it (.iter (some bc) (c0+cs.length) (seen++[c0+i]) (c0+cs.length))=some (g0.bl.lay it (.iter (some bc) (c0+cs.length) (seen++[c0+i]) (c0+cs.length))):=BT.AEr fun j hj=>W0.has j (by omega)
 have G2:∀ j,(g0.bl.lay it (.iter (some bc) (c0+cs.length) (seen++[c0+i]) (c0+cs.length))).get j=if j=it then .iter (some bc) (c0+cs.length) (seen++[c0+i]) (c0+cs.length)else g0.bl.get j:=BT.AE7 fun j hj=>W0.has j (by omega)
 have W2:(⟨g0.next,g0.low,g0.high,g0.mark,g0.bl.lay it (.iter (some bc) (c0+cs.length) (seen++[c0+i]) (c0+cs.length))⟩:Hp).Wf:=⟨W0.big,fun j hj=>BT.AFE (fun j hj=>W0.has j (by omega)) j (.inr (W0.has j hj)),fun j hj=>by
  have hj:g0.next<=j:=hj;show(g0.bl.lay _ _).get j=_;rw[G2,if_neg (by omega)];exact W0.fresh j hj⟩
 have AHE:g0.bl.get bc=.map (AES c0 cs) (c0+cs.length):=by rw[P0,if_neg (by omega),I.old bc (by omega) (by omega) hne.2];exact B.map
 have nxv:GS ⟨it,0,none⟩ g0=.ok (.tuple ⟨[.bool true,AI AT (y.1:Int),Di y.2]⟩) ⟨g0.next,g0.low,g0.high,g0.mark,g0.bl.lay it (.iter (some bc) (c0+cs.length) (seen++[c0+i]) (c0+cs.length))⟩:=by
  have hib:EM (g0.bl.get it)=.pick bc (c0+i) (c0+cs.length) (some seen):=by rw[P0,if_pos rfl];rfl
  have he:Bl g0 bc=.ok (AES c0 cs) (c0+cs.length):=by unfold Bl;rw[AHE];rfl
  have hp:Mp bc (c0+i) (c0+cs.length) (some seen)=.iter (some bc) (c0+cs.length) (seen++[c0+i]) (c0+cs.length):=by unfold Mp;simp only[RD]
  unfold GS;simp only[hib,he,Hz hi,hp,e2]
 have lo2:(⟨g0.next,g0.low,g0.high,g0.mark,g0.bl.lay it (.iter (some bc) (c0+cs.length) (seen++[c0+i]) (c0+cs.length))⟩:Hp).low=min g.low it:=lo0;have hi2:(⟨g0.next,g0.low,g0.high,g0.mark,g0.bl.lay it (.iter (some bc) (c0+cs.length) (seen++[c0+i]) (c0+cs.length))⟩:Hp).high=max g.high it:=hi0;have n2:(⟨g0.next,g0.low,g0.high,g0.mark,g0.bl.lay it (.iter (some bc) (c0+cs.length) (seen++[c0+i]) (c0+cs.length))⟩:Hp).next=g.next:=n0;have G2:∀ j,(⟨g0.next,g0.low,g0.high,g0.mark,g0.bl.lay it (.iter (some bc) (c0+cs.length) (seen++[c0+i]) (c0+cs.length))⟩:Hp).bl.get j=if j=it then .iter (some bc) (c0+cs.length) (seen++[c0+i]) (c0+cs.length)else g0.bl.get j:=G2
 generalize (⟨g0.next,g0.low,g0.high,g0.mark,g0.bl.lay it (.iter (some bc) (c0+cs.length) (seen++[c0+i]) (c0+cs.length))⟩:Hp)=g2 at W2 nxv lo2 hi2 n2 G2;have AGQ:∀ j,j≠it->g2.bl.get j=g.bl.get j:=fun j hj=>by rw[G2,if_neg hj,P0,if_neg hj]
 have env:=P6 (g:=g2) hi (G2 it |>.trans (if_pos rfl)) (by rw[G2,if_neg (by omega)];exact AHE);obtain⟨c1,c2⟩:=UE (e:=e);obtain⟨e',g',r1,r2,r3,r4,r5,r6,r7,r8,r9⟩:=QG (F:=F) (e:=Cz e fK.ws) (g:=g0) (g1:=g2) (it:=it) (bd:=bd) (bm:=bm) (bc:=bc) (n:=n) (k:=y.1) (l:=y.2) (T:=T) (arm:=arm) (dn:=dn) W2 (c1.trans s0) (c2.trans s21)
  (fun e he=>aB nxv he) (fun e he=>lX env he) (Mx B.disk (by rw[AGQ bd (by omega),I.old bd (by omega) (by omega) hne.1])) (by rw[AGQ bm (by omega)];exact t1) hs y1 y2 AGJ.1 (by omega)
 refine⟨g',?_,⟨r4,?_,.inr ⟨by simp,?_,?_⟩,?_,fun j h1 h2 h3=>?_,⟨T',done++[(y.1,y.2)],r6,ht',fun z=>?_⟩,?_⟩⟩
 ·unfold OJ
  show(match g.bl.set it (.pick bc (c0+i) (c0+cs.length) (some seen))with|some bl=>(match fB F (Cz e fK.ws) {next:=g.next,low:=B8 g.low it,high:=Cw g.high it,mark:=g.mark,bl:=bl}with|.norm _ h1=>some h1|_=>none)|none=>none)=_;rw[e1];simp only[eg,r1]
 ·rw[r5,n2,hnx,No];rfl
 ·rw[r8,lo2,n2]
  rcases I.lh with ⟨_,h2,_⟩|⟨_,h2,_⟩<;>omega
 ·rw[r9,hi2,n2,No]
  show _=h.next+(seen.length+1);rcases I.lh with ⟨_,_,h3⟩|⟨_,_,h3⟩<;>omega
 ·rw[r7 it (by omega) (by omega),G2,if_pos rfl]
 ·rw[r7 j (by omega) h3,AGQ j h2];exact I.old j h1 h2 h3
 ·constructor
  ·intro hz
   rcases yL.1 hz with hz|hz
   ·obtain⟨j,j1,j2⟩:=(t3 z).1 hz
    exact⟨j,j1,yX _ j2⟩
   ·obtain rfl:=yE.1 hz
    exact⟨i,hi,yR _ (yE.2 rfl)⟩
  ·rintro⟨j,j1,j2⟩
   rcases yL.1 j2 with j2|j2
   ·exact yX _ ((t3 z).2 ⟨j,j1,j2⟩)
   ·have:c0+j=c0+i:=yE.1 j2
    have:j=i:=by omega
    rw[this,hi]at j1;cases j1;exact yR _ (yE.2 rfl)
 ·have:=RK (seen:=seen) (cs:=cs) (c:=c0) hil hns
  have h2:=I.cnt;show(seen++[c0+i]).length+(AEi (seen++[c0+i]) (AES c0 cs)).length=_;rw[No,yg];omega
def FlR(h:Hp)(it bm n:Nat)(cs:List (Nat×List Nat))(Tz:VT)(r:Hp):Prop:=r.next=h.next+cs.length/\r.low=bm/\r.high+1=h.next+cs.length/\∀ i,r.bl.get i=if i=it\/h.next<=i then .dead else if i=bm then .cells Tz (64*n) 0 else h.bl.get i
theorem Uc{r:Hp}{Tz:VT}(B:FlB h it bd bm bc n c0 cs arm dn T0)(hz:AEx T0 cs Tz)(hR:FlR h it bm n cs Tz r)(h0:cs≠[])(s0:J 0 e=pt bd)(s21:J 21 e=pt it):∀ (m:Nat) (seen:List Nat) (g:Hp) (tr:Rds),FlI h it bm bc n c0 cs T0 seen g->(AEi seen (AES c0 cs)).length<m->Ku fK fB F e it (XO it h.next r) m g tr=true
 |0,_,_,_,_,hm=>absurd hm (Nat.not_lt_zero _)
 |m+1,seen,g,tr,I,hm=>by
  have hib:EM (g.bl.get it)=.ok (some bc) (c0+cs.length) seen (c0+cs.length):=by rw[I.itr];rfl
  have hlt:=B.lt;have hbn:=B.nx;have hnx:=I.nx;have hmap:g.bl.get bc=.map (AES c0 cs) (c0+cs.length):=by rw[I.old bc (by omega) (by omega) B.ne.2];exact B.map
  have he:Bl g bc=.ok (AES c0 cs) (c0+cs.length):=by unfold Bl;rw[hmap];rfl
  unfold Ku Nq;simp only[hib,he,zU,cond_true,K7 (yK c0) (IT (c0+cs.length))];cases hr:AEi seen (AES c0 cs)with
  |nil=>
   simp only;have hc:=I.cnt;rw[hr]at hc;have hc:seen.length=cs.length:=hc;have hlen:0<cs.length:=by
    cases cs with
    |nil=>exact absurd rfl h0
    |cons _ _=>exact AA4 _
   obtain⟨T,done,t1,t2,t3⟩:=I.med;have hT:T=Tz:=t2.uniq hz fun y=>by
    rw[t3 y];constructor
    ·rintro⟨i,hi,_⟩;exact xp hi
    ·intro hy
     obtain⟨i,hi⟩:=ABH.1 hy;refine⟨i,hi,?_⟩;apply AD7;intro hn;have h1:(⟨AI AT (y.1:Int),Di y.2,c0+i⟩:Ent)∈AES c0 cs:=(KH (Hz hi)).1;have:=Mv h1 hn;rw[hr]at this;cases this
   obtain⟨q1,q2,q3,q4⟩:=hR;rcases I.lh with ⟨h1,_,_⟩|⟨_,h2,h3⟩
   ·rw[h1]at hc
    have:0=cs.length:=hc;omega
   refine Ob.2 ⟨by rw[hnx,q1,hc],by rw[q2,BW,h2];omega,by rw[B3];omega,fun i=>?_⟩;rw[q4];by_cases c1:i=it\/h.next<=i
   ·rw[if_pos c1,if_pos c1]
   ·rw[if_neg c1,if_neg c1]
    by_cases c2:i=bm
    ·rw[if_pos c2,c2,t1,hT]
    ·rw[if_neg c2,I.old i (by omega) (by omega) c2]
  |cons y l=>
   simp only;rw[hr]at hm;refine Pe fun x hx=>?_
   rw[<- hr]at hx;obtain⟨h1,e1,I1⟩:=gb (F:=F) (e:=e) B I s0 s21 hx;rw[e1];refine Uc B hz hR h0 s0 s21 m _ h1 _ I1 ?_;have c1:=I1.cnt;have c2:=I.cnt;rw[hr]at c2;rw[No,yg]at c1;simp only[xY]at c2 hm;omega
end
end
noncomputable section
open Go
set_option maxRecDepth 100000
section
variable {F:AEA}{e:Env}{h g g1:Hp}{it bd bm bc n k c0:Nat}{l seen:List Nat}{T T0:VT}{M:List Nat}{cs:List (Nat×List Nat)}{arm:Int}{dn:Bool}
def K6:Nat->Hp->Hp
 |0,h=>h
 |k+1,h=>K6 k (h.push .dead)
theorem RC:∀ (k:Nat) {h:Hp} (W:h.Wf),(K6 k h).Wf/\(K6 k h).next=h.next+k/\∀ i,(K6 k h).bl.get i=h.bl.get i
 |0,h,W=>⟨W,rfl,fun _=>rfl⟩
 |k+1,h,W=>by
  obtain⟨a,b,c⟩:=RC k (W.push .dead);refine⟨a,?_,fun i=>?_⟩
  ·show(K6 k (h.push .dead)).next=_
   rw[b];show h.next+1+k=_;omega
  ·show(K6 k (h.push .dead)).bl.get i=_
   rw[c,W.AEZ];by_cases hi:i=h.next
   ·rw[if_pos hi,W.fresh i (by omega)]
   ·rw[if_neg hi]
theorem qX(B:FlB h it bd bm bc n c0 cs arm dn T0)(h0:cs≠[])(Tz:VT):∃ r,FlR h it bm n cs Tz r/\∀ i,i<r.next->r.bl.has i:=by
 have hbn:=B.nx;have hlt:=B.lt;have W1:=B.wf.put (b:=it) (by omega) .dead;have P1:=B.wf.AEn (b:=it) (by omega) .dead;have W2:=W1.put (b:=bm) (show bm<h.next by omega) (.cells Tz (64*n) 0);have P2:=W1.AEn (b:=bm) (show bm<h.next by omega) (.cells Tz (64*n) 0);obtain⟨a,b,c⟩:=RC cs.length W2;have hlen:0<cs.length:=by
  cases cs with
  |nil=>exact absurd rfl h0
  |cons _ _=>exact AA4 _
 refine⟨⟨h.next+cs.length,bm,h.next+cs.length - 1,0,(K6 cs.length ((h.put it .dead).put bm (.cells Tz (64*n) 0))).bl⟩,⟨rfl,rfl,by show h.next+cs.length - 1+1=_;omega,fun i=>?_⟩,fun i hi=>a.has i (by rw[b];exact hi)⟩;show(K6 cs.length ((h.put it .dead).put bm (.cells Tz (64*n) 0))).bl.get i=_;rw[c,P2,P1];by_cases c1:i=it
 ·rw[if_neg (by omega),if_pos c1,if_pos (.inl c1)]
 ·by_cases c2:h.next<=i
  ·rw[if_neg (by omega),if_neg c1,if_pos (.inr c2)]
   exact B.wf.fresh i c2
  ·rw[if_neg (by omega:¬ (i=it\/h.next<=i)),if_neg c1]
theorem ga(B:FlB h it bd bm bc n c0 cs arm dn T0){y z:Nat×List Nat}{rs:List (Nat×List Nat)}(hcs:cs=y::z::rs)(h60:cs.length<=60)(s0:J 0 e=pt bd)(s21:J 21 e=pt it):
  ∃ e' h',fW F e h=.exit 0 e' h'/\J 0 e'=pt bd/\h'.Wf/\h.next<=h'.next/\(∀ i,i<h.next->i≠it->i≠bm->h'.bl.get i=h.bl.get i)/\∃ T,h'.bl.get bm=.cells T (64*n) 0/\AEx T0 cs T/\∀ L,L<=h.low->L<=it->L<=bm->L<=h'.low:=by
 have hbn:=B.nx;have hlt:=B.lt;have AGJ:=B.big;have h0:cs≠[]:=by rw[hcs];exact fun h=>by cases h
 obtain⟨Tz,hz⟩:=AEx.all B.has cs [] T0 (.nil T0) B.sec B.key fun y _ z hz=>by cases hz
 have hz:AEx T0 cs Tz:=hz;obtain⟨r,hR,AH5⟩:=qX B h0 Tz;have W1:(⟨h.next,h.next,0,h.mark,h.bl⟩:Hp).Wf:=⟨B.wf.big,B.wf.has,B.wf.fresh⟩;have I0:FlI h it bm bc n c0 cs T0 [] ⟨h.next,h.next,0,h.mark,h.bl⟩:=⟨W1,rfl,.inl ⟨rfl,rfl,rfl⟩,B.itr,fun _ _ _ _=>rfl,⟨T0,[],B.med,.nil T0,fun y=>⟨fun h=>(by cases h),fun⟨_,_,h⟩=>by cases h⟩⟩,by rw[Kg,MB];exact If _⟩;have S:OP fK fB F e h it r:=⟨AH5,Uc B hz hR h0 s0 s21 64 [] _ [] I0 (by rw[Kg,MB];omega)⟩;obtain⟨q1,q2,q3,q4⟩:=hR;obtain⟨h',a1,a2,a3,a4,_,a6⟩:=ST B.wf S (by omega);have hib:EM (h.bl.get it)=.ok (some bc) (c0+cs.length) [] (c0+cs.length):=by rw[B.itr];rfl
 have he:Bl h bc=.ok (AES c0 cs) (c0+cs.length):=by unfold Bl;rw[B.map];rfl
 refine⟨Env.set 23 (.bool false) (Cz e fK.ws),h',?_,?_,a2,by rw[a3];omega,fun i h1 h2 h3=>?_,Tz,?_,hz,fun L h1 _ h3=>by rw[a6];omega⟩
 ·rw[lY]
  unfold I6;have AH9:J fK.it e=.pointer (some ⟨it,0,none⟩):=s21;have es:AES c0 cs=⟨AI AT (y.1:Int),Di y.2,c0⟩::⟨AI AT (z.1:Int),Di z.2,c0+1⟩::AES (c0+1+1) rs:=by rw[hcs];rfl
  rw[es]at he;have b2:xd 256 it=true:=Au.2 AGJ.2;simp only[AH9,hib,he,zU,cond_true,b2];exact a1
 ·obtain⟨c1,_⟩:=UE (e:=e)
  rw[AG (by decide) (by decide),if_neg (by decide),c1];exact s0
 ·rw[a4 i h1 h2,q4,if_neg (by omega),if_neg h3]
 ·rw[a4 bm (by omega) (by omega),q4,if_neg (by omega),if_pos rfl]
theorem qW(B:FlB h it bd bm bc n c0 cs arm dn T0){y:Nat×List Nat}(hcs:cs=[y])(s0:J 0 e=pt bd)(s21:J 21 e=pt it):
  ∃ e' h',fW F e h=.exit 0 e' h'/\J 0 e'=pt bd/\h'.Wf/\h.next<=h'.next/\(∀ i,i<h.next->i≠it->i≠bm->h'.bl.get i=h.bl.get i)/\∃ T,h'.bl.get bm=.cells T (64*n) 0/\AEx T0 cs T/\∀ L,L<=h.low->L<=it->L<=bm->L<=h'.low:=by
 have hbn:=B.nx;have hlt:=B.lt;have AGJ:=B.big;have hib:EM (h.bl.get it)=.ok (some bc) (c0+cs.length) [] (c0+cs.length):=by rw[B.itr];rfl
 have he:Bl h bc=.ok (AES c0 cs) (c0+cs.length):=by unfold Bl;rw[B.map];rfl
 have hi:cs[0]? =some y:=by rw[hcs];rfl
 obtain⟨y1,y2,y3⟩:=B.sec y (xp hi);obtain⟨T',hs,ht'⟩:=(AEx.nil T0).step B.has (k:=y.1) (l:=y.2) (by omega) y2 fun z hz=>by cases hz
 have es:AES c0 cs=[⟨AI AT (y.1:Int),Di y.2,c0⟩]:=by rw[hcs];rfl
 have hl1:cs.length=1:=by rw[hcs];rfl
 have hlf:K3 (c0+cs.length) [] [⟨AI AT (y.1:Int),Di y.2,c0⟩]=some [⟨AI AT (y.1:Int),Di y.2,c0⟩]:=by
  show(bif Nat.blt c0 (c0+cs.length)then some [_]else none)=_;rw[Bb.2 (by omega)];rfl
 have W2:=B.wf.put (b:=it) (by omega) (.iter (some bc) (c0+cs.length) [c0] (c0+cs.length));have P2:=B.wf.AEn (b:=it) (by omega) (.iter (some bc) (c0+cs.length) [c0] (c0+cs.length));have nxv:GS ⟨it,0,none⟩ h=.ok (.tuple ⟨[.bool true,AI AT (y.1:Int),Di y.2]⟩) (h.put it (.iter (some bc) (c0+cs.length) [c0] (c0+cs.length))):=by
  unfold GS;simp only[hib,he,es,hlf,cond_false];have:Jh c0 []=[c0]:=rfl;rw[this,EE B.wf AGJ.2 (by omega)]
 have n2:(h.put it (.iter (some bc) (c0+cs.length) [c0] (c0+cs.length))).next=h.next:=rfl;have lo2:(h.put it (.iter (some bc) (c0+cs.length) [c0] (c0+cs.length))).low=min h.low it:=BW _ _;generalize h.put it (.iter (some bc) (c0+cs.length) [c0] (c0+cs.length))=g2 at W2 P2 nxv n2 lo2;have AGQ:∀ j,j≠it->g2.bl.get j=h.bl.get j:=fun j hj=>by rw[P2,if_neg hj]
 have env:=P6 (g:=g2) (seen:=[]) (c0:=c0) (i:=0) hi (by rw[P2,if_pos rfl];rfl) (by rw[AGQ bc (by omega)];exact B.map);obtain⟨e',g',r1,r2,r3,r4,r5,r6,r7,r8,r9⟩:=QG (F:=F) (e:=e) (g:=h) (g1:=g2) (it:=it) (bd:=bd) (bm:=bm) (bc:=bc) (n:=n) (k:=y.1) (l:=y.2) (T:=T0) (arm:=arm) (dn:=dn) W2 s0 s21
  (fun e he=>aB nxv he) (fun e he=>lX env he) (Mx B.disk (AGQ bd (by omega))) ((AGQ bm (by omega)).trans B.med) hs y1 y2 AGJ.1 (by omega)
 have AIy:∀ j,j<h.next->j≠it->j≠bm->g'.bl.get j=h.bl.get j:=fun j h1 h2 h3=>by rw[r7 j (by omega) h3,AGQ j h2]
 have nx2:GS ⟨it,0,none⟩ g'=.ok (.tuple ⟨[.bool false]⟩) g':=by
  have hib:EM (g'.bl.get it)=.ok (some bc) (c0+cs.length) [c0] (c0+cs.length):=by rw[r7 it (by omega) (by omega),P2,if_pos rfl];rfl
  have he:Bl g' bc=.ok (AES c0 cs) (c0+cs.length):=by
   unfold Bl;rw[AIy bc (by omega) (by omega) B.ne.2,B.map];rfl
  have hlf:K3 (c0+cs.length) [c0] [⟨AI AT (y.1:Int),Di y.2,c0⟩]=some []:=by
   show(bif (bif xr c0 c0 then true else false)then some []else _)=_;rw[zU];rfl
  have hyg:FQ (c0+cs.length) [⟨AI AT (y.1:Int),Di y.2,c0⟩]=false:=by
   show(bif xd (c0+cs.length) c0 then true else false)=false;have:xd (c0+cs.length) c0=false:=by
    cases hb:xd (c0+cs.length) c0
    ·rfl
    ·have:=Au.1 hb;omega
   rw[this];rfl
  unfold GS;simp only[hib,he,es,hlf,hyg,cond_false];rfl
 have hb2:∃ e2,fB F e' g'=.exit 0 e2 g'/\J 0 e2=pt bd:=by
  have nn:=aB (F:=F) nx2 r3;unfold fB;simp only[sT,By,BY,reduceIte,nn,A8,BB];exact⟨_,rfl,by simp[AG,r2]⟩
 obtain⟨e2,b1,b2⟩:=hb2;refine⟨e2,g',?_,b2,r4,by omega,AIy,T',r6,by rw[hcs];exact ht',fun L h1 h2 h3=>by rw[r8];omega⟩;rw[lY];unfold I6;have AH9:J fK.it e=.pointer (some ⟨it,0,none⟩):=s21;rw[es]at he;simp only[AH9,hib,he];refine Bd (I:=fun i e1 h1=>(i=0/\e1=e/\h1=h)\/(i=1/\e1=e'/\h1=g')) (Q:=fun x=>x=.exit 0 e2 g') 1 (by omega) (fun i e1 h1 hI=>?_) (.inl ⟨rfl,rfl,rfl⟩);rcases hI with ⟨rfl,rfl,rfl⟩|⟨rfl,rfl,rfl⟩
 ·exact .inl ⟨by omega,e',g',r1,.inr ⟨rfl,rfl,rfl⟩⟩
 ·right
  rw[b1];exact⟨rfl,rfl⟩
theorem Zd{m:Nat}(W:h.Wf)(d:Dk h bd bm bc n M c0 cs arm false){k:Nat}(ha:CA arm (k+1))(hK:AGE cs)(hc:AFW n cs)(h0:cs≠[])(h60:cs.length<=60):
  ∃ h',call AC (m+3) 124 [pt bd] h=.ok (AI AT 0) h'/\Fx (fun b=>b=bd\/b=bm\/b=bc) h h'/\Dk h' bd bm bc n (Fy M cs) (c0+cs.length) [] (GB arm) false:=by
 have k1:=NA (m:=m) d (i:=0) (by have:=d.n1;omega);have k1:call AC (m+2) 133 [pt bd,AI AT 0] h=.ok (AI AT 0) h:=k1;obtain⟨h1,k2,f1,d1⟩:=VR (m:=m+1) W d ha;have c1:iNe 0 0=false:=CN rfl;obtain⟨_,l1,_,_⟩:=DF d1.disk;have hlt:=d1.lt f1.wf;have rg:∀ (F:AEA) (e:Env),J 20 e=.map (some bc)->Ka (J 20) F e h1=.ok (pt h1.next) (h1.push (.iter (some bc) (c0+cs.length) [] (c0+cs.length))):=fun F e he=>by
  have hen:Bl h1 bc=.ok (AES c0 cs) (c0+cs.length):=by unfold Bl;rw[d1.map];rfl
  unfold Ka;rw[he];simp only[hen];rw[C3 f1.wf];rfl
 have W2:=f1.wf.push (.iter (some bc) (c0+cs.length) [] (c0+cs.length));have P2:=f1.wf.AEZ (.iter (some bc) (c0+cs.length) [] (c0+cs.length));have x2:h1.Ext (h1.push (.iter (some bc) (c0+cs.length) [] (c0+cs.length))):=(Hp.Ext.refl f1.wf).push _;have n2:(h1.push (.iter (some bc) (c0+cs.length) [] (c0+cs.length))).next=h1.next+1:=rfl;generalize h1.push (.iter (some bc) (c0+cs.length) [] (c0+cs.length))=h2 at rg W2 P2 x2 n2;have d2:=d1.ext f1.wf x2;obtain⟨T0,t1,t2⟩:=d2.med;rw[OF,d2.len]at t1;have B:FlB h2 h1.next bd bm bc n c0 cs (GB arm) false T0:=⟨W2,n2,by rw[P2,if_pos rfl],d2.disk,t1,fun j hj=>(t2 j (by rw[OF,d2.len];exact hj)).1,d2.map,hlt,⟨d.bdm,fun h=>d.bmc h.symm⟩,⟨d.big.2.1,f1.wf.big⟩,hc,hK⟩;have sY:∀ (F:AEA) (e:Env),J 0 e=pt bd->J 21 e=pt h1.next->∃ e' h',fW F e h2=.exit 0 e' h'/\J 0 e'=pt bd/\h'.Wf/\h2.next<=h'.next/\(∀ i,i<h2.next->i≠h1.next->i≠bm->h'.bl.get i=h2.bl.get i)/\∃ T,h'.bl.get bm=.cells T (64 * n) 0/\AEx T0 cs T/\∀ L,L<=h2.low->L<=h1.next->L<=bm->L<=h'.low:=fun F e e1 e2=>by
  cases cs with
  |nil=>exact absurd rfl h0
  |cons y l=>
   cases l with
   |nil=>exact qW B rfl e1 e2
   |cons z l=>exact ga B rfl h60 e1 e2
 have pre:∃ e1,UQ (call AC (m+2)) (AS e0 0 [pt bd]) h=fS (call AC (m+2)) e1 h2/\J 0 e1=pt bd/\J 21 e1=pt h1.next:=by
  unfold UQ;simp only[iN,IS,sT,By,BY,reduceIte,cA0,k1,k2,AK,AJ,c1,Ax,Al,AH,AO,AN,AP,If,l1,rg];exact⟨_,rfl,by simp[AG]⟩
 obtain⟨e1,p1,p2,p3⟩:=pre;obtain⟨e3,h3,w1,w2,w3,w4,w5,T,w6,w7,w8⟩:=sY (call AC (m+2)) e1 p2 p3;have d3:h3.Row bd 0 (dkL bm bc n (GB arm) false):=Mx d2.disk (w5 bd (by omega) (by omega) d.bdm);have m3:h3.bl.get bc=.map (AES c0 cs) (c0+cs.length):=by rw[w5 bc (by omega) (by omega) (fun h=>d.bmc h.symm)];exact d2.map
 have r3:h3.Row bm 0 ((Fy M cs).map bv):=⟨T,by rw[w6,OF,GQ d.len hc],w7.is t2 d.len hc hK⟩;obtain⟨_,l3,_,_⟩:=DF d3;have cl:∀ (F:AEA) (e:Env),J 37 e=.map (some bc)->FO (J 37) F e h3=.ok AED (h3.put bc (.map [] (c0+cs.length))):=fun F e he=>by
  have hen:Bl h3 bc=.ok (AES c0 cs) (c0+cs.length):=by unfold Bl;rw[m3];rfl
  unfold FO;rw[he];simp only[hen];rw[EE w3 d.big.2.2 (by omega)];rfl
 have W4:=w3.put (b:=bc) (by omega) (.map [] (c0+cs.length));have P4:=w3.AEn (b:=bc) (by omega) (.map [] (c0+cs.length));have n4:(h3.put bc (.map [] (c0+cs.length))).next=h3.next:=rfl;have lo4:(h3.put bc (.map [] (c0+cs.length))).low=min h3.low bc:=BW _ _;generalize h3.put bc (.map [] (c0+cs.length))=h4 at cl W4 P4 n4 lo4;refine⟨h4,?_,⟨by have:=f1.next;omega,fun i hi hs=>?_,W4,fun L q1 q2 q3=>by
  have z1:=f1.low L q1 q2 fun b hb=>q3 b (.inl hb)
  have z2:=f1.next;have z3:=x2.low;have z4:=w8 L (by omega) (by omega) (q3 bm (.inr (.inl rfl)));have z5:=q3 bc (.inr (.inr rfl));omega⟩,⟨Mx d3 (by rw[P4,if_neg d.bdc]),Mx r3 (by rw[P4,if_neg d.bmc]),GQ d.len hc,QZ d.byt hc,by rw[P4,if_pos rfl];rfl,d.big,d.n1⟩⟩
 ·rw[eJ rfl,fa,p1,vA]
  simp only[BJ,Ay,w1,A7,BA];unfold fE;simp only[sT,By,BY,reduceIte,Ax,w2,Al,AH,AO,AN,AP,If,l3,cl,lV0]
 ·have hn:=f1.next
  rw[P4,if_neg (fun e=>hs (.inr (.inr e))),w5 i (by omega) (by omega) (fun e=>hs (.inr (.inl e))),x2.get i (by omega),f1.get i hi (fun e=>hs (.inl e))]
end
end
noncomputable section
open Go
set_option maxRecDepth 100000
structure Kt where
 a:Int
 b:Int
 c:Int
 s:Nat
 l:List Nat
 p:Nat
 u:IN
def AY(k:Kt):List IN:=[AI AT k.a,AI AT k.b,AI AT k.c,.int .u8 (k.s:Int),k.u,AI AT (k.p:Int)]
def ktV(k:Kt):IN:=.agg ⟨AY k⟩
def flK(ks:List Kt):List IN:=ks.flatMap AY
theorem CX:∀ ks:List Kt,(flK ks).length=6*ks.length
 |[]=>rfl
 |k::ks=>by
  show(AY k++flK ks).length=_;rw[No,CX ks,xY];show 6+_=_;omega
theorem JN(a b:List Kt):flK (a++b)=flK a++flK b:=List.flatMap_append
theorem Ub:∀ (ks:List Kt) (i:Nat) (k:Kt),ks[i]? =some k->((flK ks).drop (6*i)).take 6=AY k
 |[],i,k,h=>by cases h
 |x::ks,0,k,h=>by
  have h:some x=some k:=h;cases h;show((AY x++flK ks).drop 0).take 6=_;rw[yv];exact List.take_left' rfl
 |x::ks,i+1,k,h=>by
  rw[yj]at h;show((AY x++flK ks).drop (6*(i+1))).take 6=_;have:6*(i+1)=(AY x).length+6*i:=by show _=6+_;omega
  rw[this,List.drop_length_add_append];exact Ub ks i k h
def Hp.KS(h:Hp)(S:Nat->Prop)(v:IN)(ks:List Kt):Prop:=(v=.slice none 0 0/\ks=[])\/∃ b c el L,v=.slice (some ⟨b,0,none⟩) ks.length c/\ks.length<=c/\h.Row b el L/\6*ks.length<=L.length/\L.take (6*ks.length)=flK ks/\(el=124\/el=0)/\S b
section
variable {h h':Hp}{S S':Nat->Prop}{v:IN}{ks:List Kt}
theorem Hp.KS.keep(o:h.KS S v ks)(hk:∀ b el L,S b->h.Row b el L->h'.Row b el L):h'.KS S v ks:=by
 rcases o with h1|⟨b,c,el,L,h1,h2,h3,h4,h5,h6,h7⟩
 ·exact .inl h1
 ·exact .inr ⟨b,c,el,L,h1,h2,hk _ _ _ h7 h3,h4,h5,h6,h7⟩
theorem Hp.KS.ext(o:h.KS S v ks)(W:h.Wf)(x:h.Ext h'):h'.KS S v ks:=o.keep fun _ _ _ _ r=>r.ext W x
theorem Hp.KS.same(o:h.KS S v ks)(hb:h'.bl=h.bl):h'.KS S v ks:=o.keep fun _ _ _ _ r=>r.same hb
theorem Hp.KS.mono(o:h.KS S v ks)(hs:∀ b,S b->S' b):h.KS S' v ks:=by
 rcases o with h1|⟨b,c,el,L,h1,h2,h3,h4,h5,h6,h7⟩
 ·exact .inl h1
 ·exact .inr ⟨b,c,el,L,h1,h2,h3,h4,h5,h6,hs _ h7⟩
theorem Hp.KS.len(o:h.KS S v ks)(g:Hp):AEs v g=.ok (AI AT (ks.length:Int)) g:=by
 rcases o with ⟨rfl,rfl⟩|⟨b,c,el,L,rfl,_⟩<;>rfl
theorem Hp.KS.at(o:h.KS S v ks){i:Nat}{k:Kt}(hi:ks[i]? =some k):∃ b,S b/\AE2 6 v (AI AT (i:Int)) h=.ok (.pointer (some ⟨b,6*i,none⟩)) h/\loadN 6 ⟨b,6*i,none⟩ h=.ok (ktV k) h/\∀ j w,(AY k)[j]? =some w->AEC ⟨b,6*i+j,none⟩ h=.ok w h:=by
 have hil:=(yD.1 hi).1;rcases o with ⟨rfl,rfl⟩|⟨b,c,el,L,rfl,h2,h3,h4,h5,h6,h7⟩
 ·cases hi
 ·have hc:(L.drop (6*i)).take 6=AY k:=by
   have:=Ub ks i k hi;rw[<- h5,List.drop_take,ADH,ABk (by omega)]at this;exact this
  refine⟨b,h7,?_,?_,fun j w hj=>?_⟩
  ·have:=C6 (h:=h) (n:=ks.length) (c:=c) (es:=6) (b:=b) (off:=0) (i:=i) (k:=.i64) hil
   rwa [If,zT]at this
  ·rw[h3.loadN (by omega),hc];rfl
  ·have hj6:j<6:=(yD.1 hj).1
   rw[<- hc,zy,if_pos hj6,AAP]at hj;rw[h3.AEC (by omega),xV,hj];rfl
theorem Hp.KS.one(o:h.KS S v ks):cellsOf v=[v]/\oneCell v=true/\known v=true:=by
 rcases o with ⟨rfl,_⟩|⟨b,c,el,L,rfl,_⟩<;>exact⟨rfl,rfl,rfl⟩
end
def Hp.KW(h:Hp)(S:Nat->Prop)(v:IN)(ks:List Kt):Prop:=(v=.slice none 0 0/\ks=[])\/∃ b,v=.slice (some ⟨b,0,none⟩) ks.length ks.length/\h.Row b 124 (flK ks)/\S b
theorem Hp.KW.ks{h:Hp}{S:Nat->Prop}{v:IN}{ks:List Kt}(o:h.KW S v ks):h.KS S v ks:=by
 rcases o with h1|⟨b,h1,h2,h3⟩
 ·exact .inl h1
 ·exact .inr ⟨b,_,_,_,h1,IT _,h2,by rw[CX];omega,by rw[<- CX,zK],.inl rfl,h3⟩
theorem Hp.KS.ks{h:Hp}{S:Nat->Prop}{v:IN}{ks:List Kt}(o:h.KS S v ks):h.KS S v ks:=o
def Hp.WI(h:Hp)(S:Nat->Prop)(v:IN)(xs:List IN):Prop:=(v=.slice none 0 0/\xs=[])\/∃ b el,v=.slice (some ⟨b,0,none⟩) xs.length xs.length/\h.Row b el xs/\(el=4\/el=0)/\S b
theorem Hp.WI.keep{h h':Hp}{S:Nat->Prop}{v:IN}{xs:List IN}(o:h.WI S v xs)(hk:∀ b el L,S b->h.Row b el L->h'.Row b el L):h'.WI S v xs:=by
 rcases o with h1|⟨b,el,h1,h2,h3,h4⟩
 ·exact .inl h1
 ·exact .inr ⟨b,el,h1,hk _ _ _ h4 h2,h3,h4⟩
theorem Hp.WI.vals{h:Hp}{S:Nat->Prop}{v:IN}{xs:List IN}(o:h.WI S v xs):h.AEX v xs:=by
 rcases o with h1|⟨b,el,h1,h2,h3,h4⟩
 ·exact .inl h1
 ·exact .inr ⟨b,0,_,el,xs,h1,h2,by omega,by rw[yv,zK]⟩
def AGR(h:Hp)(S:Nat->Prop)(k:Kt):Prop:=h.BS S k.u (k.l.map bv)/\(∀ x∈k.l,x<256)/\k.l.length<=100/\(k.s=1\/k.s=2)/\AEP k.a k.b k.c k.s k.l.length=true/\k.p<65536
def slL(bd tb:Nat)(lv fv:IN)(bad:Nat)(ov:Bool):List IN:=[pt bd,pt tb,AI AT 100,lv,fv,AI AT (bad:Int),.bool ov]
structure At where
 bs:Nat
 bd:Nat
 bm:Nat
 bc:Nat
 tb:Nat
 n:Nat
abbrev At.D(A:At):Nat->Prop:=fun b=>b=A.bs\/b=A.bd\/b=A.bm\/b=A.bc
structure Sl (h:Hp)(A:At)(T M:List Nat)(c0:Nat)(arm:Int)(ks:List Kt)(fr:List Nat)(lv fv:IN)(bad:Nat)(ov:Bool):Prop where
 row:h.Row A.bs 0 (slL A.bd A.tb lv fv bad ov)
 dk:Dk h A.bd A.bm A.bc A.n M c0 [] arm false
 tab:h.Row A.tb 0 (T.map wv)
 tok:AE4 T
 ls:h.KS (fun b=>¬ A.D b) lv ks
 ko:∀ k∈ks,AGR h (fun b=>¬ A.D b) k
 fs:h.WI (fun b=>¬ A.D b) fv (ints .i64 (fr.map Int.ofNat))
 ne:A.bs≠A.bd/\A.bs≠A.bm/\A.bs≠A.bc/\¬ A.D A.tb/\256<=A.bs
 le:ks.length<=1000/\fr.length<=1000/\bad<=1000/\∀ p∈fr,3*p+3<=A.n
section
variable {F:AEA}{e:Env}{h h':Hp}{A:At}{T M:List Nat}{c0 bad m:Nat}{arm:Int}{ks:List Kt}{fr:List Nat}{lv fv:IN}{ov:Bool}
theorem Sl.keep(s:Sl h A T M c0 arm ks fr lv fv bad ov)(hr:∀ b el L,h.Row b el L->h'.Row b el L)(hm:h'.bl.get A.bc=h.bl.get A.bc):Sl h' A T M c0 arm ks fr lv fv bad ov:=
 ⟨hr _ _ _ s.row,⟨hr _ _ _ s.dk.disk,hr _ _ _ s.dk.med,s.dk.len,s.dk.byt,hm.trans s.dk.map,s.dk.big,s.dk.n1⟩,hr _ _ _ s.tab,s.tok,s.ls.keep fun _ _ _ _ r=>hr _ _ _ r,fun k hk=>⟨(s.ko k hk).1.keep fun _ _ _ _ _ r=>hr _ _ _ r,(s.ko k hk).2⟩,s.fs.keep fun _ _ _ _ r=>hr _ _ _ r,s.ne,s.le⟩
theorem Sl.ext(s:Sl h A T M c0 arm ks fr lv fv bad ov)(W:h.Wf)(x:h.Ext h'):Sl h' A T M c0 arm ks fr lv fv bad ov:=s.keep (fun _ _ _ r=>r.ext W x) (x.get _ (s.dk.lt W).2.2)
theorem Sl.same(s:Sl h A T M c0 arm ks fr lv fv bad ov)(hb:h'.bl=h.bl):Sl h' A T M c0 arm ks fr lv fv bad ov:=s.keep (fun _ _ _ r=>r.same hb) (by rw[hb])
theorem BD{bs bd tb:Nat}(R:h.Row bs 0 (slL bd tb lv fv bad ov)):AEC ⟨bs,0,none⟩ h=.ok (pt bd) h/\AEC ⟨bs,1,none⟩ h=.ok (pt tb) h/\AEC ⟨bs,2,none⟩ h=.ok (AI AT 100) h/\AEC ⟨bs,3,none⟩ h=.ok lv h/\AEC ⟨bs,4,none⟩ h=.ok fv h/\AEC ⟨bs,5,none⟩ h=.ok (AI AT (bad:Int)) h/\AEC ⟨bs,6,none⟩ h=.ok (.bool ov) h:=
 ⟨R.AEC (off:=0) (by show 0<7;omega),R.AEC (off:=1) (by show 1<7;omega),R.AEC (off:=2) (by show 2<7;omega),R.AEC (off:=3) (by show 3<7;omega),R.AEC (off:=4) (by show 4<7;omega),R.AEC (off:=5) (by show 5<7;omega),R.AEC (off:=6) (by show 6<7;omega)⟩
theorem vL{a b:Nat}(h1:a*b<=1000000000):GA Int.mul .i64 (AI AT (a:Int)) (AI AT (b:Int)) h=.ok (AI AT ((a*b:Nat):Int)) h:=by
 have:Int.mul (a:Int) (b:Int)=((a*b:Nat):Int):=(Int.natCast_mul a b).symm;rw[Cm,this,Bn (by omega)]
theorem Tk{a b:Nat}(h1:a+b<=1000000000):Fg .i64 (AI AT (a:Int)) (AI AT (b:Int)) h=.ok (AI AT ((a+b:Nat):Int)) h:=by
 have:(a:Int)+(b:Int)=((a+b:Nat):Int):=by omega
 rw[Ep,this,Bn (by omega)]
theorem OG:OE 100=3:=by decide
theorem NS{bs bd tb:Nat}(R:h.Row bs 0 (slL bd tb lv fv bad ov)){p:Nat}(hp:p<=65536):call AC (m+2) 100 [pt bs,AI AT (p:Int)] h=.ok (AI AT ((p*3:Nat):Int)) h:=by
 obtain⟨_,_,l2,_⟩:=BD R;have k1:=Vn (n:=m) (h:=h) (z:=100);rw[OG]at k1;have a1:=vL (h:=h) (a:=p) (b:=3) (by omega);rw[dy rfl];unfold eu;simp only[iN,IS,sT,By,BY,reduceIte,Ax,Al,AH,AO,If,AN,AP,l2,cA0,k1,B4,a1,lV0]
theorem Hj{f:OpF}{mm:Qm}{v:IN}(W:h.Wf)(hf:f F e h.quiet=.ok v h.quiet)(hm:h.mark<=h.next):Ae mm f F e h=.ok v (h.back h.quiet):=Ck hf (.refl W.quiet) hm
theorem ef{x y z:O}{b N k:Nat}(hx:x e=.slice (some ⟨b,0,none⟩) N N)(hy:y e=AI AT (k:Int))(hz:z e=AI AT (k:Int))(hk:k<=N):EB 5 1 x none (some y) (some z) F e h=.ok (.slice (some ⟨b,0,none⟩) k k) h:=by
 have hb:∀ (d:Nat) (y:O) (Y:Nat) (K:Nat->R),y e=AI AT (k:Int)->k<=Y->Cu e (some y) d Y K=K k:=fun d y Y K hy hY=>by
  show(match DZ (y e)with|.ok n=>(bif xd n Y then K n else .no)|.no=>.no)=_;rw[hy,DH];simp only;rw[Au.2 hY];rfl
 show(match x e with|.slice a n c=>Dc e n c none (some y) (some z) (fun l hh m=>EL 5 1 a true l hh m h)|_=>.no)=_;rw[hx];show Cu e (some z) N N (fun m=>Cu e (some y) N m fun hh=>Cu e none 0 hh fun l=>EL 5 1 (some ⟨b,0,none⟩) true l hh m h)=_;rw[hb _ _ _ _ hz hk,hb _ _ _ _ hy (IT _)];show Br (some ⟨b,0,none⟩) 1 0 k k h=_;unfold Br;simp only[Ap];cases k with
 |zero=>rfl
 |succ k=>rfl
theorem Y7{x y z:O}(hx:x e=.slice none 0 0)(hy:y e=AI AT ((0:Nat):Int))(hz:z e=AI AT ((0:Nat):Int)):EB 5 1 x none (some y) (some z) F e h=.ok (.slice none 0 0) h:=by
 show(match x e with|.slice a n c=>Dc e n c none (some y) (some z) (fun l hh m=>EL 5 1 a true l hh m h)|_=>.no)=_;rw[hx];show(match DZ (z e)with|.ok n=>(bif xd n 0 then(match DZ (y e)with|.ok n'=>(bif xd n' n then Br none 1 0 n' n h else .no)|.no=>.no)else .no)|.no=>.no)=_;rw[hy,hz];rfl
def dat(M:List Nat)(p k:Nat):List Nat:=(M.drop (64*(3*p+1))).take k
theorem ZL{M:List Nat}{n p i:Nat}(hM:M.length=64*n)(hi:3*p+1+i<n):dat M p (64*i)++sec M (3*p+1+i)=dat M p (64*(i+1)):=by
 unfold dat sec;have:M.drop (64*(3*p+1+i))=(M.drop (64*(3*p+1))).drop (64*i):=by rw[List.drop_drop];congr 1;omega
 rw[this,show 64*(i+1)=64*i+64 by omega,List.take_add]
theorem JE{M:List Nat}{n p k:Nat}(hM:M.length=64*n)(hk:64*(3*p+1)+k<=64*n):(dat M p k).length=k:=by
 unfold dat;rw[yM,yk];omega
theorem ZK{M:List Nat}(hb:∀ x∈M,x<256)(p k:Nat):∀ x∈dat M p k,x<256:=fun x hx=>hb x (AAm (zV hx))
theorem bH:reS=BI (Ab 0 (A3 reB)) reE:=rfl
theorem UG:fI=UH:=rfl
theorem Yj(W:h.Wf){bs bd bm bc tb n:Nat}(R:h.Row bs 0 (slL bd tb lv fv bad ov))(d:Dk h bd bm bc n M c0 [] arm false){p k:Nat}(hp:3*p+3<=n)(hk:k<=128):
  ∃ h' v,call AC (m+4) 113 [pt bs,AI AT (p:Int),AI AT (k:Int)] h=.ok (.tuple ⟨[v,AI AT 0]⟩) h'/\h.Ext h'/\h'.BS (fun b=>h.next<=b) v ((dat M p k).map bv):=by
 have hn:=d.n1;have pre:∃ e1,UH (call AC (m+3)) (AS e0 0 [pt bs,AI AT (p:Int),AI AT (k:Int)]) h=reS (call AC (m+3)) e1 h/\J 0 e1=pt bs/\J 1 e1=AI AT (p:Int)/\J 2 e1=AI AT (k:Int)/\J 8 e1=.slice none 0 0/\J 9 e1=AI AT ((0:Nat):Int):=by
  unfold UH;simp only[iN,IS,sT,By,BY,reduceIte];exact⟨_,rfl,by simp[AG]⟩
 obtain⟨e1,p1,s0,s1,s2,s8,s9⟩:=pre;have run:∃ e' h' v i,A3 reB (call AC (m+3)) e1 h=.exit 0 e' h'/\h.Ext h'/\h'.Own h.next 5 v ((dat M p (64*i)).map bv)/\k<=64*i/\i<=2/\J 8 e'=v/\J 2 e'=AI AT (k:Int):=by
  refine Bd (I:=fun i e' h'=>∃ v,h.Ext h'/\h'.Own h.next 5 v ((dat M p (64*i)).map bv)/\J 0 e'=pt bs/\J 1 e'=AI AT (p:Int)/\J 2 e'=AI AT (k:Int)/\J 8 e'=v/\J 9 e'=AI AT (i:Int)/\i<=2)
   (Q:=fun x=>∃ e' h' v i,x=.exit 0 e' h'/\h.Ext h'/\h'.Own h.next 5 v ((dat M p (64*i)).map bv)/\k<=64*i/\i<=2/\J 8 e'=v/\J 2 e'=AI AT (k:Int)) 2 (by omega) (fun i e' h' ⟨v,x',o',t0,t1,t2,t8,t9,hi⟩=>?_)
   ⟨_,.refl W,.inl ⟨rfl,rfl⟩,s0,s1,s2,s8,s9,by omega⟩
  have hdl:(dat M p (64*i)).length=64*i:=JE d.len (by omega);have ln:=o'.vals.bl h';rw[hdl]at ln;by_cases hlt:64*i<k
  ·left
   have hi1:i<2:=by omega
   have c1:iLt ((64*i:Nat):Int) (k:Int)=true:=EW hlt;have xm:=x'.marked;have Rm:=(R.ext W xm);have old:∀ (off:Nat) (kk:C) (F:AEA) (e:Env),Iq (.pointer (some ⟨bs,off,none⟩)) kk F e h'.marked=kk F e h'.marked:=fun off kk F e=>Dg (by
    show bs<h'.next;have:=R.lt W;have:=x'.next;omega)
   obtain⟨l0,_⟩:=BD Rm;have k1:=NS (m:=m+1) (Rm.same (h':=h'.marked.quiet) rfl) (p:=p) (by omega);have q1:∀ e:Env,J 0 e=pt bs->J 1 e=AI AT (p:Int)->Ae .weak (AU 100 [J 0,J 1]) (call AC (m+3)) e h'.marked=.ok (AI AT ((p*3:Nat):Int)) (h'.marked.back h'.marked.quiet):=fun e e1 e2=>by
    refine Hj x'.wf.marked ?_ (IT _);rw[BO,AV,AV,A2,e1,e2];exact k1
   have y2:h'.Ext (h'.marked.back h'.marked.quiet):=Hp.Ext.AFF (Hp.Ext.refl x'.wf).marked (Hp.Ext.refl x'.wf).marked.quiet;have n2:(h'.marked.back h'.marked.quiet).next=h'.next:=rfl;generalize h'.marked.back h'.marked.quiet=h2 at q1 y2 n2;have x2:=x'.trans y2;have a1:=CI (h:=h2) (i:=p * 3) (by omega);have a2:=Tk (h:=h2) (a:=p * 3+1) (b:=i) (by omega);obtain⟨h3,w,k2,y3,mk,n3,_⟩:=Va (m:=m) x2.quiet.wf ((d.ext W x2).same (h':=h2.quiet) rfl) (i:=p * 3+1+i) (by omega);have q2:∀ e:Env,J 22 e=pt bd->J 28 e=AI AT ((p * 3+1+i:Nat):Int)->Ae .free (AU 109 [J 22,J 28]) (call AC (m+3)) e h2=.ok (.tuple ⟨[w,AI AT 0]⟩) (h2.back h3):=fun e e1 e2=>by
    refine BL ?_;rw[BO,AV,AV,A2,e1,e2];exact k2
   have y4:h2.Ext (h2.back h3):=.back y3;have mk4:Mk (h2.back h3) h2.quiet.next w (sec M (p * 3+1+i)):=mk.same rfl;generalize h2.back h3=h4 at q2 y4 mk4;have x4:=x2.trans y4;have hsl:(sec M (p * 3+1+i)).length=64:=Jl d.len (by omega);obtain⟨h5,v5,k5,x5,o5,n5,fr5⟩:=En (eb:=1) (en:=5) (k:=h.next) x4 (IT _) x4.next ((o'.ext x'.wf y2).ext x2.wf y4) mk4.vals (by rw[OF,hsl];omega) (DV _) (by rw[OF,OF,hdl,hsl];omega);rw[<- List.map_append,show p * 3+1+i=3 * p+1+i by omega,ZL d.len (by omega)]at o5;have c2:iNe 0 0=false:=CN rfl;have a3:=CI (i:=i) (h:=h5) (by omega);have hrun:∃ e2,reB (call AC (m+3)) e' h'=.norm e2 h5/\J 0 e2=pt bs/\J 1 e2=AI AT (p:Int)/\J 2 e2=AI AT (k:Int)/\J 8 e2=v5/\J 9 e2=AI AT ((i+1:Nat):Int):=by
    unfold reB;simp only[sT,By,BY,reduceIte,Af,t8,ln,AK,AJ,t2,c1,A0,Ax,t0,Al,AH,AO,If,D5,old,DQ,AN,AP,l0,q1,t1,BM,a1,t9,a2,q2,A8,BB,BH,c2,BN,k5,a3];exact⟨_,rfl,by simp[AG,t0,t1,t2]⟩
   obtain⟨e2,r1,r2,r3,r4,r5,r6⟩:=hrun;exact⟨hi1,e2,h5,r1,v5,x5,o5,r2,r3,r4,r5,r6,by omega⟩
  ·right
   have c1:iLt ((64*i:Nat):Int) (k:Int)=false:=DD (by omega);have hrun:∃ e2,reB (call AC (m+3)) e' h'=.exit 0 e2 h'/\J 8 e2=v/\J 2 e2=AI AT (k:Int):=by
    unfold reB;simp only[sT,By,BY,reduceIte,Af,t8,ln,AK,AJ,t2,c1];exact⟨_,rfl,by simp[AG,t8,t2]⟩
   obtain⟨e2,r1,r2,r3⟩:=hrun;rw[r1];exact⟨rfl,e2,h',v,i,rfl,x',o',by omega,hi,r2,r3⟩
 obtain⟨e2,h2,v,i,r1,x2,o2,hk2,hi2,r2,r3⟩:=run;have hdl:(dat M p (64*i)).length=64*i:=JE d.len (by omega);have htk:(dat M p (64*i)).take k=dat M p k:=by
  unfold dat;rw[ADH,ABk hk2]
 have hdk:(dat M p k).length=k:=JE d.len (by omega);rcases o2 with ⟨rfl,hx⟩|⟨b,rfl,R2,hb,AEK⟩
 ·have h0:64*i=0:=by
   have:=congrArg List.length hx;rw[OF,hdl]at this;exact this
  obtain rfl:k=0:=by omega
  have ct:∀ e:Env,J 8 e=.slice none 0 0->J 2 e=AI AT ((0:Nat):Int)->EB 5 1 (J 8) none (some (J 2)) (some (J 2)) (call AC (m+3)) e h2=.ok (.slice none 0 0) h2:=fun e e1 e2=>Y7 e1 e2 e2
  refine⟨h2,.slice none 0 0,?_,x2,.inl ⟨rfl,?_⟩⟩
  ·rw[Tu rfl,UG,p1,bH]
   simp only[BJ,Ay,r1,A7,BA];unfold reE;simp only[sT,By,BY,reduceIte,ct,r2,r3,BG,DR]
  ·unfold dat;rfl
 ·rw[OF,hdl]at r2
  have ct:∀ e:Env,J 8 e=.slice (some ⟨b,0,none⟩) (64*i) (64*i)->J 2 e=AI AT (k:Int)->EB 5 1 (J 8) none (some (J 2)) (some (J 2)) (call AC (m+3)) e h2=.ok (.slice (some ⟨b,0,none⟩) k k) h2:=fun e e1 e2=>ef e1 e2 e2 hk2
  refine⟨h2,.slice (some ⟨b,0,none⟩) k k,?_,x2,.inr ⟨b,0,k,6,_,by rw[OF,hdk],by rw[OF,hdk];exact IT _,R2,by rw[OF,OF,hdk,hdl];omega,?_,hb,.inr rfl⟩⟩
  ·rw[Tu rfl,UG,p1,bH]
   simp only[BJ,Ay,r1,A7,BA];unfold reE;simp only[sT,By,BY,reduceIte,ct,r2,r3,BG,DR]
  ·rw[OF,hdk,yv,<- List.map_take,htk]
end
end
noncomputable section
open Go
set_option maxRecDepth 100000
abbrev f86:IN:=.func (.func 111) ⟨[]⟩ ⟨[]⟩
theorem XB{n:Nat}{h:Hp}{c:Nat}:call AC (n+1) 111 [.int .u8 (c:Int)] h=.ok (.bool (iNe (c:Int) 0)) h:=by
 rw[eB rfl];unfold fG;simp only[iN,IS,sT,By,BY,reduceIte,AK,AJ,lV0]
theorem Zm{n:Nat}{h:Hp}{u:IN}{l:List Nat}(V:h.AEX u (l.map bv))(hl:l.length<=900000){e:Env}(s0:J 0 e=u)(s1:J 1 e=f86)(s7:J 7 e=AI AT (l.length:Int))(s8:J 8 e=AI AT ((0:Nat):Int)):
  (∃ e',A3 ifB (call AC (n+1)) e h=.exit 0 e' h/\∀ x∈l,x=0)\/(∃ e' i,A3 ifB (call AC (n+1)) e h=.ret e' h/\J 4 e'=AI AT ((i:Nat):Int)/\∃ x∈l,x≠0):=by
 refine Bd (I:=fun i e' h'=>h'=h/\J 0 e'=u/\J 1 e'=f86/\J 7 e'=AI AT (l.length:Int)/\J 8 e'=AI AT (i:Int)/\i<=l.length/\((∀ x∈l,x=0)↔∀ x∈l.drop i,x=0))
  (Q:=fun x=>(∃ e',x=.exit 0 e' h/\∀ x∈l,x=0)\/(∃ e' i,x=.ret e' h/\J 4 e'=AI AT ((i:Nat):Int)/\∃ x∈l,x≠0)) l.length (by omega) (fun i e' h' ⟨hh,t0,t1,t7,t8,hi,hr⟩=>?_) ⟨rfl,s0,s1,s7,s8,yK _,by simp⟩
 subst hh;by_cases hlt:i<l.length
 ·obtain⟨a,g1,g2⟩:=Iz V hlt
  have hmem:l.getD i 0∈l:=by
   rw[xV,sh hlt];exact List.getElem_mem hlt
  rw[GJ hlt]at hr;generalize l.getD i 0=c at g2 hr hmem;have c1:=EW hlt;have k1:=XB (n:=n) (h:=h') (c:=c);by_cases hc:c=0
  ·left
   subst hc;have k1:call AC (n+1) 111 [.int .u8 ((0:Nat):Int)] h'=.ok (.bool false) h':=k1;have a3:=CI (i:=i) (h:=h') (by omega);have hrun:∃ e2,ifB (call AC (n+1)) e' h'=.norm e2 h'/\J 0 e2=u/\J 1 e2=f86/\J 7 e2=AI AT (l.length:Int)/\J 8 e2=AI AT ((i+1:Nat):Int):=by
    unfold ifB;simp only[sT,By,BY,reduceIte,AK,AJ,t8,t7,c1,A9,t0,g1,AN,g2,CV,t1,Co,AV,A2,yU,xx,k1,BM,a3];exact⟨_,rfl,by simp[AG,t0,t1,t7]⟩
   obtain⟨e2,q1,q2,q3,q4,q5⟩:=hrun;refine⟨hlt,e2,h',q1,rfl,q2,q3,q4,q5,hlt,hr.trans ?_⟩;simp
  ·right
   have c2:iNe (c:Int) 0=true:=by rw[HU];simpa using hc
   rw[c2]at k1;have hrun:∃ e2,ifB (call AC (n+1)) e' h'=.ret e2 h'/\J 4 e2=AI AT (i:Int):=by
    unfold ifB;simp only[sT,By,BY,reduceIte,AK,AJ,t8,t7,c1,A9,t0,g1,AN,g2,CV,t1,Co,AV,A2,yU,xx,k1];exact⟨_,rfl,by simp[AG]⟩
   obtain⟨e2,q1,q2⟩:=hrun;rw[q1];exact⟨rfl,.inr ⟨e2,i,rfl,q2,c,hmem,hc⟩⟩
 ·right
  have c1:=DD (show l.length<=i by omega);have hrun:∃ e2,ifB (call AC (n+1)) e' h'=.exit 0 e2 h':=by
   unfold ifB;simp only[sT,By,BY,reduceIte,AK,AJ,t8,t7,c1];exact⟨_,rfl⟩
  obtain⟨e2,q1⟩:=hrun;rw[q1];refine⟨rfl,.inl ⟨e2,rfl,hr.2 ?_⟩⟩;rw[List.drop_of_length_le (by omega)];intro x hx;cases hx
theorem SG{n:Nat}{h:Hp}{u:IN}{l:List Nat}(V:h.AEX u (l.map bv))(hl:l.length<=900000):∃ r:Bool,call AC (n+3) 110 [u,f86] h=.ok (.bool r) h/\(r=true↔∃ x∈l,x≠0):=by
 have Vl:=V.bl h;have pre:∃ e1,NZ (call AC (n+1)) (AS e0 0 [u,f86]) h=ifS (call AC (n+1)) e1 h/\J 0 e1=u/\J 1 e1=f86/\J 7 e1=AI AT (l.length:Int)/\J 8 e1=AI AT ((0:Nat):Int):=by
  unfold NZ;simp only[iN,IS,sT,By,BY,reduceIte,Af,Vl];exact⟨_,rfl,by simp[AG]⟩
 obtain⟨e1,p1,p2,p3,p4,p5⟩:=pre;rcases Zm (n:=n) V hl p2 p3 p4 p5 with ⟨e2,q1,q2⟩|⟨e2,i,q1,q2,q3⟩
 ·have k1:call AC (n+2) 134 [u,f86] h=.ok (AI AT (-1)) h:=by
   rw[LT rfl,LU,p1,Oo];simp only[BJ,Ay,q1,A7,BA];unfold ifE;simp only[sT,By,BY,reduceIte,lV0]
  refine⟨false,?_,by simp;exact q2⟩;have c1:iGe (-1) 0=false:=EY (by omega);rw[LS rfl];unfold SV;simp only[iN,IS,sT,By,BY,reduceIte,cA0,k1,AK,AJ,c1,lV0]
 ·have k1:call AC (n+2) 134 [u,f86] h=.ok (AI AT (i:Int)) h:=by
   rw[LT rfl,LU,p1,Oo];simp only[BJ,Ay,q1,CM,C8,lV0,q2]
  refine⟨true,?_,by simp only[true_iff];exact q3⟩;have c1:iGe (i:Int) 0=true:=Fs (by omega);rw[LS rfl];unfold SV;simp only[iN,IS,sT,By,BY,reduceIte,cA0,k1,AK,AJ,c1,lV0]
def K0:Kt:=⟨0,0,0,0,[],0,.slice none 0 0⟩
theorem cT:Dj.zero=AY K0:=by kernel_rfl
theorem E9:Bt .mt 0 (AY K0)=some CR:=by kernel_rfl
section
variable {F:AEA}{e:Env}{h g:Hp}{T M:List Nat}{c0 bad m:Nat}{arm:Int}{lv fv:IN}{ov:Bool}
theorem Ee{h:Hp}{t u v w:IN}{l:List IN}:GK 3 (.tuple ⟨t::u::v::w::l⟩) h=.ok w h:=rfl
theorem J7:BC Dj.zero [] F e h=.ok (ktV K0) h:=by
 rw[CQ,Bu,cT];rfl
theorem Tp{a b c:Int}{s p:Nat}{u:IN}{l:List Nat}{g1 g2:O}(h1:g1 e=Bk a b c s u)(h2:g2 e=AI AT (p:Int)):BC Dj.zero [(0,5,g1),(5,1,g2)] F e h=.ok (ktV ⟨a,b,c,s,l,p,u⟩) h:=by
 rw[CQ,cT,As (hk:=by rw[h1];rfl),h1,As (hk:=by rw[h2];rfl),h2,
  if_pos (show(cellsOf (Bk a b c s u)).length=5 from rfl),if_pos (show 0+5<=(AY K0).length by show 5<=6;omega),if_pos (show(cellsOf (AI AT (p:Int))).length=1 from rfl),if_pos (show 5+1<=(over (AY K0) 0 (cellsOf (Bk a b c s u))).length by show 6<=6;omega),Bu]
 rfl
theorem Kf(W0:h.Wf)(x:h.Ext g){r:Nat}(hr:h.next<=r){L:List IN}(R:g.Row r 0 L)(hL:L.length=6){k:Kt}(hu:oneCell k.u=true):
  AEH 6 (pt r) (ktV k) g=.ok AED (g.wr r 0 (AY k))/\loadN 6 ⟨r,0,none⟩ (g.wr r 0 (AY k))=.ok (ktV k) (g.wr r 0 (AY k))/\h.Ext (g.wr r 0 (AY k))/\(g.wr r 0 (AY k)).Row r 0 (AY k)/\(g.wr r 0 (AY k)).next=g.next:=by
 have AEK:256<=r:=by have:=W0.big;omega
 have ho:0+(AY k).length<=L.length:=by rw[hL];show 0+6<=6;omega
 have h1:Ba (AY k)=true:=by
  show(bif oneCell k.u then true else false)=true;rw[hu];rfl
 have st:=R.AEH (n:=6) (off:=0) x.wf AEK (v:=ktV k) rfl ho h1;have wr:=R.AEM x.wf ho;rw[Em (show L.length=(AY k).length from hL)]at wr;exact⟨st,wr.loadN (off:=0) (n:=6) (by show 0+6<=6;omega),R.AEe x hr ho,wr,R.AEo ho⟩
def G4(T M:List Nat)(p:Nat)(ns:List Nat):Prop:=LC T (sec M (3*p)) ns/\at6 ns 4<=100/\CD T (dat M p (at6 ns 4))=at6 ns 5
theorem O5:lkB=Xb:=rfl
theorem qA:d73=XL:=rfl
theorem xI{e:Env}{h:Hp}{r4:Nat}{v:IN}{a b:Bool}{c:Int}(s4:J 4 e=pt r4)(s5:J 5 e=.bool a)(s6:J 6 e=.bool b)(s7:J 7 e=AI AT c)(hv:loadN 6 ⟨r4,0,none⟩ h=.ok v h):A5 [.cN (J 4) 6,.t (J 5),.t (J 6),.t (J 7)] (.ret e h)=.ok (.tuple ⟨[v,.bool a,.bool b,AI AT c]⟩) h:=by
 rw[BG,KI (v:=v) (by rw[s4,Am];exact hv),s5,s6,s7]
def ly(T M:List Nat)(p:Nat)(h h':Hp)(r:R):Prop:=
 (∃ ns u,G4 T M p ns/\r=.ok (.tuple ⟨[ktV ⟨at6 ns 1,at6 ns 2,at6 ns 3,at6 ns 0,dat M p (at6 ns 4),p,u⟩,.bool true,.bool false,AI AT 0]⟩) h'/\h'.BS (fun b=>h.next<=b) u ((dat M p (at6 ns 4)).map bv))\/
 ((¬ ∃ ns,G4 T M p ns)/\∃ bad:Bool,r=.ok (.tuple ⟨[ktV K0,.bool false,.bool bad,AI AT 0]⟩) h'/\(bad=true↔(∃ x∈sec M (3*p),x≠0)\/∃ ns,LC T (sec M (3*p)) ns/\at6 ns 4<=100))
theorem GT{T l a b:List Nat}(h1:LC T l a)(h2:LC T l b):a=b:=by
 obtain⟨x,q,a1,a2,a3,_⟩:=h1;obtain⟨y,r,b1,b2,b3,_⟩:=h2;rw[a1]at b1;cases b1;rw[a3]at b3;cases b3;rfl
theorem Q5{T l ns:List Nat}(h:LC T l ns):jA ns:=by
 obtain⟨_,_,_,_,_,h4,_⟩:=h;exact jB.1 h4
theorem VA(W:h.Wf){bs bd bm bc tb n:Nat}(R:h.Row bs 0 (slL bd tb lv fv bad ov))(Rt:h.Row tb 0 (T.map wv))(hT:AE4 T)(d:Dk h bd bm bc n M c0 [] arm false){p:Nat}(hp:3*p+3<=n):
  ∃ h',h.Ext h'/\ly T M p h h' (call AC (m+5) 73 [pt bs,AI AT (p:Int)] h):=by
 have hn:=d.n1;have al:=fun (F:AEA) (e:Env)=>BQ (F:=F) (e:=e) W (n:=6) (t:=CR)
 have R4:=Hp.Row.alloc W E9 (show(AY K0).length=6 from rfl);have x1:h.Ext (h.push (.cells CR 6 0)):=(Hp.Ext.refl W).push _;have n1:(h.push (.cells CR 6 0)).next=h.next+1:=rfl;generalize h.push (.cells CR 6 0)=h1 at al R4 x1 n1;have xm:=x1.marked;have Rm:=R.ext W xm;have old:∀ (off:Nat) (kk:C) (F:AEA) (e:Env),Iq (.pointer (some ⟨bs,off,none⟩)) kk F e h1.marked=kk F e h1.marked:=fun off kk F e=>Dg (by
  show bs<h1.next;have:=R.lt W;omega)
 obtain⟨l0,_⟩:=BD Rm;have k1:=NS (m:=m+2) (Rm.same (h':=h1.marked.quiet) rfl) (p:=p) (by omega);have q1:∀ e:Env,J 0 e=pt bs->J 1 e=AI AT (p:Int)->Ae .weak (AU 100 [J 0,J 1]) (call AC (m+4)) e h1.marked=.ok (AI AT ((p*3:Nat):Int)) (h1.marked.back h1.marked.quiet):=fun e e1 e2=>by
  refine Hj x1.wf.marked ?_ (IT _);rw[BO,AV,AV,A2,e1,e2];exact k1
 have y2:h1.Ext (h1.marked.back h1.marked.quiet):=Hp.Ext.AFF (Hp.Ext.refl x1.wf).marked (Hp.Ext.refl x1.wf).marked.quiet;have n2:(h1.marked.back h1.marked.quiet).next=h1.next:=rfl;generalize h1.marked.back h1.marked.quiet=h2 at q1 y2 n2;have x2:=x1.trans y2;obtain⟨h3,v,k2,y3,mk,n3,_⟩:=Va (m:=m+1) x2.quiet.wf ((d.ext W x2).same (h':=h2.quiet) rfl) (i:=p * 3) (by omega);have q2:∀ e:Env,J 19 e=pt bd->J 22 e=AI AT ((p * 3:Nat):Int)->Ae .free (AU 109 [J 19,J 22]) (call AC (m+4)) e h2=.ok (.tuple ⟨[v,AI AT 0]⟩) (h2.back h3):=fun e e1 e2=>by
  refine BL ?_;rw[BO,AV,AV,A2,e1,e2];exact k2
 have y4:h2.Ext (h2.back h3):=.back y3;have mk4:Mk (h2.back h3) h2.quiet.next v (sec M (p * 3)):=mk.same rfl;generalize h2.back h3=h4 at q2 y4 mk4;rw[zT p 3]at mk4;have x4:=x2.trans y4;have c0':iNe 0 0=false:=CN rfl;have hsl:(sec M (3 * p)).length=64:=Jl d.len (by omega);have hsb:=sE d.byt (3 * p);obtain⟨r,k3,hr⟩:=SG (n:=m+1) mk4.vals (by omega);obtain⟨_,l1,_⟩:=BD (R.ext W x4);obtain⟨h5,y5,hpar⟩:=au (n:=m) x4.wf (Rt.ext W x4) hT mk4.vals mk4.cap hsb (by omega);have x5:=x4.trans y5;have al2:=fun (F:AEA) (e:Env)=>BQ (F:=F) (e:=e) x5.wf (n:=5) (t:=DL)
 have R11:=Hp.Row.alloc x5.wf Ew (show(A4 0 0 0 0 AEF).length=5 from rfl);have y6:h5.Ext (h5.push (.cells DL 5 0)):=(Hp.Ext.refl x5.wf).push _;have n6:(h5.push (.cells DL 5 0)).next=h5.next+1:=rfl;generalize h5.push (.cells DL 5 0)=h6 at al2 R11 y6 n6;have x6:=x5.trans y6;have hn5:=x5.next;have AKo:h.next+1<=h5.next:=by
  have:=((y2.trans y4).trans y5).next;omega
 have pre:∀ (a b c:Int) (s many sum:Nat) (ok:Bool),call AC (m+4) 112 [pt tb,v] h4=.ok (.tuple ⟨[Bk a b c s AEF,AI AT (many:Int),.int .u32 (sum:Int),.bool ok]⟩) h5->
   ∃ e1 h7,XL (call AC (m+4)) (AS e0 0 [pt bs,AI AT (p:Int)]) h=lkB (call AC (m+4)) e1 h7/\h.Ext h7/\h7.Row h5.next 0 (A4 a b c s AEF)/\h7.Row h.next 0 (AY K0)/\h5.next<h7.next/\J 0 e1=pt bs/\J 1 e1=AI AT (p:Int)/\J 4 e1=pt h.next/\J 10 e1=.bool (!r)/\J 11 e1=pt h5.next/\J 12 e1=AI AT (many:Int)/\J 13 e1=.int .u32 (sum:Int)/\J 14 e1=.bool ok:=fun a b c s many sum ok hk=>by
  obtain⟨st,_,x7,R7,n7⟩:=LN x5.wf y6 (IT _) R11 rfl (a:=a) (b:=b) (c:=c) (s:=s) (u:=AEF) rfl;have R4':(h6.wr h5.next 0 (A4 a b c s AEF)).Row h.next 0 (AY K0):=((R4.ext x1.wf ((y2.trans y4).trans y5)).ext x5.wf x7);generalize h6.wr h5.next 0 (A4 a b c s AEF)=h7 at st x7 R7 n7 R4';have hrun:∃ e1,XL (call AC (m+4)) (AS e0 0 [pt bs,AI AT (p:Int)]) h=lkB (call AC (m+4)) e1 h7/\J 0 e1=pt bs/\J 1 e1=AI AT (p:Int)/\J 4 e1=pt h.next/\J 10 e1=.bool (!r)/\J 11 e1=pt h5.next/\J 12 e1=AI AT (many:Int)/\J 13 e1=.int .u32 (sum:Int)/\J 14 e1=.bool ok:=by
   unfold XL;simp only[iN,IS,sT,By,BY,reduceIte,al,A0,Ax,Al,AH,AO,If,D5,old,DQ,AN,AP,l0,q1,q2,A8,BB,BH,Cv,Ee,AK,AJ,c0',cA0,k3,BZ,BX,l1,hk,al2,AX,st];exact⟨_,rfl,by simp[AG]⟩
  obtain⟨e1,q⟩:=hrun;exact⟨e1,h7,q.1,x5.trans x7,R7,R4',by omega,q.2⟩
 have res:∀ (hx g:Hp) (e1 e2:Env) (a b:Bool) (v:IN),XL (call AC (m+4)) (AS e0 0 [pt bs,AI AT (p:Int)]) h=lkB (call AC (m+4)) e1 hx->lkB (call AC (m+4)) e1 hx=.ret e2 g->J 4 e2=pt h.next->J 5 e2=.bool a->J 6 e2=.bool b->J 7 e2=AI AT 0->loadN 6 ⟨h.next,0,none⟩ g=.ok v g->
   call AC (m+5) 73 [pt bs,AI AT (p:Int)] h=.ok (.tuple ⟨[v,.bool a,.bool b,AI AT 0]⟩) g:=fun hx g e1 e2 a b v i1 i2 t4 t5 t6 t7 hv=>by
  rw[pD rfl,qA,i1,i2];exact xI t4 t5 t6 t7 hv
 have K0u:oneCell K0.u=true:=rfl;rcases hpar with ⟨ns,hP,hk⟩|⟨hP,hk⟩
 ·have AHY:=Q5 hP
  obtain⟨e1,h7,p1,x7,R7,R47,AJp,s0,s1,s4,s10,s11,s12,s13,s14⟩:=pre _ _ _ _ (at6 ns 4) (at6 ns 5) true hk;obtain⟨_,_,l2,_⟩:=BD (R.ext W x7);by_cases AGL:at6 ns 4<=100
  ·have c1:iGt (at6 ns 4:Int) 100=false:=Ft (by omega)
   obtain⟨h8,u,k4,y8,vs8⟩:=Yj (m:=m) x7.wf (R.ext W x7) (d.ext W x7) (p:=p) (k:=at6 ns 4) hp (by omega);have x8:=x7.trans y8;have R8:=R7.ext x7.wf y8;have u1:=vs8.vs.one;have ho4:4+(cellsOf u).length<=(A4 (at6 ns 1) (at6 ns 2) (at6 ns 3) (at6 ns 0) AEF).length:=by rw[u1.1];show 4+1<=5;omega
   have AEK:256<=h5.next:=by have:=W.big;omega
   have st8:AEH 1 (.pointer (some ⟨h5.next,4,none⟩)) u h8=.ok AED (h8.wr h5.next 4 (cellsOf u)):=R8.AEH (n:=1) (off:=4) x8.wf AEK (by rw[u1.1];rfl) ho4 (by
    rw[u1.1];show(bif oneCell u then true else false)=true;rw[u1.2.1];rfl)
   have R9:=R8.AEM x8.wf ho4;have x9:=R8.AEe x8 (by omega) ho4;have n9:=R8.AEo ho4;have R49:=R8.AFI x8.wf ho4 (R47.ext x7.wf y8) (by omega);have hkeep:∀ b el L,b≠h5.next->h8.Row b el L->(h8.wr h5.next 4 (cellsOf u)).Row b el L:=fun b el L hb r=>R8.AFI x8.wf ho4 r hb
   have hov:over (A4 (at6 ns 1) (at6 ns 2) (at6 ns 3) (at6 ns 0) AEF) 4 (cellsOf u)=A4 (at6 ns 1) (at6 ns 2) (at6 ns 3) (at6 ns 0) u:=by rw[u1.1];rfl
   rw[hov]at R9;have vs9:(h8.wr h5.next 4 (cellsOf u)).BS (fun b=>h7.next<=b) u ((dat M p (at6 ns 4)).map bv):=vs8.keep fun b el L hb _ r=>hkeep b el L (by omega) r
   generalize h8.wr h5.next 4 (cellsOf u)=h9 at st8 R9 x9 n9 R49 vs9;have x9m:=x9.marked;have R9m:h9.marked.Row h5.next 0 (A4 (at6 ns 1) (at6 ns 2) (at6 ns 3) (at6 ns 0) u):=R9.same rfl;obtain⟨_,_,_,_,lu,_⟩:=Bh R9m;obtain⟨_,l1',_⟩:=BD (R.ext W x9m);have hdl:(dat M p (at6 ns 4)).length=at6 ns 4:=JE d.len (by omega);obtain⟨hq,k5,hq2⟩:=TN (n:=m+3) (h:=h9.marked.quiet) ((Rt.ext W x9).same rfl) hT (vs9.vs.vals.same (h':=h9.marked.quiet) rfl) (ZK d.byt p _) (by omega);have yq:h9.marked.quiet.Ext hq:=by
    rcases hq2 with rfl|rfl
    ·exact Hp.Ext.refl x9m.quiet.wf
    ·exact(Hp.Ext.refl x9m.quiet.wf).marked
   have nq:hq.next=h9.next:=by rcases hq2 with rfl|rfl<;>rfl
   have q5:∀ e:Env,J 72 e=pt tb->J 74 e=u->Ae .free (AU 48 [J 72,J 74]) (call AC (m+4)) e h9.marked=.ok (.int .u32 ((CD T (dat M p (at6 ns 4)):Nat):Int)) (h9.marked.back hq):=fun e e1 e2=>by
    refine BL ?_;rw[BO,AV,AV,A2,e1,e2];exact k5
   have y10:h9.marked.Ext (h9.marked.back hq):=.back yq;have n10:(h9.marked.back hq).next=h9.next:=nq;generalize h9.marked.back hq=h10 at q5 y10 n10;have x10:=x9m.trans y10;have R10:=R9m.ext x9m.wf y10;have AIA:h10.Row h.next 0 (AY K0):=(R49.same (h':=h9.marked) rfl).ext x9m.wf y10;have AJq:h10.BS (fun b=>h7.next<=b) u ((dat M p (at6 ns 4)).map bv):=(vs9.same (h':=h9.marked) rfl).ext x9m.wf y10;obtain⟨_,_,_,_,_,ln⟩:=Bh R10;have AIz:at6 ns 0<=2:=AHY.1;by_cases AIB:CD T (dat M p (at6 ns 4))=at6 ns 5
   ·have c2:iNe ((CD T (dat M p (at6 ns 4)):Nat):Int) ((at6 ns 5:Nat):Int)=false:=CN (by rw[AIB])
    have bd1:∀ (F:AEA) (e:Env),J 79 e=Bk (at6 ns 1) (at6 ns 2) (at6 ns 3) (at6 ns 0) u->J 1 e=AI AT (p:Int)->BC Dj.zero [(0,5,J 79),(5,1,J 1)] F e h10=.ok (ktV ⟨at6 ns 1,at6 ns 2,at6 ns 3,at6 ns 0,dat M p (at6 ns 4),p,u⟩) h10:=fun F e e1 e2=>Tp e1 e2
    obtain⟨w1,w2,w3,w4,w5⟩:=Kf W x10 (IT _) AIA rfl (k:=⟨at6 ns 1,at6 ns 2,at6 ns 3,at6 ns 0,dat M p (at6 ns 4),p,u⟩) u1.2.1;have AJr:∀ b el L,b≠h.next->h10.Row b el L->(h10.wr h.next 0 (AY ⟨at6 ns 1,at6 ns 2,at6 ns 3,at6 ns 0,dat M p (at6 ns 4),p,u⟩)).Row b el L:=fun b el L hb r=>AIA.AFI x10.wf (by show 0+6<=6;omega) r hb
    have AI0:(h10.wr h.next 0 (AY ⟨at6 ns 1,at6 ns 2,at6 ns 3,at6 ns 0,dat M p (at6 ns 4),p,u⟩)).BS (fun b=>h7.next<=b) u ((dat M p (at6 ns 4)).map bv):=AJq.keep fun b el L hb _ r=>AJr b el L (by have:=x7.next;omega) r
    generalize h10.wr h.next 0 (AY ⟨at6 ns 1,at6 ns 2,at6 ns 3,at6 ns 0,dat M p (at6 ns 4),p,u⟩)=h11 at w1 w2 w3 w4 w5 AI0;have hrun:∃ e2,lkB (call AC (m+4)) e1 h7=.ret e2 h11/\J 4 e2=pt h.next/\J 5 e2=.bool true/\J 6 e2=.bool false/\J 7 e2=AI AT 0:=by
     rw[O5];unfold Xb lkC;simp only[sT,By,BY,reduceIte,gD,BZ,BX,s14,yi,s12,s0,Ax,Al,AH,AO,If,AN,AP,l2,AK,AJ,c1,cA0,s1,k4,A8,BB,BH,s11,AX,st8,c0',A0,l1',lu,q5,s13,c2,Av,Am,ln,bd1,s4,w1];exact⟨_,rfl,by simp[AG,s4]⟩
    obtain⟨e2,i2,t4,t5,t6,t7⟩:=hrun;exact⟨h11,w3,.inl ⟨ns,u,⟨hP,AGL,AIB⟩,res h7 h11 e1 e2 true false _ p1 i2 t4 t5 t6 t7 w2,AI0.mono fun b hb=>Nat.le_trans x7.next hb⟩⟩
   ·have c2:iNe ((CD T (dat M p (at6 ns 4)):Nat):Int) ((at6 ns 5:Nat):Int)=true:=Fv (by omega)
    obtain⟨w1,w2,w3,w4,w5⟩:=Kf W x10 (IT _) AIA rfl (k:=K0) K0u;generalize h10.wr h.next 0 (AY K0)=h11 at w1 w2 w3 w4 w5;have hrun:∃ e2,lkB (call AC (m+4)) e1 h7=.ret e2 h11/\J 4 e2=pt h.next/\J 5 e2=.bool false/\J 6 e2=.bool true/\J 7 e2=AI AT 0:=by
     rw[O5];unfold Xb lkC;simp only[sT,By,BY,reduceIte,gD,BZ,BX,s14,yi,s12,s0,Ax,Al,AH,AO,If,AN,AP,l2,AK,AJ,c1,cA0,s1,k4,A8,BB,BH,s11,AX,st8,c0',A0,l1',lu,q5,s13,c2,J7,s4,w1];exact⟨_,rfl,by simp[AG,s4]⟩
    obtain⟨e2,i2,t4,t5,t6,t7⟩:=hrun;refine⟨h11,w3,.inr ⟨?_,true,res h7 h11 e1 e2 false true _ p1 i2 t4 t5 t6 t7 w2,⟨fun _=>.inr ⟨ns,hP,AGL⟩,fun _=>rfl⟩⟩⟩;rintro⟨ns',a1,a2,a3⟩;obtain rfl:=GT hP a1;exact AIB a3
  ·have c1:iGt (at6 ns 4:Int) 100=true:=HB (by omega)
   obtain⟨w1,w2,w3,w4,w5⟩:=Kf W x7 (IT _) R47 rfl (k:=K0) K0u;generalize h7.wr h.next 0 (AY K0)=h11 at w1 w2 w3 w4 w5;have hrun:∃ e2,lkB (call AC (m+4)) e1 h7=.ret e2 h11/\J 4 e2=pt h.next/\J 5 e2=.bool false/\J 6 e2=.bool r/\J 7 e2=AI AT 0:=by
    rw[O5];unfold Xb;simp only[sT,By,BY,reduceIte,gD,BZ,BX,s14,yi,s12,s0,Ax,Al,AH,AO,If,AN,AP,l2,AK,AJ,c1,J7,s10,ADc,s4,AX,w1];exact⟨_,rfl,by simp[AG,s4]⟩
   obtain⟨e2,i2,t4,t5,t6,t7⟩:=hrun;refine⟨h11,w3,.inr ⟨?_,r,res h7 h11 e1 e2 false r _ p1 i2 t4 t5 t6 t7 w2,hr.trans ⟨.inl,?_⟩⟩⟩
   ·rintro⟨ns',a1,a2,a3⟩
    obtain rfl:=GT hP a1;exact AGL a2
   ·rintro (h1|⟨ns',a1,a2⟩)
    ·exact h1
    ·obtain rfl:=GT hP a1
     exact absurd a2 AGL
 ·obtain⟨e1,h7,p1,x7,R7,R47,AJp,s0,s1,s4,s10,s11,s12,s13,s14⟩:=pre 0 0 0 0 0 0 false hk
  obtain⟨w1,w2,w3,w4,w5⟩:=Kf W x7 (IT _) R47 rfl (k:=K0) K0u;generalize h7.wr h.next 0 (AY K0)=h11 at w1 w2 w3 w4 w5;have hrun:∃ e2,lkB (call AC (m+4)) e1 h7=.ret e2 h11/\J 4 e2=pt h.next/\J 5 e2=.bool false/\J 6 e2=.bool r/\J 7 e2=AI AT 0:=by
   rw[O5];unfold Xb;simp only[sT,By,BY,reduceIte,gD,BZ,BX,s14,Bool.not_false,J7,s10,ADc,s4,AX,w1];exact⟨_,rfl,by simp[AG,s4]⟩
  obtain⟨e2,i2,t4,t5,t6,t7⟩:=hrun;refine⟨h11,w3,.inr ⟨fun⟨ns',a1,_⟩=>hP ⟨ns',a1⟩,r,res h7 h11 e1 e2 false r _ p1 i2 t4 t5 t6 t7 w2,hr.trans ⟨.inl,?_⟩⟩⟩;rintro (h1|⟨ns',a1,_⟩)
  ·exact h1
  ·exact absurd ⟨ns',a1⟩ hP
end
end
end Go.Proofs.YtbjadbhkogcfeaaGreat

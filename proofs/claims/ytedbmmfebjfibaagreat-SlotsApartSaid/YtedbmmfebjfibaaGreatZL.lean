/-
  Part ZL of what Lawap stands on: printed by program, names and spaces cut.
-/
import Derived.Test.YtedbmmfebjfibaaGreatZK
set_option linter.unusedVariables false
set_option linter.unusedSimpArgs false
namespace Go.Proofs.YtedbmmfebjfibaaGreat
noncomputable section
open Go
set_option maxRecDepth 100000
def Ho(M:List Nat)(k:Nat)(l:List Nat):List Nat:=M.take (64 * k)++l++M.drop (64 * k+64)
def Fb:List Nat→List (Nat×List Nat)→List Nat
 |M,[]=>M
 |M,y::cs=>Fb (Ho M y.1 y.2) cs
def KeyU(cs:List (Nat×List Nat)):Prop:=∀ (i j:Nat) (y z:Nat×List Nat),cs[i]? =some y→cs[j]? =some z→y.1=z.1→i=j
def SecOk(n:Nat)(cs:List (Nat×List Nat)):Prop:=∀ y∈cs,y.1<n∧y.2.length=64∧∀ x∈y.2,x<256
theorem C5{M l:List Nat}{n k:Nat}(hM:M.length=64 * n)(hk:k<n)(hl:l.length=64):(Ho M k l).length=64 * n:=by
 unfold Ho
 rw[List.length_append,List.length_append,List.length_take,List.length_drop];omega
theorem dL{M l:List Nat}{k:Nat}(hM:∀ x∈M,x<256)(hl:∀ x∈l,x<256):∀ x∈Ho M k l,x<256:=fun x hx=>by
 rcases List.mem_append.1 hx with hx|hx
 ·rcases List.mem_append.1 hx with hx|hx
  ·exact hM x (List.mem_of_mem_take hx)
  ·exact hl x hx
 ·exact hM x (List.mem_of_mem_drop hx)
theorem D0{M l:List Nat}{n k p:Nat}(hM:M.length=64 * n)(hk:k<n)(hl:l.length=64):(Ho M k l).getD p 0=if p / 64=k then l.getD (p % 64) 0 else M.getD p 0:=by
 unfold Ho
 have e1:(M.take (64 * k)).length=64 * k:=by rw[List.length_take];omega
 simp only[List.getD_eq_getElem?_getD]
 by_cases h:p / 64=k
 ·rw[if_pos h,List.append_assoc,List.getElem?_append_right (by omega),List.getElem?_append_left (by omega),e1,show p - 64 * k=p % 64 by omega]
 ·rw[if_neg h]
  rcases Nat.lt_or_ge p (64 * k)with hp|hp
  ·rw[List.append_assoc,List.getElem?_append_left (by omega),List.getElem?_take,if_pos hp]
  ·rw[List.getElem?_append_right (by rw[List.length_append];omega),List.getElem?_drop,List.length_append,e1,hl]
   congr 2;omega
theorem F3:∀ {cs:List (Nat×List Nat)} {M:List Nat} {n:Nat},M.length=64 * n→SecOk n cs→(Fb M cs).length=64 * n
 |[],_,_,h,_=>h
 |y::cs,M,n,h,hc=>F3 (cs:=cs) (C5 h (hc y List.mem_cons_self).1 (hc y List.mem_cons_self).2.1) fun z hz=>hc z (List.mem_cons_of_mem _ hz)
theorem Pr:∀ {cs:List (Nat×List Nat)} {M:List Nat} {n:Nat},(∀ x∈M,x<256)→SecOk n cs→∀ x∈Fb M cs,x<256
 |[],_,_,h,_=>h
 |y::cs,M,n,h,hc=>Pr (cs:=cs) (n:=n) (dL h (hc y List.mem_cons_self).2.2) fun z hz=>hc z (List.mem_cons_of_mem _ hz)
theorem KeyU.tail{y:Nat×List Nat}{cs:List (Nat×List Nat)}(h:KeyU (y::cs)):KeyU cs∧∀ z∈cs,z.1≠y.1:=⟨fun i j a b h1 h2 h3=>by
 have:=h (i+1) (j+1) a b (by rw[List.getElem?_cons_succ];exact h1) (by rw[List.getElem?_cons_succ];exact h2) h3
 omega,fun z hz e=>by
 obtain⟨i,hi⟩:=List.mem_iff_getElem?.1 hz
 have:=h (i+1) 0 z y (by rw[List.getElem?_cons_succ];exact hi) rfl e
 omega⟩
theorem Ju:∀ {cs:List (Nat×List Nat)} {M:List Nat} {n p:Nat},M.length=64 * n→SecOk n cs→(∀ y∈cs,p / 64≠y.1)→(Fb M cs).getD p 0=M.getD p 0
 |[],_,_,_,_,_,_=>rfl
 |y::cs,M,n,p,h,hc,hp=>by
  obtain⟨c1,c2,c3⟩:=hc y List.mem_cons_self
  show(Fb (Ho M y.1 y.2) cs).getD p 0=_
  rw[Ju (cs:=cs) (C5 h c1 c2) (fun z hz=>hc z (List.mem_cons_of_mem _ hz)) fun z hz=>hp z (List.mem_cons_of_mem _ hz),D0 h c1 c2,if_neg (hp y List.mem_cons_self)]
theorem Pq:∀ {cs:List (Nat×List Nat)} {M:List Nat} {n:Nat},M.length=64 * n→SecOk n cs→KeyU cs→∀ y∈cs,∀ q,q<64→(Fb M cs).getD (64 * y.1+q) 0=y.2.getD q 0
 |[],_,_,_,_,_,_,hy,_,_=>by cases hy
 |z::cs,M,n,h,hc,hK,y,hy,q,hq=>by
  obtain⟨c1,c2,c3⟩:=hc z List.mem_cons_self
  obtain⟨k1,k2⟩:=hK.tail
  show(Fb (Ho M z.1 z.2) cs).getD _ 0=_
  rcases List.mem_cons.1 hy with rfl|hy
  ·rw[Ju (cs:=cs) (C5 h c1 c2) (fun z hz=>hc z (List.mem_cons_of_mem _ hz)) (fun z hz=>by have:=k2 z hz;omega),D0 h c1 c2,if_pos (by omega),show(64 * y.1+q) % 64=q by omega]
  ·exact Pq (C5 h c1 c2) (fun z hz=>hc z (List.mem_cons_of_mem _ hz)) k1 y hy q hq
def LaidT(T0:VT)(done:List (Nat×List Nat))(T:VT):Prop:=(∀ j,T.has j↔T0.has j)∧(∀ y∈done,∀ q,q<64→T.get (64 * y.1+q)=bv (y.2.getD q 0))∧∀ p,(∀ y∈done,p / 64≠y.1)→T.get p=T0.get p
theorem LaidT.nil(T:VT):LaidT T [] T:=⟨fun _=>Iff.rfl,fun y hy=>(by cases hy),fun _ _=>rfl⟩
theorem LaidT.step{T0 T:VT}{done:List (Nat×List Nat)}{k s:Nat}{l:List Nat}(h:LaidT T0 done T)(hh:∀ j,j<s→T0.has j)(hk:64 * k+64≤s)(hl:l.length=64)(hd:∀ y∈done,y.1≠k):∃ T',Bv T (64 * k) (l.map bv)=some T'∧LaidT T0 (done++[(k,l)]) T':=by
 have hll:(l.map bv).length=64:=by rw[List.length_map,hl]
 obtain⟨T',a1,a2,a3⟩:=KM (l.map bv) T (64 * k) fun j hj=>(h.1 j).2 (hh j (by omega))
 refine⟨T',a1,fun j=>(a2 j).trans (h.1 j),fun y hy q hq=>?_,fun p hp=>?_⟩
 ·rw[a3,hll]
  rcases List.mem_append.1 hy with hy|hy
  ·rw[if_neg (by have:=hd y hy;omega)]
   exact h.2.1 y hy q hq
  ·obtain rfl:=List.mem_singleton.1 hy
   have hq':64 * k+q - 64 * k=q:=by omega
   rw[if_pos ⟨Nat.le_add_right _ _,by show 64 * k+q<_;omega⟩]
   show(l.map bv).getD (64 * k+q - 64 * k) noRes=bv (l.getD q 0)
   rw[hq',List.getD_eq_getElem?_getD,List.getElem?_map,List.getD_eq_getElem?_getD,List.getElem?_eq_getElem (by omega)];rfl
 ·have:=hp (k,l) (List.mem_append_right _ (List.mem_singleton.2 rfl))
  rw[a3,hll,if_neg (by show ¬ _;have:p / 64≠k:=this;omega)]
  exact h.2.2 p fun y hy=>hp y (List.mem_append_left _ hy)
theorem LaidT.uniq{T0 T T':VT}{a b:List (Nat×List Nat)}(h:LaidT T0 a T)(h':LaidT T0 b T')(hm:∀ y,y∈a↔y∈b):T=T':=by
 refine VT.ext _ _ (fun j=>(h.1 j).trans (h'.1 j).symm) fun p=>?_
 by_cases hp:∃ y∈a,p / 64=y.1
 ·obtain⟨y,hy,he⟩:=hp
  have h1:=h.2.1 y hy (p % 64) (by omega)
  have h2:=h'.2.1 y ((hm y).1 hy) (p % 64) (by omega)
  rw[show 64 * y.1+p % 64=p by omega]at h1 h2
  rw[h1,h2]
 ·rw[h.2.2 p fun y hy he=>hp ⟨y,hy,he⟩,h'.2.2 p fun y hy he=>hp ⟨y,(hm y).2 hy,he⟩]
theorem LaidT.all{T0:VT}{n:Nat}(hh:∀ j,j<64 * n→T0.has j):∀ (cs done:List (Nat×List Nat)) (T:VT),LaidT T0 done T→SecOk n cs→KeyU cs→(∀ y∈cs,∀ z∈done,z.1≠y.1)→∃ T',LaidT T0 (done++cs) T'
 |[],done,T,h,_,_,_=>⟨T,by rw[List.append_nil];exact h⟩
 |y::cs,done,T,h,hc,hK,hd=>by
  obtain⟨c1,c2,c3⟩:=hc y List.mem_cons_self
  obtain⟨k1,k2⟩:=hK.tail
  obtain⟨T1,_,h1⟩:=h.step hh (k:=y.1) (l:=y.2) (by omega) c2 (hd y List.mem_cons_self)
  obtain⟨T2,h2⟩:=LaidT.all hh cs (done++[(y.1,y.2)]) T1 h1 (fun z hz=>hc z (List.mem_cons_of_mem _ hz)) k1 fun z hz w hw=>by
   rcases List.mem_append.1 hw with hw|hw
   ·exact hd z (List.mem_cons_of_mem _ hz) w hw
   ·obtain rfl:=List.mem_singleton.1 hw
    exact fun e=>k2 z hz e.symm
  exact⟨T2,by rw[List.append_assoc]at h2;exact h2⟩
theorem LaidT.is{T0 T:VT}{M:List Nat}{n:Nat}{cs:List (Nat×List Nat)}(h:LaidT T0 cs T)(hT:T0.Is (M.map bv))(hM:M.length=64 * n)(hc:SecOk n cs)(hK:KeyU cs):T.Is ((Fb M cs).map bv):=fun p hp=>by
 rw[List.length_map,F3 hM hc]at hp
 have hp0:=hT p (by rw[List.length_map];omega)
 refine⟨(h.1 p).2 hp0.1,?_⟩
 have e1:∀ L:List Nat,p<L.length→(L.map bv).getD p noRes=bv (L.getD p 0):=fun L hL=>by
  rw[List.getD_eq_getElem?_getD,List.getElem?_map,List.getD_eq_getElem?_getD,List.getElem?_eq_getElem hL];rfl
 rw[e1 _ (by rw[F3 hM hc];exact hp)]
 by_cases hq:∃ y∈cs,p / 64=y.1
 ·obtain⟨y,hy,he⟩:=hq
  have h1:=h.2.1 y hy (p % 64) (by omega)
  have h2:=Pq hM hc hK y hy (p % 64) (by omega)
  rw[show 64 * y.1+p % 64=p by omega]at h1 h2
  rw[h1,h2]
 ·rw[h.2.2 p fun y hy he=>hq ⟨y,hy,he⟩,Ju hM hc fun y hy he=>hq ⟨y,hy,he⟩,hp0.2,e1 _ (by omega)]
theorem Ld:∀ (cs:List (Nat×List Nat)) (c:Nat),(entsS c cs).length=cs.length
 |[],_=>rfl
 |x::cs,c=>by show(entsS (c+1) cs).length+1=_;rw[Ld cs];rfl
theorem PM:∀ {cs:List (Nat×List Nat)} {c:Nat} {x:Ent},x∈entsS c cs→∃ (i:Nat) (y:Nat×List Nat),cs[i]? =some y∧x=⟨.int .i64 (y.1:Int),DK y.2,c+i⟩
 |[],_,_,h=>by cases h
 |y::cs,c,x,h=>by
  rcases List.mem_cons.1 h with h|h
  ·exact⟨0,y,rfl,h⟩
  ·obtain⟨i,z,h1,h2⟩:=PM h
   exact⟨i+1,z,by rw[List.getElem?_cons_succ];exact h1,by rw[h2,Nat.add_assoc,Nat.add_comm 1]⟩
theorem HV:∀ {cs:List (Nat×List Nat)} {c i:Nat} {y:Nat×List Nat},cs[i]? =some y→Fz (c+i) (entsS c cs)=some ⟨.int .i64 (y.1:Int),DK y.2,c+i⟩
 |[],_,_,_,h=>by cases h
 |z::cs,c,0,y,h=>by
  have h:some z=some y:=h
  cases h
  show(bif Nat.beq c (c+0)then some (⟨.int .i64 (z.1:Int),DK z.2,c⟩:Ent)else Fz (c+0) (entsS (c+1) cs))=_
  rw[Nat.add_zero,Nat.beq_refl];rfl
 |z::cs,c,i+1,y,h=>by
  rw[List.getElem?_cons_succ]at h
  show(bif Nat.beq c (c+(i+1))then some (⟨.int .i64 (z.1:Int),DK z.2,c⟩:Ent)else Fz (c+(i+1)) (entsS (c+1) cs))=_
  have:Nat.beq c (c+(i+1))=false:=by
   cases e:Nat.beq c (c+(i+1))
   ·rfl
   ·have:=Al.1 e;omega
  rw[this,show c+(i+1)=c+1+i by omega]
  exact HV h
theorem KL:∀ {cs:List (Nat×List Nat)} {c lo clk:Nat},lo≤c→c+cs.length≤clk→Es clk lo (entsS c cs)=true
 |[],_,_,_,_,_=>rfl
 |x::cs,c,lo,clk,h1,h2=>by
  rw[List.length_cons]at h2
  show(bif Nat.ble lo c then(bif Nat.blt c clk then Es clk (Nat.succ c) (entsS (c+1) cs)else false)else false)=true
  rw[Af.2 h1,BD.2 (by omega)]
  exact KL (Nat.le_refl _) (by omega)
theorem Fc{n:Nat}:∀ {l:List Nat},FM n l=true↔n∈l
 |[]=>⟨fun h=>(by cases h),fun h=>(by cases h)⟩
 |x::l=>by
  show(bif Nat.beq x n then true else FM n l)=true↔_
  cases h:Nat.beq x n with
  |true=>exact⟨fun _=>by rw[Al.1 h];exact List.mem_cons_self,fun _=>rfl⟩
  |false=>
   refine Iff.trans (Fc (l:=l)) ⟨fun h1=>List.mem_cons_of_mem _ h1,fun h1=>?_⟩
   rcases List.mem_cons.1 h1 with h1|h1
   ·rw[h1,Nat.beq_refl]at h;cases h
   ·exact h1
theorem MS{seen:List Nat}:∀ {es:List Ent} {x:Ent},x∈restE seen es→x∈es∧x.born∉seen
 |[],_,h=>by cases h
 |y::es,x,h=>by
  have h:x∈(bif FM y.born seen then restE seen es else y::restE seen es):=h
  cases hm:FM y.born seen with
  |true=>
   rw[hm]at h
   obtain⟨h1,h2⟩:=MS (es:=es) h
   exact⟨List.mem_cons_of_mem _ h1,h2⟩
  |false=>
   rw[hm]at h
   rcases List.mem_cons.1 h with h|h
   ·subst h
    exact⟨List.mem_cons_self,fun h1=>by rw[Fc.2 h1]at hm;cases hm⟩
   ·obtain⟨h1,h2⟩:=MS (es:=es) h
    exact⟨List.mem_cons_of_mem _ h1,h2⟩
theorem Ng{seen:List Nat}{s:Nat}:∀ {cs:List (Nat×List Nat)} {c:Nat},s<c→restE (seen++[s]) (entsS c cs)=restE seen (entsS c cs)
 |[],_,_=>rfl
 |x::cs,c,h=>by
  show(bif FM c (seen++[s])then restE (seen++[s]) (entsS (c+1) cs)else _::restE (seen++[s]) (entsS (c+1) cs))=(bif FM c seen then restE seen (entsS (c+1) cs)else _::restE seen (entsS (c+1) cs))
  rw[Ng (cs:=cs) (by omega)]
  have:FM c (seen++[s])=FM c seen:=by
   rw[Bool.eq_iff_iff,Fc,Fc,List.mem_append,List.mem_singleton]
   exact⟨fun h1=>h1.elim (fun h=>h) fun h1=>by omega,.inl⟩
  rw[this]
theorem Qq{seen:List Nat}{i:Nat}:∀ {cs:List (Nat×List Nat)} {c:Nat},i<cs.length→c+i∉seen→(restE (seen++[c+i]) (entsS c cs)).length+1=(restE seen (entsS c cs)).length
 |[],_,h,_=>by cases h
 |x::cs,c,h,hs=>by
  show(bif FM c (seen++[c+i])then restE (seen++[c+i]) (entsS (c+1) cs)else _::restE (seen++[c+i]) (entsS (c+1) cs)).length+1=(bif FM c seen then restE seen (entsS (c+1) cs)else _::restE seen (entsS (c+1) cs)).length
  cases i with
  |zero=>
   simp only[Nat.add_zero]at hs ⊢
   have h1:FM c seen=false:=by
    cases e:FM c seen
    ·rfl
    ·exact absurd (Fc.1 e) hs
   have h2:FM c (seen++[c])=true:=Fc.2 (List.mem_append_right _ (List.mem_singleton.2 rfl))
   rw[h1,h2,Ng (cs:=cs) (Nat.lt_succ_self c)];rfl
  |succ i=>
   have h1:FM c (seen++[c+(i+1)])=FM c seen:=by
    rw[Bool.eq_iff_iff,Fc,Fc,List.mem_append,List.mem_singleton]
    exact⟨fun h1=>h1.elim (fun h=>h) fun h1=>by omega,.inl⟩
   have e:c+(i+1)=c+1+i:=by omega
   rw[e]at hs h1 ⊢
   have ih:=Qq (seen:=seen) (i:=i) (cs:=cs) (c:=c+1) (by simp only[List.length_cons]at h;omega) hs
   rw[h1]
   cases FM c seen with
   |true=>exact ih
   |false=>exact congrArg (· +1) ih
theorem J3:∀ (es:List Ent),restE [] es=es
 |[]=>rfl
 |x::es=>by
  show x::restE [] es=_
  rw[J3 es]
end
noncomputable section
open Go
set_option maxRecDepth 100000
def fB:C:=(AH (AC 22) (Gj (AB 21))
(AH (AC 23) (AZ 0 (AB 22))
(AV (AB 23)
(Ac 1 (AH (AC 24) (IJ (AB 21))
(AH (AC 25) (AZ 0 (AB 24))
(AH (AC 26) (AZ 1 (AB 24))
(AH (AC 6) (Bo 64 FJ)
(AH (AC 5) (AE (AB 25))
(cDo (As 64 (AB 6) (AB 26))
(CH (AH (AC 28) (Bj (AB 0))
(AH (AC 29) (AF 0 (AB 28))
(AH (AC 30) (AO (AB 29))
(AH (AC 32) (Bh 64 (AB 6))
(AH (AC 33) (CA 64 (AB 30) (AB 5))
(cDo (Am .free (As 64 (AB 33) (AB 32)))
Ar))))))))))))))
(B9 0))))
def fK:Walk:=⟨21,22,23,0,[22,23,24,25,26,6,5,27,28,29,30,31,32,33],[]⟩
theorem eP:fW=Ia fK fB:=rfl
theorem nw:fS=BG (Ac 0 fW) fE:=rfl
theorem jd:d76=aU:=rfl
section
variable {F:CallF}{e:Env}{g g1:Hp}{it bd bm bc n k:Nat}{l:List Nat}{T:VT}{arm:Int}{dn:Bool}
theorem SY{q:Hp}{s el off:Nat}{vs:List Value}{T':VT}(W:q.Wf)(hT:q.bl.get bm=.cells T s el)(hset:Bv T off vs=some T')(ho:off+vs.length≤s)(h1:BO vs=true)(h256:256≤bm)(hb:bm<q.next){K:Hp→R}:Cb ⟨bm,off,none⟩ vs q K=K (q.put bm (.cells T' s el)):=by
 have hr:rowOf q bm=.ok T s el:=by unfold rowOf;rw[hT];rfl
 unfold Cb
 simp only[hr,Nat.add_eq]
 rw[BN,Af.2 ho,h1]
 simp only[cond_true,hset]
 rw[Df W h256 hb]
theorem PW(W1:g1.Wf)(s0:AB 0 e=pt bd)(s21:AB 21 e=pt it)
  (nx:∀ e,AB 21 e=pt it→Gj (AB 21) F e g=.ok (.tuple ⟨[.bool true,.int .i64 (k:Int),DK l]⟩) g1)
  (en:∀ e,AB 21 e=pt it→IJ (AB 21) F e g1=.ok (.tuple ⟨[.int .i64 (k:Int),DK l]⟩) g1)
  (D:g1.Row bd 0 (dkL bm bc n arm dn))(hT:g1.bl.get bm=.cells T (64 * n) 0){T':VT}(hs:Bv T (64 * k) (l.map bv)=some T')(hk:k<n)(hl:l.length=64)(h256:256≤bm)(hbm:bm<g1.next):
  ∃ e' g',fB F e g=.norm e' g'∧AB 0 e'=pt bd∧AB 21 e'=pt it∧g'.Wf∧g'.next=g1.next+1∧g'.bl.get bm=.cells T' (64 * n) 0∧(∀ i,i<g1.next→i≠bm→g'.bl.get i=g1.bl.get i)∧g'.low=min (min g1.low g1.next) bm∧g'.high=max (max g1.high g1.next) bm:=by
 have big:=W1.big
 have hll:(l.map bv).length=64:=by rw[List.length_map,hl]
 have al:=fun (F:CallF) (e:Env)=>Bd (F:=F) (e:=e) W1 (n:=64) (t:=FJ)
 have R1:=Hp.Row.alloc W1 RF (by rw[List.length_map,List.length_replicate])
 have x1:g1.Ext (g1.push (.cells FJ 64 0)):=(Hp.Ext.refl W1).push _
 have n1:(g1.push (.cells FJ 64 0)).next=g1.next+1:=rfl
 have lo1:(g1.push (.cells FJ 64 0)).low=g1.low:=rfl
 have hi1:(g1.push (.cells FJ 64 0)).high=g1.high:=rfl
 generalize g1.push (.cells FJ 64 0)=g2 at al R1 x1 n1 lo1 hi1
 have hz:((List.replicate 64 0).map bv).length=64:=by rw[List.length_map,List.length_replicate]
 have st:storeR 64 (pt g1.next) (DK l) g2=.ok noRes (g2.wr g1.next 0 (l.map bv)):=R1.storeR (n:=64) (off:=0) x1.wf big (v:=DK l) hll (by show 0+(l.map bv).length≤_;omega) (C7 _)
 have x2:=R1.wr_ext x1 (Nat.le_refl _) (off:=0) (vs:=l.map bv) (by omega)
 have R2:=R1.wr_self x1.wf (off:=0) (vs:=l.map bv) (by omega)
 rw[HE (by omega)]at R2
 have n2:(g2.wr g1.next 0 (l.map bv)).next=g1.next+1:=(R1.wr_next (by omega)).trans n1
 obtain⟨_,_,ew,_⟩:=R1.wr_is (off:=0) (vs:=l.map bv) (by omega)
 have lo2:(g2.wr g1.next 0 (l.map bv)).low=min g1.low g1.next:=by
  rw[ew]
  show B0 g2.low g1.next=_
  rw[BC,lo1]
 have hi2:(g2.wr g1.next 0 (l.map bv)).high=max g1.high g1.next:=by
  rw[ew]
  show Cf g2.high g1.next=_
  rw[Bw,hi1]
 generalize g2.wr g1.next 0 (l.map bv)=g3 at st x2 R2 n2 lo2 hi2
 have D3:g3.marked.Row bd 0 (dkL bm bc n arm dn):=(D.ext W1 x2).same rfl
 obtain⟨l0,_,_,_⟩:=C3 D3
 have R3:g3.marked.Row g1.next 0 (l.map bv):=R2.same rfl
 have ld:loadN 64 ⟨g1.next,0,none⟩ g3.marked=.ok (DK l) g3.marked:=by
  rw[R3.loadN (by omega),List.drop_zero,List.take_of_length_le (by omega)];rfl
 have ix:idxSR 64 (.slice (some ⟨bm,0,none⟩) n n) (.int .i64 (k:Int)) g3.marked=.ok (.pointer (some ⟨bm,0+k * 64,none⟩)) g3.marked:=DX hk
 rw[Nat.zero_add,Nat.mul_comm]at ix
 have hTq:g3.marked.quiet.bl.get bm=.cells T (64 * n) 0:=by
  show g3.bl.get bm=_
  rw[x2.get bm hbm];exact hT
 have sq:storeR 64 (.pointer (some ⟨bm,64 * k,none⟩)) (DK l) g3.marked.quiet=.ok noRes (g3.marked.quiet.put bm (.cells T' (64 * n) 0)):=by
  show(bif Nat.beq (A9 (l.map bv)) 64 then Cb ⟨bm,64 * k,none⟩ (l.map bv) g3.marked.quiet DV else .no)=_
  rw[BN,Al.2 hll,cond_true,SY x2.wf.marked.quiet hTq hs (by omega) (C7 _) h256 (by show bm<g3.next;omega)];rfl
 have q1:∀ (F:CallF) (e:Env),AB 33 e=.pointer (some ⟨bm,64 * k,none⟩)→AB 32 e=DK l→Am .free (As 64 (AB 33) (AB 32)) F e g3.marked=.ok noRes (g3.marked.back (g3.marked.quiet.put bm (.cells T' (64 * n) 0))):=fun F e e1 e2=>by
  refine BQ ?_
  rw[AX,e1,e2];exact sq
 have pg:=x2.wf.marked.quiet.put_get (b:=bm) (show bm<g3.next by omega) (.cells T' (64 * n) 0)
 have pw:=x2.wf.marked.quiet.put (b:=bm) (show bm<g3.next by omega) (.cells T' (64 * n) 0)
 have hlow:(g3.marked.back (g3.marked.quiet.put bm (.cells T' (64 * n) 0))).low=min (min g1.low g1.next) bm:=by
  show B0 g3.low (B0 g3.next bm)=_
  rw[BC,BC,lo2,n2];omega
 have hhigh:(g3.marked.back (g3.marked.quiet.put bm (.cells T' (64 * n) 0))).high=max (max g1.high g1.next) bm:=by
  show Cf g3.high (Cf 0 bm)=_
  rw[Bw,Bw,hi2];omega
 have hrun:∃ e',fB F e g=.norm e' (g3.marked.back (g3.marked.quiet.put bm (.cells T' (64 * n) 0)))∧AB 0 e'=pt bd∧AB 21 e'=pt it:=by
  unfold fB
  have nx':=fun e he=>nx e he
  simp only[sT,Nat.reduceLT,Nat.reduceEqDiff,reduceIte,nx e s21,BA,BL,BM,CZ,en,s21,al,AX,st,Ay,Au,s0,Aj,AJ,AN,AM,AP,l0,Aq,Ao,ld,Az,ix,q1]
  exact⟨_,rfl,by simp[AG,s0,s21]⟩
 obtain⟨e',r1,r2,r3⟩:=hrun
 refine⟨e',_,r1,r2,r3,⟨pw.big,pw.has,pw.fresh⟩,by show g3.next=_;exact n2,?_,fun i hi hib=>?_,hlow,hhigh⟩
 ·show(g3.marked.quiet.put bm _).bl.get bm=_
  rw[pg,if_pos rfl]
 ·show(g3.marked.quiet.put bm _).bl.get i=_
  rw[pg,if_neg hib]
  exact x2.get i hi
end
end
noncomputable section
open Go
set_option maxRecDepth 100000
section
variable {F:CallF}{e:Env}{h g g1:Hp}{it bd bm bc n k c0:Nat}{l seen:List Nat}{T T0:VT}{cs:List (Nat×List Nat)}{arm:Int}{dn:Bool}
structure FlB (h:Hp)(it bd bm bc n c0:Nat)(cs:List (Nat×List Nat))(arm:Int)(dn:Bool)(T0:VT):Prop where
 wf:h.Wf
 nx:h.next=it+1
 itr:h.bl.get it=.iter (some bc) (c0+cs.length) [] (c0+cs.length)
 disk:h.Row bd 0 (dkL bm bc n arm dn)
 med:h.bl.get bm=.cells T0 (64 * n) 0
 has:∀ j,j<64 * n→T0.has j
 map:h.bl.get bc=.map (entsS c0 cs) (c0+cs.length)
 lt:bd<it∧bm<it∧bc<it
 ne:bd≠bm∧bc≠bm
 big:256≤bm∧256≤it
 sec:SecOk n cs
 key:KeyU cs
structure FlI (h:Hp)(it bm bc n c0:Nat)(cs:List (Nat×List Nat))(T0:VT)(seen:List Nat)(g:Hp):Prop where
 wf:g.Wf
 nx:g.next=h.next+seen.length
 lh:(seen=[]∧g.low=h.next∧g.high=0)∨(seen≠[]∧g.low=bm∧g.high+1=h.next+seen.length)
 itr:g.bl.get it=.iter (some bc) (c0+cs.length) seen (c0+cs.length)
 old:∀ i,i<h.next→i≠it→i≠bm→g.bl.get i=h.bl.get i
 med:∃ (T:VT) (done:List (Nat×List Nat)),g.bl.get bm=.cells T (64 * n) 0∧LaidT T0 done T∧∀ y,y∈done↔∃ i:Nat,cs[i]? =some y∧c0+i∈seen
 cnt:seen.length+(restE seen (entsS c0 cs)).length=cs.length
theorem Ly{s:Nat}:∀ l:List Nat,Ps (l++[s])=some s
 |[]=>rfl
 |[x]=>rfl
 |x::y::l=>Ly (y::l)
theorem Qi(s:Nat):∀ l:List Nat,JB s l=l++[s]
 |[]=>rfl
 |x::l=>congrArg (x:: ·) (Qi s l)
theorem MT{h g:Hp}{b el:Nat}{L:List Value}(r:h.Row b el L)(hb:g.bl.get b=h.bl.get b):g.Row b el L:=by
 obtain⟨c,hc,hl⟩:=r
 exact⟨c,hb.trans hc,hl⟩
theorem X4{g:Hp}{it:Nat}{v:R}(hv:F5 ⟨it,0,none⟩ g=v){e:Env}(he:AB 21 e=pt it):Gj (AB 21) F e g=v:=by
 show(match DT (AB 21 e)with|.ok a=>bif Nat.beq a.off 0 then F5 a g else .no|.no=>.no)=_
 rw[he];exact hv
theorem eN{g:Hp}{it:Nat}{v:R}(hv:Jh ⟨it,0,none⟩ g=v){e:Env}(he:AB 21 e=pt it):IJ (AB 21) F e g=v:=by
 show(match DT (AB 21 e)with|.ok a=>bif Nat.beq a.off 0 then Jh a g else .no|.no=>.no)=_
 rw[he];exact hv
theorem PL{g:Hp}{it i:Nat}{y:Nat×List Nat}(hi:cs[i]? =some y){s0:Nat}(hit:g.bl.get it=.iter (some bc) s0 (seen++[c0+i]) (c0+cs.length))(hm:g.bl.get bc=.map (entsS c0 cs) (c0+cs.length)):Jh ⟨it,0,none⟩ g=.ok (.tuple ⟨[.int .i64 (y.1:Int),DK y.2]⟩) g:=by
 have hib:Dq (g.bl.get it)=.ok (some bc) s0 (seen++[c0+i]) (c0+cs.length):=by rw[hit];rfl
 have he:BR g bc=.ok (entsS c0 cs) (c0+cs.length):=by unfold BR;rw[hm];rfl
 unfold Jh
 simp only[hib,Ly]
 unfold HU
 simp only[he,Nat.beq_refl,cond_true,HV hi]
theorem Sw:AB 0 (Ce e fK.ws)=AB 0 e∧AB 21 (Ce e fK.ws)=AB 21 e:=by
 constructor
 ·simp[fK,Ce,AG]
 ·simp[fK,Ce,AG]
theorem bE(B:FlB h it bd bm bc n c0 cs arm dn T0)(I:FlI h it bm bc n c0 cs T0 seen g)(s0:AB 0 e=pt bd)(s21:AB 21 e=pt it){x:Ent}(hx:x∈restE seen (entsS c0 cs)):
  ∃ h1,Nm fK fB F e it bc (c0+cs.length) seen g x=some h1∧FlI h it bm bc n c0 cs T0 (seen++[x.born]) h1:=by
 obtain⟨hx1,hns⟩:=MS hx
 obtain⟨i,y,hi,rfl⟩:=PM hx1
 have hns:c0+i∉seen:=hns
 obtain⟨y1,y2,y3⟩:=B.sec y (List.mem_of_getElem? hi)
 have hil:i<cs.length:=(List.getElem?_eq_some_iff.1 hi).1
 obtain⟨T,done,t1,t2,t3⟩:=I.med
 have hnd:∀ z∈done,z.1≠y.1:=fun z hz he=>by
  obtain⟨j,j1,j2⟩:=(t3 z).1 hz
  have:=B.key j i z y j1 hi he
  rw[this]at j2;exact hns j2
 obtain⟨T',hs,ht'⟩:=t2.step B.has (k:=y.1) (l:=y.2) (by omega) y2 hnd
 have hnx:=I.nx
 have hbn:=B.nx
 have hlt:=B.lt
 have hne:=B.ne
 have hbig:=B.big
 have hitn:it<g.next:=by omega
 have W0:=I.wf.put hitn (.pick bc (c0+i) (c0+cs.length) (some seen))
 have P0:=I.wf.put_get hitn (.pick bc (c0+i) (c0+cs.length) (some seen))
 have e1:g.bl.set it (.pick bc (c0+i) (c0+cs.length) (some seen))=some (g.bl.lay it (.pick bc (c0+i) (c0+cs.length) (some seen))):=BT.lay_is fun j hj=>I.wf.has j (by omega)
 have lo0:(g.put it (.pick bc (c0+i) (c0+cs.length) (some seen))).low=min g.low it:=BC _ _
 have hi0:(g.put it (.pick bc (c0+i) (c0+cs.length) (some seen))).high=max g.high it:=Bw _ _
 have n0:(g.put it (.pick bc (c0+i) (c0+cs.length) (some seen))).next=g.next:=rfl
 have eg:(⟨g.next,B0 g.low it,Cf g.high it,g.mark,g.bl.lay it (.pick bc (c0+i) (c0+cs.length) (some seen))⟩:Hp)=g.put it (.pick bc (c0+i) (c0+cs.length) (some seen)):=rfl
 generalize g.put it (.pick bc (c0+i) (c0+cs.length) (some seen))=g0 at W0 P0 lo0 hi0 n0 eg
 have e2:g0.bl.set it (.iter (some bc) (c0+cs.length) (seen++[c0+i]) (c0+cs.length))=some (g0.bl.lay it (.iter (some bc) (c0+cs.length) (seen++[c0+i]) (c0+cs.length))):=BT.lay_is fun j hj=>W0.has j (by omega)
 have G2:∀ j,(g0.bl.lay it (.iter (some bc) (c0+cs.length) (seen++[c0+i]) (c0+cs.length))).get j=if j=it then .iter (some bc) (c0+cs.length) (seen++[c0+i]) (c0+cs.length)else g0.bl.get j:=BT.lay_get fun j hj=>W0.has j (by omega)
 have W2:(⟨g0.next,g0.low,g0.high,g0.mark,g0.bl.lay it (.iter (some bc) (c0+cs.length) (seen++[c0+i]) (c0+cs.length))⟩:Hp).Wf:=⟨W0.big,fun j hj=>BT.lay_has (fun j hj=>W0.has j (by omega)) j (.inr (W0.has j hj)),fun j hj=>by
  have hj:g0.next≤j:=hj
  show(g0.bl.lay _ _).get j=_
  rw[G2,if_neg (by omega)];exact W0.fresh j hj⟩
 have hmap0:g0.bl.get bc=.map (entsS c0 cs) (c0+cs.length):=by rw[P0,if_neg (by omega),I.old bc (by omega) (by omega) hne.2];exact B.map
 have nxv:F5 ⟨it,0,none⟩ g0=.ok (.tuple ⟨[.bool true,.int .i64 (y.1:Int),DK y.2]⟩) ⟨g0.next,g0.low,g0.high,g0.mark,g0.bl.lay it (.iter (some bc) (c0+cs.length) (seen++[c0+i]) (c0+cs.length))⟩:=by
  have hib:Dq (g0.bl.get it)=.pick bc (c0+i) (c0+cs.length) (some seen):=by rw[P0,if_pos rfl];rfl
  have he:BR g0 bc=.ok (entsS c0 cs) (c0+cs.length):=by unfold BR;rw[hmap0];rfl
  have hp:MK bc (c0+i) (c0+cs.length) (some seen)=.iter (some bc) (c0+cs.length) (seen++[c0+i]) (c0+cs.length):=by unfold MK;simp only[Qi]
  unfold F5
  simp only[hib,he,HV hi,hp,e2]
 have lo2:(⟨g0.next,g0.low,g0.high,g0.mark,g0.bl.lay it (.iter (some bc) (c0+cs.length) (seen++[c0+i]) (c0+cs.length))⟩:Hp).low=min g.low it:=lo0
 have hi2:(⟨g0.next,g0.low,g0.high,g0.mark,g0.bl.lay it (.iter (some bc) (c0+cs.length) (seen++[c0+i]) (c0+cs.length))⟩:Hp).high=max g.high it:=hi0
 have n2:(⟨g0.next,g0.low,g0.high,g0.mark,g0.bl.lay it (.iter (some bc) (c0+cs.length) (seen++[c0+i]) (c0+cs.length))⟩:Hp).next=g.next:=n0
 have G2:∀ j,(⟨g0.next,g0.low,g0.high,g0.mark,g0.bl.lay it (.iter (some bc) (c0+cs.length) (seen++[c0+i]) (c0+cs.length))⟩:Hp).bl.get j=if j=it then .iter (some bc) (c0+cs.length) (seen++[c0+i]) (c0+cs.length)else g0.bl.get j:=G2
 generalize (⟨g0.next,g0.low,g0.high,g0.mark,g0.bl.lay it (.iter (some bc) (c0+cs.length) (seen++[c0+i]) (c0+cs.length))⟩:Hp)=g2 at W2 nxv lo2 hi2 n2 G2
 have old2:∀ j,j≠it→g2.bl.get j=g.bl.get j:=fun j hj=>by rw[G2,if_neg hj,P0,if_neg hj]
 have env:=PL (g:=g2) hi (G2 it |>.trans (if_pos rfl)) (by rw[G2,if_neg (by omega)];exact hmap0)
 obtain⟨c1,c2⟩:=Sw (e:=e)
 obtain⟨e',g',r1,r2,r3,r4,r5,r6,r7,r8,r9⟩:=PW (F:=F) (e:=Ce e fK.ws) (g:=g0) (g1:=g2) (it:=it) (bd:=bd) (bm:=bm) (bc:=bc) (n:=n) (k:=y.1) (l:=y.2) (T:=T) (arm:=arm) (dn:=dn) W2 (c1.trans s0) (c2.trans s21)
  (fun e he=>X4 nxv he) (fun e he=>eN env he) (MT B.disk (by rw[old2 bd (by omega),I.old bd (by omega) (by omega) hne.1])) (by rw[old2 bm (by omega)];exact t1) hs y1 y2 hbig.1 (by omega)
 refine⟨g',?_,⟨r4,?_,.inr ⟨by simp,?_,?_⟩,?_,fun j h1 h2 h3=>?_,⟨T',done++[(y.1,y.2)],r6,ht',fun z=>?_⟩,?_⟩⟩
 ·unfold Nm
  show(match g.bl.set it (.pick bc (c0+i) (c0+cs.length) (some seen))with|some bl=>(match fB F (Ce e fK.ws) {next:=g.next,low:=B0 g.low it,high:=Cf g.high it,mark:=g.mark,bl:=bl}with|.norm _ h1=>some h1|_=>none)|none=>none)=_
  rw[e1]
  simp only[eg,r1]
 ·rw[r5,n2,hnx,List.length_append];rfl
 ·rw[r8,lo2,n2]
  rcases I.lh with ⟨_,h2,_⟩|⟨_,h2,_⟩<;>omega
 ·rw[r9,hi2,n2,List.length_append]
  show _=h.next+(seen.length+1)
  rcases I.lh with ⟨_,_,h3⟩|⟨_,_,h3⟩<;>omega
 ·rw[r7 it (by omega) (by omega),G2,if_pos rfl]
 ·rw[r7 j (by omega) h3,old2 j h2];exact I.old j h1 h2 h3
 ·constructor
  ·intro hz
   rcases List.mem_append.1 hz with hz|hz
   ·obtain⟨j,j1,j2⟩:=(t3 z).1 hz
    exact⟨j,j1,List.mem_append_left _ j2⟩
   ·obtain rfl:=List.mem_singleton.1 hz
    exact⟨i,hi,List.mem_append_right _ (List.mem_singleton.2 rfl)⟩
  ·rintro⟨j,j1,j2⟩
   rcases List.mem_append.1 j2 with j2|j2
   ·exact List.mem_append_left _ ((t3 z).2 ⟨j,j1,j2⟩)
   ·have:c0+j=c0+i:=List.mem_singleton.1 j2
    have:j=i:=by omega
    rw[this,hi]at j1
    cases j1
    exact List.mem_append_right _ (List.mem_singleton.2 rfl)
 ·have:=Qq (seen:=seen) (cs:=cs) (c:=c0) hil hns
  have h2:=I.cnt
  show(seen++[c0+i]).length+(restE (seen++[c0+i]) (entsS c0 cs)).length=_
  rw[List.length_append,List.length_singleton]
  omega
def FlR(h:Hp)(it bm n:Nat)(cs:List (Nat×List Nat))(Tz:VT)(r:Hp):Prop:=r.next=h.next+cs.length∧r.low=bm∧r.high+1=h.next+cs.length∧∀ i,r.bl.get i=if i=it∨h.next≤i then .dead else if i=bm then .cells Tz (64 * n) 0 else h.bl.get i
theorem S9{r:Hp}{Tz:VT}(B:FlB h it bd bm bc n c0 cs arm dn T0)(hz:LaidT T0 cs Tz)(hR:FlR h it bm n cs Tz r)(h0:cs≠[])(s0:AB 0 e=pt bd)(s21:AB 21 e=pt it):∀ (m:Nat) (seen:List Nat) (g:Hp) (tr:Rds),FlI h it bm bc n c0 cs T0 seen g→(restE seen (entsS c0 cs)).length<m→KC fK fB F e it (Us it h.next r) m g tr=true
 |0,_,_,_,_,hm=>absurd hm (Nat.not_lt_zero _)
 |m+1,seen,g,tr,I,hm=>by
  have hib:Dq (g.bl.get it)=.ok (some bc) (c0+cs.length) seen (c0+cs.length):=by rw[I.itr];rfl
  have hlt:=B.lt
  have hbn:=B.nx
  have hnx:=I.nx
  have hmap:g.bl.get bc=.map (entsS c0 cs) (c0+cs.length):=by rw[I.old bc (by omega) (by omega) B.ne.2];exact B.map
  have he:BR g bc=.ok (entsS c0 cs) (c0+cs.length):=by unfold BR;rw[hmap];rfl
  unfold KC NJ
  simp only[hib,he,Nat.beq_refl,cond_true,KL (Nat.zero_le c0) (Nat.le_refl (c0+cs.length))]
  cases hr:restE seen (entsS c0 cs)with
  |nil=>
   simp only
   have hc:=I.cnt
   rw[hr]at hc
   have hc:seen.length=cs.length:=hc
   have hlen:0<cs.length:=by
    cases cs with
    |nil=>exact absurd rfl h0
    |cons _ _=>exact Nat.succ_pos _
   obtain⟨T,done,t1,t2,t3⟩:=I.med
   have hT:T=Tz:=t2.uniq hz fun y=>by
    rw[t3 y]
    constructor
    ·rintro⟨i,hi,_⟩;exact List.mem_of_getElem? hi
    ·intro hy
     obtain⟨i,hi⟩:=List.mem_iff_getElem?.1 hy
     refine⟨i,hi,?_⟩
     apply Classical.byContradiction
     intro hn
     have h1:(⟨.int .i64 (y.1:Int),DK y.2,c0+i⟩:Ent)∈entsS c0 cs:=(Jl (HV hi)).1
     have:=MR h1 hn
     rw[hr]at this;cases this
   obtain⟨q1,q2,q3,q4⟩:=hR
   rcases I.lh with ⟨h1,_,_⟩|⟨_,h2,h3⟩
   ·rw[h1]at hc
    have:0=cs.length:=hc
    omega
   refine N2.2 ⟨by rw[hnx,q1,hc],by rw[q2,BC,h2];omega,by rw[Bw];omega,fun i=>?_⟩
   rw[q4]
   by_cases c1:i=it∨h.next≤i
   ·rw[if_pos c1,if_pos c1]
   ·rw[if_neg c1,if_neg c1]
    by_cases c2:i=bm
    ·rw[if_pos c2,c2,t1,hT]
    ·rw[if_neg c2,I.old i (by omega) (by omega) c2]
  |cons y l=>
   simp only
   rw[hr]at hm
   refine Ov fun x hx=>?_
   rw[← hr]at hx
   obtain⟨h1,e1,I1⟩:=bE (F:=F) (e:=e) B I s0 s21 hx
   rw[e1]
   refine S9 B hz hR h0 s0 s21 m _ h1 _ I1 ?_
   have c1:=I1.cnt
   have c2:=I.cnt
   rw[hr]at c2
   rw[List.length_append,List.length_singleton]at c1
   simp only[List.length_cons]at c2 hm
   omega
end
end
noncomputable section
open Go
set_option maxRecDepth 100000
section
variable {F:CallF}{e:Env}{h g g1:Hp}{it bd bm bc n k c0:Nat}{l seen:List Nat}{T T0:VT}{M:List Nat}{cs:List (Nat×List Nat)}{arm:Int}{dn:Bool}
def KK:Nat→Hp→Hp
 |0,h=>h
 |k+1,h=>KK k (h.push .dead)
theorem Qh:∀ (k:Nat) {h:Hp} (W:h.Wf),(KK k h).Wf∧(KK k h).next=h.next+k∧∀ i,(KK k h).bl.get i=h.bl.get i
 |0,h,W=>⟨W,rfl,fun _=>rfl⟩
 |k+1,h,W=>by
  obtain⟨a,b,c⟩:=Qh k (W.push .dead)
  refine⟨a,?_,fun i=>?_⟩
  ·show(KK k (h.push .dead)).next=_
   rw[b]
   show h.next+1+k=_
   omega
  ·show(KK k (h.push .dead)).bl.get i=_
   rw[c,W.push_get]
   by_cases hi:i=h.next
   ·rw[if_pos hi,W.fresh i (by omega)]
   ·rw[if_neg hi]
theorem jt(B:FlB h it bd bm bc n c0 cs arm dn T0)(h0:cs≠[])(Tz:VT):∃ r,FlR h it bm n cs Tz r∧∀ i,i<r.next→r.bl.has i:=by
 have hbn:=B.nx
 have hlt:=B.lt
 have W1:=B.wf.put (b:=it) (by omega) .dead
 have P1:=B.wf.put_get (b:=it) (by omega) .dead
 have W2:=W1.put (b:=bm) (show bm<h.next by omega) (.cells Tz (64 * n) 0)
 have P2:=W1.put_get (b:=bm) (show bm<h.next by omega) (.cells Tz (64 * n) 0)
 obtain⟨a,b,c⟩:=Qh cs.length W2
 have hlen:0<cs.length:=by
  cases cs with
  |nil=>exact absurd rfl h0
  |cons _ _=>exact Nat.succ_pos _
 refine⟨⟨h.next+cs.length,bm,h.next+cs.length - 1,0,(KK cs.length ((h.put it .dead).put bm (.cells Tz (64 * n) 0))).bl⟩,⟨rfl,rfl,by show h.next+cs.length - 1+1=_;omega,fun i=>?_⟩,fun i hi=>a.has i (by rw[b];exact hi)⟩
 show(KK cs.length ((h.put it .dead).put bm (.cells Tz (64 * n) 0))).bl.get i=_
 rw[c,P2,P1]
 by_cases c1:i=it
 ·rw[if_neg (by omega),if_pos c1,if_pos (.inl c1)]
 ·by_cases c2:h.next≤i
  ·rw[if_neg (by omega),if_neg c1,if_pos (.inr c2)]
   exact B.wf.fresh i c2
  ·rw[if_neg (by omega:¬ (i=it∨h.next≤i)),if_neg c1]
theorem bD(B:FlB h it bd bm bc n c0 cs arm dn T0){y z:Nat×List Nat}{rs:List (Nat×List Nat)}(hcs:cs=y::z::rs)(h60:cs.length≤60)(s0:AB 0 e=pt bd)(s21:AB 21 e=pt it):
  ∃ e' h',fW F e h=.exit 0 e' h'∧AB 0 e'=pt bd∧h'.Wf∧h.next≤h'.next∧(∀ i,i<h.next→i≠it→i≠bm→h'.bl.get i=h.bl.get i)∧∃ T,h'.bl.get bm=.cells T (64 * n) 0∧LaidT T0 cs T∧∀ L,L≤h.low→L≤it→L≤bm→L≤h'.low:=by
 have hbn:=B.nx
 have hlt:=B.lt
 have hbig:=B.big
 have h0:cs≠[]:=by rw[hcs];exact fun h=>by cases h
 obtain⟨Tz,hz⟩:=LaidT.all B.has cs [] T0 (.nil T0) B.sec B.key fun y _ z hz=>by cases hz
 have hz:LaidT T0 cs Tz:=hz
 obtain⟨r,hR,hhas⟩:=jt B h0 Tz
 have W1:(⟨h.next,h.next,0,h.mark,h.bl⟩:Hp).Wf:=⟨B.wf.big,B.wf.has,B.wf.fresh⟩
 have I0:FlI h it bm bc n c0 cs T0 [] ⟨h.next,h.next,0,h.mark,h.bl⟩:=⟨W1,rfl,.inl ⟨rfl,rfl,rfl⟩,B.itr,fun _ _ _ _=>rfl,⟨T0,[],B.med,.nil T0,fun y=>⟨fun h=>(by cases h),fun⟨_,_,h⟩=>by cases h⟩⟩,by rw[J3,Ld];exact Nat.zero_add _⟩
 have S:Ns fK fB F e h it r:=⟨hhas,S9 B hz hR h0 s0 s21 64 [] _ [] I0 (by rw[J3,Ld];omega)⟩
 obtain⟨q1,q2,q3,q4⟩:=hR
 obtain⟨h',a1,a2,a3,a4,_,a6⟩:=RX B.wf S (by omega)
 have hib:Dq (h.bl.get it)=.ok (some bc) (c0+cs.length) [] (c0+cs.length):=by rw[B.itr];rfl
 have he:BR h bc=.ok (entsS c0 cs) (c0+cs.length):=by unfold BR;rw[B.map];rfl
 refine⟨Env.set 23 (.bool false) (Ce e fK.ws),h',?_,?_,a2,by rw[a3];omega,fun i h1 h2 h3=>?_,Tz,?_,hz,fun L h1 _ h3=>by rw[a6];omega⟩
 ·rw[eP]
  unfold Ia
  have s21':AB fK.it e=.pointer (some ⟨it,0,none⟩):=s21
  have es:entsS c0 cs=⟨.int .i64 (y.1:Int),DK y.2,c0⟩::⟨.int .i64 (z.1:Int),DK z.2,c0+1⟩::entsS (c0+1+1) rs:=by rw[hcs];rfl
  rw[es]at he
  have b2:Nat.ble 256 it=true:=Af.2 hbig.2
  simp only[s21',hib,he,Nat.beq_refl,cond_true,b2]
  exact a1
 ·obtain⟨c1,_⟩:=Sw (e:=e)
  rw[AG (by decide) (by decide),if_neg (by decide),c1];exact s0
 ·rw[a4 i h1 h2,q4,if_neg (by omega),if_neg h3]
 ·rw[a4 bm (by omega) (by omega),q4,if_neg (by omega),if_pos rfl]
theorem js(B:FlB h it bd bm bc n c0 cs arm dn T0){y:Nat×List Nat}(hcs:cs=[y])(s0:AB 0 e=pt bd)(s21:AB 21 e=pt it):
  ∃ e' h',fW F e h=.exit 0 e' h'∧AB 0 e'=pt bd∧h'.Wf∧h.next≤h'.next∧(∀ i,i<h.next→i≠it→i≠bm→h'.bl.get i=h.bl.get i)∧∃ T,h'.bl.get bm=.cells T (64 * n) 0∧LaidT T0 cs T∧∀ L,L≤h.low→L≤it→L≤bm→L≤h'.low:=by
 have hbn:=B.nx
 have hlt:=B.lt
 have hbig:=B.big
 have hib:Dq (h.bl.get it)=.ok (some bc) (c0+cs.length) [] (c0+cs.length):=by rw[B.itr];rfl
 have he:BR h bc=.ok (entsS c0 cs) (c0+cs.length):=by unfold BR;rw[B.map];rfl
 have hi:cs[0]? =some y:=by rw[hcs];rfl
 obtain⟨y1,y2,y3⟩:=B.sec y (List.mem_of_getElem? hi)
 obtain⟨T',hs,ht'⟩:=(LaidT.nil T0).step B.has (k:=y.1) (l:=y.2) (by omega) y2 fun z hz=>by cases hz
 have es:entsS c0 cs=[⟨.int .i64 (y.1:Int),DK y.2,c0⟩]:=by rw[hcs];rfl
 have hl1:cs.length=1:=by rw[hcs];rfl
 have hlf:KI (c0+cs.length) [] [⟨.int .i64 (y.1:Int),DK y.2,c0⟩]=some [⟨.int .i64 (y.1:Int),DK y.2,c0⟩]:=by
  show(bif Nat.blt c0 (c0+cs.length)then some [_]else none)=_
  rw[BD.2 (by omega)];rfl
 have W2:=B.wf.put (b:=it) (by omega) (.iter (some bc) (c0+cs.length) [c0] (c0+cs.length))
 have P2:=B.wf.put_get (b:=it) (by omega) (.iter (some bc) (c0+cs.length) [c0] (c0+cs.length))
 have nxv:F5 ⟨it,0,none⟩ h=.ok (.tuple ⟨[.bool true,.int .i64 (y.1:Int),DK y.2]⟩) (h.put it (.iter (some bc) (c0+cs.length) [c0] (c0+cs.length))):=by
  unfold F5
  simp only[hib,he,es,hlf,cond_false]
  have:JB c0 []=[c0]:=rfl
  rw[this,Df B.wf hbig.2 (by omega)]
 have n2:(h.put it (.iter (some bc) (c0+cs.length) [c0] (c0+cs.length))).next=h.next:=rfl
 have lo2:(h.put it (.iter (some bc) (c0+cs.length) [c0] (c0+cs.length))).low=min h.low it:=BC _ _
 generalize h.put it (.iter (some bc) (c0+cs.length) [c0] (c0+cs.length))=g2 at W2 P2 nxv n2 lo2
 have old2:∀ j,j≠it→g2.bl.get j=h.bl.get j:=fun j hj=>by rw[P2,if_neg hj]
 have env:=PL (g:=g2) (seen:=[]) (c0:=c0) (i:=0) hi (by rw[P2,if_pos rfl];rfl) (by rw[old2 bc (by omega)];exact B.map)
 obtain⟨e',g',r1,r2,r3,r4,r5,r6,r7,r8,r9⟩:=PW (F:=F) (e:=e) (g:=h) (g1:=g2) (it:=it) (bd:=bd) (bm:=bm) (bc:=bc) (n:=n) (k:=y.1) (l:=y.2) (T:=T0) (arm:=arm) (dn:=dn) W2 s0 s21
  (fun e he=>X4 nxv he) (fun e he=>eN env he) (MT B.disk (old2 bd (by omega))) ((old2 bm (by omega)).trans B.med) hs y1 y2 hbig.1 (by omega)
 have old3:∀ j,j<h.next→j≠it→j≠bm→g'.bl.get j=h.bl.get j:=fun j h1 h2 h3=>by rw[r7 j (by omega) h3,old2 j h2]
 have nx2:F5 ⟨it,0,none⟩ g'=.ok (.tuple ⟨[.bool false]⟩) g':=by
  have hib:Dq (g'.bl.get it)=.ok (some bc) (c0+cs.length) [c0] (c0+cs.length):=by rw[r7 it (by omega) (by omega),P2,if_pos rfl];rfl
  have he:BR g' bc=.ok (entsS c0 cs) (c0+cs.length):=by
   unfold BR
   rw[old3 bc (by omega) (by omega) B.ne.2,B.map];rfl
  have hlf:KI (c0+cs.length) [c0] [⟨.int .i64 (y.1:Int),DK y.2,c0⟩]=some []:=by
   show(bif (bif Nat.beq c0 c0 then true else false)then some []else _)=_
   rw[Nat.beq_refl];rfl
  have hyg:Ey (c0+cs.length) [⟨.int .i64 (y.1:Int),DK y.2,c0⟩]=false:=by
   show(bif Nat.ble (c0+cs.length) c0 then true else false)=false
   have:Nat.ble (c0+cs.length) c0=false:=by
    cases hb:Nat.ble (c0+cs.length) c0
    ·rfl
    ·have:=Af.1 hb;omega
   rw[this];rfl
  unfold F5
  simp only[hib,he,es,hlf,hyg,cond_false];rfl
 have hb2:∃ e2,fB F e' g'=.exit 0 e2 g'∧AB 0 e2=pt bd:=by
  have nn:=X4 (F:=F) nx2 r3
  unfold fB
  simp only[sT,Nat.reduceLT,Nat.reduceEqDiff,reduceIte,nn,BA,BL]
  exact⟨_,rfl,by simp[AG,r2]⟩
 obtain⟨e2,b1,b2⟩:=hb2
 refine⟨e2,g',?_,b2,r4,by omega,old3,T',r6,by rw[hcs];exact ht',fun L h1 h2 h3=>by rw[r8];omega⟩
 rw[eP]
 unfold Ia
 have s21':AB fK.it e=.pointer (some ⟨it,0,none⟩):=s21
 rw[es]at he
 simp only[s21',hib,he]
 refine BZ (I:=fun i e1 h1=>(i=0∧e1=e∧h1=h)∨(i=1∧e1=e'∧h1=g')) (Q:=fun x=>x=.exit 0 e2 g') 1 (by omega) (fun i e1 h1 hI=>?_) (.inl ⟨rfl,rfl,rfl⟩)
 rcases hI with ⟨rfl,rfl,rfl⟩|⟨rfl,rfl,rfl⟩
 ·exact .inl ⟨by omega,e',g',r1,.inr ⟨rfl,rfl,rfl⟩⟩
 ·right
  rw[b1];exact⟨rfl,rfl⟩
theorem XZ{m:Nat}(W:h.Wf)(d:Dk h bd bm bc n M c0 cs arm false){k:Nat}(ha:Bk arm (k+1))(hK:KeyU cs)(hc:SecOk n cs)(h0:cs≠[])(h60:cs.length≤60):
  ∃ h',call AD (m+3) 76 [pt bd] h=.ok (.int .i64 0) h'∧Fx (fun b=>b=bd∨b=bm∨b=bc) h h'∧Dk h' bd bm bc n (Fb M cs) (c0+cs.length) [] (Fm arm) false:=by
 have k1:=Mc (m:=m) d (i:=0) (by have:=d.n1;omega)
 have k1:call AD (m+2) 95 [pt bd,.int .i64 0] h=.ok (.int .i64 0) h:=k1
 obtain⟨h1,k2,f1,d1⟩:=Tp (m:=m+1) W d ha
 have c1:iNe 0 0=false:=Cm rfl
 obtain⟨_,l1,_,_⟩:=C3 d1.disk
 have hlt:=d1.lt f1.wf
 have rg:∀ (F:CallF) (e:Env),AB 20 e=.map (some bc)→Jy (AB 20) F e h1=.ok (pt h1.next) (h1.push (.iter (some bc) (c0+cs.length) [] (c0+cs.length))):=fun F e he=>by
  have hen:BR h1 bc=.ok (entsS c0 cs) (c0+cs.length):=by unfold BR;rw[d1.map];rfl
  unfold Jy
  rw[he]
  simp only[hen]
  rw[Ci f1.wf];rfl
 have W2:=f1.wf.push (.iter (some bc) (c0+cs.length) [] (c0+cs.length))
 have P2:=f1.wf.push_get (.iter (some bc) (c0+cs.length) [] (c0+cs.length))
 have x2:h1.Ext (h1.push (.iter (some bc) (c0+cs.length) [] (c0+cs.length))):=(Hp.Ext.refl f1.wf).push _
 have n2:(h1.push (.iter (some bc) (c0+cs.length) [] (c0+cs.length))).next=h1.next+1:=rfl
 generalize h1.push (.iter (some bc) (c0+cs.length) [] (c0+cs.length))=h2 at rg W2 P2 x2 n2
 have d2:=d1.ext f1.wf x2
 obtain⟨T0,t1,t2⟩:=d2.med
 rw[List.length_map,d2.len]at t1
 have B:FlB h2 h1.next bd bm bc n c0 cs (Fm arm) false T0:=⟨W2,n2,by rw[P2,if_pos rfl],d2.disk,t1,fun j hj=>(t2 j (by rw[List.length_map,d2.len];exact hj)).1,d2.map,hlt,⟨d.bdm,fun h=>d.bmc h.symm⟩,⟨d.big.2.1,f1.wf.big⟩,hc,hK⟩
 have lX:∀ (F:CallF) (e:Env),AB 0 e=pt bd→AB 21 e=pt h1.next→∃ e' h',fW F e h2=.exit 0 e' h'∧AB 0 e'=pt bd∧h'.Wf∧h2.next≤h'.next∧(∀ i,i<h2.next→i≠h1.next→i≠bm→h'.bl.get i=h2.bl.get i)∧∃ T,h'.bl.get bm=.cells T (64 * n) 0∧LaidT T0 cs T∧∀ L,L≤h2.low→L≤h1.next→L≤bm→L≤h'.low:=fun F e e1 e2=>by
  cases cs with
  |nil=>exact absurd rfl h0
  |cons y l=>
   cases l with
   |nil=>exact js B rfl e1 e2
   |cons z l=>exact bD B rfl h60 e1 e2
 have pre:∃ e1,aU (call AD (m+2)) (AQ e0 0 [pt bd]) h=fS (call AD (m+2)) e1 h2∧AB 0 e1=pt bd∧AB 21 e1=pt h1.next:=by
  unfold aU
  simp only[iN,Nat.reduceAdd,sT,Nat.reduceLT,Nat.reduceEqDiff,reduceIte,cA0,k1,k2,AL,AK,c1,Au,Aj,AJ,AN,AM,AP,Nat.zero_add,l1,rg]
  exact⟨_,rfl,by simp[AG]⟩
 obtain⟨e1,p1,p2,p3⟩:=pre
 obtain⟨e3,h3,w1,w2,w3,w4,w5,T,w6,w7,w8⟩:=lX (call AD (m+2)) e1 p2 p3
 have d3:h3.Row bd 0 (dkL bm bc n (Fm arm) false):=MT d2.disk (w5 bd (by omega) (by omega) d.bdm)
 have m3:h3.bl.get bc=.map (entsS c0 cs) (c0+cs.length):=by rw[w5 bc (by omega) (by omega) (fun h=>d.bmc h.symm)];exact d2.map
 have r3:h3.Row bm 0 ((Fb M cs).map bv):=⟨T,by rw[w6,List.length_map,F3 d.len hc],w7.is t2 d.len hc hK⟩
 obtain⟨_,l3,_,_⟩:=C3 d3
 have cl:∀ (F:CallF) (e:Env),AB 37 e=.map (some bc)→Ev (AB 37) F e h3=.ok noRes (h3.put bc (.map [] (c0+cs.length))):=fun F e he=>by
  have hen:BR h3 bc=.ok (entsS c0 cs) (c0+cs.length):=by unfold BR;rw[m3];rfl
  unfold Ev
  rw[he]
  simp only[hen]
  rw[Df w3 d.big.2.2 (by omega)];rfl
 have W4:=w3.put (b:=bc) (by omega) (.map [] (c0+cs.length))
 have P4:=w3.put_get (b:=bc) (by omega) (.map [] (c0+cs.length))
 have n4:(h3.put bc (.map [] (c0+cs.length))).next=h3.next:=rfl
 have lo4:(h3.put bc (.map [] (c0+cs.length))).low=min h3.low bc:=BC _ _
 generalize h3.put bc (.map [] (c0+cs.length))=h4 at cl W4 P4 n4 lo4
 refine⟨h4,?_,⟨by have:=f1.next;omega,fun i hi hs=>?_,W4,fun L q1 q2 q3=>by
  have z1:=f1.low L q1 q2 fun b hb=>q3 b (.inl hb)
  have z2:=f1.next
  have z3:=x2.low
  have z4:=w8 L (by omega) (by omega) (q3 bm (.inr (.inl rfl)))
  have z5:=q3 bc (.inr (.inr rfl))
  omega⟩,⟨MT d3 (by rw[P4,if_neg d.bdc]),MT r3 (by rw[P4,if_neg d.bmc]),F3 d.len hc,Pr d.byt hc,by rw[P4,if_pos rfl];rfl,d.big,d.n1⟩⟩
 ·rw[iu rfl,jd,p1,nw]
  simp only[BH,Aw,w1,A1,BB]
  unfold fE
  simp only[sT,Nat.reduceLT,Nat.reduceEqDiff,reduceIte,Au,w2,Aj,AJ,AN,AM,AP,Nat.zero_add,l3,cl,lV0]
 ·have hn:=f1.next
  rw[P4,if_neg (fun e=>hs (.inr (.inr e))),w5 i (by omega) (by omega) (fun e=>hs (.inr (.inl e))),x2.get i (by omega),f1.get i hi (fun e=>hs (.inl e))]
end
end
noncomputable section
open Go
set_option maxRecDepth 100000
structure Kt where
 a:Int
 b:Int
 c:Int
 s:Nat
 l:List Nat
 p:Nat
 u:Value
def AU(k:Kt):List Value:=[.int .i64 k.a,.int .i64 k.b,.int .i64 k.c,.int .u8 (k.s:Int),k.u,.int .i64 (k.p:Int)]
def ktV(k:Kt):Value:=.agg ⟨AU k⟩
def flK(ks:List Kt):List Value:=ks.flatMap AU
theorem CF:∀ ks:List Kt,(flK ks).length=6 * ks.length
 |[]=>rfl
 |k::ks=>by
  show(AU k++flK ks).length=_
  rw[List.length_append,CF ks,List.length_cons]
  show 6+_=_
  omega
theorem Iq(a b:List Kt):flK (a++b)=flK a++flK b:=List.flatMap_append
theorem S8:∀ (ks:List Kt) (i:Nat) (k:Kt),ks[i]? =some k→((flK ks).drop (6 * i)).take 6=AU k
 |[],i,k,h=>by cases h
 |x::ks,0,k,h=>by
  have h:some x=some k:=h
  cases h
  show((AU x++flK ks).drop 0).take 6=_
  rw[List.drop_zero]
  exact List.take_left' rfl
 |x::ks,i+1,k,h=>by
  rw[List.getElem?_cons_succ]at h
  show((AU x++flK ks).drop (6 * (i+1))).take 6=_
  have:6 * (i+1)=(AU x).length+6 * i:=by show _=6+_;omega
  rw[this,List.drop_length_add_append]
  exact S8 ks i k h
def Hp.KS(h:Hp)(S:Nat→Prop)(v:Value)(ks:List Kt):Prop:=(v=.slice none 0 0∧ks=[])∨∃ b c el L,v=.slice (some ⟨b,0,none⟩) ks.length c∧ks.length≤c∧h.Row b el L∧6 * ks.length≤L.length∧L.take (6 * ks.length)=flK ks∧(el=84∨el=0)∧S b
section
variable {h h':Hp}{S S':Nat→Prop}{v:Value}{ks:List Kt}
theorem Hp.KS.keep(o:h.KS S v ks)(hk:∀ b el L,S b→h.Row b el L→h'.Row b el L):h'.KS S v ks:=by
 rcases o with h1|⟨b,c,el,L,h1,h2,h3,h4,h5,h6,h7⟩
 ·exact .inl h1
 ·exact .inr ⟨b,c,el,L,h1,h2,hk _ _ _ h7 h3,h4,h5,h6,h7⟩
theorem Hp.KS.ext(o:h.KS S v ks)(W:h.Wf)(x:h.Ext h'):h'.KS S v ks:=o.keep fun _ _ _ _ r=>r.ext W x
theorem Hp.KS.same(o:h.KS S v ks)(hb:h'.bl=h.bl):h'.KS S v ks:=o.keep fun _ _ _ _ r=>r.same hb
theorem Hp.KS.mono(o:h.KS S v ks)(hs:∀ b,S b→S' b):h.KS S' v ks:=by
 rcases o with h1|⟨b,c,el,L,h1,h2,h3,h4,h5,h6,h7⟩
 ·exact .inl h1
 ·exact .inr ⟨b,c,el,L,h1,h2,h3,h4,h5,h6,hs _ h7⟩
theorem Hp.KS.len(o:h.KS S v ks)(g:Hp):lenSR v g=.ok (.int .i64 (ks.length:Int)) g:=by
 rcases o with ⟨rfl,rfl⟩|⟨b,c,el,L,rfl,_⟩<;>rfl
theorem Hp.KS.at(o:h.KS S v ks){i:Nat}{k:Kt}(hi:ks[i]? =some k):∃ b,S b∧idxSR 6 v (.int .i64 (i:Int)) h=.ok (.pointer (some ⟨b,6 * i,none⟩)) h∧loadN 6 ⟨b,6 * i,none⟩ h=.ok (ktV k) h∧∀ j w,(AU k)[j]? =some w→load1 ⟨b,6 * i+j,none⟩ h=.ok w h:=by
 have hil:=(List.getElem?_eq_some_iff.1 hi).1
 rcases o with ⟨rfl,rfl⟩|⟨b,c,el,L,rfl,h2,h3,h4,h5,h6,h7⟩
 ·cases hi
 ·have hc:(L.drop (6 * i)).take 6=AU k:=by
   have:=S8 ks i k hi
   rw[← h5,List.drop_take,List.take_take,Nat.min_eq_left (by omega)]at this
   exact this
  refine⟨b,h7,?_,?_,fun j w hj=>?_⟩
  ·have:=DX (h:=h) (n:=ks.length) (c:=c) (es:=6) (b:=b) (off:=0) (i:=i) (k:=.i64) hil
   rwa [Nat.zero_add,Nat.mul_comm]at this
  ·rw[h3.loadN (by omega),hc];rfl
  ·have hj6:j<6:=(List.getElem?_eq_some_iff.1 hj).1
   rw[← hc,List.getElem?_take,if_pos hj6,List.getElem?_drop]at hj
   rw[h3.load1 (by omega),List.getD_eq_getElem?_getD,hj];rfl
theorem Hp.KS.one(o:h.KS S v ks):cellsOf v=[v]∧oneCell v=true∧known v=true:=by
 rcases o with ⟨rfl,_⟩|⟨b,c,el,L,rfl,_⟩<;>exact⟨rfl,rfl,rfl⟩
end
def Hp.KW(h:Hp)(S:Nat→Prop)(v:Value)(ks:List Kt):Prop:=(v=.slice none 0 0∧ks=[])∨∃ b,v=.slice (some ⟨b,0,none⟩) ks.length ks.length∧h.Row b 84 (flK ks)∧S b
theorem Hp.KW.ks{h:Hp}{S:Nat→Prop}{v:Value}{ks:List Kt}(o:h.KW S v ks):h.KS S v ks:=by
 rcases o with h1|⟨b,h1,h2,h3⟩
 ·exact .inl h1
 ·exact .inr ⟨b,_,84,_,h1,Nat.le_refl _,h2,by rw[CF];omega,by rw[← CF,List.take_length],.inl rfl,h3⟩
theorem Hp.KS.ks{h:Hp}{S:Nat→Prop}{v:Value}{ks:List Kt}(o:h.KS S v ks):h.KS S v ks:=o
def Hp.WI(h:Hp)(S:Nat→Prop)(v:Value)(xs:List Value):Prop:=(v=.slice none 0 0∧xs=[])∨∃ b el,v=.slice (some ⟨b,0,none⟩) xs.length xs.length∧h.Row b el xs∧(el=4∨el=0)∧S b
theorem Hp.WI.keep{h h':Hp}{S:Nat→Prop}{v:Value}{xs:List Value}(o:h.WI S v xs)(hk:∀ b el L,S b→h.Row b el L→h'.Row b el L):h'.WI S v xs:=by
 rcases o with h1|⟨b,el,h1,h2,h3,h4⟩
 ·exact .inl h1
 ·exact .inr ⟨b,el,h1,hk _ _ _ h4 h2,h3,h4⟩
theorem Hp.WI.vals{h:Hp}{S:Nat→Prop}{v:Value}{xs:List Value}(o:h.WI S v xs):h.Vals v xs:=by
 rcases o with h1|⟨b,el,h1,h2,h3,h4⟩
 ·exact .inl h1
 ·exact .inr ⟨b,0,_,el,xs,h1,h2,by omega,by rw[List.drop_zero,List.take_length]⟩
def KtOk(h:Hp)(S:Nat→Prop)(k:Kt):Prop:=h.BS S k.u (k.l.map bv)∧(∀ x∈k.l,x<256)∧k.l.length≤100∧(k.s=1∨k.s=2)∧rightS k.a k.b k.c k.s k.l.length=true∧k.p<65536
def slL(bd tb:Nat)(lv fv:Value)(bad:Nat)(ov:Bool):List Value:=[pt bd,pt tb,.int .i64 100,lv,fv,.int .i64 (bad:Int),.bool ov]
structure At where
 bs:Nat
 bd:Nat
 bm:Nat
 bc:Nat
 tb:Nat
 n:Nat
abbrev At.D(A:At):Nat→Prop:=fun b=>b=A.bs∨b=A.bd∨b=A.bm∨b=A.bc
structure Sl (h:Hp)(A:At)(T M:List Nat)(c0:Nat)(arm:Int)(ks:List Kt)(fr:List Nat)(lv fv:Value)(bad:Nat)(ov:Bool):Prop where
 row:h.Row A.bs 0 (slL A.bd A.tb lv fv bad ov)
 dk:Dk h A.bd A.bm A.bc A.n M c0 [] arm false
 tab:h.Row A.tb 0 (T.map wv)
 tok:TblOk T
 ls:h.KS (fun b=>¬ A.D b) lv ks
 ko:∀ k∈ks,KtOk h (fun b=>¬ A.D b) k
 fs:h.WI (fun b=>¬ A.D b) fv (ints .i64 (fr.map Int.ofNat))
 ne:A.bs≠A.bd∧A.bs≠A.bm∧A.bs≠A.bc∧¬ A.D A.tb∧256≤A.bs
 le:ks.length≤1000∧fr.length≤1000∧bad≤1000∧∀ p∈fr,3 * p+3≤A.n
section
variable {F:CallF}{e:Env}{h h':Hp}{A:At}{T M:List Nat}{c0 bad m:Nat}{arm:Int}{ks:List Kt}{fr:List Nat}{lv fv:Value}{ov:Bool}
theorem Sl.keep(s:Sl h A T M c0 arm ks fr lv fv bad ov)(hr:∀ b el L,h.Row b el L→h'.Row b el L)(hm:h'.bl.get A.bc=h.bl.get A.bc):Sl h' A T M c0 arm ks fr lv fv bad ov:=
 ⟨hr _ _ _ s.row,⟨hr _ _ _ s.dk.disk,hr _ _ _ s.dk.med,s.dk.len,s.dk.byt,hm.trans s.dk.map,s.dk.big,s.dk.n1⟩,hr _ _ _ s.tab,s.tok,s.ls.keep fun _ _ _ _ r=>hr _ _ _ r,fun k hk=>⟨(s.ko k hk).1.keep fun _ _ _ _ _ r=>hr _ _ _ r,(s.ko k hk).2⟩,s.fs.keep fun _ _ _ _ r=>hr _ _ _ r,s.ne,s.le⟩
theorem Sl.ext(s:Sl h A T M c0 arm ks fr lv fv bad ov)(W:h.Wf)(x:h.Ext h'):Sl h' A T M c0 arm ks fr lv fv bad ov:=s.keep (fun _ _ _ r=>r.ext W x) (x.get _ (s.dk.lt W).2.2)
theorem Sl.same(s:Sl h A T M c0 arm ks fr lv fv bad ov)(hb:h'.bl=h.bl):Sl h' A T M c0 arm ks fr lv fv bad ov:=s.keep (fun _ _ _ r=>r.same hb) (by rw[hb])
theorem A5{bs bd tb:Nat}(R:h.Row bs 0 (slL bd tb lv fv bad ov)):load1 ⟨bs,0,none⟩ h=.ok (pt bd) h∧load1 ⟨bs,1,none⟩ h=.ok (pt tb) h∧load1 ⟨bs,2,none⟩ h=.ok (.int .i64 100) h∧load1 ⟨bs,3,none⟩ h=.ok lv h∧load1 ⟨bs,4,none⟩ h=.ok fv h∧load1 ⟨bs,5,none⟩ h=.ok (.int .i64 (bad:Int)) h∧load1 ⟨bs,6,none⟩ h=.ok (.bool ov) h:=
 ⟨R.load1 (off:=0) (by show 0<7;omega),R.load1 (off:=1) (by show 1<7;omega),R.load1 (off:=2) (by show 2<7;omega),R.load1 (off:=3) (by show 3<7;omega),R.load1 (off:=4) (by show 4<7;omega),R.load1 (off:=5) (by show 5<7;omega),R.load1 (off:=6) (by show 6<7;omega)⟩
theorem oE{a b:Nat}(h1:a * b≤1000000000):Fl Int.mul .i64 (.int .i64 (a:Int)) (.int .i64 (b:Int)) h=.ok (.int .i64 ((a * b:Nat):Int)) h:=by
 have:Int.mul (a:Int) (b:Int)=((a * b:Nat):Int):=(Int.natCast_mul a b).symm
 rw[CT,this,Ba (by omega)]
theorem Sm{a b:Nat}(h1:a+b≤1000000000):FK .i64 (.int .i64 (a:Int)) (.int .i64 (b:Int)) h=.ok (.int .i64 ((a+b:Nat):Int)) h:=by
 have:(a:Int)+(b:Int)=((a+b:Nat):Int):=by omega
 rw[ES,this,Ba (by omega)]
theorem Nj:Ni 100=3:=by decide
theorem Mu{bs bd tb:Nat}(R:h.Row bs 0 (slL bd tb lv fv bad ov)){p:Nat}(hp:p≤65536):call AD (m+2) 46 [pt bs,.int .i64 (p:Int)] h=.ok (.int .i64 ((p * 3:Nat):Int)) h:=by
 obtain⟨_,_,l2,_⟩:=A5 R
 have k1:=UC (n:=m) (h:=h) (z:=100)
 rw[Nj]at k1
 have a1:=oE (h:=h) (a:=p) (b:=3) (by omega)
 rw[iQ rfl]
 unfold d46
 simp only[iN,Nat.reduceAdd,sT,Nat.reduceLT,Nat.reduceEqDiff,reduceIte,Au,Aj,AJ,AN,Nat.zero_add,AM,AP,l2,cA0,k1,Bs,a1,lV0]
theorem HG{f:OpF}{mm:Qm}{v:Value}(W:h.Wf)(hf:f F e h.quiet=.ok v h.quiet)(hm:h.mark≤h.next):Am mm f F e h=.ok v (h.back h.quiet):=DJ hf (.refl W.quiet) hm
theorem Z9{x y z:O}{b N k:Nat}(hx:x e=.slice (some ⟨b,0,none⟩) N N)(hy:y e=.int .i64 (k:Int))(hz:z e=.int .i64 (k:Int))(hk:k≤N):Db 5 1 x none (some y) (some z) F e h=.ok (.slice (some ⟨b,0,none⟩) k k) h:=by
 have hb:∀ (d:Nat) (y:O) (Y:Nat) (K:Nat→R),y e=.int .i64 (k:Int)→k≤Y→CY e (some y) d Y K=K k:=fun d y Y K hy hY=>by
  show(match Cu (y e)with|.ok n=>(bif Nat.ble n Y then K n else .no)|.no=>.no)=_
  rw[hy,Cs]
  simp only
  rw[Af.2 hY];rfl
 show(match x e with|.slice a n c=>DB e n c none (some y) (some z) (fun l hh m=>Dn 5 1 a true l hh m h)|_=>.no)=_
 rw[hx]
 show CY e (some z) N N (fun m=>CY e (some y) N m fun hh=>CY e none 0 hh fun l=>Dn 5 1 (some ⟨b,0,none⟩) true l hh m h)=_
 rw[hb _ _ _ _ hz hk,hb _ _ _ _ hy (Nat.le_refl _)]
 show Bc (some ⟨b,0,none⟩) 1 0 k k h=_
 unfold Bc
 simp only[Aa]
 cases k with
 |zero=>rfl
 |succ k=>rfl
theorem Wu{x y z:O}(hx:x e=.slice none 0 0)(hy:y e=.int .i64 ((0:Nat):Int))(hz:z e=.int .i64 ((0:Nat):Int)):Db 5 1 x none (some y) (some z) F e h=.ok (.slice none 0 0) h:=by
 show(match x e with|.slice a n c=>DB e n c none (some y) (some z) (fun l hh m=>Dn 5 1 a true l hh m h)|_=>.no)=_
 rw[hx]
 show(match Cu (z e)with|.ok n=>(bif Nat.ble n 0 then(match Cu (y e)with|.ok n'=>(bif Nat.ble n' n then Bc none 1 0 n' n h else .no)|.no=>.no)else .no)|.no=>.no)=_
 rw[hy,hz];rfl
def dat(M:List Nat)(p k:Nat):List Nat:=(M.drop (64 * (3 * p+1))).take k
theorem XJ{M:List Nat}{n p i:Nat}(hM:M.length=64 * n)(hi:3 * p+1+i<n):dat M p (64 * i)++sec M (3 * p+1+i)=dat M p (64 * (i+1)):=by
 unfold dat sec
 have:M.drop (64 * (3 * p+1+i))=(M.drop (64 * (3 * p+1))).drop (64 * i):=by rw[List.drop_drop];congr 1;omega
 rw[this,show 64 * (i+1)=64 * i+64 by omega,List.take_add]
theorem Ie{M:List Nat}{n p k:Nat}(hM:M.length=64 * n)(hk:64 * (3 * p+1)+k≤64 * n):(dat M p k).length=k:=by
 unfold dat;rw[List.length_take,List.length_drop];omega
theorem XI{M:List Nat}(hb:∀ x∈M,x<256)(p k:Nat):∀ x∈dat M p k,x<256:=fun x hx=>hb x (List.mem_of_mem_drop (List.mem_of_mem_take hx))
theorem Yr:reS=BG (Ac 0 (Ax reB)) reE:=rfl
theorem XG:d88=aX:=rfl
theorem WS(W:h.Wf){bs bd bm bc tb n:Nat}(R:h.Row bs 0 (slL bd tb lv fv bad ov))(d:Dk h bd bm bc n M c0 [] arm false){p k:Nat}(hp:3 * p+3≤n)(hk:k≤128):
  ∃ h' v,call AD (m+4) 88 [pt bs,.int .i64 (p:Int),.int .i64 (k:Int)] h=.ok (.tuple ⟨[v,.int .i64 0]⟩) h'∧h.Ext h'∧h'.BS (fun b=>h.next≤b) v ((dat M p k).map bv):=by
 have hn:=d.n1
 have pre:∃ e1,aX (call AD (m+3)) (AQ e0 0 [pt bs,.int .i64 (p:Int),.int .i64 (k:Int)]) h=reS (call AD (m+3)) e1 h∧AB 0 e1=pt bs∧AB 1 e1=.int .i64 (p:Int)∧AB 2 e1=.int .i64 (k:Int)∧AB 8 e1=.slice none 0 0∧AB 9 e1=.int .i64 ((0:Nat):Int):=by
  unfold aX
  simp only[iN,Nat.reduceAdd,sT,Nat.reduceLT,Nat.reduceEqDiff,reduceIte]
  exact⟨_,rfl,by simp[AG]⟩
 obtain⟨e1,p1,s0,s1,s2,s8,s9⟩:=pre
 have run:∃ e' h' v i,Ax reB (call AD (m+3)) e1 h=.exit 0 e' h'∧h.Ext h'∧h'.Own h.next 5 v ((dat M p (64 * i)).map bv)∧k≤64 * i∧i≤2∧AB 8 e'=v∧AB 2 e'=.int .i64 (k:Int):=by
  refine BZ (I:=fun i e' h'=>∃ v,h.Ext h'∧h'.Own h.next 5 v ((dat M p (64 * i)).map bv)∧AB 0 e'=pt bs∧AB 1 e'=.int .i64 (p:Int)∧AB 2 e'=.int .i64 (k:Int)∧AB 8 e'=v∧AB 9 e'=.int .i64 (i:Int)∧i≤2)
   (Q:=fun x=>∃ e' h' v i,x=.exit 0 e' h'∧h.Ext h'∧h'.Own h.next 5 v ((dat M p (64 * i)).map bv)∧k≤64 * i∧i≤2∧AB 8 e'=v∧AB 2 e'=.int .i64 (k:Int)) 2 (by omega) (fun i e' h' ⟨v,x',o',t0,t1,t2,t8,t9,hi⟩=>?_)
   ⟨_,.refl W,.inl ⟨rfl,rfl⟩,s0,s1,s2,s8,s9,by omega⟩
  have hdl:(dat M p (64 * i)).length=64 * i:=Ie d.len (by omega)
  have ln:=o'.vals.bl h'
  rw[hdl]at ln
  by_cases hlt:64 * i<k
  ·left
   have hi1:i<2:=by omega
   have c1:iLt ((64 * i:Nat):Int) (k:Int)=true:=E8 hlt
   have xm:=x'.marked
   have Rm:=(R.ext W xm)
   have old:∀ (off:Nat) (kk:C) (F:CallF) (e:Env),J1 (.pointer (some ⟨bs,off,none⟩)) kk F e h'.marked=kk F e h'.marked:=fun off kk F e=>Dy (by
    show bs<h'.next
    have:=R.lt W
    have:=x'.next
    omega)
   obtain⟨l0,_⟩:=A5 Rm
   have k1:=Mu (m:=m+1) (Rm.same (h':=h'.marked.quiet) rfl) (p:=p) (by omega)
   have q1:∀ e:Env,AB 0 e=pt bs→AB 1 e=.int .i64 (p:Int)→Am .weak (AS 46 [AB 0,AB 1]) (call AD (m+3)) e h'.marked=.ok (.int .i64 ((p * 3:Nat):Int)) (h'.marked.back h'.marked.quiet):=fun e e1 e2=>by
    refine HG x'.wf.marked ?_ (Nat.le_refl _)
    rw[Bb,AY,AY,A3,e1,e2];exact k1
   have y2:h'.Ext (h'.marked.back h'.marked.quiet):=Hp.Ext.back2 (Hp.Ext.refl x'.wf).marked (Hp.Ext.refl x'.wf).marked.quiet
   have n2:(h'.marked.back h'.marked.quiet).next=h'.next:=rfl
   generalize h'.marked.back h'.marked.quiet=h2 at q1 y2 n2
   have x2:=x'.trans y2
   have a1:=CQ (h:=h2) (i:=p * 3) (by omega)
   have a2:=Sm (h:=h2) (a:=p * 3+1) (b:=i) (by omega)
   obtain⟨h3,w,k2,y3,mk,n3,_⟩:=Tv (m:=m) x2.quiet.wf ((d.ext W x2).same (h':=h2.quiet) rfl) (i:=p * 3+1+i) (by omega)
   have q2:∀ e:Env,AB 22 e=pt bd→AB 28 e=.int .i64 ((p * 3+1+i:Nat):Int)→Am .free (AS 84 [AB 22,AB 28]) (call AD (m+3)) e h2=.ok (.tuple ⟨[w,.int .i64 0]⟩) (h2.back h3):=fun e e1 e2=>by
    refine BQ ?_
    rw[Bb,AY,AY,A3,e1,e2];exact k2
   have y4:h2.Ext (h2.back h3):=.back y3
   have mk4:Mk (h2.back h3) h2.quiet.next w (sec M (p * 3+1+i)):=mk.same rfl
   generalize h2.back h3=h4 at q2 y4 mk4
   have x4:=x2.trans y4
   have hsl:(sec M (p * 3+1+i)).length=64:=JF d.len (by omega)
   obtain⟨h5,v5,k5,x5,o5,n5,fr5⟩:=EQ (eb:=1) (en:=5) (k:=h.next) x4 (Nat.le_refl _) x4.next ((o'.ext x'.wf y2).ext x2.wf y4) mk4.vals (by rw[List.length_map,hsl];omega) (C7 _) (by rw[List.length_map,List.length_map,hdl,hsl];omega)
   rw[← List.map_append,show p * 3+1+i=3 * p+1+i by omega,XJ d.len (by omega)]at o5
   have c2:iNe 0 0=false:=Cm rfl
   have a3:=CQ (i:=i) (h:=h5) (by omega)
   have hrun:∃ e2,reB (call AD (m+3)) e' h'=.norm e2 h5∧AB 0 e2=pt bs∧AB 1 e2=.int .i64 (p:Int)∧AB 2 e2=.int .i64 (k:Int)∧AB 8 e2=v5∧AB 9 e2=.int .i64 ((i+1:Nat):Int):=by
    unfold reB
    simp only[sT,Nat.reduceLT,Nat.reduceEqDiff,reduceIte,Ae,t8,ln,AL,AK,t2,c1,Ay,Au,t0,Aj,AJ,AN,Nat.zero_add,EU,old,DW,AM,AP,l0,q1,t1,BK,a1,t9,a2,q2,BA,BL,BM,c2,BE,k5,a3]
    exact⟨_,rfl,by simp[AG,t0,t1,t2]⟩
   obtain⟨e2,r1,r2,r3,r4,r5,r6⟩:=hrun
   exact⟨hi1,e2,h5,r1,v5,x5,o5,r2,r3,r4,r5,r6,by omega⟩
  ·right
   have c1:iLt ((64 * i:Nat):Int) (k:Int)=false:=DI (by omega)
   have hrun:∃ e2,reB (call AD (m+3)) e' h'=.exit 0 e2 h'∧AB 8 e2=v∧AB 2 e2=.int .i64 (k:Int):=by
    unfold reB
    simp only[sT,Nat.reduceLT,Nat.reduceEqDiff,reduceIte,Ae,t8,ln,AL,AK,t2,c1]
    exact⟨_,rfl,by simp[AG,t8,t2]⟩
   obtain⟨e2,r1,r2,r3⟩:=hrun
   rw[r1]
   exact⟨rfl,e2,h',v,i,rfl,x',o',by omega,hi,r2,r3⟩
 obtain⟨e2,h2,v,i,r1,x2,o2,hk2,hi2,r2,r3⟩:=run
 have hdl:(dat M p (64 * i)).length=64 * i:=Ie d.len (by omega)
 have htk:(dat M p (64 * i)).take k=dat M p k:=by
  unfold dat
  rw[List.take_take,Nat.min_eq_left hk2]
 have hdk:(dat M p k).length=k:=Ie d.len (by omega)
 rcases o2 with ⟨rfl,hx⟩|⟨b,rfl,R2,hb,h256⟩
 ·have h0:64 * i=0:=by
   have:=congrArg List.length hx
   rw[List.length_map,hdl]at this;exact this
  obtain rfl:k=0:=by omega
  have ct:∀ e:Env,AB 8 e=.slice none 0 0→AB 2 e=.int .i64 ((0:Nat):Int)→Db 5 1 (AB 8) none (some (AB 2)) (some (AB 2)) (call AD (m+3)) e h2=.ok (.slice none 0 0) h2:=fun e e1 e2=>Wu e1 e2 e2
  refine⟨h2,.slice none 0 0,?_,x2,.inl ⟨rfl,?_⟩⟩
  ·rw[Wi rfl,XG,p1,Yr]
   simp only[BH,Aw,r1,A1,BB]
   unfold reE
   simp only[sT,Nat.reduceLT,Nat.reduceEqDiff,reduceIte,ct,r2,r3,BX,DH]
  ·unfold dat;rfl
 ·rw[List.length_map,hdl]at r2
  have ct:∀ e:Env,AB 8 e=.slice (some ⟨b,0,none⟩) (64 * i) (64 * i)→AB 2 e=.int .i64 (k:Int)→Db 5 1 (AB 8) none (some (AB 2)) (some (AB 2)) (call AD (m+3)) e h2=.ok (.slice (some ⟨b,0,none⟩) k k) h2:=fun e e1 e2=>Z9 e1 e2 e2 hk2
  refine⟨h2,.slice (some ⟨b,0,none⟩) k k,?_,x2,.inr ⟨b,0,k,6,_,by rw[List.length_map,hdk],by rw[List.length_map,hdk];exact Nat.le_refl _,R2,by rw[List.length_map,List.length_map,hdk,hdl];omega,?_,hb,.inr rfl⟩⟩
  ·rw[Wi rfl,XG,p1,Yr]
   simp only[BH,Aw,r1,A1,BB]
   unfold reE
   simp only[sT,Nat.reduceLT,Nat.reduceEqDiff,reduceIte,ct,r2,r3,BX,DH]
  ·rw[List.length_map,hdk,List.drop_zero,← List.map_take,htk]
end
end
noncomputable section
open Go
set_option maxRecDepth 100000
abbrev f86:Value:=.func (.func 86) ⟨[]⟩ ⟨[]⟩
theorem Uf{n:Nat}{h:Hp}{c:Nat}:call AD (n+1) 86 [.int .u8 (c:Int)] h=.ok (.bool (iNe (c:Int) 0)) h:=by
 rw[jB rfl]
 unfold d86
 simp only[iN,Nat.reduceAdd,sT,Nat.reduceLT,Nat.reduceEqDiff,reduceIte,AL,AK,lV0]
theorem Xh{n:Nat}{h:Hp}{u:Value}{l:List Nat}(V:h.Vals u (l.map bv))(hl:l.length≤900000){e:Env}(s0:AB 0 e=u)(s1:AB 1 e=f86)(s7:AB 7 e=.int .i64 (l.length:Int))(s8:AB 8 e=.int .i64 ((0:Nat):Int)):
  (∃ e',Ax ifB (call AD (n+1)) e h=.exit 0 e' h∧∀ x∈l,x=0)∨(∃ e' i,Ax ifB (call AD (n+1)) e h=.ret e' h∧AB 4 e'=.int .i64 ((i:Nat):Int)∧∃ x∈l,x≠0):=by
 refine BZ (I:=fun i e' h'=>h'=h∧AB 0 e'=u∧AB 1 e'=f86∧AB 7 e'=.int .i64 (l.length:Int)∧AB 8 e'=.int .i64 (i:Int)∧i≤l.length∧((∀ x∈l,x=0)↔∀ x∈l.drop i,x=0))
  (Q:=fun x=>(∃ e',x=.exit 0 e' h∧∀ x∈l,x=0)∨(∃ e' i,x=.ret e' h∧AB 4 e'=.int .i64 ((i:Nat):Int)∧∃ x∈l,x≠0)) l.length (by omega) (fun i e' h' ⟨hh,t0,t1,t7,t8,hi,hr⟩=>?_) ⟨rfl,s0,s1,s7,s8,Nat.zero_le _,by simp⟩
 subst hh
 by_cases hlt:i<l.length
 ·obtain⟨a,g1,g2⟩:=IX V hlt
  have hmem:l.getD i 0∈l:=by
   rw[List.getD_eq_getElem?_getD,List.getElem?_eq_getElem hlt];exact List.getElem_mem hlt
  rw[Fw hlt]at hr
  generalize l.getD i 0=c at g2 hr hmem
  have c1:=E8 hlt
  have k1:=Uf (n:=n) (h:=h') (c:=c)
  by_cases hc:c=0
  ·left
   subst hc
   have k1:call AD (n+1) 86 [.int .u8 ((0:Nat):Int)] h'=.ok (.bool false) h':=k1
   have a3:=CQ (i:=i) (h:=h') (by omega)
   have hrun:∃ e2,ifB (call AD (n+1)) e' h'=.norm e2 h'∧AB 0 e2=u∧AB 1 e2=f86∧AB 7 e2=.int .i64 (l.length:Int)∧AB 8 e2=.int .i64 ((i+1:Nat):Int):=by
    unfold ifB
    simp only[sT,Nat.reduceLT,Nat.reduceEqDiff,reduceIte,AL,AK,t8,t7,c1,Az,t0,g1,AM,g2,Cj,t1,Ch,AY,A3,List.nil_append,List.append_nil,k1,BK,a3]
    exact⟨_,rfl,by simp[AG,t0,t1,t7]⟩
   obtain⟨e2,q1,q2,q3,q4,q5⟩:=hrun
   refine⟨hlt,e2,h',q1,rfl,q2,q3,q4,q5,hlt,hr.trans ?_⟩
   simp
  ·right
   have c2:iNe (c:Int) 0=true:=by rw[Gy];simpa using hc
   rw[c2]at k1
   have hrun:∃ e2,ifB (call AD (n+1)) e' h'=.ret e2 h'∧AB 4 e2=.int .i64 (i:Int):=by
    unfold ifB
    simp only[sT,Nat.reduceLT,Nat.reduceEqDiff,reduceIte,AL,AK,t8,t7,c1,Az,t0,g1,AM,g2,Cj,t1,Ch,AY,A3,List.nil_append,List.append_nil,k1]
    exact⟨_,rfl,by simp[AG]⟩
   obtain⟨e2,q1,q2⟩:=hrun
   rw[q1]
   exact⟨rfl,.inr ⟨e2,i,rfl,q2,c,hmem,hc⟩⟩
 ·right
  have c1:=DI (show l.length≤i by omega)
  have hrun:∃ e2,ifB (call AD (n+1)) e' h'=.exit 0 e2 h':=by
   unfold ifB
   simp only[sT,Nat.reduceLT,Nat.reduceEqDiff,reduceIte,AL,AK,t8,t7,c1]
   exact⟨_,rfl⟩
  obtain⟨e2,q1⟩:=hrun
  rw[q1]
  refine⟨rfl,.inl ⟨e2,rfl,hr.2 ?_⟩⟩
  rw[List.drop_of_length_le (by omega)]
  intro x hx;cases hx
theorem RL{n:Nat}{h:Hp}{u:Value}{l:List Nat}(V:h.Vals u (l.map bv))(hl:l.length≤900000):∃ r:Bool,call AD (n+3) 85 [u,f86] h=.ok (.bool r) h∧(r=true↔∃ x∈l,x≠0):=by
 have Vl:=V.bl h
 have pre:∃ e1,M0 (call AD (n+1)) (AQ e0 0 [u,f86]) h=ifS (call AD (n+1)) e1 h∧AB 0 e1=u∧AB 1 e1=f86∧AB 7 e1=.int .i64 (l.length:Int)∧AB 8 e1=.int .i64 ((0:Nat):Int):=by
  unfold M0
  simp only[iN,Nat.reduceAdd,sT,Nat.reduceLT,Nat.reduceEqDiff,reduceIte,Ae,Vl]
  exact⟨_,rfl,by simp[AG]⟩
 obtain⟨e1,p1,p2,p3,p4,p5⟩:=pre
 rcases Xh (n:=n) V hl p2 p3 p4 p5 with ⟨e2,q1,q2⟩|⟨e2,i,q1,q2,q3⟩
 ·have k1:call AD (n+2) 109 [u,f86] h=.ok (.int .i64 (-1)) h:=by
   rw[Kl rfl,Km,p1,OB]
   simp only[BH,Aw,q1,A1,BB]
   unfold ifE
   simp only[sT,Nat.reduceLT,Nat.reduceEqDiff,reduceIte,lV0]
  refine⟨false,?_,by simp;exact q2⟩
  have c1:iGe (-1) 0=false:=E3 (by omega)
  rw[Nz rfl]
  unfold d85
  simp only[iN,Nat.reduceAdd,sT,Nat.reduceLT,Nat.reduceEqDiff,reduceIte,cA0,k1,AL,AK,c1,lV0]
 ·have k1:call AD (n+2) 109 [u,f86] h=.ok (.int .i64 (i:Int)) h:=by
   rw[Kl rfl,Km,p1,OB]
   simp only[BH,Aw,q1,B8,Co,lV0,q2]
  refine⟨true,?_,by simp only[true_iff];exact q3⟩
  have c1:iGe (i:Int) 0=true:=Gw (by omega)
  rw[Nz rfl]
  unfold d85
  simp only[iN,Nat.reduceAdd,sT,Nat.reduceLT,Nat.reduceEqDiff,reduceIte,cA0,k1,AL,AK,c1,lV0]
def K0:Kt:=⟨0,0,0,0,[],0,.slice none 0 0⟩
theorem ZS:FH.zero=AU K0:=by kernel_rfl
theorem Gc:Bv .mt 0 (AU K0)=some DL:=by kernel_rfl
section
variable {F:CallF}{e:Env}{h g:Hp}{T M:List Nat}{c0 bad m:Nat}{arm:Int}{lv fv:Value}{ov:Bool}
theorem EE{h:Hp}{t u v w:Value}{l:List Value}:Fy 3 (.tuple ⟨t::u::v::w::l⟩) h=.ok w h:=rfl
theorem JX:Bp FH.zero [] F e h=.ok (ktV K0) h:=by
 rw[EN,CL,ZS];rfl
theorem Sq{a b c:Int}{s p:Nat}{u:Value}{l:List Nat}{g1 g2:O}(h1:g1 e=B7 a b c s u)(h2:g2 e=.int .i64 (p:Int)):Bp FH.zero [(0,5,g1),(5,1,g2)] F e h=.ok (ktV ⟨a,b,c,s,l,p,u⟩) h:=by
 rw[EN,ZS,A6 (hk:=by rw[h1];rfl),h1,A6 (hk:=by rw[h2];rfl),h2,
  if_pos (show(cellsOf (B7 a b c s u)).length=5 from rfl),if_pos (show 0+5≤(AU K0).length by show 5≤6;omega),if_pos (show(cellsOf (.int .i64 (p:Int))).length=1 from rfl),if_pos (show 5+1≤(over (AU K0) 0 (cellsOf (B7 a b c s u))).length by show 6≤6;omega),CL]
 rfl
theorem Kg(W0:h.Wf)(x:h.Ext g){r:Nat}(hr:h.next≤r){L:List Value}(R:g.Row r 0 L)(hL:L.length=6){k:Kt}(hu:oneCell k.u=true):
  storeR 6 (pt r) (ktV k) g=.ok noRes (g.wr r 0 (AU k))∧loadN 6 ⟨r,0,none⟩ (g.wr r 0 (AU k))=.ok (ktV k) (g.wr r 0 (AU k))∧h.Ext (g.wr r 0 (AU k))∧(g.wr r 0 (AU k)).Row r 0 (AU k)∧(g.wr r 0 (AU k)).next=g.next:=by
 have h256:256≤r:=by have:=W0.big;omega
 have ho:0+(AU k).length≤L.length:=by rw[hL];show 0+6≤6;omega
 have h1:BO (AU k)=true:=by
  show(bif oneCell k.u then true else false)=true
  rw[hu];rfl
 have st:=R.storeR (n:=6) (off:=0) x.wf h256 (v:=ktV k) rfl ho h1
 have wr:=R.wr_self x.wf ho
 rw[HE (show L.length=(AU k).length from hL)]at wr
 exact⟨st,wr.loadN (off:=0) (n:=6) (by show 0+6≤6;omega),R.wr_ext x hr ho,wr,R.wr_next ho⟩
def Gd(T M:List Nat)(p:Nat)(ns:List Nat):Prop:=KU T (sec M (3 * p)) ns∧at6 ns 4≤100∧B3 T (dat M p (at6 ns 4))=at6 ns 5
theorem OO:lkB=U8:=rfl
theorem jY:d55=Up:=rfl
theorem qx{e:Env}{h:Hp}{r4:Nat}{v:Value}{a b:Bool}{c:Int}(s4:AB 4 e=pt r4)(s5:AB 5 e=.bool a)(s6:AB 6 e=.bool b)(s7:AB 7 e=.int .i64 c)(hv:loadN 6 ⟨r4,0,none⟩ h=.ok v h):A2 [.cN (AB 4) 6,.t (AB 5),.t (AB 6),.t (AB 7)] (.ret e h)=.ok (.tuple ⟨[v,.bool a,.bool b,.int .i64 c]⟩) h:=by
 rw[BX,Jm (v:=v) (by rw[s4,Ao];exact hv),s5,s6,s7]
def eh(T M:List Nat)(p:Nat)(h h':Hp)(r:R):Prop:=
 (∃ ns u,Gd T M p ns∧r=.ok (.tuple ⟨[ktV ⟨at6 ns 1,at6 ns 2,at6 ns 3,at6 ns 0,dat M p (at6 ns 4),p,u⟩,.bool true,.bool false,.int .i64 0]⟩) h'∧h'.BS (fun b=>h.next≤b) u ((dat M p (at6 ns 4)).map bv))∨
 ((¬ ∃ ns,Gd T M p ns)∧∃ bad:Bool,r=.ok (.tuple ⟨[ktV K0,.bool false,.bool bad,.int .i64 0]⟩) h'∧(bad=true↔(∃ x∈sec M (3 * p),x≠0)∨∃ ns,KU T (sec M (3 * p)) ns∧at6 ns 4≤100))
theorem F7{T l a b:List Nat}(h1:KU T l a)(h2:KU T l b):a=b:=by
 obtain⟨x,q,a1,a2,a3,_⟩:=h1
 obtain⟨y,r,b1,b2,b3,_⟩:=h2
 rw[a1]at b1
 cases b1
 rw[a3]at b3
 cases b3;rfl
theorem QY{T l ns:List Nat}(h:KU T l ns):cu ns:=by
 obtain⟨_,_,_,_,_,h4,_⟩:=h
 exact cw.1 h4
theorem Tc(W:h.Wf){bs bd bm bc tb n:Nat}(R:h.Row bs 0 (slL bd tb lv fv bad ov))(Rt:h.Row tb 0 (T.map wv))(hT:TblOk T)(d:Dk h bd bm bc n M c0 [] arm false){p:Nat}(hp:3 * p+3≤n):
  ∃ h',h.Ext h'∧eh T M p h h' (call AD (m+5) 55 [pt bs,.int .i64 (p:Int)] h):=by
 have hn:=d.n1
 have al:=fun (F:CallF) (e:Env)=>Bd (F:=F) (e:=e) W (n:=6) (t:=DL)
 have R4:=Hp.Row.alloc W Gc (show(AU K0).length=6 from rfl)
 have x1:h.Ext (h.push (.cells DL 6 0)):=(Hp.Ext.refl W).push _
 have n1:(h.push (.cells DL 6 0)).next=h.next+1:=rfl
 generalize h.push (.cells DL 6 0)=h1 at al R4 x1 n1
 have xm:=x1.marked
 have Rm:=R.ext W xm
 have old:∀ (off:Nat) (kk:C) (F:CallF) (e:Env),J1 (.pointer (some ⟨bs,off,none⟩)) kk F e h1.marked=kk F e h1.marked:=fun off kk F e=>Dy (by
  show bs<h1.next
  have:=R.lt W
  omega)
 obtain⟨l0,_⟩:=A5 Rm
 have k1:=Mu (m:=m+2) (Rm.same (h':=h1.marked.quiet) rfl) (p:=p) (by omega)
 have q1:∀ e:Env,AB 0 e=pt bs→AB 1 e=.int .i64 (p:Int)→Am .weak (AS 46 [AB 0,AB 1]) (call AD (m+4)) e h1.marked=.ok (.int .i64 ((p * 3:Nat):Int)) (h1.marked.back h1.marked.quiet):=fun e e1 e2=>by
  refine HG x1.wf.marked ?_ (Nat.le_refl _)
  rw[Bb,AY,AY,A3,e1,e2];exact k1
 have y2:h1.Ext (h1.marked.back h1.marked.quiet):=Hp.Ext.back2 (Hp.Ext.refl x1.wf).marked (Hp.Ext.refl x1.wf).marked.quiet
 have n2:(h1.marked.back h1.marked.quiet).next=h1.next:=rfl
 generalize h1.marked.back h1.marked.quiet=h2 at q1 y2 n2
 have x2:=x1.trans y2
 obtain⟨h3,v,k2,y3,mk,n3,_⟩:=Tv (m:=m+1) x2.quiet.wf ((d.ext W x2).same (h':=h2.quiet) rfl) (i:=p * 3) (by omega)
 have q2:∀ e:Env,AB 19 e=pt bd→AB 22 e=.int .i64 ((p * 3:Nat):Int)→Am .free (AS 84 [AB 19,AB 22]) (call AD (m+4)) e h2=.ok (.tuple ⟨[v,.int .i64 0]⟩) (h2.back h3):=fun e e1 e2=>by
  refine BQ ?_
  rw[Bb,AY,AY,A3,e1,e2];exact k2
 have y4:h2.Ext (h2.back h3):=.back y3
 have mk4:Mk (h2.back h3) h2.quiet.next v (sec M (p * 3)):=mk.same rfl
 generalize h2.back h3=h4 at q2 y4 mk4
 rw[Nat.mul_comm p 3]at mk4
 have x4:=x2.trans y4
 have c0':iNe 0 0=false:=Cm rfl
 have hsl:(sec M (3 * p)).length=64:=JF d.len (by omega)
 have hsb:=lJ d.byt (3 * p)
 obtain⟨r,k3,hr⟩:=RL (n:=m+1) mk4.vals (by omega)
 obtain⟨_,l1,_⟩:=A5 (R.ext W x4)
 obtain⟨h5,y5,hpar⟩:=Yi (n:=m) x4.wf (Rt.ext W x4) hT mk4.vals mk4.cap hsb (by omega)
 have x5:=x4.trans y5
 have al2:=fun (F:CallF) (e:Env)=>Bd (F:=F) (e:=e) x5.wf (n:=5) (t:=CV)
 have R11:=Hp.Row.alloc x5.wf EX (show(A0 0 0 0 0 nilS).length=5 from rfl)
 have y6:h5.Ext (h5.push (.cells CV 5 0)):=(Hp.Ext.refl x5.wf).push _
 have n6:(h5.push (.cells CV 5 0)).next=h5.next+1:=rfl
 generalize h5.push (.cells CV 5 0)=h6 at al2 R11 y6 n6
 have x6:=x5.trans y6
 have hn5:=x5.next
 have hn15:h.next+1≤h5.next:=by
  have:=((y2.trans y4).trans y5).next
  omega
 have pre:∀ (a b c:Int) (s many sum:Nat) (ok:Bool),call AD (m+4) 87 [pt tb,v] h4=.ok (.tuple ⟨[B7 a b c s nilS,.int .i64 (many:Int),.int .u32 (sum:Int),.bool ok]⟩) h5→
   ∃ e1 h7,Up (call AD (m+4)) (AQ e0 0 [pt bs,.int .i64 (p:Int)]) h=lkB (call AD (m+4)) e1 h7∧h.Ext h7∧h7.Row h5.next 0 (A0 a b c s nilS)∧h7.Row h.next 0 (AU K0)∧h5.next<h7.next∧AB 0 e1=pt bs∧AB 1 e1=.int .i64 (p:Int)∧AB 4 e1=pt h.next∧AB 10 e1=.bool (!r)∧AB 11 e1=pt h5.next∧AB 12 e1=.int .i64 (many:Int)∧AB 13 e1=.int .u32 (sum:Int)∧AB 14 e1=.bool ok:=fun a b c s many sum ok hk=>by
  obtain⟨st,_,x7,R7,n7⟩:=IM x5.wf y6 (Nat.le_refl _) R11 rfl (a:=a) (b:=b) (c:=c) (s:=s) (u:=nilS) rfl
  have R4':(h6.wr h5.next 0 (A0 a b c s nilS)).Row h.next 0 (AU K0):=((R4.ext x1.wf ((y2.trans y4).trans y5)).ext x5.wf x7)
  generalize h6.wr h5.next 0 (A0 a b c s nilS)=h7 at st x7 R7 n7 R4'
  have hrun:∃ e1,Up (call AD (m+4)) (AQ e0 0 [pt bs,.int .i64 (p:Int)]) h=lkB (call AD (m+4)) e1 h7∧AB 0 e1=pt bs∧AB 1 e1=.int .i64 (p:Int)∧AB 4 e1=pt h.next∧AB 10 e1=.bool (!r)∧AB 11 e1=pt h5.next∧AB 12 e1=.int .i64 (many:Int)∧AB 13 e1=.int .u32 (sum:Int)∧AB 14 e1=.bool ok:=by
   unfold Up
   simp only[iN,Nat.reduceAdd,sT,Nat.reduceLT,Nat.reduceEqDiff,reduceIte,al,Ay,Au,Aj,AJ,AN,Nat.zero_add,EU,old,DW,AM,AP,l0,q1,q2,BA,BL,BM,CZ,EE,AL,AK,c0',cA0,k3,Bt,Br,l1,hk,al2,AX,st]
   exact⟨_,rfl,by simp[AG]⟩
  obtain⟨e1,q⟩:=hrun
  exact⟨e1,h7,q.1,x5.trans x7,R7,R4',by omega,q.2⟩
 have res:∀ (hx g:Hp) (e1 e2:Env) (a b:Bool) (v:Value),Up (call AD (m+4)) (AQ e0 0 [pt bs,.int .i64 (p:Int)]) h=lkB (call AD (m+4)) e1 hx→lkB (call AD (m+4)) e1 hx=.ret e2 g→AB 4 e2=pt h.next→AB 5 e2=.bool a→AB 6 e2=.bool b→AB 7 e2=.int .i64 0→loadN 6 ⟨h.next,0,none⟩ g=.ok v g→
   call AD (m+5) 55 [pt bs,.int .i64 (p:Int)] h=.ok (.tuple ⟨[v,.bool a,.bool b,.int .i64 0]⟩) g:=fun hx g e1 e2 a b v i1 i2 t4 t5 t6 t7 hv=>by
  rw[iV rfl,jY,i1,i2]
  exact qx t4 t5 t6 t7 hv
 have K0u:oneCell K0.u=true:=rfl
 rcases hpar with ⟨ns,hP,hk⟩|⟨hP,hk⟩
 ·have hnum:=QY hP
  obtain⟨e1,h7,p1,x7,R7,R47,hlt7,s0,s1,s4,s10,s11,s12,s13,s14⟩:=pre _ _ _ _ (at6 ns 4) (at6 ns 5) true hk
  obtain⟨_,_,l2,_⟩:=A5 (R.ext W x7)
  by_cases hmany:at6 ns 4≤100
  ·have c1:iGt (at6 ns 4:Int) 100=false:=Ee (by omega)
   obtain⟨h8,u,k4,y8,vs8⟩:=WS (m:=m) x7.wf (R.ext W x7) (d.ext W x7) (p:=p) (k:=at6 ns 4) hp (by omega)
   have x8:=x7.trans y8
   have R8:=R7.ext x7.wf y8
   have u1:=vs8.vs.one
   have ho4:4+(cellsOf u).length≤(A0 (at6 ns 1) (at6 ns 2) (at6 ns 3) (at6 ns 0) nilS).length:=by rw[u1.1];show 4+1≤5;omega
   have h256:256≤h5.next:=by have:=W.big;omega
   have st8:storeR 1 (.pointer (some ⟨h5.next,4,none⟩)) u h8=.ok noRes (h8.wr h5.next 4 (cellsOf u)):=R8.storeR (n:=1) (off:=4) x8.wf h256 (by rw[u1.1];rfl) ho4 (by
    rw[u1.1]
    show(bif oneCell u then true else false)=true
    rw[u1.2.1];rfl)
   have R9:=R8.wr_self x8.wf ho4
   have x9:=R8.wr_ext x8 (by omega) ho4
   have n9:=R8.wr_next ho4
   have R49:=R8.wr_other x8.wf ho4 (R47.ext x7.wf y8) (by omega)
   have hkeep:∀ b el L,b≠h5.next→h8.Row b el L→(h8.wr h5.next 4 (cellsOf u)).Row b el L:=fun b el L hb r=>R8.wr_other x8.wf ho4 r hb
   have hov:over (A0 (at6 ns 1) (at6 ns 2) (at6 ns 3) (at6 ns 0) nilS) 4 (cellsOf u)=A0 (at6 ns 1) (at6 ns 2) (at6 ns 3) (at6 ns 0) u:=by rw[u1.1];rfl
   rw[hov]at R9
   have vs9:(h8.wr h5.next 4 (cellsOf u)).BS (fun b=>h7.next≤b) u ((dat M p (at6 ns 4)).map bv):=vs8.keep fun b el L hb _ r=>hkeep b el L (by omega) r
   generalize h8.wr h5.next 4 (cellsOf u)=h9 at st8 R9 x9 n9 R49 vs9
   have x9m:=x9.marked
   have R9m:h9.marked.Row h5.next 0 (A0 (at6 ns 1) (at6 ns 2) (at6 ns 3) (at6 ns 0) u):=R9.same rfl
   obtain⟨_,_,_,_,lu,_⟩:=B4 R9m
   obtain⟨_,l1',_⟩:=A5 (R.ext W x9m)
   have hdl:(dat M p (at6 ns 4)).length=at6 ns 4:=Ie d.len (by omega)
   obtain⟨hq,k5,hq2⟩:=Sa (n:=m+3) (h:=h9.marked.quiet) ((Rt.ext W x9).same rfl) hT (vs9.vs.vals.same (h':=h9.marked.quiet) rfl) (XI d.byt p _) (by omega)
   have yq:h9.marked.quiet.Ext hq:=by
    rcases hq2 with rfl|rfl
    ·exact Hp.Ext.refl x9m.quiet.wf
    ·exact(Hp.Ext.refl x9m.quiet.wf).marked
   have nq:hq.next=h9.next:=by rcases hq2 with rfl|rfl<;>rfl
   have q5:∀ e:Env,AB 72 e=pt tb→AB 74 e=u→Am .free (AS 71 [AB 72,AB 74]) (call AD (m+4)) e h9.marked=.ok (.int .u32 ((B3 T (dat M p (at6 ns 4)):Nat):Int)) (h9.marked.back hq):=fun e e1 e2=>by
    refine BQ ?_
    rw[Bb,AY,AY,A3,e1,e2];exact k5
   have y10:h9.marked.Ext (h9.marked.back hq):=.back yq
   have n10:(h9.marked.back hq).next=h9.next:=nq
   generalize h9.marked.back hq=h10 at q5 y10 n10
   have x10:=x9m.trans y10
   have R10:=R9m.ext x9m.wf y10
   have R410:h10.Row h.next 0 (AU K0):=(R49.same (h':=h9.marked) rfl).ext x9m.wf y10
   have vs10:h10.BS (fun b=>h7.next≤b) u ((dat M p (at6 ns 4)).map bv):=(vs9.same (h':=h9.marked) rfl).ext x9m.wf y10
   obtain⟨_,_,_,_,_,ln⟩:=B4 R10
   have hslot0:at6 ns 0≤2:=hnum.1
   by_cases hsum:B3 T (dat M p (at6 ns 4))=at6 ns 5
   ·have c2:iNe ((B3 T (dat M p (at6 ns 4)):Nat):Int) ((at6 ns 5:Nat):Int)=false:=Cm (by rw[hsum])
    have bd1:∀ (F:CallF) (e:Env),AB 79 e=B7 (at6 ns 1) (at6 ns 2) (at6 ns 3) (at6 ns 0) u→AB 1 e=.int .i64 (p:Int)→Bp FH.zero [(0,5,AB 79),(5,1,AB 1)] F e h10=.ok (ktV ⟨at6 ns 1,at6 ns 2,at6 ns 3,at6 ns 0,dat M p (at6 ns 4),p,u⟩) h10:=fun F e e1 e2=>Sq e1 e2
    obtain⟨w1,w2,w3,w4,w5⟩:=Kg W x10 (Nat.le_refl _) R410 rfl (k:=⟨at6 ns 1,at6 ns 2,at6 ns 3,at6 ns 0,dat M p (at6 ns 4),p,u⟩) u1.2.1
    have hk11:∀ b el L,b≠h.next→h10.Row b el L→(h10.wr h.next 0 (AU ⟨at6 ns 1,at6 ns 2,at6 ns 3,at6 ns 0,dat M p (at6 ns 4),p,u⟩)).Row b el L:=fun b el L hb r=>R410.wr_other x10.wf (by show 0+6≤6;omega) r hb
    have vs11:(h10.wr h.next 0 (AU ⟨at6 ns 1,at6 ns 2,at6 ns 3,at6 ns 0,dat M p (at6 ns 4),p,u⟩)).BS (fun b=>h7.next≤b) u ((dat M p (at6 ns 4)).map bv):=vs10.keep fun b el L hb _ r=>hk11 b el L (by have:=x7.next;omega) r
    generalize h10.wr h.next 0 (AU ⟨at6 ns 1,at6 ns 2,at6 ns 3,at6 ns 0,dat M p (at6 ns 4),p,u⟩)=h11 at w1 w2 w3 w4 w5 vs11
    have hrun:∃ e2,lkB (call AD (m+4)) e1 h7=.ret e2 h11∧AB 4 e2=pt h.next∧AB 5 e2=.bool true∧AB 6 e2=.bool false∧AB 7 e2=.int .i64 0:=by
     rw[OO]
     unfold U8 lkC
     simp only[sT,Nat.reduceLT,Nat.reduceEqDiff,reduceIte,gD,Bt,Br,s14,Bool.not_true,s12,s0,Au,Aj,AJ,AN,Nat.zero_add,AM,AP,l2,AL,AK,c1,cA0,s1,k4,BA,BL,BM,s11,AX,st8,c0',Ay,l1',lu,q5,s13,c2,Aq,Ao,ln,bd1,s4,w1]
     exact⟨_,rfl,by simp[AG,s4]⟩
    obtain⟨e2,i2,t4,t5,t6,t7⟩:=hrun
    exact⟨h11,w3,.inl ⟨ns,u,⟨hP,hmany,hsum⟩,res h7 h11 e1 e2 true false _ p1 i2 t4 t5 t6 t7 w2,vs11.mono fun b hb=>Nat.le_trans x7.next hb⟩⟩
   ·have c2:iNe ((B3 T (dat M p (at6 ns 4)):Nat):Int) ((at6 ns 5:Nat):Int)=true:=NK (by omega)
    obtain⟨w1,w2,w3,w4,w5⟩:=Kg W x10 (Nat.le_refl _) R410 rfl (k:=K0) K0u
    generalize h10.wr h.next 0 (AU K0)=h11 at w1 w2 w3 w4 w5
    have hrun:∃ e2,lkB (call AD (m+4)) e1 h7=.ret e2 h11∧AB 4 e2=pt h.next∧AB 5 e2=.bool false∧AB 6 e2=.bool true∧AB 7 e2=.int .i64 0:=by
     rw[OO]
     unfold U8 lkC
     simp only[sT,Nat.reduceLT,Nat.reduceEqDiff,reduceIte,gD,Bt,Br,s14,Bool.not_true,s12,s0,Au,Aj,AJ,AN,Nat.zero_add,AM,AP,l2,AL,AK,c1,cA0,s1,k4,BA,BL,BM,s11,AX,st8,c0',Ay,l1',lu,q5,s13,c2,JX,s4,w1]
     exact⟨_,rfl,by simp[AG,s4]⟩
    obtain⟨e2,i2,t4,t5,t6,t7⟩:=hrun
    refine⟨h11,w3,.inr ⟨?_,true,res h7 h11 e1 e2 false true _ p1 i2 t4 t5 t6 t7 w2,⟨fun _=>.inr ⟨ns,hP,hmany⟩,fun _=>rfl⟩⟩⟩
    rintro⟨ns',a1,a2,a3⟩
    obtain rfl:=F7 hP a1
    exact hsum a3
  ·have c1:iGt (at6 ns 4:Int) 100=true:=E4 (by omega)
   obtain⟨w1,w2,w3,w4,w5⟩:=Kg W x7 (Nat.le_refl _) R47 rfl (k:=K0) K0u
   generalize h7.wr h.next 0 (AU K0)=h11 at w1 w2 w3 w4 w5
   have hrun:∃ e2,lkB (call AD (m+4)) e1 h7=.ret e2 h11∧AB 4 e2=pt h.next∧AB 5 e2=.bool false∧AB 6 e2=.bool r∧AB 7 e2=.int .i64 0:=by
    rw[OO]
    unfold U8
    simp only[sT,Nat.reduceLT,Nat.reduceEqDiff,reduceIte,gD,Bt,Br,s14,Bool.not_true,s12,s0,Au,Aj,AJ,AN,Nat.zero_add,AM,AP,l2,AL,AK,c1,JX,s10,Bool.not_not,s4,AX,w1]
    exact⟨_,rfl,by simp[AG,s4]⟩
   obtain⟨e2,i2,t4,t5,t6,t7⟩:=hrun
   refine⟨h11,w3,.inr ⟨?_,r,res h7 h11 e1 e2 false r _ p1 i2 t4 t5 t6 t7 w2,hr.trans ⟨.inl,?_⟩⟩⟩
   ·rintro⟨ns',a1,a2,a3⟩
    obtain rfl:=F7 hP a1
    exact hmany a2
   ·rintro (h1|⟨ns',a1,a2⟩)
    ·exact h1
    ·obtain rfl:=F7 hP a1
     exact absurd a2 hmany
 ·obtain⟨e1,h7,p1,x7,R7,R47,hlt7,s0,s1,s4,s10,s11,s12,s13,s14⟩:=pre 0 0 0 0 0 0 false hk
  obtain⟨w1,w2,w3,w4,w5⟩:=Kg W x7 (Nat.le_refl _) R47 rfl (k:=K0) K0u
  generalize h7.wr h.next 0 (AU K0)=h11 at w1 w2 w3 w4 w5
  have hrun:∃ e2,lkB (call AD (m+4)) e1 h7=.ret e2 h11∧AB 4 e2=pt h.next∧AB 5 e2=.bool false∧AB 6 e2=.bool r∧AB 7 e2=.int .i64 0:=by
   rw[OO]
   unfold U8
   simp only[sT,Nat.reduceLT,Nat.reduceEqDiff,reduceIte,gD,Bt,Br,s14,Bool.not_false,JX,s10,Bool.not_not,s4,AX,w1]
   exact⟨_,rfl,by simp[AG,s4]⟩
  obtain⟨e2,i2,t4,t5,t6,t7⟩:=hrun
  refine⟨h11,w3,.inr ⟨fun⟨ns',a1,_⟩=>hP ⟨ns',a1⟩,r,res h7 h11 e1 e2 false r _ p1 i2 t4 t5 t6 t7 w2,hr.trans ⟨.inl,?_⟩⟩⟩
  rintro (h1|⟨ns',a1,_⟩)
  ·exact h1
  ·exact absurd ⟨ns',a1⟩ hP
end
end
end Go.Proofs.YtedbmmfebjfibaaGreat

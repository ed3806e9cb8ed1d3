/-
  Part ZP of what Lawru stands on: printed by program, names and spaces cut.
-/
import Derived.Test.YtedbmmfebjfibaaGreatZO
open Nat renaming reduceEqDiff→AI,reduceLT→AT,reduceAdd→By,le_refl→IN,zero_add→sh,lt_or_ge→vd,zero_le→vi,le_trans→vw,eq_zero_or_pos→vy,add_zero→xM,lt_irrefl→zN,succ_pos→AAk
open Go renaming Value→BY
open List renaming length_append→IT,length_map→If,getElem?_eq_getElem→No,getD_eq_getElem?_getD→OF,mem_cons_self→vG,mem_cons_of_mem→vH,length_cons→vI,mem_singleton→vM,mem_of_getElem?→vN,getElem?_append_left→vP,append_nil→vR,mem_cons→vS,mem_append_right→vV,getElem?_eq_some_iff→vW,append_assoc→vX,mem_filter→vZ,mem_append→va,getElem?_append_right→ve,length_take→vp,mem_map→vu,eq_nil_of_length_eq_zero→vz,length_drop→wG,range→wI,drop_zero→wM,drop_eq_getElem_cons→wY,take_length→wh,nodup_cons→xn,length_filter_le→yJ,nodup_append→yL,mem_or_eq_of_mem_set→yX,map_cons→yZ,nodup_range→zI,mem_iff_getElem?→zX,take_add_one→zk,foldl_append→AAM,find?_some→AAN,take_zero→AA7,length_set→ABz
open Bool renaming and_eq_true→vT
open Int renaming ofNat→wC
open Go.Value renaming int→wb
open List.Pairwise renaming sublist→AAx
set_option linter.unusedVariables false
set_option linter.unusedSimpArgs false
namespace Go.Proofs.YtedbmmfebjfibaaGreat
noncomputable section
open Go
set_option maxRecDepth 100000
structure AEN (np:Nat)(T M:List Nat)(ks:List Kt)(fr:List Nat):Prop where
 len:M.length=64*(3*np)
 hd:∀ k∈ks,sec M (3*k.p)=ADa T k.a k.b k.c k.s k.l
 dt:∀ k∈ks,dat M k.p k.l.length=k.l
 bl:∀ p∈fr,∀ r,r<64→M.getD (64*(3*p)+r) 0=0
 rs:∀ k∈ks,ADc k.a k.b k.c k.s k.l.length=true∧k.l.length≤100
 pl:∀ p∈fr,p<np
abbrev Med(T M:List Nat)(ks:List Kt)(fr:List Nat):Prop:=AEN 8 T M ks fr
def Com(ks:List Kt):Prop:=∀ x∈ks,∀ y∈ks,y.a=x.a→y.b=x.b→y.s=2→y.c≤x.c
section
variable {T M M':List Nat}{ks ks':List Kt}{fr fr' ps:List Nat}{kd a b c:Int}{l H:List Nat}{n p q k np:Nat}
theorem GM(h1:M'.length=M.length)(h:∀ x,x/64=q→M'.getD x 0=M.getD x 0):sec M' q=sec M q:=by
 have hl:∀ M:List Nat,(sec M q).length=min 64 (M.length - 64*q):=fun M=>by unfold sec;rw[vp,wG]
 refine I9 (by rw[hl,hl,h1]) fun i hi=>?_
 rw[hl]at hi;rw[Ja (by omega),Ja (by omega),h _ (by omega)]
theorem Em(h1:M'.length=M.length)(hk:k≤128)(h:∀ x,x/64=3*p+1∨x/64=3*p+2→M'.getD x 0=M.getD x 0):dat M' p k=dat M p k:=by
 have hl:∀ M:List Nat,(dat M p k).length=min k (M.length - 64*(3*p+1)):=fun M=>by unfold dat;rw[vp,wG]
 refine I9 (by rw[hl,hl,h1]) fun i hi=>?_
 rw[hl]at hi;rw[Ly (by omega),Ly (by omega),h _ (by omega)]
theorem PD(h1:M.length=64*n)(hq:q<n)(hH:H.length=64)(h:∀ r,r<64→M.getD (64*q+r) 0=H.getD r 0):sec M q=H:=by
 have hl:=Jb h1 hq;refine I9 (by rw[hl,hH]) fun i hi=>?_
 rw[Ja (by omega),h i (by omega)]
theorem l7(h1:M.length=64*n)(hp:3*p+3≤n)(hl:l.length≤128)(h:∀ r,r<l.length→M.getD (64*(3*p+1)+r) 0=l.getD r 0):dat M p l.length=l:=by
 have hd:(dat M p l.length).length=l.length:=by unfold dat;rw[vp,wG];omega
 refine I9 hd fun i hi=>?_
 rw[hd]at hi;rw[Ly hi,h i hi]
theorem YR(hM:M.length=64*n)(hp:3*p+3≤n)(hl:l.length≤100)(hH:H.length=64):
  (DI T M p l H).length=64*n∧sec (DI T M p l H) (3*p)=H∧dat (DI T M p l H) p l.length=l∧∀ x,x/192≠p→(DI T M p l H).getD x 0=M.getD x 0:=by
 rcases vy l.length with h0|h0
 ·obtain rfl:=vz h0
  have e:DI T M p [] H=FU M (p*3) H:=rfl;have hL:=Cg hM (show p*3<n by omega) hH;rw[e];refine⟨hL,PD hL (by omega) hH fun r hr=>?_,AA7,fun x hx=>?_⟩
  ·rw[C9 hM (by omega) hH,if_pos (by omega),show(64*(3*p)+r) % 64=r by omega]
  ·rw[C9 hM (by omega) hH,if_neg (by omega)]
 ·obtain⟨hL,hx⟩:=YS (T:=T) hM hp ⟨h0,hl⟩ hH
  refine⟨hL,PD hL (by omega) hH fun r hr=>?_,l7 hL hp (by omega) fun r hr=>?_,fun x hn=>?_⟩
  ·rw[hx,if_pos (by omega),show(64*(3*p)+r) % 64=r by omega]
  ·rw[hx,if_neg (by omega)]
   by_cases h1:r<64
   ·rw[if_pos (by omega),show(64*(3*p+1)+r) % 64=r by omega]
   ·rw[if_neg (by omega),if_pos ⟨by omega,by omega⟩,show 64+(64*(3*p+1)+r) % 64=r by omega]
  ·rw[hx,if_neg (by omega),if_neg (by omega),if_neg (by omega)]
theorem aX:∀ (ps:List Nat) {M:List Nat},M.length=64*n→(∀ p∈ps,3*p+3≤n)→(GO M ps).length=64*n∧∀ x,(GO M ps).getD x 0=if x % 192<64∧x/192∈ps then 0 else M.getD x 0
 |[],M,hM,_=>⟨hM,fun x=>by rw[if_neg (fun h=>by cases h.2)];rfl⟩
 |p::ps,M,hM,hp=>by
  have h3:=hp p vG;have e:GO M (p::ps)=GO (FU M (p*3) A5) ps:=rfl;have hz:A5.length=64:=List.length_replicate;have hL:=Cg hM (show p*3<n by omega) hz;obtain⟨g1,g2⟩:=aX ps hL fun q hq=>hp q (vH _ hq)
  rw[e];refine⟨g1,fun x=>?_⟩;rw[g2,C9 hM (by omega) hz];by_cases h1:x % 192<64∧x/192∈ps
  ·rw[if_pos h1,if_pos ⟨h1.1,vH _ h1.2⟩]
  ·rw[if_neg h1]
   by_cases h2:x/64=p*3
   ·rw[if_pos h2,if_pos ⟨by omega,by rw[show x/192=p by omega];exact vG⟩]
    unfold A5;exact JX
   ·rw[if_neg h2,if_neg]
    rintro⟨q1,q2⟩;rcases vS.1 q2 with q2|q2
    ·omega
    ·exact h1 ⟨q1,q2⟩
theorem Hm:∀ (out:List Kt) (M:List Nat),EJ M out=GO M (out.map Kt.plc)
 |[],_=>rfl
 |x::out,M=>Hm out (GO M [x.p])
theorem AEN.cut(m:AEN np T M ks fr)(hs:∀ k∈ks',k∈ks∧k.p∉ps)(hf:∀ p∈fr',p∈fr∨p∈ps)(hp:∀ p∈ps,3*p+3≤3*np):AEN np T (GO M ps) ks' fr':=by
 obtain⟨g1,g2⟩:=aX ps m.len hp;have hn:∀ k∈ks',∀ x,x/192=k.p→(GO M ps).getD x 0=M.getD x 0:=fun k hk x hx=>by
  rw[g2,if_neg];rintro⟨_,q2⟩;rw[hx]at q2;exact(hs k hk).2 q2
 refine⟨g1,fun k hk=>?_,fun k hk=>?_,fun p hp r hr=>?_,fun k hk=>m.rs k (hs k hk).1,fun p hp'=>?_⟩
 ·rw[GM (g1.trans m.len.symm) fun x hx=>hn k hk x (by omega)]
  exact m.hd k (hs k hk).1
 ·rw[Em (g1.trans m.len.symm) (by have:=(m.rs k (hs k hk).1).2;omega) fun x hx=>hn k hk x (by omega)]
  exact m.dt k (hs k hk).1
 ·rw[g2]
  by_cases h1:(64*(3*p)+r) % 192<64∧(64*(3*p)+r)/192∈ps
  ·rw[if_pos h1]
  ·rw[if_neg h1]
   rcases hf p hp with h|h
   ·exact m.bl p h r hr
   ·exact absurd ⟨by omega,by rw[show(64*(3*p)+r)/192=p by omega];exact h⟩ h1
 ·rcases hf p hp' with h|h
  ·exact m.pl p h
  ·have:=hp p h;omega
theorem AEN.go(m:AEN np T M ks fr)(i:AEH np ks fr)(P:Kt→Bool){out:List Kt}(ho:out.Perm (ks.filter P)):AEN np T (GO M (out.map Kt.plc)) (ks.filter fun k=> !P k) (frE fr out):=by
 refine m.cut (fun k hk=>?_) (fun p hp=>?_) fun p hp=>?_
 ·obtain⟨h1,h2⟩:=vZ.1 hk
  refine⟨h1,fun hp=>?_⟩;obtain⟨y,hy,hyp⟩:=vu.1 hp;obtain⟨h3,h4⟩:=vZ.1 (ho.mem_iff.1 hy);rw[Dv i.nd h3 h1 hyp]at h4;rw[h4]at h2;cases h2
 ·have:=(JG out fr).mem_iff.1 hp
  exact va.1 this
 ·obtain⟨y,hy,rfl⟩:=vu.1 hp
  exact i.lt y (vZ.1 (ho.mem_iff.1 hy)).1
theorem Rk(hc:Com ks)(hst:Bp a b c ks=false):∀ y∈ks,y.a=a→y.b=b→y.s=2→y.c<c:=fun y hy h1 h2 h3=>by
 unfold Bp at hst;cases hf:ks.find? (KH a b)with
 |none=>
  refine absurd ?_ (List.find?_eq_none.1 hf y hy);unfold KH;rw[decide_eq_true h1,decide_eq_true h2,decide_eq_true h3];rfl
 |some k=>
  rw[hf]at hst;have hk:=AAN hf;unfold KH at hk;rw[vT,vT]at hk;have k1:=of_decide_eq_true hk.1.1;have k2:=of_decide_eq_true hk.1.2;have k3:=of_decide_eq_true hk.2;have hkm:=List.mem_of_find?_eq_some hf;have:=hc k hkm y hy (h1.trans k1.symm) (h2.trans k2.symm) h3;have h4:¬ c≤k.c:=of_decide_eq_false hst;omega
theorem mem_set{x y z:Kt}{j:Nat}(hj:ks[j]? =some x)(hz:z∈ks.set j y):z=y∨z∈ks:=(yX hz).symm
theorem f0{x y z:Kt}{j:Nat}(hj:ks[j]? =some x)(hz:z∈ks)(hne:z≠x):z∈ks.set j y:=by
 obtain⟨i,hi⟩:=zX.1 hz;refine zX.2 ⟨i,?_⟩;rw[List.getElem?_set,if_neg]
 ·exact hi
 ·intro h
  rw[← h,hj]at hi;exact hne (Option.some.inj hi).symm
theorem Ud{x y:Kt}(h:x.core=y.core):x.a=y.a∧x.b=y.b∧x.c=y.c∧x.s=y.s∧x.l=y.l∧x.p=y.p:=⟨congrArg Kc.a h,congrArg Kc.b h,congrArg Kc.c h,congrArg Kc.s h,congrArg Kc.l h,congrArg Kc.p h⟩
theorem Hg(i:AEH np ks fr)(m:AEN np T M ks fr)(hc:Com ks)(t:SE T M ks fr kd a b c l M' ks' fr'):AEN np T M' ks' fr'∧Com ks'∧(∀ k,¬ (k.a=a∧k.b=b)→(k∈ks'↔k∈ks)):=by
 rcases t with ⟨hk,hz,p,k',rfl,rfl,hcr,rfl⟩|⟨hk,j,kx,hj,AEi,hst,rfl,rfl,rfl⟩|⟨rfl,j,kx,hj,AEi,hst,rfl,rfl,rfl⟩|⟨rfl,rfl,rfl,rfl⟩
 ·unfold Ev at hz
  split at hz
  ·cases hz
  rename_i hn;split at hz
  ·split at hz<;>cases hz
  split at hz
  ·cases hz
  rename_i hst;have AFo:Bp a b c ks=false:=by
   cases hq:Bp a b c ks
   ·rfl
   ·exact absurd hq hst
  have hr:ADc a b c 1 l.length=true:=by
   cases hq:ADc a b c 1 l.length
   ·exact absurd (.inl hq) hn
   ·rfl
  have AFD:l.length≤100:=Nat.le_of_not_lt fun h=>hn (.inr h)
  have e1:k'.a=a:=congrArg Kc.a hcr;have e2:k'.b=b:=congrArg Kc.b hcr;have e3:k'.c=c:=congrArg Kc.c hcr;have e4:k'.s=1:=congrArg Kc.s hcr;have e5:k'.l=l:=congrArg Kc.l hcr;have e6:k'.p=p:=congrArg Kc.p hcr;have hp8:=m.pl p vG;obtain⟨g1,g2,g3,g4⟩:=YR (T:=T) (p:=p) (H:=ADa T a b c 1 l) m.len (by omega) AFD (Dd hr);have hnd:(ks.map Kt.plc++(p::fr')).Nodup:=i.plc.nodup_iff.2 zI;have hmem:∀ k,k∈Ch (ks++[k'])↔k∈ks∨k=k':=fun k=>by rw[FG,va,vM]
  have hkp:∀ k∈ks,k.p≠p:=fun k hk h=>(yL.1 hnd).2.2 k.p (vu.2 ⟨k,hk,rfl⟩) p vG h
  have hfp:∀ q∈fr',q≠p:=fun q hq h=>(xn.1 (yL.1 hnd).2.1).1 (h ▸ hq)
  have hs:∀ k∈ks,∀ x,x/192=k.p→(DI T M p l (ADa T a b c 1 l)).getD x 0=M.getD x 0:=fun k hk x hx=>g4 x (by rw[hx];exact hkp k hk)
  refine⟨⟨g1,fun k hk=>?_,fun k hk=>?_,fun q hq r hr=>?_,fun k hk=>?_,fun q hq=>m.pl q (vH _ hq)⟩,fun x hx y hy h1 h2 h3=>?_,fun k hne=>?_⟩
  ·rcases (hmem k).1 hk with hk|rfl
   ·rw[GM (g1.trans m.len.symm) fun x hx=>hs k hk x (by omega)]
    exact m.hd k hk
   ·rw[e6,g2,e1,e2,e3,e4,e5]
  ·rcases (hmem k).1 hk with hk|rfl
   ·rw[Em (g1.trans m.len.symm) (by have:=(m.rs k hk).2;omega) fun x hx=>hs k hk x (by omega)]
    exact m.dt k hk
   ·rw[e6,e5,g3]
  ·rw[g4 _ (by have:=hfp q hq;omega)]
   exact m.bl q (vH _ hq) r hr
  ·rcases (hmem k).1 hk with hk|rfl
   ·exact m.rs k hk
   ·rw[e1,e2,e3,e4,e5];exact⟨hr,AFD⟩
  ·rcases (hmem y).1 hy with hyk|hyk
   ·rcases (hmem x).1 hx with hxk|hxk
    ·exact hc x hxk y hyk h1 h2 h3
    ·rw[hxk]at h1 h2 ⊢
     have:=Rk hc AFo y hyk (h1.trans e1) (h2.trans e2) h3;rw[e3];omega
   ·rw[hyk]at h3
    omega
  ·rw[hmem]
   refine⟨fun h=>h.resolve_right fun h1=>hne (by rw[h1];exact⟨e1,e2⟩),.inl⟩
 ·have hjl:=(vW.1 hj).1
  have hkm:=vN hj;obtain⟨rfl,rfl,rfl⟩:=AEi;have hp3:=i.lt kx hkm;have hr0:=m.rs kx hkm;have hr2:ADc kx.a kx.b kx.c 2 kx.l.length=true:=by
   obtain⟨g1,g2,g3,g4,g5,g6,g7,g8⟩:=Da hr0.1;exact decide_eq_true ⟨g1,g2,g3,g4,g5,g6,.inr rfl,g8⟩
  obtain⟨g1,g2⟩:=Lu m.len (p:=kx.p) hp3 (Dd (T:=T) hr2);have i2:=i.set (y:={kx with s:=2}) hj rfl rfl;have ADx:∀ z∈ks.set j {kx with s:=2},z={kx with s:=2}∨(z∈ks∧z.p≠kx.p):=fun z hz=>by
   rcases mem_set hj hz with h|h
   ·exact .inl h
   ·by_cases hzp:z.p=kx.p
    ·have hX:({kx with s:=2}:Kt)∈ks.set j {kx with s:=2}:=List.mem_set hjl _
     exact .inl (Dv i2.nd hz hX hzp)
    ·exact .inr ⟨h,hzp⟩
  have hs:∀ z∈ks,z.p≠kx.p→∀ x,x/192=z.p→(D6 M kx.p (ADa T kx.a kx.b kx.c 2 kx.l)).getD x 0=M.getD x 0:=fun z hz hzp x hx=>by rw[g2,if_neg (by omega)]
  have m2:AEN np T (D6 M kx.p (ADa T kx.a kx.b kx.c 2 kx.l)) (ks.set j {kx with s:=2}) fr:=by
   refine⟨g1,fun k hk=>?_,fun k hk=>?_,fun q hq r hr=>?_,fun k hk=>?_,m.pl⟩
   ·rcases ADx k hk with rfl|⟨h1,h2⟩
    ·exact PD g1 (by show 3*kx.p<3*np;omega) (Dd hr2) fun r hr=>by rw[g2,if_pos (show(64*(3*kx.p)+r)/64=3*kx.p by omega),show(64*(3*kx.p)+r) % 64=r by omega]
    ·rw[GM (g1.trans m.len.symm) fun x hx=>hs k h1 h2 x (by omega)]
     exact m.hd k h1
   ·rcases ADx k hk with rfl|⟨h1,h2⟩
    ·show dat _ kx.p kx.l.length=kx.l
     rw[Em (g1.trans m.len.symm) (by omega) fun x hx=>by rw[g2,if_neg (by omega)]];exact m.dt kx hkm
    ·rw[Em (g1.trans m.len.symm) (by have:=(m.rs k h1).2;omega) fun x hx=>hs k h1 h2 x (by omega)]
     exact m.dt k h1
   ·have hnd:(ks.map Kt.plc++fr).Nodup:=i.plc.nodup_iff.2 zI
    have hqk:kx.p≠q:=(yL.1 hnd).2.2 kx.p (vu.2 ⟨kx,hkm,rfl⟩) q hq;rw[g2,if_neg (by omega)];exact m.bl q hq r hr
   ·rcases ADx k hk with rfl|⟨h1,h2⟩
    ·exact⟨hr2,hr0.2⟩
    ·exact m.rs k h1
  have m3:=m2.go i2 (elB kx.a kx.b kx.c) (out:=(ks.set j {kx with s:=2}).filter (elB kx.a kx.b kx.c)) (.refl _);refine⟨m3,fun x hx y hy h1 h2 h3=>?_,fun k hne=>?_⟩
  ·obtain⟨hx1,hx2⟩:=vZ.1 hx
   obtain⟨hy1,hy2⟩:=vZ.1 hy;rcases ADx y hy1 with rfl|⟨hy3,hy4⟩
   ·refine Int.not_lt.1 fun hlt=>?_
    have hlt:x.c<kx.c:=hlt;have h1:kx.a=x.a:=h1;have h2:kx.b=x.b:=h2;unfold elB at hx2;rw[decide_eq_true h1.symm,decide_eq_true h2.symm,decide_eq_true hlt]at hx2;cases hx2
   ·rcases ADx x hx1 with rfl|⟨hx3,hx4⟩
    ·have h1:y.a=kx.a:=h1
     have h2:y.b=kx.b:=h2;have hlt:=Rk hc hst y hy3 h1 h2 h3;unfold elB at hy2;rw[decide_eq_true h1,decide_eq_true h2,decide_eq_true hlt]at hy2;cases hy2
    ·exact hc x hx3 y hy3 h1 h2 h3
  ·rw[vZ]
   constructor
   ·rintro⟨h1,_⟩
    rcases ADx k h1 with rfl|⟨h2,_⟩
    ·exact absurd ⟨rfl,rfl⟩ hne
    ·exact h2
   ·intro h1
    refine⟨f0 hj h1 fun h=>hne (by rw[h];exact⟨rfl,rfl⟩),?_⟩;cases hq:elB kx.a kx.b kx.c k
    ·rfl
    ·unfold elB at hq
     rw[vT,vT]at hq;exact absurd ⟨of_decide_eq_true hq.1.1,of_decide_eq_true hq.1.2⟩ hne
 ·obtain⟨AE3,hPl⟩:=Ov hj
  obtain⟨rfl,rfl,rfl⟩:=AEi;have hkm:=vN hj;have hp3:=i.lt kx hkm;have hnd:=i.nd;have hsub:∀ k∈ks.take j++ks.drop (j+1),k∈ks∧k.p≠kx.p:=fun k hk=>by
   have hkk:k∈ks:=by
    rcases va.1 hk with h|h
    ·exact List.mem_of_mem_take h
    ·exact List.mem_of_mem_drop h
   refine⟨hkk,fun hp=>?_⟩;have e:=Dv hnd hkk hkm hp;rw[AE3]at hnd;have pm:(ks.take j++kx::ks.drop (j+1)).Perm (kx::(ks.take j++ks.drop (j+1))):=List.perm_middle;have kn:=(pm.map Kt.plc).nodup_iff.1 hnd;rw[yZ,xn]at kn;exact kn.1 (vu.2 ⟨k,hk,hp⟩)
  refine⟨m.cut (fun k hk=>⟨(hsub k hk).1,fun h=>(hsub k hk).2 (vM.1 h)⟩) (fun p hp=>va.1 ((Gm _).mem_iff.1 hp)) (fun p hp=>by rw[vM.1 hp];exact hp3),fun x hx y hy=>hc x (hsub x hx).1 y (hsub y hy).1,fun k hne=>⟨fun h=>(hsub k h).1,fun h=>?_⟩⟩;rw[AE3]at h;rcases va.1 h with h|h
  ·exact List.mem_append_left _ h
  ·rcases vS.1 h with h|h
   ·exact absurd ⟨by rw[h],by rw[h]⟩ hne
   ·exact vV _ h
 ·refine⟨by rw[Hm];exact m.go i (drB a b c) (List.reverse_perm _),fun x hx y hy=>hc x (vZ.1 hx).1 y (vZ.1 hy).1,fun k hne=>?_⟩
  rw[vZ];refine⟨fun h=>h.1,fun h=>⟨h,?_⟩⟩;cases hq:drB a b c k
  ·rfl
  ·unfold drB at hq
   rw[vT,vT]at hq;exact absurd ⟨of_decide_eq_true hq.1.1,of_decide_eq_true hq.1.2⟩ hne
end
end
noncomputable section
open Go
set_option maxRecDepth 100000
theorem Yi{F:Nat→Option Kc}:∀ {ks:List Kt},(∀ k∈ks,F k.p=some k.core)→(ks.map Kt.plc).filterMap F=ks.map Kt.core
 |[],_=>rfl
 |k::ks,h=>by
  show(k.p::ks.map Kt.plc).filterMap F=_;rw[List.filterMap_cons_some (h k vG),Yi fun x hx=>h x (vH _ hx),yZ]
theorem UI{F:Nat→Option Kc}:∀ {fr:List Nat},(∀ p∈fr,F p=none)→fr.filterMap F=[]
 |[],_=>rfl
 |p::fr,h=>by rw[List.filterMap_cons_none (h p vG),UI fun x hx=>h x (vH _ hx)]
def qU(c:Kc):Int×Int×Int:=(c.a,c.b,c.c)
theorem Uh(ks:List Kt):ks.map Kt.key=(ks.map Kt.core).map qU:=by rw[List.map_map];rfl
theorem X2{ks ks0:List Kt}(pm:(ks0.map Kt.core).Perm (ks.map Kt.core)){x:Kt}(hx:x∈ks0):∃ y∈ks,y.core=x.core:=vu.1 (pm.mem_iff.1 (vu.2 ⟨x,hx,rfl⟩))
section
variable {h:Hp}{T M:List Nat}{k p bl np:Nat}{ks:List Kt}{fr:List Nat}
theorem AEN.find(i:AEH np ks fr)(md:AEN np T M ks fr):(kcs T M np).Perm (ks.map Kt.core)∧AEg T M np=[]∧∀ p∈mrk T M np,∃ k∈ks,k.p=p:=by
 have hold:=fun (k:Kt) (hk:k∈ks)=>Yo (p:=k.p) (md.rs k hk).1 (md.rs k hk).2 (md.hd k hk) (md.dt k hk)
 have AGv:=fun (p:Nat) (hp:p∈fr)=>Yd (T:=T) md.len (show 3*p<3*np by have:=md.pl p hp;omega) (md.bl p hp)
 have hall:∀ p∈wI np,(∃ k∈ks,k.p=p)∨p∈fr:=fun p hp=>by
  rcases va.1 (i.plc.mem_iff.2 hp)with h|h
  ·obtain⟨k,hk,hkp⟩:=vu.1 h
   exact .inl ⟨k,hk,hkp⟩
  ·exact .inr h
 refine⟨?_,List.filter_eq_nil_iff.2 fun p hp hb=>?_,fun p hp=>?_⟩
 ·have h1:(kcs T M np).Perm ((ks.map Kt.plc++fr).filterMap fun p=>(lkN T M p).map (Yx M p)):=by
   unfold kcs;exact(i.plc.symm).filterMap _
  rw[List.filterMap_append,Yi (fun k hk=>by
   obtain⟨_,h2,h3,_⟩:=hold k hk;rw[h2];exact congrArg some h3),UI (fun p hp=>by rw[(AGv p hp).1];rfl),vR]at h1
  exact h1
 ·rcases hall p hp with ⟨k,hk,rfl⟩|h
  ·rw[(hold k hk).2.2.2]at hb;cases hb
  ·rw[(AGv p h).2]at hb;cases hb
 ·obtain⟨h1,h2⟩:=vZ.1 hp
  rcases hall p h1 with h|h
  ·exact h
  ·rw[(AGv p h).1,(AGv p h).2]at h2
   cases h2
def H33(one two:List Nat)(ks:List Kt):Prop:=(∃ k∈ks,k.a=3∧k.b=3∧k.c=5∧k.s=2∧k.l=one)∧(∃ k∈ks,k.a=3∧k.b=3∧k.c=8∧k.s=1∧k.l=two)∧∀ k∈ks,k.a=3→k.b=3→k.c=5∨k.c=8
end
end
noncomputable section
open Go
set_option maxRecDepth 100000
section

def kp7(j:Nat):Prop:=j=0∨j=1∨j=2∨j=7∨j=8∨j=9∨j=11
end
end
noncomputable section
open Go
set_option maxRecDepth 100000
section
variable {h h':Hp}{bd bm bc n c0 m:Nat}{M:List Nat}{cs:List (Nat×List Nat)}
theorem Q2(W:h.Wf)(d:Dk h bd bm bc n M c0 cs 0 false):
  ∃ h',call AD (m+1) 96 [pt bd] h=.ok (.int .i64 15) h'∧Fx (fun i=>i=bd) h h'∧Dk h' bd bm bc n M c0 cs (-1) true:=by
 obtain⟨_,_,l2,_⟩:=CL d.disk;have c1:iEq 0 0=true:=DM rfl;obtain⟨h1,st1,R1,n1,f1,_⟩:=DK (v:=.bool true) W d.disk (off:=3) (show 3<4 by omega) d.big.1 rfl rfl;have R1:h1.Row bd 0 (dkL bm bc n 0 true):=R1;obtain⟨h2,st2,R2,n2,f2,_⟩:=DK (v:=.int .i64 (-1)) f1.wf R1 (off:=2) (show 2<4 by omega) d.big.1 rfl rfl;have R2:h2.Row bd 0 (dkL bm bc n (-1) true):=R2;have f12:=f1.trans f2;refine⟨h2,?_,f12,⟨R2,f12.row W d.med (fun h=>d.bdm h.symm),d.len,d.byt,by rw[f12.get _ (d.lt W).2.2 (fun h=>d.bdc h.symm)];exact d.map,d.big,d.n1⟩⟩;rw[Xq rfl];unfold d96;simp only[iN,By,sT,AT,AI,reduceIte,Ao,Ae,AJ,AO,AN,AQ,sh,l2,AM,AK,c1,Aa,st1,st2,lV0]
theorem OB(W:h.Wf)(d:Dk h bd bm bc n M c0 cs 0 false){i:Nat}(hi:i<n){u:BY}{l:List Nat}(U:h.ADo u (l.map bv))(hl:l.length=64):
  ∃ h',call AD (m+3) 75 [pt bd,.int .i64 (i:Int),u] h=.ok (.int .i64 15) h'∧Fx (fun b=>b=bd) h h'∧Dk h' bd bm bc n M c0 cs (-1) true:=by
 have k1:=Hf (m:=m) d hi;have Ul:=U.bl h;rw[hl]at Ul;obtain⟨h1,k2,f1,d1⟩:=Q2 (m:=m+1) W d;have c1:iNe 0 0=false:=CV rfl;have c3:iNe 15 0=true:=EL (by omega);have c2:iNe ((64:Nat):Int) 64=false:=CV rfl;refine⟨h1,?_,f1,d1⟩;rw[Xk rfl];unfold d75;simp only[iN,By,sT,AT,AI,reduceIte,cA0,k1,AM,AK,c1,Af,Ul,c2,k2,c3,lV0]
theorem V4(W:h.Wf)(d:Dk h bd bm bc n M c0 cs 0 false):
  ∃ h',call AD (m+3) 76 [pt bd] h=.ok (.int .i64 15) h'∧Fx (fun b=>b=bd) h h'∧Dk h' bd bm bc n M c0 cs (-1) true:=by
 have k1:=Hf (m:=m) d (i:=0) (by have:=d.n1;omega);have k1:call AD (m+2) 95 [pt bd,.int .i64 0] h=.ok (.int .i64 0) h:=k1;obtain⟨h1,k2,f1,d1⟩:=Q2 (m:=m+1) W d;have c1:iNe 0 0=false:=CV rfl;have c3:iNe 15 0=true:=EL (by omega);refine⟨h1,?_,f1,d1⟩;rw[Xl rfl,YJ];unfold YK;simp only[iN,By,sT,AT,AI,reduceIte,cA0,k1,k2,AM,AK,c1,c3,lV0]
end
section
variable {F:ADS}{e:Env}{h h':Hp}{S:Nat→Prop}{A:At}{T M:List Nat}{c0 bad m p n bl:Nat}{v lv fv:BY}{ov:Bool}{cs:List (Nat×List Nat)}
theorem YT(W:h.Wf)(R:h.Row A.bs 0 (slL A.bd A.tb lv fv bad ov))(hne:¬ A.K A.bs)(d:Dk h A.bd A.bm A.bc A.n M c0 cs 0 false){v:BY}{i:Nat}{l:List Nat}(o:F2 h A v (.w i l))(hi:i<A.n)(hl:l.length=64):
  ∃ h',G8 (call AD (m+4)) v [] h=.ok (.int .i64 15) h'∧Fx A.K h h'∧Dk h' A.bd A.bm A.bc A.n M c0 cs (-1) true:=by
 rcases o with ⟨r3,r10,r9,u,rfl,h2,h3,h4,h5,h6,h7,h8⟩|⟨r2,r7,p,rfl,h2,h3,rfl,h5,rfl,h7,h8⟩
 ·obtain⟨l0,_⟩:=A7 (R.same (h':=h.marked) rfl)
  have m3:ADW ⟨r3,0,none⟩ h.marked=.ok (pt A.bs) h.marked:=(h2.same (h':=h.marked) rfl).ADW (off:=0) (by show 0<1;omega);have m10:ADW ⟨r10,0,none⟩ h.marked=.ok (.int .i64 (i:Int)) h.marked:=(h3.same (h':=h.marked) rfl).ADW (off:=0) (by show 0<1;omega);have m9:ADW ⟨r9,0,none⟩ h.marked=.ok u h.marked:=(h4.same (h':=h.marked) rfl).ADW (off:=0) (by show 0<1;omega);obtain⟨h1,k1,f1,d1⟩:=OB (m:=m) W.marked.quiet (d.same (h':=h.marked.quiet) rfl) hi ((h5.vs.vals).same (h':=h.marked.quiet) rfl) hl;have q1:∀ e:Env,AB 7 e=pt A.bd→AB 8 e=.int .i64 (i:Int)→AB 9 e=u→Al .free (AU 75 [AB 7,AB 8,AB 9]) (call AD (m+3)) e h.marked=.ok (.int .i64 15) (h.marked.back h1):=fun e e1 e2 e3=>by
   refine BQ ?_;rw[BV,AW,AW,AW,Az,e1,e2,e3];exact k1
  refine⟨h.marked.back h1,?_,((f1.mono (T:=A.K) fun b hb=>.inl hb).from (h:=h.marked) rfl rfl).same (h2:=h.marked.back h1) rfl rfl |>.from (h:=h) rfl rfl,d1.same rfl⟩;rw[B9];show call AD (m+3+1) 74 [pt r3,pt r10,pt r9] h=_;rw[Xj rfl];unfold d74;simp only[iN,By,sT,AT,AI,reduceIte,A3,AN,AQ,m3,Ao,Ae,AJ,AO,sh,l0,m10,m9,q1,lV0]
 ·have m2:ADW ⟨r2,0,none⟩ h.marked=.ok (pt A.bs) h.marked:=(h2.same (h':=h.marked) rfl).ADW (off:=0) (by show 0<1;omega)
  have m7:ADW ⟨r7,0,none⟩ h.marked=.ok (.int .i64 (p:Int)) h.marked:=(h3.same (h':=h.marked) rfl).ADW (off:=0) (by show 0<1;omega);obtain⟨l0,_⟩:=A7 (R.same (h':=h.marked) rfl);have o1:∀ (off:Nat) (kk:C) (F:ADS) (e:Env),Ih (.pointer (some ⟨r2,off,none⟩)) kk F e h.marked=kk F e h.marked:=fun off kk F e=>DZ (h2.lt W)
  have o2:∀ (off:Nat) (kk:C) (F:ADS) (e:Env),Ih (.pointer (some ⟨A.bs,off,none⟩)) kk F e h.marked=kk F e h.marked:=fun off kk F e=>DZ (R.lt W)
  have k1:=Lg (m:=m+1) (R.same (h':=h.marked.quiet) rfl) (p:=p) h5;have q1:∀ e:Env,AB 7 e=pt A.bs→AB 8 e=.int .i64 (p:Int)→Al .weak (AU 46 [AB 7,AB 8]) (call AD (m+3)) e h.marked=.ok (.int .i64 ((p*3:Nat):Int)) (h.marked.back h.marked.quiet):=fun e e1 e2=>by
   refine GL W.marked ?_ (IN _);rw[BV,AW,AW,Az,e1,e2];exact k1
  have y2:h.Ext (h.marked.back h.marked.quiet):=Hp.Ext.AEc (Hp.Ext.refl W).marked (Hp.Ext.refl W).marked.quiet;have n2:(h.marked.back h.marked.quiet).next=h.next:=rfl;have b2:(h.marked.back h.marked.quiet).bl=h.bl:=rfl;have mk2:(h.marked.back h.marked.quiet).mark=h.next:=rfl;generalize h.marked.back h.marked.quiet=h2' at q1 y2 n2 b2 mk2;have qm:∀ (F:ADS) (e:Env),Al .ADk (GJ 1 ty5.zero (kV (.int .i64 64)) (kV (.int .i64 64))) F e h2'=.ok (.slice (some ⟨h2'.next,0,none⟩) 64 64) (h2'.back (h2'.quiet.ADR 0 (A5.map bv))):=fun F e=>by
   have:=LR (F:=F) (e:=e) y2.quiet.wf (x:=kV (.int .i64 64)) (y:=kV (.int .i64 64)) (N:=64) rfl rfl (by omega);have hz:List.replicate 64 0=A5:=rfl;exact DF this ((Hp.Ext.refl y2.quiet.wf).ADR _ _) (by omega)
  have y3:h2'.Ext (h2'.back (h2'.quiet.ADR 0 (A5.map bv))):=.back ((Hp.Ext.refl y2.wf.quiet).ADR _ _);have R3:(h2'.back (h2'.quiet.ADR 0 (A5.map bv))).Row h2'.next 0 (A5.map bv):=(Hp.Row.new y2.wf.quiet 0 (A5.map bv)).same rfl;have n3:(h2'.back (h2'.quiet.ADR 0 (A5.map bv))).next=h2'.next+1:=rfl;generalize h2'.back (h2'.quiet.ADR 0 (A5.map bv))=h3' at qm y3 R3 n3;have x3:=y2.trans y3;obtain⟨h4,k4,f4,d4⟩:=OB (m:=m) x3.wf.quiet ((d.ext W x3).same (h':=h3'.quiet) rfl) hi (u:=.slice (some ⟨h2'.next,0,none⟩) 64 64) (l:=A5) (.inr ⟨h2'.next,0,64,0,_,rfl,R3.same rfl,IN _,rfl⟩) rfl;have q4:∀ e:Env,AB 6 e=pt A.bd→AB 9 e=.int .i64 ((p * 3:Nat):Int)→AB 10 e=.slice (some ⟨h2'.next,0,none⟩) 64 64→Al .free (AU 75 [AB 6,AB 9,AB 10]) (call AD (m+3)) e h3'=.ok (.int .i64 15) (h3'.back h4):=fun e e1 e2 e3=>by
   refine BQ ?_;rw[BV,AW,AW,AW,Az,e1,e2,e3];exact k4
  refine⟨h3'.back h4,?_,(Fx.of (S:=A.K) x3).trans (((f4.mono (T:=A.K) fun b hb=>.inl hb).from (h:=h3') rfl rfl).same (h2:=h3'.back h4) rfl rfl),d4.same rfl⟩;rw[B9];show call AD (m+3+1) 83 [pt r2,pt r7] h=_;rw[Xo rfl];unfold d83;simp only[iN,By,sT,AT,AI,reduceIte,A3,D0,o1,o2,DT,AN,AQ,m2,Ao,Ae,AJ,AO,sh,l0,m7,q1,qm,q4,lV0]
end
end
noncomputable section
open Go
set_option maxRecDepth 100000
def My(p:List Nat×List (Nat×List Nat))(d:AD6):List Nat×List (Nat×List Nat):=((match d with|.w _ _=>p.1|.f=>Er p.1 p.2),(match d with|.w i l=>p.2++[(i,l)]|.f=>[]))
theorem FF:∀ (ds:List AD6) (M:List Nat) (cs:List (Nat×List Nat)),BN M cs ds=ds.foldl My (M,cs)
 |[],_,_=>rfl
 |d::ds,M,cs=>by rw[Nz,FF ds];rfl
section
variable {h h':Hp}{A:At}{M:List Nat}{c0 bad m k p n j:Nat}{arm:Int}{fr:List Nat}{v lv fv:BY}{ov:Bool}{cs:List (Nat×List Nat)}{ds:List AD6}{x:AD6}
theorem nE(W:h.Wf)(R:h.Row A.bs 0 (slL A.bd A.tb lv fv bad ov))(hne:¬ A.K A.bs)(d:Dk h A.bd A.bm A.bc A.n M c0 cs arm false)(ha:Gs arm (k+1))(dI:F2 h A v x)(ok:DO A.n cs (x::ds))(hK:AEk cs)(hS:AEC A.n cs):
  ∃ h2 c2,G8 (call AD (m+4)) v [] h=.ok (.int .i64 0) h2∧Fx A.K h h2∧Dk h2 A.bd A.bm A.bc A.n (My (M,cs) x).1 c2 (My (M,cs) x).2 (AEe arm) false∧DO A.n (My (M,cs) x).2 ds∧AEk (My (M,cs) x).2∧AEC A.n (My (M,cs) x).2:=by
 cases x with
 |w j l=>
  obtain⟨o1,o2,o3,o4,o5⟩:=ok;obtain⟨h2,k2,f2,d2⟩:=Tv (m:=m) W R hne d ha dI o2 (fun y hy=>⟨o1 y hy,(hS y hy).1⟩) o3;refine⟨h2,c0,k2,f2,d2,o5,fun p q y z hp hq he=>?_,fun y hy=>?_⟩
  ·have hp:(cs++[(j,l)])[p]? =some y:=hp
   have hq:(cs++[(j,l)])[q]? =some z:=hq;rcases vd p cs.length with hp1|hp1<;>rcases vd q cs.length with hq1|hq1
   ·rw[vP hp1]at hp
    rw[vP hq1]at hq;exact hK p q y z hp hq he
   ·rw[vP hp1]at hp
    rw[ve hq1]at hq;have hz:=vN hq;rw[vM.1 hz]at he;exact absurd he (o1 y (vN hp))
   ·rw[vP hq1]at hq
    rw[ve hp1]at hp;have hz:=vN hp;rw[vM.1 hz]at he;exact absurd he.symm (o1 z (vN hq))
   ·have h1:=(vW.1 hp).1
    have h2:=(vW.1 hq).1;rw[IT,List.length_singleton]at h1 h2;omega
  ·have hy:y∈cs++[(j,l)]:=hy
   rcases va.1 hy with hy|hy
   ·exact hS y hy
   ·rw[vM.1 hy];exact⟨o2,o3,o4⟩
 |f=>
  obtain⟨o1,o2,o3⟩:=ok;obtain⟨h2,k2,f2,d2⟩:=QB (m:=m+1) W d ha hK hS o1 o2;have dI:v=.func (.func 76) ⟨[pt A.bd]⟩ ⟨[]⟩:=dI;exact⟨h2,_,by rw[dI,B9];exact k2,f2,d2,o3,fun i j y z h=>(by cases h),fun y hy=>by cases hy⟩
theorem bR(W:h.Wf)(R:h.Row A.bs 0 (slL A.bd A.tb lv fv bad ov))(ADg:256≤A.bs)(hne:¬ A.K A.bs)(d:Dk h A.bd A.bm A.bc A.n M c0 [] (j:Int) false){vs:List BY}{dv:BY}(V:h.VS (fun b=>¬ A.D b) dv vs)(hlen:vs.length=ds.length)(hd:∀ (i:Nat) (v:BY) (x:AD6),vs[i]? =some v→ds[i]? =some x→F2 h A v x)(hok:DO A.n [] ds)(hj:j<ds.length)(AFD:ds.length≤100):
  ∃ h' c1,call AD (m+5) 47 [pt A.bs,dv] h=.ok (.int .i64 15) h'∧Fx A.D h h'∧h'.Row A.bs 0 (slL A.bd A.tb lv fv bad true)∧Dk h' A.bd A.bm A.bc A.n (BN M [] (ds.take j)).1 c1 (BN M [] (ds.take j)).2 (-1) true∧AEk (BN M [] (ds.take j)).2∧AEC A.n (BN M [] (ds.take j)).2:=by
 have Vl:=V.vals.len;have pre:∃ e1,Vo (call AD (m+4)) (AS e0 0 [pt A.bs,dv]) h=alS (call AD (m+4)) e1 h∧AB 0 e1=pt A.bs∧AB 8 e1=dv∧AB 9 e1=.int .i64 (vs.length:Int)∧AB 10 e1=.int .i64 ((0:Nat):Int):=by
  unfold Vo;simp only[iN,By,sT,AT,AI,reduceIte,Af,Vl];exact⟨_,rfl,by simp[AF]⟩
 obtain⟨e1,p1,s0,s8,s9,s10⟩:=pre;have run:∃ e' h' c1,Ay alB (call AD (m+4)) e1 h=.ret e' h'∧AB 4 e'=.int .i64 15∧Fx A.D h h'∧h'.Row A.bs 0 (slL A.bd A.tb lv fv bad true)∧Dk h' A.bd A.bm A.bc A.n (BN M [] (ds.take j)).1 c1 (BN M [] (ds.take j)).2 (-1) true∧AEk (BN M [] (ds.take j)).2∧AEC A.n (BN M [] (ds.take j)).2:=by
  refine BU (I:=fun i e' h'=>∃ (c1:Nat),Fx A.K h h'∧Dk h' A.bd A.bm A.bc A.n (BN M [] (ds.take i)).1 c1 (BN M [] (ds.take i)).2 ((j - i:Nat):Int) false∧DO A.n (BN M [] (ds.take i)).2 (ds.drop i)∧AEk (BN M [] (ds.take i)).2∧AEC A.n (BN M [] (ds.take i)).2∧i≤j∧AB 0 e'=pt A.bs∧AB 8 e'=dv∧AB 9 e'=.int .i64 (vs.length:Int)∧AB 10 e'=.int .i64 (i:Int))
   (Q:=fun x=>∃ e' h' c1,x=.ret e' h'∧AB 4 e'=.int .i64 15∧Fx A.D h h'∧h'.Row A.bs 0 (slL A.bd A.tb lv fv bad true)∧Dk h' A.bd A.bm A.bc A.n (BN M [] (ds.take j)).1 c1 (BN M [] (ds.take j)).2 (-1) true∧AEk (BN M [] (ds.take j)).2∧AEC A.n (BN M [] (ds.take j)).2) j (by omega) (fun i e' h' ⟨c1,x',d',ok',hK,hS,hi,t0,t8,t9,t10⟩=>?_)
   ⟨c0,.refl W,d,hok,fun i j y z h=>(by cases h),fun y hy=>(by cases hy),vi _,s0,s8,s9,s10⟩
  have hlt:i<ds.length:=by omega
  have hiv:i<vs.length:=by omega
  have c1':iLt (i:Int) (vs.length:Int)=true:=Es hiv;have V':=V.fx W x' fun b hb=>Su hb
  obtain⟨a,g1,g2⟩:=V'.vals.at hiv;have hv:vs[i]? =some (vs.getD i ADV):=by rw[OF,No hiv];rfl
  have hx:ds[i]? =some (ds[i]'hlt):=No hlt;have dI:=(hd i _ _ hv hx).keep (h':=h') trivial fun b el L hb r=>x'.row W r (Su hb)
  generalize vs.getD i ADV=v at g2 dI;have AFY:ds.drop i=ds[i]'hlt::ds.drop (i+1):=wY hlt;have htk:ds.take (i+1)=ds.take i++[ds[i]'hlt]:=by rw[zk,hx];rfl
  rw[AFY]at ok';generalize ds[i]'hlt=x at dI ok' htk;have R':=x'.row W R hne;have W':=x'.wf;by_cases hij:i<j
  ·left
   have AFH:BN M [] (ds.take (i+1))=My (BN M [] (ds.take i)) x:=by rw[htk,FF,FF,AAM];rfl
   generalize BN M [] (ds.take i)=p at d' ok' hK hS AFH;have ha':Gs (((j - i:Nat):Nat):Int) (0+1):=⟨by omega,by omega,.inr (by omega)⟩;obtain⟨h2,c2,k2,f2,d2,ok2,hK2,hS2⟩:=nE (m:=m) W' R' hne d' ha' dI ok' hK hS;rw[← AFH]at d2 ok2 hK2 hS2;have ea:AEe (((j - i:Nat):Nat):Int)=((j - (i+1):Nat):Int):=by unfold AEe;omega
   rw[ea]at d2;have c0':iNe 0 0=false:=CV rfl;have a3:=CH (i:=i) (h:=h2) (by omega);have hrun:∃ e2,alB (call AD (m+4)) e' h'=.norm e2 h2∧AB 0 e2=pt A.bs∧AB 8 e2=dv∧AB 9 e2=.int .i64 (vs.length:Int)∧AB 10 e2=.int .i64 ((i+1:Nat):Int):=by
    unfold alB;simp only[sT,AT,AI,reduceIte,AM,AK,t10,t9,c1',A1,t8,g1,AN,g2,CR,Az,k2,c0',BF,a3];exact⟨_,rfl,by simp[AF,t0,t8,t9]⟩
   obtain⟨e2,r1,r2,r3,r4,r5⟩:=hrun;exact⟨hij,e2,h2,r1,c2,x'.trans f2,d2,ok2,hK2,hS2,by omega,r2,r3,r4,r5⟩
  ·right
   have hie:i=j:=by omega
   subst hie;rw[Nat.sub_self]at d';have d':Dk h' A.bd A.bm A.bc A.n (BN M [] (ds.take i)).1 c1 (BN M [] (ds.take i)).2 0 false:=d';obtain⟨h2,k2,f2,d2⟩:∃ h2,G8 (call AD (m+4)) v [] h'=.ok (.int .i64 15) h2∧Fx A.K h' h2∧Dk h2 A.bd A.bm A.bc A.n (BN M [] (ds.take i)).1 c1 (BN M [] (ds.take i)).2 (-1) true:=by
    cases x with
    |w j l=>
     obtain⟨_,o2,o3,_,_⟩:=ok';exact YT W' R' hne d' dI o2 o3
    |f=>
     have dI:v=.func (.func 76) ⟨[pt A.bd]⟩ ⟨[]⟩:=dI;obtain⟨h2,k2,f2,d2⟩:=V4 (m:=m+1) W' d';exact⟨h2,by rw[dI,B9];exact k2,f2.mono fun b hb=>.inl hb,d2⟩
   have R2:=f2.row W' R' hne;obtain⟨h3,st3,R3,n3,f3,_⟩:=DK (v:=.bool true) f2.wf R2 (off:=6) (show 6<7 by omega) ADg rfl rfl;have R3:h3.Row A.bs 0 (slL A.bd A.tb lv fv bad true):=R3;have c3:iNe 15 0=true:=EL (by omega);have hrun:∃ e2,alB (call AD (m+4)) e' h'=.ret e2 h3∧AB 4 e2=.int .i64 15:=by
    unfold alB;simp only[sT,AT,AI,reduceIte,AM,AK,t10,t9,c1',A1,t8,g1,AN,g2,CR,Az,k2,c3,Ao,t0,Ae,AJ,AO,sh,Aa,st3];exact⟨_,rfl,by simp[AF]⟩
   obtain⟨e2,r1,r2⟩:=hrun;rw[r1];refine⟨rfl,e2,h3,c1,rfl,r2,((x'.trans f2).mono fun b hb=>.inr hb).trans (f3.mono fun b hb=>.inl hb),R3,d2.fr f2.wf f3 (fun h=>hne (.inl h.symm)) (fun h=>hne (.inr (.inl h.symm))) (fun h=>hne (.inr (.inr h.symm))),hK,hS⟩
 obtain⟨e2,h2,c1,r1,r2,r3,r4,r5,r6,r7⟩:=run;refine⟨h2,c1,?_,r3,r4,r5,r6,r7⟩;rw[Xd rfl,YE,p1,XI];simp only[BE,Ax,r1,B0,CY,lV0,r2]
end
end
noncomputable section
open Go
set_option maxRecDepth 100000
def AEJ(fa:Bool)(a:Int):Prop:=(-1≤a∧a≤1099511627776)∧(fa=false→a<0)
theorem AEJ.AEe{fa:Bool}{a:Int}(h:AEJ fa a):AEJ fa (AEe a):=by
 obtain⟨⟨h1,h2⟩,h3⟩:=h;unfold Go.Proofs.YtedbmmfebjfibaaGreat.AEe;exact⟨⟨by omega,by omega⟩,fun hf=>by have:=h3 hf;omega⟩
theorem AEJ.fold{fa:Bool}{a:Int}(h:AEJ fa a):∀ n:Nat,AEJ fa ((wI n).foldl (fun a _=>Go.Proofs.YtedbmmfebjfibaaGreat.AEe a) a)
 |0=>h
 |n+1=>by rw[List.range_succ,AAM];exact(h.fold n).AEe
theorem AEJ.no{a:Int}(h:a<0)(h1: -1≤a):AEJ false a:=⟨⟨h1,by omega⟩,fun _=>h⟩
theorem AEJ.may{a:Int}(h: -1≤a)(h1:a≤1099511627776):AEJ true a:=⟨⟨h,h1⟩,fun h=>by cases h⟩
structure AEx (fa:Bool)(h:Hp)(A:At)(T M:List Nat)(cs:List (Nat×List Nat)):Prop where
 row:∃ lv fv bad,h.Row A.bs 0 (slL A.bd A.tb lv fv bad true)
 dk:∃ c0,Dk h A.bd A.bm A.bc A.n M c0 cs (-1) true
 tab:h.Row A.tb 0 (T.map wv)
 tok:AEM T
 key:AEk cs
 sec:AEC A.n cs
 ne:A.bs≠A.bd∧A.bs≠A.bm∧A.bs≠A.bc∧¬ A.D A.tb∧256≤A.bs
 may:fa=true
theorem AEx.same{fa:Bool}{h h':Hp}{A:At}{T M:List Nat}{cs:List (Nat×List Nat)}(d:AEx fa h A T M cs)(hb:h'.bl=h.bl):AEx fa h' A T M cs:=by
 obtain⟨⟨lv,fv,bad,r⟩,⟨c0,k⟩,t,q1,q2,q3,q4,q5⟩:=d;exact⟨⟨lv,fv,bad,r.same hb⟩,⟨c0,k.same hb⟩,t.same hb,q1,q2,q3,q4,q5⟩
def Dy(ps:List Nat):List AD6:=ps.map (fun p=>AD6.w (p*3) A5)++[.f]
section
variable {fa:Bool}{F:ADS}{e:Env}{h h' h0:Hp}{A:At}{T M:List Nat}{c0 bad m p n j:Nat}{arm:Int}{ks:List Kt}{fr:List Nat}{v lv fv:BY}{ds:List AD6}{x:AD6}
theorem OJ(W:h.Wf)(s:Sl h A T M c0 arm ks fr lv fv bad false){vs:List BY}{dv:BY}(V:h.VS (fun b=>¬ A.D b) dv vs)(hlen:vs.length=ds.length)(hd:∀ (i:Nat) (v:BY) (x:AD6),vs[i]? =some v→ds[i]? =some x→F2 h A v x)(hok:DO A.n [] ds)(hb:AEJ fa arm)(AFD:ds.length≤100):
  (∃ h' c1 ADu,call AD (m+5) 47 [pt A.bs,dv] h=.ok (.int .i64 0) h'∧Fx A.K h h'∧Dk h' A.bd A.bm A.bc A.n (BN M [] ds).1 c1 (BN M [] ds).2 ADu false∧AEJ fa ADu)∨
  (∃ j h',j<ds.length∧call AD (m+5) 47 [pt A.bs,dv] h=.ok (.int .i64 15) h'∧Fx A.D h h'∧AEx fa h' A T (BN M [] (ds.take j)).1 (BN M [] (ds.take j)).2):=by
 by_cases hj:0≤arm∧arm<(ds.length:Int)
 ·obtain⟨j,rfl⟩:=Int.eq_ofNat_of_zero_le hj.1
  obtain⟨h',c1,k1,f1,r1,d1,hK,hS⟩:=bR (m:=m) (j:=j) W s.row s.ne.2.2.2.2 s.nK s.dk V hlen hd hok (by omega) AFD;exact .inr ⟨j,h',by omega,k1,f1,⟨⟨_,_,_,r1⟩,⟨_,d1⟩,f1.row W s.tab s.ne.2.2.2.1,s.tok,hK,hS,s.ne,by
   cases fa
   ·exact absurd (hb.2 rfl) (by omega)
   ·rfl⟩⟩
 ·obtain⟨h',c1,ADu,k1,f1,d1,ea⟩:=iM (m:=m) W s.row s.nK s.dk V hlen hd hok ⟨hb.1.2,hb.1.1,by omega⟩ AFD
  exact .inl ⟨h',c1,ADu,k1,f1,d1,by rw[ea];exact hb.fold _⟩
theorem In(W:h.Wf)(s:Sl h A T M c0 arm ks fr lv fv bad false){ps:List Nat}{pv:BY}(V:h.ADo pv (ints .i64 (ps.map wC)))(hp:∀ p∈ps,3*p+3≤A.n)(hnd:ps.Nodup)(hl:ps.length≤50)(hb:AEJ fa arm):
  (∃ h' c1 ADu,call AD (m+6) 53 [pt A.bs,pv] h=.ok (.int .i64 0) h'∧Fx A.K h h'∧Sl h' A T (GO M ps) c1 ADu ks fr lv fv bad false∧AEJ fa ADu)∨
  (∃ j h',j<ps.length+1∧ps≠[]∧call AD (m+6) 53 [pt A.bs,pv] h=.ok (.int .i64 15) h'∧Fx A.D h h'∧AEx fa h' A T (BN M [] ((Dy ps).take j)).1 (BN M [] ((Dy ps).take j)).2):=by
 have ln:∀ g:Hp,AEL pv g=.ok (.int .i64 (ps.length:Int)) g:=fun g=>by
  have:=V.shape;obtain⟨a,c,rfl⟩:=this;rw[show(ints .i64 (ps.map wC)).length=ps.length by simp[ints]];rfl
 have bx:=fun (F:ADS) (e:Env) (he:AB 0 e=pt A.bs)=>(show C7 (AB 0) F e h=.ok (pt h.next) (h.ADR 0 [pt A.bs])by rw[E6,he,E3 W];rfl)
 have x1:=(Hp.Ext.refl W).ADR 0 [pt A.bs];have R2:=Hp.Row.new W 0 [pt A.bs];have n1:(h.ADR 0 [pt A.bs]).next=h.next+1:=rfl;generalize h.ADR 0 [pt A.bs]=h1 at bx x1 R2 n1;have hD:=s.AF5 W;have hDn:A.n≤65536:=s.dk.n1.2;by_cases h0:ps=[]
 ·subst h0
  have c1:iEq ((([]:List Nat).length:Nat):Int) 0=true:=DM rfl;refine .inl ⟨h1,c0,arm,?_,.of x1,s.ext W x1,hb⟩;rw[Xf rfl,YF];unfold YG;simp only[iN,By,sT,AT,AI,reduceIte,bx,Af,ln,AM,AK,c1,lV0]
 have hpos:0<ps.length:=by
  cases ps with
  |nil=>exact absurd rfl h0
  |cons _ _=>exact AAk _
 have c1:iEq (ps.length:Int) 0=false:=DL (by omega);have pre:∃ e1,YG (call AD (m+5)) (AS e0 0 [pt A.bs,pv]) h=skS (call AD (m+5)) e1 h1∧AB 2 e1=pt h.next∧AB 5 e1=.slice none 0 0∧AB 11 e1=pv∧AB 12 e1=.int .i64 (ps.length:Int)∧AB 13 e1=.int .i64 ((0:Nat):Int):=by
  unfold YG;simp only[iN,By,sT,AT,AI,reduceIte,bx,Af,ln,AM,AK,c1];exact⟨_,rfl,by simp[AF]⟩
 obtain⟨e1,p1,s2,s5,s11,s12,s13⟩:=pre;have run:∃ e' h' v,Ay skB (call AD (m+5)) e1 h1=.exit 0 e' h'∧h.Ext h'∧CB h' A h1.next v (ps.map fun p=>AD6.w (p*3) A5)∧h'.Row h.next 0 [pt A.bs]∧h1.next≤h'.next∧AB 2 e'=pt h.next∧AB 5 e'=v:=by
  refine BU (I:=fun i e' h'=>∃ v,h.Ext h'∧CB h' A h1.next v ((ps.take i).map fun p=>AD6.w (p*3) A5)∧h'.Row h.next 0 [pt A.bs]∧h1.next≤h'.next∧i≤ps.length∧AB 2 e'=pt h.next∧AB 5 e'=v∧AB 11 e'=pv∧AB 12 e'=.int .i64 (ps.length:Int)∧AB 13 e'=.int .i64 (i:Int))
   (Q:=fun x=>∃ e' h' v,x=.exit 0 e' h'∧h.Ext h'∧CB h' A h1.next v (ps.map fun p=>AD6.w (p*3) A5)∧h'.Row h.next 0 [pt A.bs]∧h1.next≤h'.next∧AB 2 e'=pt h.next∧AB 5 e'=v) ps.length (by omega) (fun i e' h' ⟨v,x',dv,R',hn',hi,t2,t5,t11,t12,t13⟩=>?_)
   ⟨_,x1,⟨[],.inl ⟨rfl,rfl⟩,rfl,fun i w x h=>by cases h⟩,R2,IN _,vi _,s2,s5,s11,s12,s13⟩
  have W':=x'.wf;by_cases hlt:i<ps.length
  ·left
   have c1:=Es hlt;obtain⟨p,hpi⟩:∃ p,ps[i]? =some p:=⟨_,No hlt⟩;have hpm:=vN hpi;obtain⟨a,g1,g2⟩:=(V.ext W x').at (i:=i) (by simp[ints];exact hlt);have g2:Gy (.pointer (some a)) h'=.ok (.int .i64 (p:Int)) h':=by
    rw[g2];have:(ints .i64 (ps.map wC)).getD i ADV=.int .i64 (p:Int):=by
     rw[OF];simp[ints,hpi]
    rw[this]
   obtain⟨h2,al,st,y2,R7,n2,_⟩:=Ix W' bN (v:=.int .i64 (p:Int)) rfl rfl;have x2:=x'.trans y2;have nDb:∀ b,h.next≤b→¬ A.D b:=fun b hb=>eA hD hb
   have hvb:∀ b,ADv v b→h1.next≤b∧b<h'.next:=fun b hb=>by
    obtain⟨vs,o1,_⟩:=dv;obtain⟨o,nn,c,hc⟩:=hb;rcases o1 with ⟨h1',_⟩|⟨b',h1',h2',h3',_⟩
    ·rw[h1']at hc;cases hc
    ·rw[h1']at hc
     have:=h2'.lt W';injection hc with hc _ _
     injection hc with hc
     injection hc with hc _ _
     omega
   have ds:IE h2 A (fun b=>¬ A.D b∧¬ ADv v b) (.func (.func 83) ⟨[]⟩ ⟨[pt h.next,pt h'.next]⟩) (.w (p*3) A5):=.inr ⟨h.next,h'.next,p,rfl,R'.ext W' y2,R7,rfl,by have:=hp p hpm;omega,rfl,⟨nDb _ (IN _),fun hb=>by have:=hvb _ hb;omega⟩,⟨nDb _ (by have:=x'.next;omega),fun hb=>by have:=hvb _ hb;omega⟩⟩;obtain⟨h3,v3,k3,x3,dv3,n3,kp3⟩:=(dv.ext W' y2).snoc (f:=83) x2 x1.next (by omega) rfl ds (by rw[If,vp];omega);have er:(ps.take (i+1)).map (fun p=>AD6.w (p*3) A5)=(ps.take i).map (fun p=>AD6.w (p*3) A5)++[AD6.w (p*3) A5]:=by
    rw[zk,hpi,List.map_append];rfl
   rw[← er]at dv3;have fs:=fun (F:ADS) (e:Env) (a:AB 18 e=.func (.func 83) ⟨[]⟩ ⟨[pt h.next,pt h'.next]⟩)=>JF (F:=F) (e:=e) x2.wf a
   have a3:=CH (i:=i) (h:=h3) (by omega);have hrun:∃ e2,skB (call AD (m+5)) e' h'=.norm e2 h3∧AB 2 e2=pt h.next∧AB 5 e2=v3∧AB 11 e2=pv∧AB 12 e2=.int .i64 (ps.length:Int)∧AB 13 e2=.int .i64 ((i+1:Nat):Int):=by
    unfold skB;simp only[sT,AT,AI,reduceIte,AM,AK,t13,t12,c1,A1,t11,g1,AN,g2,al,Aa,st,DY,AW,Az,t2,fs,BG,t5,k3,BF,a3];exact⟨_,rfl,by simp[AF,t2,t11,t12]⟩
   obtain⟨e2,r1,r2,r3,r4,r5,r6⟩:=hrun;exact⟨hlt,e2,h3,r1,v3,x3,dv3,kp3 _ _ _ (fun hb=>by have:=hvb _ hb;omega) (R'.ext W' y2),by omega,by omega,r2,r3,r4,r5,r6⟩
  ·right
   have c1:=DE (show ps.length≤i by omega);have hrun:∃ e2,skB (call AD (m+5)) e' h'=.exit 0 e2 h'∧AB 2 e2=pt h.next∧AB 5 e2=v:=by
    unfold skB;simp only[sT,AT,AI,reduceIte,AM,AK,t13,t12,c1];exact⟨_,rfl,by simp[AF,t2,t5]⟩
   obtain⟨e2,r1,r2,r3⟩:=hrun;rw[r1];rw[List.take_of_length_le (by omega)]at dv;exact⟨rfl,e2,h',v,rfl,x',dv,R',hn',r2,r3⟩
 obtain⟨e2,h2,v2,r1,x2,dv2,R2',n2,t2,t5⟩:=run;have x2m:=x2.marked;have R2m:h2.marked.Row h.next 0 [pt A.bs]:=R2'.same rfl;have l2:ADW ⟨h.next,0,none⟩ h2.marked=.ok (pt A.bs) h2.marked:=R2m.ADW (off:=0) (by show 0<1;omega);obtain⟨l0,_⟩:=A7 (s.row.ext W x2m);have qs:∀ (F:ADS) (e:Env),AB 28 e=.func (.func 76) ⟨[pt A.bd]⟩ ⟨[]⟩→Al .ADk (Ak 1 (BO Rx.zero 1) [(0,1,AB 28)]) F e h2.marked=.ok (.slice (some ⟨h2.next,0,none⟩) 1 1) (h2.marked.back (h2.marked.quiet.ADR 0 [.func (.func 76) ⟨[pt A.bd]⟩ ⟨[]⟩])):=fun F e he=>DF (JF x2m.wf.quiet he) ((Hp.Ext.refl x2m.wf.quiet).ADR _ _) (IN _)
 have y3:h2.Ext (h2.marked.back (h2.marked.quiet.ADR 0 [.func (.func 76) ⟨[pt A.bd]⟩ ⟨[]⟩])):=Hp.Ext.AEc (Hp.Ext.refl x2.wf).marked ((Hp.Ext.refl x2.wf).marked.quiet.ADR _ _);have Rw:(h2.marked.back (h2.marked.quiet.ADR 0 [.func (.func 76) ⟨[pt A.bd]⟩ ⟨[]⟩])).Row h2.next 0 [.func (.func 76) ⟨[pt A.bd]⟩ ⟨[]⟩]:=(Hp.Row.new x2m.wf.quiet 0 [.func (.func 76) ⟨[pt A.bd]⟩ ⟨[]⟩]).same rfl;generalize h2.marked.back (h2.marked.quiet.ADR 0 [.func (.func 76) ⟨[pt A.bd]⟩ ⟨[]⟩])=h3 at qs y3 Rw;have x3:=x2.trans y3;obtain⟨h4,v4,k4,x4,dv4,n4⟩:=(dv2.ext x2.wf y3).atB (f:=76) (d:=.f) x3 x1.next (vw n2 y3.next) rfl Rw rfl (by rw[If];omega);have ck:∀ (K:C) (F:ADS) (e:Env),AB 5 e=v2→AB 2 e=pt h.next→C3 (AB 5) [AB 2] K F e h3=K F e h3:=fun K F e a1 a2=>by
  obtain⟨vs,o1,_⟩:=dv2;rcases o1 with ⟨h1',_⟩|⟨b',h1',h2',h3',_⟩
  ·exact cD (b:=0) a1 (.inl h1') a2 (.inl h1')
  ·exact cD (b:=b') a1 (.inr ⟨_,_,_,h1'⟩) a2 (.inr (by omega))
 have s4:=s.ext W x4;obtain⟨vs,w1,w2,w3⟩:=dv4.ends fun b hb=>by have:=hD b hb;have:=x1.next;omega
 have fin:∀ (z:Int) (h5:Hp),call AD (m+5) 47 [pt A.bs,v4] h4.quiet=.ok (.int .i64 z) h5→call AD (m+6) 53 [pt A.bs,pv] h=.ok (.int .i64 z) (h4.back h5):=fun z h5 k5=>by
  have q5:∀ e:Env,AB 22 e=pt A.bs→AB 30 e=v4→Al .free (AU 47 [AB 22,AB 30]) (call AD (m+5)) e h4=.ok (.int .i64 z) (h4.back h5):=fun e a1 a2=>by
   refine BQ ?_;rw[BV,AW,AW,Az,a1,a2];exact k5
  rw[Xf rfl,YF,p1,nc];simp only[BE,Ax,r1,A2,BA];unfold skE;simp only[sT,AT,AI,reduceIte,A3,AN,AQ,t2,l2,Ao,Ae,AJ,AO,sh,l0,DY,AW,Az,qs];rw[ck _ _ _ (by simp[AF,t5]) (by simp[AF,t2])];simp only[sT,AT,AI,reduceIte];rw[k4 _ _ _ _ (by simp[AF,t5]) (by simp[AF])];simp only[sT,AT,AI,reduceIte,q5,lV0]
 have hl2:(Dy ps).length=ps.length+1:=by unfold Dy;rw[IT,If];rfl
 rcases OJ (m:=m) x4.wf.quiet (s4.same (h':=h4.quiet) rfl) (ds:=Dy ps) (w1.same (h':=h4.quiet) rfl) w2 (fun i v x a b=>(w3 i v x a b).AEW fun b el L hb _ r=>⟨r.same rfl,hb⟩) (Zk ps [] (.inr h0) (by simp only[List.length_nil];omega) (fun p hq=>⟨hp p hq,fun x hx=>by cases hx⟩) hnd) hb (by omega)with ⟨h5,c5,AGw,k5,f5,d5,b5⟩|⟨j,h5,hj,k5,f5,dd⟩
 ·unfold Dy at d5
  rw[RP]at d5;have f5':Fx A.K h4 (h4.back h5):=(f5.from (h:=h4) rfl rfl).same rfl rfl;exact .inl ⟨h4.back h5,c5,AGw,fin 0 h5 k5,(Fx.of x4).trans f5',((s4.sc.fx x4.wf f5').sl (d5.same rfl)),b5⟩
 ·have f5':Fx A.D h4 (h4.back h5):=(f5.from (h:=h4) rfl rfl).same rfl rfl
  exact .inr ⟨j,h4.back h5,by omega,h0,fin 15 h5 k5,(Fx.of x4).trans f5',dd.same rfl⟩
end
end
noncomputable section
open Go
set_option maxRecDepth 100000
def JV(p:Nat)(l H:List Nat):List AD6:=(if l=[]then []else F1 p l)++DP p H
section
variable {fa:Bool}{F:ADS}{e:Env}{h h' h0:Hp}{A:At}{T M:List Nat}{c0 bad m k p:Nat}{arm:Int}{ks:List Kt}{fr:List Nat}{lv fv:BY}
theorem Z3(W:h.Wf)(s:Sl h A T M c0 arm ks (p::fr) lv fv bad false){a b c:Int}{l:List Nat}{u:BY}(V:h.VE u (l.map bv))(hb:∀ x∈l,x<256)(hl:l.length≤100)
  (hr:ADc a b c 1 l.length=true)(hf:ks.any (CN a b c)=false)(hst:Bp a b c ks=false)(hkl:ks.length≤10)(hbm:AEJ fa arm):
  (∃ h' c1 ADu lv' fv' k',call AD (m+8) 11 [pt A.bs,.int .i64 a,.int .i64 b,.int .i64 c,u] h=.ok (.int .i64 0) h'∧Fx A.D h h'∧
   Sl h' A T (DI T M p l (ADa T a b c 1 l)) c1 ADu (Ch (ks++[k'])) fr lv' fv' bad false∧k'.core=⟨a,b,c,1,l,p⟩∧AEJ fa ADu)∨
  (∃ j h',j<(JV p l (ADa T a b c 1 l)).length∧call AD (m+8) 11 [pt A.bs,.int .i64 a,.int .i64 b,.int .i64 c,u] h=.ok (.int .i64 15) h'∧Fx A.D h h'∧AEx fa h' A T (BN M [] ((JV p l (ADa T a b c 1 l)).take j)).1 (BN M [] ((JV p l (ADa T a b c 1 l)).take j)).2):=by
 have big:=W.big;have hD:=s.AF5 W;have hp3:3*p+3≤A.n:=s.le.2.2.2 p vG;have hn:=s.dk.n1;have hH:=Dd (T:=T) hr;have hHb:=MF (T:=T) (a:=a) (b:=b) (c:=c) (s:=1) (l:=l);have c00:iNe 0 0=false:=CV rfl;have k0:=M1 (m:=m+6) s.row;obtain⟨h1,vc,k1,x1,mk1⟩:=NL (n:=m+6) W V (by omega);have oc:=mk1.one;have bl:=fun (F:ADS) (e:Env) (e1:AB 1 e=.int .i64 a) (e2:AB 2 e=.int .i64 b) (e3:AB 3 e=.int .i64 c) (e4:AB 28 e=vc)=>Iq (F:=F) (h:=h1) (g1:=AB 1) (g2:=AB 2) (g3:=AB 3) (g5:=AB 28) e1 e2 e3 e4 oc.1 oc.2.2
 have al:=fun (F:ADS) (e:Env)=>Bm (F:=F) (e:=e) x1.wf (n:=5) (t:=Cc)
 have Ra:=Hp.Row.alloc x1.wf Ei (show(Aq 0 0 0 0 ADj).length=5 from rfl);have y2:h1.Ext (h1.push (.cells Cc 5 0)):=(Hp.Ext.refl x1.wf).push _;have n2:(h1.push (.cells Cc 5 0)).next=h1.next+1:=rfl;generalize h1.push (.cells Cc 5 0)=h2 at al Ra y2 n2;obtain⟨st,_,y3,R12,n3⟩:=KU x1.wf y2 (IN _) Ra rfl (a:=a) (b:=b) (c:=c) (s:=1) (u:=vc) oc.2.1;generalize h2.wr h1.next 0 (Aq a b c 1 vc)=h3 at st y3 R12 n3;have x3:=x1.trans y3;obtain⟨_,_,_,_,_,AFn⟩:=Bc R12;have lnc:∀ g,AEL vc g=.ok (.int .i64 (l.length:Int)) g:=fun g=>mk1.vals.bl g
 have k4:=JY (n:=m+6) x3.wf (a:=a) (b:=b) (c:=c) (s:=1) (u:=vc) lnc;rw[hr]at k4;have y4:=(Hp.Ext.refl x3.wf).ADR 0 (Aq a b c 1 vc);generalize h3.ADR 0 (Aq a b c 1 vc)=h4 at k4 y4;have x4:=x3.trans y4;have lnu:∀ g:Hp,AEL u g=.ok (.int .i64 (l.length:Int)) g:=fun g=>V.bl g
 obtain⟨_,_,l2,_⟩:=A7 (s.row.ext W x4);have c1:iGt (l.length:Int) 100=false:=Eq (by omega);have s4:=s.ext W x4;obtain⟨h5,k5,x5⟩:=Hs (m:=m+4) x4.wf s4.row s4.ls.ks (by omega) a b c;have hidx:F4 (CN a b c) 0 ks= -1:=by
  rcases Ob (CN a b c) ks 0 with ⟨_,h2⟩|⟨h1,_⟩
  ·exact h2
  ·rw[hf]at h1;cases h1
 rw[hidx]at k5;have c2:iGe (-1) 0=false:=FL (by omega);have x45:=x4.trans x5;have s5:=s.ext W x45;obtain⟨h6,k6,x6⟩:=GN (m:=m+3) x45.wf s5.row s5.ls.ks (by omega) a b c;rw[hst]at k6;have x46:=x45.trans x6;have s6:=s.ext W x46;obtain⟨_,l1,_,_,l4,_⟩:=A7 s6.row;have hil:(ints .i64 ((p::fr).map wC)).length=fr.length+1:=by unfold ints;rw[If,If];rfl
 have lnf:=s6.fs.vals.len;rw[hil]at lnf;have c3:iEq ((fr.length+1:Nat):Int) 0=false:=DL (by omega);obtain⟨af,g1,g2⟩:=s6.fs.vals.at (i:=0) (by rw[hil];omega);have g1:AEP 1 fv (.int .i64 0) h6=.ok (.pointer (some af)) h6:=g1;have g2:Gy (.pointer (some af)) h6=.ok (.int .i64 (p:Int)) h6:=g2;have pre:∃ e1,Lw (call AD (m+7)) (AS e0 0 [pt A.bs,.int .i64 a,.int .i64 b,.int .i64 c,u]) h=prB (call AD (m+7)) e1 h6∧AB 0 e1=pt A.bs∧AB 4 e1=u∧AB 12 e1=pt h1.next∧AB 14 e1=.int .i64 (p:Int):=by
  unfold Lw;simp only[iN,By,sT,AT,AI,reduceIte,gD,cA0,k0,AM,AK,c00,k1,bl,al,Aa,st,Aw,Ar,AFn,k4,Bj,Bh,Bool.not_true,Af,lnu,Ao,Ae,AJ,AO,sh,AN,AQ,l2,c1,k5,c2,k6,l4,lnf,c3];rw[A1];simp only[sT,AT,AI,reduceIte,g1,AN,g2];exact⟨_,rfl,by simp[AF]⟩
 obtain⟨e1,p1,t0,t4,t12,t14⟩:=pre;have x6m:=x46.marked;have AJK:h6.marked.Row h1.next 0 (Aq a b c 1 vc):=(((R12.ext x3.wf y4).ext x4.wf x5).ext x45.wf x6).same rfl;obtain⟨_,_,_,_,_,AGc⟩:=Bc AJK;obtain⟨_,l1m,_⟩:=A7 (s.row.ext W x6m);have mkm:VcI h6.marked h.next vc l:=((mk1.ext x1.wf y3).ext x3.wf ((y4.trans x5).trans x6)).same rfl;obtain⟨h7,x7,hd⟩:=UP (n:=m+4) x6m.quiet.wf ((s.tab.ext W x6m).same (h':=h6.marked.quiet) rfl) s.tok (a:=a) (b:=b) (c:=c) (s:=1) ((mkm.vals).same (h':=h6.marked.quiet) rfl) hb (by omega) (by omega);rcases hd with ⟨_,vh,k7,mkh⟩|⟨hrf,_⟩
 case inr=>rw[hr]at hrf;cases hrf
 have q7:∀ e:Env,AB 83 e=pt A.tb→AB 84 e=Bz a b c 1 vc→Al .free (AU 44 [AB 83,AB 84]) (call AD (m+7)) e h6.marked=.ok (.tuple ⟨[vh,.int .i64 0]⟩) (h6.marked.back h7):=fun e e1 e2=>by
  refine BQ ?_;rw[BV,AW,AW,Az,e1,e2];exact k7
 have y8:h6.Ext (h6.marked.back h7):=(Hp.Ext.refl x46.wf).marked.trans (.back x7);have AIG:Mk (h6.marked.back h7) h6.next vh (ADa T a b c 1 l):=mkh.same rfl;generalize h6.marked.back h7=h8 at q7 y8 AIG;have x8:=x46.trans y8;have AGx:∀ g:Hp,h6.Ext g→g.Row h1.next 0 (Aq a b c 1 vc):=fun g x=>((((R12.ext x3.wf y4).ext x4.wf x5).ext x45.wf x6)).ext x46.wf x
 have AHd:∃ e2 h11 dv1 ds1,prB (call AD (m+7)) e1 h6=prC (call AD (m+7)) e2 h11∧AB 0 e2=pt A.bs∧AB 12 e2=pt h1.next∧AB 14 e2=.int .i64 (p:Int)∧AB 15 e2=vh∧AB 17 e2=dv1∧h8.Ext h11∧CB h11 A h8.next dv1 ds1∧((l≠[]∧ds1=F1 p l)∨(l=[]∧ds1=[])):=by
  rcases vy l.length with hz|hz
  ·have hl0:l=[]:=vz hz
   have c4:iGt (l.length:Int) 0=false:=Eq (by omega);have hrun:∃ e2,prB (call AD (m+7)) e1 h6=prC (call AD (m+7)) e2 h8∧AB 0 e2=pt A.bs∧AB 12 e2=pt h1.next∧AB 14 e2=.int .i64 (p:Int)∧AB 15 e2=vh∧AB 17 e2=ADj:=by
    rw[Z0];unfold fe;simp only[sT,AT,AI,reduceIte,A3,Ao,t0,Ae,AJ,AO,sh,AN,AQ,l1m,Aw,Ar,t12,AGc,q7,BL,BR,Ba,Af,t4,lnu,AM,AK,c4];exact⟨_,rfl,by simp[AF,t0,t12,t14]⟩
   obtain⟨e2,r1,u0,u12,u14,u15,u17⟩:=hrun;exact⟨e2,h8,ADj,[],r1,u0,u12,u14,u15,u17,.refl x8.wf,⟨[],.inl ⟨rfl,rfl⟩,rfl,fun i w x hw _=>by cases hw⟩,.inr ⟨hl0,rfl⟩⟩
  ·have c4:iGt (l.length:Int) 0=true:=FM (by omega)
   have AJL:Mk h1 h.next vc l:=by
    rcases mk1 with ⟨_,h2⟩|h2
    ·rw[h2]at hz;exact absurd hz (zN 0)
    ·exact h2
   have x8m:=x8.marked;have s8m:=s.ext W x8m;have k9:=Lg (m:=m+5) (s8m.row.same (h':=h8.marked.quiet) rfl) (p:=p) (by omega);have q9:∀ e:Env,AB 0 e=pt A.bs→AB 14 e=.int .i64 (p:Int)→Al .weak (AU 46 [AB 0,AB 14]) (call AD (m+7)) e h8.marked=.ok (.int .i64 ((p*3:Nat):Int)) (h8.marked.back h8.marked.quiet):=fun e e1 e2=>by
    refine GL x8m.wf ?_ (IN _);rw[BV,AW,AW,Az,e1,e2];exact k9
   have y9:h8.Ext (h8.marked.back h8.marked.quiet):=Hp.Ext.AEc (Hp.Ext.refl x8.wf).marked (Hp.Ext.refl x8.wf).marked.quiet;have n9:(h8.marked.back h8.marked.quiet).next=h8.next:=rfl;have m9:(h8.marked.back h8.marked.quiet).mark=h8.next:=rfl;generalize h8.marked.back h8.marked.quiet=h9 at q9 y9 n9 m9;have x9:=x8.trans y9;have ad:=CH (h:=h9) (i:=p * 3) (by omega);obtain⟨_,_,_,_,AJM,_⟩:=Bc (AGx h9 (y8.trans y9));have AJN:h1.next<h9.mark:=by
    rw[m9];have:=(AGx h8 y8).lt x8.wf;exact this
   have AJO:∀ (off:Nat) (kk:C) (F:ADS) (e:Env),Ih (.pointer (some ⟨h1.next,off,none⟩)) kk F e h9=kk F e h9:=fun off kk F e=>DZ AJN
   have s9:=s.ext W x9;have mk9:Mk h9 h.next vc l:=(((AJL.ext x1.wf y3).ext x3.wf ((y4.trans x5).trans x6)).ext x46.wf (y8.trans y9));obtain⟨h10,dv1,k10,x10,D1⟩:=KZ (m:=m+6) x9.wf.quiet (s9.row.same (h':=h9.quiet) rfl) (fun b hb=>by have:=hD b hb;have:=x9.next;show b<h9.next;omega) (sct:=p*3+1) (by omega) (mk9.same (h':=h9.quiet) rfl) (by omega);have q10:∀ e:Env,AB 0 e=pt A.bs→AB 95 e=.int .i64 ((p*3+1:Nat):Int)→AB 97 e=vc→Al .free (AU 45 [AB 0,AB 95,AB 97]) (call AD (m+7)) e h9=.ok dv1 (h9.back h10):=fun e e1 e2 e3=>by
    refine BQ ?_;rw[BV,AW,AW,AW,Az,e1,e2,e3];exact k10
   have y11:h9.Ext (h9.back h10):=.back x10;have D11:CB (h9.back h10) A h9.next dv1 (F1 p l):=D1.same rfl;generalize h9.back h10=h11 at q10 y11 D11;have hrun:∃ e2,prB (call AD (m+7)) e1 h6=prC (call AD (m+7)) e2 h11∧AB 0 e2=pt A.bs∧AB 12 e2=pt h1.next∧AB 14 e2=.int .i64 (p:Int)∧AB 15 e2=vh∧AB 17 e2=dv1:=by
    rw[Z0];unfold fe;simp only[sT,AT,AI,reduceIte,A3,Ao,t0,Ae,AJ,AO,sh,AN,AQ,l1m,Aw,Ar,t12,AGc,q7,BL,BR,Ba,Af,t4,lnu,AM,AK,c4,q9,t14,BF,ad,D0,AJO,DT,AJM,q10];exact⟨_,rfl,by simp[AF,t0,t12,t14]⟩
   obtain⟨e2,r1,u0,u12,u14,u15,u17⟩:=hrun;exact⟨e2,h11,dv1,F1 p l,r1,u0,u12,u14,u15,u17,y9.trans y11,by rw[← n9];exact D11,.inl ⟨fun h=>by rw[h]at hz;exact absurd hz (zN 0),rfl⟩⟩
 obtain⟨e2,h11,dv1,ds1,r1,u0,u12,u14,u15,u17,AGG,D11,hds⟩:=AHd;have x11:=x8.trans AGG;have s11:=s.ext W x11;have hd3:ds1.length≤3:=by
  rcases hds with ⟨_,rfl⟩|⟨_,rfl⟩
  ·unfold F1
   rw[IT,If,List.length_range];show _+1≤3;omega
  ·exact vi _
 have k11:=Lg (m:=m+5) s11.row (p:=p) (by omega);have AHe:Mk h11 h6.next vh (ADa T a b c 1 l):=(AIG.ext x8.wf AGG);obtain⟨h12,dv2,k12,x12,D2⟩:=KZ (m:=m+6) x11.wf s11.row (fun b hb=>by have:=hD b hb;have:=x11.next;omega) (sct:=p*3) (by omega) AHe (by omega);rw[hH,show(wI ((64+63)/64)).map (fun j=>AD6.w (p*3+j) (Cm (ADa T a b c 1 l) j))++[.f]=DP p (Cm (ADa T a b c 1 l) 0)from rfl,Pb hH]at D2;have AJP:=x11.trans x12;obtain⟨h13,dv3,k13,x13,D3,n13,AIH⟩:=CB.app AJP (by have:=x8.next;omega) (by have:=AGG.next;have:=x12.next;omega) (D11.ext x11.wf x12) D2 (by show 0<2;omega) (by
  show _+2≤1000;omega)
 have s13:=s.ext W x13;obtain⟨vs,w1,w2,w3⟩:=D3.ends fun b hb=>by have:=hD b hb;have:=x8.next;omega
 have hdl:(ds1++DP p (ADa T a b c 1 l)).length≤6:=by
  rw[IT];show _+2≤6;omega
 have hok:DO A.n [] (ds1++DP p (ADa T a b c 1 l)):=by
  rcases hds with ⟨h0,rfl⟩|⟨_,rfl⟩
  ·exact fQ hp3 ⟨by rcases l with _|⟨_,_⟩;exact absurd rfl h0;exact AAk _,hl⟩ hb hH hHb
  ·exact Ur hp3 hH hHb
 have AJQ:ds1++DP p (ADa T a b c 1 l)=JV p l (ADa T a b c 1 l):=by
  unfold JV;rcases hds with ⟨h0,rfl⟩|⟨h0,rfl⟩
  ·rw[if_neg h0]
  ·rw[if_pos h0]
 have AII:call AD (m+7) 46 [pt A.bs,.int .i64 (p:Int)] h11=.ok (.int .i64 ((p*3:Nat):Int)) h11:=k11;have AIJ:call AD (m+7) 45 [pt A.bs,.int .i64 ((p*3:Nat):Int),vh] h11=.ok dv2 h12:=k12;rcases OJ (m:=m+2) x13.wf s13 w1 w2 w3 hok hbm (by omega)with ⟨h14,c14,AFA,k14,f14,d14,b14⟩|⟨j,h14,hj,k14,f14,dd⟩
 case inr=>
  rw[AJQ]at hj dd;have c15:iNe 15 0=true:=EL (by omega);have AGd:call AD (m+7) 47 [pt A.bs,dv3] h13=.ok (.int .i64 15) h14:=k14;refine .inr ⟨j,h14,hj,?_,(Fx.of x13).trans f14,dd⟩;rw[GT rfl,GX,p1,r1];unfold prC;simp only[sT,AT,AI,reduceIte,cA0,u0,u14,AII,u15,AIJ,BG,u17,k13,AGd,AM,AK,c15,lV0]
 have hcs:(BN M [] (ds1++DP p (ADa T a b c 1 l))).2=[]:=by
  have:ds1++DP p (ADa T a b c 1 l)=(ds1++[.w (p*3) (ADa T a b c 1 l)])++[.f]:=by rw[vX];rfl
  rw[this];exact Hb _ _ _
 have hM:(BN M [] (ds1++DP p (ADa T a b c 1 l))).1=DI T M p l (ADa T a b c 1 l):=by
  rcases hds with ⟨_,rfl⟩|⟨h0,rfl⟩
  ·rfl
  ·rw[h0];rfl
 rw[hcs,hM]at d14;have s14:Sl h14 A T (DI T M p l (ADa T a b c 1 l)) c14 AFA ks (p::fr) lv fv bad false:=(s13.sc.fx x13.wf f14).sl d14;obtain⟨_,_,_,l3',l4',_⟩:=A7 s14.row;obtain⟨wc,Vc,ct⟩:=cI (xs:=ints .i64 (fr.map wC)) (z:=.int .i64 (p:Int)) s14.fs;have hone:Bd (ints .i64 (fr.map wC))=true:=G7 .i64 _;obtain⟨h15,fv',k15,x15,AIK⟩:=lT (n:=m+6) f14.wf Vc hone (by have:=s.le.2.1;unfold ints;rw[If,If];rw[vI]at this;omega);have s15:=s14.ext f14.wf x15;have onf:cellsOf fv'=[fv']∧oneCell fv'=true:=by
  rcases AIK with ⟨h1,_⟩|⟨b,el,h1,_⟩<;>rw[h1]<;>exact⟨rfl,rfl⟩
 obtain⟨h16,AJR,AF6,n16,f16,_⟩:=DK x15.wf s15.row (off:=4) (show 4<7 by omega) s.ne.2.2.2.2 onf.1 onf.2;have AGe:∀ b,A.D b→b<h14.next:=fun b hb=>by have:=hD b hb;have:=x13.next;have:=f14.next;omega
 have AF6:h16.Row A.bs 0 (slL A.bd A.tb lv fv' bad false):=AF6;have nbs:∀ b,¬ A.D b→b≠A.bs:=fun b hb h=>hb (.inl h)
 have s16:Sl h16 A T (DI T M p l (ADa T a b c 1 l)) c14 AFA ks fr lv fv' bad false:=s15.bsx x15.wf f16 AF6 (s15.ls.keep fun b el L hb r=>f16.row x15.wf r (nbs b hb)) (fun k hk=>⟨(s15.ko k hk).1.keep fun b el L hb _ r=>f16.row x15.wf r (nbs b hb),(s15.ko k hk).2⟩)
  (by
   rcases AIK with h1|⟨b,el,h1,h2,h3,h4⟩
   ·exact .inl h1
   ·have hb:¬ A.D b:=fun h=>by have:=AGe b h;omega
    exact .inr ⟨b,el,h1,f16.row x15.wf h2 (nbs b hb),h3,hb⟩) ⟨s.le.1,by have:=s.le.2.1;rw[vI]at this;omega,s.le.2.2.1,fun q hq=>s.le.2.2.2 q (vH _ hq)⟩
 have W16:=f16.wf;have AGy:=(Hp.Ext.refl W16).marked;have AIL:=s16.ext W16 AGy;obtain⟨_,_,_,l3m,_⟩:=A7 AIL.row;obtain⟨h17,w17,k17,x17,AJS⟩:=To (m:=m+6) AGy.quiet.wf ((AIL.same (h':=h16.marked.quiet) rfl).ls) (fun k hk=>(s16.ko k hk).1.vs.one.2.1) (by omega);have q17:∀ e:Env,AB 125 e=lv→Al .weak (AU 49 [AB 125]) (call AD (m+7)) e h16.marked=.ok w17 (h16.marked.back h17):=fun e he=>by
  refine DF ?_ x17 (IN _);rw[BV,AW,Az,he];exact k17
 have y18:h16.Ext (h16.marked.back h17):=Hp.Ext.AEc AGy (AGy.quiet.trans x17);have AIM:(h16.marked.back h17).KN h16.next w17 ks:=AJS.same rfl;have m18:(h16.marked.back h17).mark=h16.next:=rfl;generalize h16.marked.back h17=h18 at q17 y18 AIM m18;have AIN:h1.next<h6.next:=(AGx h6 (.refl x46.wf)).lt x46.wf;have hl6:h6.next≤h13.next:=by
  have a1:=y8.next;have a2:=AGG.next;have a4:=x12.next;omega
 have AIO:¬ A.D h1.next:=fun h=>by have:=hD _ h;have:=x1.next;omega
 have AJT:=AIH _ _ _ (.inl rfl) (AGx h12 ((y8.trans AGG).trans x12));have AJU:=Su AIO;have AHf:=f14.row x13.wf AJT AJU;have AGf:=f16.row x15.wf (AHf.ext f14.wf x15) (nbs _ AIO);obtain⟨_,_,_,_,_,AJV⟩:=Bc (AGf.ext W16 y18);have AHg:∀ (off:Nat) (kk:C) (F:ADS) (e:Env),Ih (.pointer (some ⟨h1.next,off,none⟩)) kk F e h18=kk F e h18:=fun off kk F e=>DZ (by
  rw[m18];exact AGf.lt W16)
 generalize hk':(⟨a,b,c,1,l,p,vc⟩:Kt)=k';have AJW:∀ (F:ADS) (e:Env),AB 127 e=Bz a b c 1 vc→AB 14 e=.int .i64 (p:Int)→Bs FZ.zero [(0,5,AB 127),(5,1,AB 14)] F e h18=.ok (ktV k') h18:=fun F e e1 e2=>by rw[← hk'];exact Tj e1 e2
 have hku:k'.u=vc:=by rw[← hk']
 have qs:∀ (F:ADS) (e:Env),AB 129 e=ktV k'→Al .ADk (Ak 1 (BO FZ.zero 1) [(0,6,AB 129)]) F e h18=.ok (.slice (some ⟨h18.next,0,none⟩) 1 1) (h18.back (h18.quiet.ADR 0 (AV k'))):=fun F e he=>DF (MP y18.wf.quiet he) ((Hp.Ext.refl y18.wf.quiet).ADR _ _) (by rw[m18];exact y18.next)
 have AIP:=y18.next;have xX:h16.Ext (⟨h18.next,h18.next+1,0,h18.mark,h18.bl⟩:Hp):=⟨AIP,y18.get,by show _≤h18.next+1;omega,⟨y18.wf.big,y18.wf.has,y18.wf.fresh⟩⟩;obtain⟨h20,lv',k20,x20,AJX,n20⟩:=db (k:=h16.next) xX (IN _) AIP (AIM.same (h':=⟨h18.next,h18.next+1,0,h18.mark,h18.bl⟩) rfl) (x:=k') (by rw[hku];exact oc.2.1) (by omega);have q20:∀ (F:ADS) (e:Env),AB 126 e=w17→AB 130 e=.slice (some ⟨h18.next,0,none⟩) 1 1→Al .free (Bi 6 64 83 (AB 126) (AB 130)) F e (h18.back (h18.quiet.ADR 0 (AV k')))=.ok lv' ((h18.back (h18.quiet.ADR 0 (AV k'))).back h20):=fun F e e1 e2=>by
  refine BQ ?_;rw[BG,e1,e2];exact k20
 have y21:h16.Ext ((h18.back (h18.quiet.ADR 0 (AV k'))).back h20):=Hp.Ext.AEc (Hp.Ext.AEc y18 (y18.quiet.ADR _ _)) x20;have AGH:((h18.back (h18.quiet.ADR 0 (AV k'))).back h20).KO h16.next lv' (ks++[k']):=AJX.same rfl;generalize h18.back (h18.quiet.ADR 0 (AV k'))=h19 at qs q20 y21 AGH;generalize h19.back h20=h21 at q20 y21 AGH;have s21:=s16.ext W16 y21;have onl:cellsOf lv'=[lv']∧oneCell lv'=true:=⟨AGH.lst.one.1,AGH.lst.one.2.1⟩;obtain⟨h22,AJY,AF7,n22,_,f22,_⟩:=Sd y21.wf s21.row (off:=3) (show 3<7 by omega) s.ne.2.2.2.2 onl.1 onl.2;have AF7:h22.Row A.bs 0 (slL A.bd A.tb lv' fv' bad false):=AF7;have AF8:∀ b,A.D b→b<h16.next:=fun b hb=>by have:=AGe b hb;have:=x15.next;have:=f16.next;omega
 have AIQ:h22.KO h16.next lv' (ks++[k']):=AGH.keep fun b el L hb r=>f22.row y21.wf r (fun h=>by
  have:=(AGH.blk y21.wf hb).1;have:=AF8 A.bs (.inl rfl);omega)
 have bsv:h22.BS (fun b=>¬ A.D b) vc (l.map bv):=by
  have AJZ:=(((mk1.ext x1.wf y3).ext x3.wf ((y4.trans x5).trans x6)).ext x46.wf (y8.trans AGG)).ext x11.wf x12;rcases AJZ with ⟨e1,e2⟩|⟨bq,eq,e1,e2,e3,e4⟩
  ·exact .inl ⟨e1,by rw[e2];rfl⟩
  ·have hb':¬ A.D bq:=fun h=>by have:=hD _ h;omega
   have r13:=AIH _ _ _ e2 e3;have r16:=f16.row x15.wf ((f14.row x13.wf r13 (Su hb')).ext f14.wf x15) (nbs _ hb');exact .inr ⟨bq,0,l.length,eq,_,by rw[If];exact e1,by rw[If];exact IN _,f22.row y21.wf (r16.ext W16 y21) (nbs _ hb'),by omega,by rw[wM,wh],hb',e2⟩
 have s22:Sl h22 A T (DI T M p l (ADa T a b c 1 l)) c14 AFA (ks++[k']) fr lv' fv' bad false:=s21.bsx y21.wf f22 AF7 (by
   refine Hp.KW.ks ?_;rcases AIQ with ⟨h1,h2⟩|⟨b,h1,h2,h3,_⟩
   ·exact .inl ⟨h1,h2⟩
   ·exact .inr ⟨b,h1,h2,fun h=>by have:=AF8 b h;omega⟩) (fun x hx=>by
   rcases va.1 hx with hx|hx
   ·exact⟨(s21.ko x hx).1.keep fun b el L hb _ r=>f22.row y21.wf r (nbs b hb),(s21.ko x hx).2⟩
   ·rw[vM.1 hx,← hk']
    exact⟨bsv,hb,hl,.inl rfl,hr,by show p<65536;omega⟩)
  (s21.fs.keep fun b el L hb r=>f22.row y21.wf r (nbs b hb)) ⟨by rw[IT];show ks.length+1≤1000;omega,s16.le.2.1,s16.le.2.2.1,s16.le.2.2.2⟩
 have AE8:k'.core=⟨a,b,c,1,l,p⟩:=by rw[← hk'];rfl
 obtain⟨_,_,_,l3z,_⟩:=A7 s22.row;obtain⟨bl,hlw,Rl,hbk,AFM⟩:∃ bl,lv'=.slice (some ⟨bl,0,none⟩) (ks++[k']).length (ks++[k']).length∧h22.Row bl 84 (flK (ks++[k']))∧h16.next≤bl∧256≤bl:=by
  rcases AIQ with ⟨_,h2⟩|h2
  ·have:=congrArg List.length h2
   simp at this
  ·exact h2
 have nbl:¬ A.D bl:=fun h=>by have:=AF8 bl h;omega
 obtain⟨h23,k23,f23,R23⟩:=Rh (m:=m+1) (Z:=[]) (n:=(ks++[k']).length) (c:=(ks++[k']).length) f22.wf (by rw[vR];exact Rl) AFM rfl (IN _) (by rw[IT];show ks.length+1≤12;omega) fun k hk=>(s22.ko k hk).1.vs.one.2.1
 rw[← hlw]at k23;have s23:Sl h23 A T (DI T M p l (ADa T a b c 1 l)) c14 AFA (Ch (ks++[k'])) fr lv' fv' bad false:=s22.lst f22.wf f23 nbl Rl (by
  rw[hlw,← IA];exact(PC R23 rfl (IN _)).mono fun b hb=>by rw[show b=bl from hb];exact nbl) (fun k hk=>(FG).1 hk) (IA _)
 have fx:Fx A.D h h23:=by
  have e1:Fx A.D h h13:=.of x13;have e2:Fx A.D h13 h14:=f14.mono fun b hb=>.inr hb
  have e3:Fx A.D h14 h15:=.of x15;have e4:Fx A.D h15 h16:=f16.mono fun b hb=>.inl hb
  have e5:Fx A.D h16 h21:=.of y21;have e6:Fx A.D h21 h22:=f22.mono fun b hb=>.inl hb
  have e7:=((((e1.trans e2).trans e3).trans e4).trans e5).trans e6;have a1:=x13.next;have a2:=f14.next;have a3:=x15.next;have a4:=f16.next;exact e7.fresh f23 (by omega)
 refine .inl ⟨h23,c14,AFA,lv',fv',k',?_,fx,s23,AE8,b14⟩;rw[GT rfl,GX,p1,r1];unfold prC;have AGd:call AD (m+7) 47 [pt A.bs,dv3] h13=.ok (.int .i64 0) h14:=k14;have AJa:call AD (m+7) 48 [wc] h14=.ok fv' h15:=k15;have AJb:call AD (m+7) 50 [lv',.func (.func 51) ⟨[]⟩ ⟨[]⟩] h22=.ok ADV h23:=k23;simp only[sT,AT,AI,reduceIte,cA0,u0,u14,AII,u15,AIJ,BG,u17,k13,AGd,AM,AK,c00,Ao,Ae,AJ,AO,sh,AN,AQ,l4'];rw[ct _ _ _ (by simp[AF])];simp only[sT,AT,AI,reduceIte,cA0,u0,AJa,Ao,Ae,AJ,AO,sh,Aa,AJR,A3,AN,AQ,l3m,q17,u12,D0,AHg,DT,Aw,Ar,AJV,u14,AJW,qs,q20];rw[AJY _ _ _ _ (by simp[AF]) (by simp[AF])];simp only[sT,AT,AI,reduceIte,u0,Ao,Ae,AJ,AO,sh,AN,AQ,l3z,cA0,AJb,lV0]
end
end
noncomputable section
open Go
set_option maxRecDepth 100000
section
variable {fa:Bool}{F:ADS}{e:Env}{h h':Hp}{S:Nat→Prop}{A:At}{T M:List Nat}{c0 bad m k p:Nat}{arm:Int}{ks:List Kt}{fr:List Nat}{v lv fv:BY}
theorem Vj(W:h.Wf)(s:Sl h A T M c0 arm ks fr lv fv bad false){j:Nat}{kx:Kt}(hj:ks[j]? =some kx)(hs1:kx.s=1){a b c:Int}(hf:F4 (CN a b c) 0 ks=(j:Int))(AEi:kx.a=a∧kx.b=b∧kx.c=c)(hst:Bp a b c ks=false)(hp3:3*kx.p+3≤A.n)(hkl:ks.length≤1000)(hbm:AEJ fa arm):
  (∃ h' c1 ADu lv' e2,M7 (call AD (m+7)) (AS e0 0 [pt A.bs,.int .i64 a,.int .i64 b,.int .i64 c]) h=cmS (call AD (m+7)) e2 h'∧AB 0 e2=pt A.bs∧AB 1 e2=.int .i64 a∧AB 2 e2=.int .i64 b∧AB 3 e2=.int .i64 c∧AB 15 e2=ADj∧AB 16 e2=.int .i64 ((0:Nat):Int)∧Fx A.D h h'∧
   Sl h' A T (D6 M kx.p (ADa T a b c 2 kx.l)) c1 ADu (ks.set j {kx with s:=2}) fr lv' fv bad false∧AEJ fa ADu)∨
  (∃ i h',i<2∧call AD (m+8) 12 [pt A.bs,.int .i64 a,.int .i64 b,.int .i64 c] h=.ok (.int .i64 15) h'∧Fx A.D h h'∧AEx fa h' A T (BN M [] ((DP kx.p (ADa T a b c 2 kx.l)).take i)).1 (BN M [] ((DP kx.p (ADa T a b c 2 kx.l)).take i)).2):=by
 have big:=W.big;have hD:=s.AF5 W;have hn:=s.dk.n1;have hjl:=(vW.1 hj).1;have hkm:=vN hj;obtain⟨o1,o2,o3,o4,o5,o6⟩:=s.ko kx hkm;obtain⟨rfl,rfl,rfl⟩:=AEi;have oc:=o1.vs.one;have c00:iNe 0 0=false:=CV rfl;have k0:=M1 (m:=m+6) s.row;obtain⟨h1,k1,x1⟩:=Hs (m:=m+4) W s.row s.ls.ks (by omega) kx.a kx.b kx.c;rw[hf]at k1;have c1:iGe (j:Int) 0=true:=HG (by omega);have s1:=s.ext W x1;obtain⟨_,_,_,l3,_⟩:=A7 s1.row;obtain⟨bb,_,ix,ld,lde⟩:=s1.ls.ks.at hj;have lst:=lde 3 (.int .u8 (kx.s:Int)) rfl;have c2:iEq (kx.s:Int) 2=false:=DL (by omega);obtain⟨h2,k2,x2⟩:=GN (m:=m+3) x1.wf s1.row s1.ls.ks (by omega) kx.a kx.b kx.c;rw[hst]at k2;have x12:=x1.trans x2;have s2:=s.ext W x12;have c3:iLt (j:Int) 0=false:=HI (by omega);obtain⟨_,_,_,l3',_⟩:=A7 s2.row;obtain⟨bb2,_,ix2,ld2,_⟩:=s2.ls.ks.at hj;have al:=fun (F:ADS) (e:Env)=>Bm (F:=F) (e:=e) x12.wf (n:=6) (t:=Dl)
 have Ra:=Hp.Row.alloc x12.wf Gr (show(AV K0).length=6 from rfl);have y3:h2.Ext (h2.push (.cells Dl 6 0)):=(Hp.Ext.refl x12.wf).push _;have n3:(h2.push (.cells Dl 6 0)).next=h2.next+1:=rfl;generalize h2.push (.cells Dl 6 0)=h3 at al Ra y3 n3;obtain⟨st,_,y4,R11,n4⟩:=Mp x12.wf y3 (IN _) Ra rfl (k:=kx) oc.2.1;generalize h3.wr h2.next 0 (AV kx)=h4 at st y4 R11 n4;have ADg:256≤h2.next:=by have:=x12.next;omega
 obtain⟨h5,st5,R5,n5,f5,e5⟩:=DK y4.wf R11 (off:=3) (show 3<6 by omega) ADg (v:=.int .u8 2) rfl rfl;have y5:=e5 h2 y4 (IN _);generalize hkx:({kx with s:=2}:Kt)=X;have R5:h5.Row h2.next 0 (AV X):=by rw[← hkx];exact R5
 have x5:=x12.trans y5;have pre:∃ e1,M7 (call AD (m+7)) (AS e0 0 [pt A.bs,.int .i64 kx.a,.int .i64 kx.b,.int .i64 kx.c]) h=cmB (call AD (m+7)) e1 h5∧AB 0 e1=pt A.bs∧AB 1 e1=.int .i64 kx.a∧AB 2 e1=.int .i64 kx.b∧AB 3 e1=.int .i64 kx.c∧AB 10 e1=.int .i64 (j:Int)∧AB 11 e1=pt h2.next:=by
  unfold M7;simp only[iN,By,sT,AT,AI,reduceIte,gD,cA0,k0,AM,AK,c00,k1,c1,Ao,Ae,AJ,AO,sh,xM,AN,AQ,l3,A1,ix,lst,c2,k2,c3,l3',ix2,Aw,Ar,ld2,al,Aa,st,st5];exact⟨_,rfl,by simp[AF]⟩
 obtain⟨e1,p1,t0,t1,t2,t3,t10,t11⟩:=pre;have x5m:=x5.marked;have s5m:=s.ext W x5m;have R5m:h5.marked.Row h2.next 0 (AV X):=R5.same rfl;obtain⟨_,_,_,_,_,_,_,ld5⟩:=Bq R5m;obtain⟨_,l1m,_⟩:=A7 s5m.row;have hX:X.a=kx.a∧X.b=kx.b∧X.c=kx.c∧X.s=2∧X.u=kx.u∧X.l=kx.l∧X.p=kx.p:=by rw[← hkx];exact⟨rfl,rfl,rfl,rfl,rfl,rfl,rfl⟩
 obtain⟨e6a,e6b,e6c,e6s,e6u,e6l,e6p⟩:=hX;rw[e6a,e6b,e6c,e6s,e6u]at ld5;have bsu:=(s5m.ko kx hkm).1;have hr2:ADc kx.a kx.b kx.c 2 kx.l.length=true:=by
  obtain⟨g1,g2,g3,g4,g5,g6,g7,g8⟩:=Da o5;exact decide_eq_true ⟨g1,g2,g3,g4,g5,g6,.inr rfl,g8⟩
 have hH:=Dd (T:=T) hr2;have hHb:=MF (T:=T) (a:=kx.a) (b:=kx.b) (c:=kx.c) (s:=2) (l:=kx.l);obtain⟨h6,x6,hd⟩:=UP (n:=m+4) x5m.quiet.wf ((s5m.tab).same (h':=h5.marked.quiet) rfl) s.tok (a:=kx.a) (b:=kx.b) (c:=kx.c) (s:=2) (bsu.vs.vals.same (h':=h5.marked.quiet) rfl) o2 (by omega) (by omega);rcases hd with ⟨_,vh,k6,mkh⟩|⟨hrf,_⟩
 case inr=>rw[hr2]at hrf;cases hrf
 have q6:∀ e:Env,AB 65 e=pt A.tb→AB 67 e=Bz kx.a kx.b kx.c 2 kx.u→Al .free (AU 44 [AB 65,AB 67]) (call AD (m+7)) e h5.marked=.ok (.tuple ⟨[vh,.int .i64 0]⟩) (h5.marked.back h6):=fun e e1 e2=>by
  refine BQ ?_;rw[BV,AW,AW,Az,e1,e2];exact k6
 have y7:h5.Ext (h5.marked.back h6):=(Hp.Ext.refl x5.wf).marked.trans (.back x6);have mk7:Mk (h5.marked.back h6) h5.next vh (ADa T kx.a kx.b kx.c 2 kx.l):=mkh.same rfl;generalize h5.marked.back h6=h7 at q6 y7 mk7;have x7:=x5.trans y7;have s7:=s.ext W x7;obtain⟨_,_,_,_,_,lp7,_⟩:=Bq (R5.ext x5.wf y7);rw[e6p]at lp7;have k7:=Lg (m:=m+5) s7.row (p:=kx.p) (by omega);obtain⟨h8,dv,k8,x8,D8⟩:=KZ (m:=m+6) x7.wf s7.row (fun b hb=>by have:=hD b hb;have:=x7.next;omega) (sct:=kx.p * 3) (by omega) mk7 (by omega);rw[hH,show(wI ((64+63) / 64)).map (fun j=>AD6.w (kx.p * 3+j) (Cm (ADa T kx.a kx.b kx.c 2 kx.l) j))++[.f]=DP kx.p (Cm (ADa T kx.a kx.b kx.c 2 kx.l) 0)from rfl,Pb hH]at D8;have x8':=x7.trans x8;have s8:=s.ext W x8';obtain⟨vs,w1,w2,w3⟩:=D8.ends fun b hb=>by have:=hD b hb;have:=x7.next;omega
 rcases OJ (m:=m+2) x8'.wf s8 w1 w2 w3 (Ur hp3 hH hHb) hbm (by show 2≤100;omega)with ⟨h9,c9,AFp,k9,f9,d9,b9⟩|⟨i,h9,hi,k9,f9,dd⟩
 case inr=>
  have c15:iNe 15 0=true:=EL (by omega);have k7':call AD (m+7) 46 [pt A.bs,.int .i64 (kx.p:Int)] h7=.ok (.int .i64 ((kx.p*3:Nat):Int)) h7:=k7;have k8':call AD (m+7) 45 [pt A.bs,.int .i64 ((kx.p*3:Nat):Int),vh] h7=.ok dv h8:=k8;have k9':call AD (m+7) 47 [pt A.bs,dv] h8=.ok (.int .i64 15) h9:=k9;refine .inr ⟨i,h9,hi,?_,(Fx.of x8').trans f9,dd⟩;rw[IM rfl,IU,p1,Xw];unfold cE;simp only[sT,AT,AI,reduceIte,A3,Ao,t0,Ae,AJ,AO,sh,xM,AN,AQ,l1m,Aw,Ar,t11,ld5,q6,BL,BR,Ba,lp7,cA0,k7',k8',k9',AM,AK,c15,lV0]
 have d9:Dk h9 A.bd A.bm A.bc A.n (D6 M kx.p (ADa T kx.a kx.b kx.c 2 kx.l)) c9 [] AFp false:=d9;have s9:Sl h9 A T (D6 M kx.p (ADa T kx.a kx.b kx.c 2 kx.l)) c9 AFp ks fr lv fv bad false:=(s8.sc.fx x8'.wf f9).sl d9;have AIR:¬ A.D h2.next:=fun h=>by have:=hD _ h;have:=x12.next;omega
 have R9:=f9.row x8'.wf ((R5.ext x5.wf y7).ext x7.wf x8) (Su AIR);obtain⟨_,_,_,l39,_⟩:=A7 s9.row;have hu:∀ k∈ks,oneCell k.u=true:=fun k hk=>(s9.ko k hk).1.vs.one.2.1
 obtain⟨h10,w10,k10,x10,AGz⟩:=SS (m:=m+6) f9.wf s9.ls hu (fun h=>by rw[h]at hjl;cases hjl) (by omega);have s10:=s9.ext f9.wf x10;obtain⟨h11,AJc,AF9,n11,f11,_⟩:=DK x10.wf s10.row (off:=3) (show 3<7 by omega) s.ne.2.2.2.2 (v:=w10) AGz.lst.one.1 AGz.lst.one.2.1;have AF9:h11.Row A.bs 0 (slL A.bd A.tb w10 fv bad false):=AF9;have nbs:∀ b,¬ A.D b→b≠A.bs:=fun b hb h=>hb (.inl h)
 have AHh:∀ b,A.D b→b<h9.next:=fun b hb=>by have:=hD b hb;have:=x8'.next;have:=f9.next;omega
 have AIS:h11.KO h9.next w10 ks:=AGz.keep fun b el L hb r=>f11.row x10.wf r (fun h=>by
  have:=(AGz.blk x10.wf hb).1;have:=AHh A.bs (.inl rfl);omega)
 have s11:Sl h11 A T (D6 M kx.p (ADa T kx.a kx.b kx.c 2 kx.l)) c9 AFp ks fr w10 fv bad false:=s10.bsx x10.wf f11 AF9 (by
   refine Hp.KW.ks ?_;rcases AIS with ⟨h1,h2⟩|⟨b,h1,h2,h3,_⟩
   ·exact .inl ⟨h1,h2⟩
   ·exact .inr ⟨b,h1,h2,fun h=>by have:=AHh b h;omega⟩) (fun x hx=>⟨(s10.ko x hx).1.keep fun b el L hb _ r=>f11.row x10.wf r (nbs b hb),(s10.ko x hx).2⟩) (s10.fs.keep fun b el L hb r=>f11.row x10.wf r (nbs b hb)) s10.le
 have AHi:=f11.row x10.wf (R9.ext f9.wf x10) (nbs _ AIR);have W11:=f11.wf;have xm:=(Hp.Ext.refl W11).marked;have AJd:=s11.ext W11 xm;obtain⟨_,_,_,l3m,_⟩:=A7 AJd.row;obtain⟨_,_,_,_,_,_,AJe,_⟩:=Bq (AHi.same (h':=h11.marked) rfl);rcases AIS with ⟨_,AF3⟩|⟨bl,hw,Rl,hbk,AFM⟩
 ·rw[AF3]at hjl;cases hjl
 have ixl:AEP 6 w10 (.int .i64 (j:Int)) h11.marked=.ok (.pointer (some ⟨bl,6*j,none⟩)) h11.marked:=by
  rw[hw];have:=DD (h:=h11.marked) (n:=ks.length) (c:=ks.length) (es:=6) (b:=bl) (off:=0) (i:=j) (k:=.i64) hjl
  rwa [sh,Nat.mul_comm]at this
 have Rq:h11.marked.quiet.Row bl 84 (flK ks):=Rl.same rfl;have hXu:oneCell X.u=true:=by rw[e6u];exact oc.2.1
 have hoo:6*j+(AV X).length≤(flK ks).length:=by rw[CI];show 6*j+6≤_;omega
 have stq:=Rq.ADl (n:=6) (off:=6 * j) (v:=ktV X) xm.wf.quiet AFM rfl hoo (GW hXu);have wrq:=Rq.ADm xm.wf.quiet hoo;rw[OW ks j X hjl]at wrq;have fxq:=Fx.wr (S:=fun b=>b=bl) xm.wf.quiet Rq hoo rfl;have stq:ADl 6 (.pointer (some ⟨bl,6 * j,none⟩)) (ktV X) h11.marked.quiet=.ok ADV (h11.marked.quiet.wr bl (6 * j) (AV X)):=stq;generalize h11.marked.quiet.wr bl (6 * j) (AV X)=q at stq wrq fxq;have q12:∀ (F:ADS) (e:Env),AB 97 e=.pointer (some ⟨bl,6 * j,none⟩)→AB 96 e=ktV X→Al .free (Au 6 (AB 97) (AB 96)) F e h11.marked=.ok ADV (h11.marked.back q):=fun F e e1 e2=>BQ (by rw[Aa,e1,e2];exact stq)
 have f12:Fx (fun b=>b=bl) h11 (h11.marked.back q):=((fxq.from (h:=h11.marked) rfl rfl).same (h2:=h11.marked.back q) rfl rfl).from (h:=h11) rfl rfl;have AIT:(h11.marked.back q).Row bl 84 (flK (ks.set j X)):=wrq.same rfl;generalize h11.marked.back q=h12 at q12 f12 AIT;have nbl:¬ A.D bl:=fun h=>by have:=AHh bl h;omega
 have hsl:(ks.set j X).length=ks.length:=ABz;have AG0:∀ b el L,b≠bl→h11.Row b el L→h12.Row b el L:=fun b el L hb r=>f12.row W11 r hb
 have AGI:∀ b el L,(el=0∨el=6∨el=4)→h11.Row b el L→b≠bl:=fun b el L he r=>Dn r Rl (by omega)
 have s12:Sl h12 A T (D6 M kx.p (ADa T kx.a kx.b kx.c 2 kx.l)) c9 AFp (ks.set j X) fr w10 fv bad false:=by
  refine⟨AG0 _ _ _ (AGI _ _ _ (.inl rfl) s11.row) s11.row,s11.dk.fr W11 f12 (AGI _ _ _ (.inl rfl) s11.dk.disk) (AGI _ _ _ (.inl rfl) s11.dk.med) (fun h=>(JZ Rl s11.dk.map) h.symm),AG0 _ _ _ (AGI _ _ _ (.inl rfl) s11.tab) s11.tab,s.tok,Hp.KW.ks (.inr ⟨bl,by rw[hsl];exact hw,AIT,nbl⟩),fun x hx=>?_,?_,s.ne,by rw[hsl];exact s11.le⟩
  ·have kp:=fun (x:Kt) (hx:x∈ks)=>(s11.ko x hx).1.keep (h':=h12) fun b el L hb he r=>AG0 b el L (AGI b el L (by omega) r) r
   rcases yX hx with h1|h1
   ·exact⟨kp x h1,(s11.ko x h1).2⟩
   ·rw[h1]
    have:=kp kx hkm;refine⟨?_,?_,?_,.inr e6s,?_,?_⟩
    ·rw[e6u,e6l];exact this
    ·rw[e6l];exact o2
    ·rw[e6l];exact o3
    ·rw[e6a,e6b,e6c,e6s,e6l];exact hr2
    ·rw[e6p];exact o6
  ·rcases s11.fs with h1|⟨b,el,h1,h2,h3,h4⟩
   ·exact .inl h1
   ·exact .inr ⟨b,el,h1,AG0 _ _ _ (AGI b el _ (by omega) h2) h2,h3,h4⟩
 have mid:∃ e2,cmB (call AD (m+7)) e1 h5=cmS (call AD (m+7)) e2 h12∧AB 0 e2=pt A.bs∧AB 1 e2=.int .i64 kx.a∧AB 2 e2=.int .i64 kx.b∧AB 3 e2=.int .i64 kx.c∧AB 15 e2=ADj∧AB 16 e2=.int .i64 ((0:Nat):Int):=by
  have k7':call AD (m+7) 46 [pt A.bs,.int .i64 (kx.p:Int)] h7=.ok (.int .i64 ((kx.p*3:Nat):Int)) h7:=k7;have k8':call AD (m+7) 45 [pt A.bs,.int .i64 ((kx.p*3:Nat):Int),vh] h7=.ok dv h8:=k8;have k9':call AD (m+7) 47 [pt A.bs,dv] h8=.ok (.int .i64 0) h9:=k9;have AJf:call AD (m+7) 49 [lv] h9=.ok w10 h10:=k10;rw[Xw];unfold cE;simp only[sT,AT,AI,reduceIte,A3,Ao,t0,Ae,AJ,AO,sh,xM,AN,AQ,l1m,Aw,Ar,t11,ld5,q6,BL,BR,Ba,lp7,cA0,k7',k8',k9',AM,AK,c00,l39,AJf,Aa,AJc,l3m,AJe,A1,t10,ixl,q12];exact⟨_,rfl,by simp[AF,t0,t1,t2,t3]⟩
 obtain⟨e2,r1,u0,u1,u2,u3,u15,u16⟩:=mid;have AG1:Fx A.D h h12:=by
  have e1:Fx A.D h h8:=.of x8';have e2:Fx A.D h8 h9:=f9.mono fun b hb=>.inr hb
  have e3:Fx A.D h9 h10:=.of x10;have e4:Fx A.D h10 h11:=f11.mono fun b hb=>.inl hb
  have e14:=((e1.trans e2).trans e3).trans e4;refine⟨vw e14.next f12.next,fun i hi hs=>?_,f12.wf,fun L q1 q2 q3=>f12.low L (e14.low L q1 q2 q3) (vw q2 e14.next) fun b hb=>by have:=x8'.next;have:=f9.next;omega⟩;rw[f12.get i (by have:=e14.next;omega) (fun h=>by have:=x8'.next;have:=f9.next;omega),e14.get i hi hs]
 exact .inl ⟨h12,c9,AFp,w10,e2,p1.trans r1,u0,u1,u2,u3,u15,u16,AG1,hkx ▸ s12,b9⟩
def cmK(ks:List Kt)(j:Nat)(kx:Kt):List Kt:=ks.set j {kx with s:=2}
def cmO(ks:List Kt)(j:Nat)(kx:Kt):List Nat:=((cmK ks j kx).filter (elB kx.a kx.b kx.c)).map Kt.plc
theorem Pe(W:h.Wf)(s:Sl h A T M c0 arm ks fr lv fv bad false){a b c:Int}(hkl:fr.length+ks.length≤11)(hp3:∀ k∈ks,3*k.p+3≤A.n)(hnd:(ks.map Kt.plc).Nodup)(hb:AEJ fa arm)(hz:Iz ks a b c=none):
  ∃ j kx,ks[j]? =some kx∧(kx.a=a∧kx.b=b∧kx.c=c)∧kx.s=1∧Bp a b c ks=false∧
  ((∃ h' c1 ADu lv' fv',call AD (m+8) 12 [pt A.bs,.int .i64 a,.int .i64 b,.int .i64 c] h=.ok (.int .i64 0) h'∧Fx A.D h h'∧
    Sl h' A T (GO (D6 M kx.p (ADa T a b c 2 kx.l)) (cmO ks j kx)) c1 ADu ((cmK ks j kx).filter fun k=> !elB a b c k) (frE fr ((cmK ks j kx).filter (elB a b c))) lv' fv' bad false∧AEJ fa ADu)∨
   (∃ i h',i<2∧call AD (m+8) 12 [pt A.bs,.int .i64 a,.int .i64 b,.int .i64 c] h=.ok (.int .i64 15) h'∧Fx A.D h h'∧AEx fa h' A T (BN M [] ((DP kx.p (ADa T a b c 2 kx.l)).take i)).1 (BN M [] ((DP kx.p (ADa T a b c 2 kx.l)).take i)).2)∨
   (∃ i h',i<(cmO ks j kx).length+1∧call AD (m+8) 12 [pt A.bs,.int .i64 a,.int .i64 b,.int .i64 c] h=.ok (.int .i64 15) h'∧Fx A.D h h'∧AEx fa h' A T (BN (D6 M kx.p (ADa T a b c 2 kx.l)) [] ((Dy (cmO ks j kx)).take i)).1 (BN (D6 M kx.p (ADa T a b c 2 kx.l)) [] ((Dy (cmO ks j kx)).take i)).2)):=by
 unfold Iz at hz;rcases EU (CN a b c) ks 0 with ⟨e1,e2⟩|⟨j,kx,e1,e2,e3⟩
 ·rw[e1]at hz
  simp only at hz;split at hz<;>cases hz
 rw[e1]at hz;simp only at hz;split at hz
 ·cases hz
 rename_i hs2;split at hz
 ·cases hz
 rename_i hst;have AFo:Bp a b c ks=false:=by
  cases hq:Bp a b c ks
  · rfl
  · exact absurd hq hst
 have hkm:=vN e2;have hs1:kx.s=1:=(s.ko kx hkm).2.2.2.1.resolve_right hs2;have AEi:=J5 (AAN e1);rw[sh]at e3;refine⟨j,kx,e2,AEi,hs1,AFo,?_⟩;rcases Vj (m:=m) W s e2 hs1 e3 AEi AFo (hp3 kx hkm) s.le.1 hb with ⟨h12,c9,AFp,w10,e2',r1,u0,u1,u2,u3,u15,u16,AG1,s12,b9⟩|⟨i,h',hi,k1,f1,dd⟩
 case inr=>exact .inr (.inl ⟨i,h',hi,k1,f1,dd⟩)
 have sm:(ks.set j {kx with s:=2}).map Kt.plc=ks.map Kt.plc:=by
  rw[List.map_set];exact Mu (by rw[List.getElem?_map,e2];rfl)
 have AIU:∀ x∈ks.set j {kx with s:=2},3*x.p+3≤A.n:=fun x hx=>by
  rcases yX hx with h1|h1
  · exact hp3 x h1
  · rw[h1];exact hp3 kx hkm
 have hsl:(ks.set j {kx with s:=2}).length=ks.length:=ABz;have hO:cmO ks j kx=((cmK ks j kx).filter (elB a b c)).map Kt.plc:=by obtain⟨rfl,rfl,rfl⟩:=AEi;rfl
 rw[hO];have hK:cmK ks j kx=ks.set j {kx with s:=2}:=rfl;rw[hK];generalize ks.set j {kx with s:=2}=ksX at *;obtain⟨e3',h13,lv3,fv3,w,r2,f13,v0,v15,ow,s13⟩:=Xx (m:=m) (a:=a) (b:=b) (c:=c) AG1.wf s12 (by omega) AIU u0 u1 u2 u3 u15 u16;have hfl:(ksX.filter (elB a b c)).length≤ksX.length:=yJ _ _;have hos:((ksX.filter (elB a b c)).map Kt.plc).Nodup:=AAx (List.filter_sublist.map _) (sm ▸ hnd);have hol:((ksX.filter (elB a b c)).map Kt.plc).length≤11:=by rw[If];omega
 have fin:∀ (z:Int) (h14:Hp),call AD (m+7) 53 [pt A.bs,w] h13=.ok (.int .i64 z) h14→call AD (m+8) 12 [pt A.bs,.int .i64 a,.int .i64 b,.int .i64 c] h=.ok (.int .i64 z) h14:=fun z h14 AGd=>by
  rw[IM rfl,IU,r1,lU];simp only[BE,Ax,r2,A2,BA];unfold cmE;simp only[sT,AT,AI,reduceIte,cA0,v0,v15,AGd,lV0]
 have AIV:Fx A.D h h13:=AG1.trans (f13.mono fun b hb=>.inl hb);rcases In (m:=m+1) f13.wf s13 (ps:=(ksX.filter (elB a b c)).map Kt.plc) (pv:=w) ow.vals (fun p hp=>by
  obtain⟨x,hx,rfl⟩:=vu.1 hp;exact AIU x (vZ.1 hx).1) hos (by omega) b9 with ⟨h14,c14,AFA,k14,f14,s14,b14⟩|⟨i,h14,hi,_,k14,f14,dd⟩
 ·exact .inl ⟨h14,c14,AFA,lv3,fv3,fin 0 h14 k14,AIV.trans (f14.mono fun b hb=>.inr hb),s14,b14⟩
 ·exact .inr (.inr ⟨i,h14,hi,fin 15 h14 k14,AIV.trans f14,dd⟩)
end
end
noncomputable section
open Go
set_option maxRecDepth 100000
section
variable {fa:Bool}{F:ADS}{e:Env}{h h':Hp}{A:At}{T M:List Nat}{c0 bad m k p n:Nat}{arm:Int}{ks:List Kt}{fr:List Nat}{lv fv:BY}
theorem Ux{P Q:List Kt}{x:Kt}(W:h.Wf)(s:Sl h A T M c0 arm (P++x::Q) fr lv fv bad false)(hkl:(P++x::Q).length≤100)(hfl:fr.length≤11)(hp3:3*x.p+3≤A.n)(hb:AEJ fa arm):
  (∃ h' c1 ADu lv' fv',call AD (m+8) 68 [pt A.bs,.int .i64 (P.length:Int)] h=.ok (.int .i64 0) h'∧Fx A.D h h'∧Sl h' A T (GO M [x.p]) c1 ADu (P++Q) (EN (fr++[x.p])) lv' fv' bad false∧AEJ fa ADu)∨
  (∃ i h',i<2∧call AD (m+8) 68 [pt A.bs,.int .i64 (P.length:Int)] h=.ok (.int .i64 15) h'∧Fx A.D h h'∧AEx fa h' A T (BN M [] ((Dy [x.p]).take i)).1 (BN M [] ((Dy [x.p]).take i)).2):=by
 obtain⟨_,_,_,l3,_⟩:=A7 s.row;obtain⟨b0,_,ix,_,lde⟩:=s.ls.at (i:=P.length) (k:=x) Fs;have lp:=lde 5 (.int .i64 (x.p:Int)) rfl;have bs:=fun (F:ADS) (e:Env) (he:AB 14 e=.int .i64 (x.p:Int))=>EV (F:=F) W he
 have y1:=(Hp.Ext.refl W).ADR 0 [wb .i64 (x.p:Int)];have Rw:=Hp.Row.new W 0 [wb .i64 (x.p:Int)];generalize h.ADR 0 [wb .i64 (x.p:Int)]=h1 at bs y1 Rw;have s1:=s.ext W y1;rcases In (m:=m+1) y1.wf s1 (ps:=[x.p]) (pv:=.slice (some ⟨h.next,0,none⟩) 1 1) (.inr ⟨h.next,0,1,0,_,rfl,Rw,IN _,rfl⟩) (fun p hp=>by rw[vM.1 hp];exact hp3) (by simp) (by show 1≤50;omega) hb with ⟨h2,c1,AGg,k2,f2,s2,b2⟩|⟨i,h2,hi,_,k2,f2,dd⟩
 case inr=>
  have c15:iNe 15 0=true:=EL (by omega);have k2':call AD (m+7) 53 [pt A.bs,.slice (some ⟨h.next,0,none⟩) 1 1] h1=.ok (.int .i64 15) h2:=k2;refine .inr ⟨i,h2,hi,?_,(Fx.of y1).trans f2,dd⟩;rw[Xh rfl];unfold d68;simp only[iN,By,sT,AT,AI,reduceIte,Ao,Ae,AJ,AO,sh,AN,AQ,l3,A1,ix,lp,bs,cA0,k2',AM,AK,c15,lV0]
 obtain⟨h3,lv',fv',k3,f3,s3,_⟩:=UN (m:=m) f2.wf s2 hkl hfl hp3;have c00:iNe 0 0=false:=CV rfl;have k2':call AD (m+7) 53 [pt A.bs,.slice (some ⟨h.next,0,none⟩) 1 1] h1=.ok (.int .i64 0) h2:=k2;refine .inl ⟨h3,c1,AGg,lv',fv',?_,((Fx.of y1).trans (f2.mono fun b hb=>.inr hb)).trans (f3.mono fun b hb=>.inl hb),s3,b2⟩;rw[Xh rfl];unfold d68;simp only[iN,By,sT,AT,AI,reduceIte,Ao,Ae,AJ,AO,sh,AN,AQ,l3,A1,ix,lp,bs,cA0,k2',AM,AK,c00,k3,lV0]
theorem VO(W:h.Wf)(s:Sl h A T M c0 arm ks fr lv fv bad false){a b c:Int}(hkl:fr.length+ks.length≤11)(hp3:∀ k∈ks,3*k.p+3≤A.n)(hb:AEJ fa arm)(hz:abE ks a b c=none):
  ∃ j kx,ks[j]? =some kx∧(kx.a=a∧kx.b=b∧kx.c=c)∧Bp a b c ks=false∧
  ((∃ h' c1 ADu lv' fv',call AD (m+9) 29 [pt A.bs,.int .i64 a,.int .i64 b,.int .i64 c] h=.ok (.int .i64 0) h'∧Fx A.D h h'∧
    Sl h' A T (GO M [kx.p]) c1 ADu (ks.take j++ks.drop (j+1)) (EN (fr++[kx.p])) lv' fv' bad false∧AEJ fa ADu)∨
   (∃ i h',i<2∧call AD (m+9) 29 [pt A.bs,.int .i64 a,.int .i64 b,.int .i64 c] h=.ok (.int .i64 15) h'∧Fx A.D h h'∧AEx fa h' A T (BN M [] ((Dy [kx.p]).take i)).1 (BN M [] ((Dy [kx.p]).take i)).2)):=by
 have AJI:=s.le.1;have c00:iNe 0 0=false:=CV rfl;have k0:=M1 (m:=m+7) s.row;obtain⟨h1,k1,x1⟩:=Hs (m:=m+5) W s.row s.ls.ks (by omega) a b c;have s1:=s.ext W x1;obtain⟨h2,k2,x2⟩:=GN (m:=m+4) x1.wf s1.row s1.ls.ks (by omega) a b c;have x12:=x1.trans x2;unfold abE at hz;cases hst:Bp a b c ks with
 |true=>
  rw[hst]at hz;rw[if_pos rfl]at hz;cases hz
 |false=>
  rw[hst]at k2 hz;rw[if_neg (by decide)]at hz;rcases EU (CN a b c) ks 0 with ⟨e1,e2⟩|⟨j,kx,e1,e2,e3⟩
  · rw[e1]at hz
    cases hz
  · rw[e3,sh]at k1
    have c2:iLt (j:Int) 0=false:=HI (by omega);have hkm:=vN e2;have AEi:=J5 (AAN e1);obtain⟨q1,q2⟩:=Ov e2;have s2:=s.ext W x12;have s2':Sl h2 A T M c0 arm (ks.take j++kx::ks.drop (j+1)) fr lv fv bad false:=by rw[← q1];exact s2
    have fin:∀ (z:Int) (h3:Hp),call AD (m+8) 68 [pt A.bs,.int .i64 (j:Int)] h2=.ok (.int .i64 z) h3→call AD (m+9) 29 [pt A.bs,.int .i64 a,.int .i64 b,.int .i64 c] h=.ok (.int .i64 z) h3:=fun z h3 k3'=>by
     rw[OO rfl];unfold d29;simp only[iN,By,sT,AT,AI,reduceIte,gD,cA0,k0,AM,AK,c00,k1,k2,c2,k3',lV0]
    refine⟨j,kx,e2,AEi,rfl,?_⟩;rcases Ux (m:=m) x12.wf s2' (by rw[← q1];omega) (by omega) (hp3 kx hkm) hb with ⟨h3,c1,ADu,lv',fv',k3,f3,s3,b3⟩|⟨i,h3,hi,k3,f3,dd⟩
    ·rw[q2]at k3
     exact .inl ⟨h3,c1,ADu,lv',fv',fin 0 h3 k3,(Fx.of x12).trans f3,s3,b3⟩
    ·rw[q2]at k3
     exact .inr ⟨i,h3,hi,fin 15 h3 k3,(Fx.of x12).trans f3,dd⟩
theorem SY{a b c:Int}(W:h.Wf)(s:Sl h A T M c0 arm ks fr lv fv bad false)(hkl:fr.length+ks.length≤11)(hp3:∀ k∈ks,3*k.p+3≤A.n)(hb:AEJ fa arm)(s0:AB 0 e=pt A.bs)(s1:AB 1 e=.int .i64 a)(s2:AB 2 e=.int .i64 b)(s3:AB 3 e=.int .i64 c)(s10:AB 10 e=.int .i64 ((ks.length:Int) - 1)):
  (∃ e' h' c1 ADu lv' fv',Ay dpL (call AD (m+8)) e h=.exit 0 e' h'∧Fx A.D h h'∧Sl h' A T (EJ M (drO a b c ks)) c1 ADu (ks.filter fun k=> !drB a b c k) (frE fr (drO a b c ks)) lv' fv' bad false∧AEJ fa ADu)∨(∃ e' h' o1 x o2 i,Ay dpL (call AD (m+8)) e h=.ret e' h'∧AB 8 e'=.int .i64 15∧drO a b c ks=o1++x::o2∧i<2∧Fx A.D h h'∧AEx fa h' A T (BN (EJ M o1) [] ((Dy [x.p]).take i)).1 (BN (EJ M o1) [] ((Dy [x.p]).take i)).2):=by
 refine BU (I:=fun t e' h'=>∃ i c1 ADu lv' fv',i+t=ks.length∧Fx A.D h h'∧AB 0 e'=pt A.bs∧AB 1 e'=.int .i64 a∧AB 2 e'=.int .i64 b∧AB 3 e'=.int .i64 c∧AB 10 e'=.int .i64 ((i:Int) - 1)∧
   Sl h' A T (EJ M (drO a b c (ks.drop i))) c1 ADu (ks.take i++(ks.drop i).filter fun k=> !drB a b c k) (frE fr (drO a b c (ks.drop i))) lv' fv' bad false∧AEJ fa ADu)
  (Q:=fun y=>(∃ e' h' c1 ADu lv' fv',y=.exit 0 e' h'∧Fx A.D h h'∧Sl h' A T (EJ M (drO a b c ks)) c1 ADu (ks.filter fun k=> !drB a b c k) (frE fr (drO a b c ks)) lv' fv' bad false∧AEJ fa ADu)∨(∃ e' h' o1 x o2 i,y=.ret e' h'∧AB 8 e'=.int .i64 15∧drO a b c ks=o1++x::o2∧i<2∧Fx A.D h h'∧AEx fa h' A T (BN (EJ M o1) [] ((Dy [x.p]).take i)).1 (BN (EJ M o1) [] ((Dy [x.p]).take i)).2)) ks.length (by omega) (fun t e' h' ⟨i,c1,AGg,lv',fv',hit,fx,t0,t1,t2,t3,t10,sl,am⟩=>?_) ⟨ks.length,c0,arm,lv,fv,rfl,.refl W,s0,s1,s2,s3,s10,by rw[wh,List.drop_length,List.filter_nil,vR];exact s,hb⟩
 have W':=fx.wf;cases i with
 |zero=>
  right;rw[AA7,List.nil_append,wM]at sl;have c2:iGe (((0:Nat):Int) - 1) 0=false:=FL (by omega);obtain⟨e2,r1⟩:∃ e2,dpL (call AD (m+8)) e' h'=.exit 0 e2 h':=by
   unfold dpL;simp only[sT,AT,AI,reduceIte,AM,AK,t10,c2];exact⟨_,rfl⟩
  rw[r1];exact⟨rfl,.inl ⟨e2,h',c1,AGg,lv',fv',rfl,fx,sl,am⟩⟩
 |succ i=>
  have hlt:i<ks.length:=by omega
  obtain⟨x,hx⟩:∃ x,ks[i]? =some x:=⟨_,No hlt⟩;have hxm:=vN hx;have htk:ks.take (i+1)=ks.take i++[x]:=by rw[zk,hx];rfl
  have hdr:ks.drop i=x::ks.drop (i+1):=by
   rw[wY hlt];rw[No hlt]at hx;injection hx with hx
   rw[hx]
  have hdl:=dB a b c x (ks.take i);rw[← htk]at hdl;have hPl:(ks.take i).length=i:=by rw[vp];omega
  have hdo:=YY a b c x (ks.drop (i+1));rw[← hdr]at hdo;have hol:(drO a b c (ks.drop (i+1))).length≤ks.length - (i+1):=by
   unfold drO;rw[List.length_reverse,← wG];exact yJ _ _
  have hRl:((ks.drop (i+1)).filter fun k=> !drB a b c k).length≤ks.length - (i+1):=by
   rw[← wG];exact yJ _ _
  have hfi:(ks.drop i).filter (fun k=> !drB a b c k)=if drB a b c x=true then(ks.drop (i+1)).filter (fun k=> !drB a b c k)else x::(ks.drop (i+1)).filter (fun k=> !drB a b c k):=by
   rw[hdr];cases h:drB a b c x
   ·rw[if_neg (by decide),List.filter_cons_of_pos (by rw[h];rfl)]
   ·rw[if_pos rfl,List.filter_cons_of_neg (by rw[h];decide)]
  generalize hP:ks.take i=P at *;generalize hR:(ks.drop (i+1)).filter (fun k=> !drB a b c k)=R at *;generalize hO:drO a b c (ks.drop (i+1))=O at *;rw[htk,vX]at sl;have sl:Sl h' A T (EJ M O) c1 AGg (P++x::R) (frE fr O) lv' fv' bad false:=sl;have hle:(P++x::R).length=i+1+R.length:=by rw[IT,vI,hPl];omega
  obtain⟨_,_,_,l3,_⟩:=A7 sl.row;have t10:AB 10 e'=.int .i64 (i:Int):=by rw[t10,show((i+1:Nat):Int) - 1=(i:Int)by omega]
  have c2:iGe (i:Int) 0=true:=HG (by omega);obtain⟨b',_,ix,ld,_⟩:=sl.ls.at (i:=P.length) (k:=x) Fs;rw[hPl]at ix ld;have al:=fun (F:ADS) (e:Env)=>Bm (F:=F) (e:=e) W' (n:=6) (t:=Dl)
  have Ra:=Hp.Row.alloc W' Gr (show(AV K0).length=6 from rfl);have y1:h'.Ext (h'.push (.cells Dl 6 0)):=(Hp.Ext.refl W').push _;generalize h'.push (.cells Dl 6 0)=h1 at al Ra y1;have hu:=(sl.ko x (vV _ vG)).1.vs.one.2.1;obtain⟨st,_,y2,R5,n2⟩:=Mp W' y1 (IN _) Ra rfl (k:=x) hu;generalize h1.wr h'.next 0 (AV x)=h2 at st y2 R5 n2;obtain⟨m0,m1,m2,_⟩:=Bq R5;have sl2:=sl.ext W' y2;have sb:=fun (g:Hp)=>qx (i:=i) (g:=g) (by omega)
  cases hel:drB a b c x with
  |false=>
   rw[if_neg (by rw[hel];decide)]at hdo hfi;have hrun:∃ e2,dpL (call AD (m+8)) e' h'=.norm e2 h2∧AB 0 e2=pt A.bs∧AB 1 e2=.int .i64 a∧AB 2 e2=.int .i64 b∧AB 3 e2=.int .i64 c∧AB 10 e2=.int .i64 ((i:Int) - 1):=by
    unfold dpL;by_cases h1:x.a=a
    ·have d1:iEq x.a a=true:=DM h1
     by_cases h2:x.b=b
     ·have d2:iEq x.b b=true:=DM h2
      have d3:iLe x.c c=false:=QH (fun h3=>by
       unfold drB at hel;rw[decide_eq_true h1,decide_eq_true h2,decide_eq_true h3]at hel;cases hel)
      simp only[sT,AT,AI,reduceIte,gD,Ao,t0,Ae,AJ,AO,sh,AN,AQ,l3,AM,AK,t10,c2,A1,ix,Aw,Ar,ld,al,Aa,st,m0,m1,m2,t1,t2,t3,d1,d2,d3,Br,sb];exact⟨_,rfl,by simp[AF,t0,t1,t2,t3]⟩
     ·have d2:iEq x.b b=false:=DL h2
      simp only[sT,AT,AI,reduceIte,gD,Ao,t0,Ae,AJ,AO,sh,AN,AQ,l3,AM,AK,t10,c2,A1,ix,Aw,Ar,ld,al,Aa,st,m0,m1,m2,t1,t2,t3,d1,d2,Br,sb];exact⟨_,rfl,by simp[AF,t0,t1,t2,t3]⟩
    ·have d1:iEq x.a a=false:=DL h1
     simp only[sT,AT,AI,reduceIte,gD,Ao,t0,Ae,AJ,AO,sh,AN,AQ,l3,AM,AK,t10,c2,A1,ix,Aw,Ar,ld,al,Aa,st,m0,m1,m2,t1,t2,t3,d1,Br,sb];exact⟨_,rfl,by simp[AF,t0,t1,t2,t3]⟩
   obtain⟨e2,r1,r2,r3,r4,r5,r6⟩:=hrun;refine .inl ⟨by omega,e2,h2,r1,i,c1,AGg,lv',fv',by omega,fx.trans (.of y2),r2,r3,r4,r5,r6,?_,am⟩;rw[hdo,hfi,hP];exact sl2
  |true=>
   rw[if_pos hel]at hdo hfi;have hxx:x.a=a∧x.b=b∧x.c≤c:=by
    unfold drB at hel;rw[vT,vT]at hel;exact⟨of_decide_eq_true hel.1.1,of_decide_eq_true hel.1.2,of_decide_eq_true hel.2⟩
   have d1:iEq x.a a=true:=DM hxx.1;have d2:iEq x.b b=true:=DM hxx.2.1;have d3:iLe x.c c=true:=Kk hxx.2.2;have c00:iNe 0 0=false:=CV rfl;have hfl:=UJ fr O;rcases Ux (m:=m) y2.wf sl2 (by omega) (by omega) (hp3 x hxm) am with ⟨h3,c3,AJg,lv3,fv3,k3,f3,s3',a3⟩|⟨i0,h3,hi0,k3,f3,dd⟩
   case inr=>
    rw[hPl]at k3;have c15:iNe 15 0=true:=EL (by omega);have k3':call AD (m+8) 68 [pt A.bs,.int .i64 (i:Int)] h2=.ok (.int .i64 15) h3:=k3;have hrun:∃ e2,dpL (call AD (m+8)) e' h'=.ret e2 h3∧AB 8 e2=.int .i64 15:=by
     unfold dpL;simp only[sT,AT,AI,reduceIte,gD,Ao,t0,Ae,AJ,AO,sh,AN,AQ,l3,AM,AK,t10,c2,A1,ix,Aw,Ar,ld,al,Aa,st,m0,m1,m2,t1,t2,t3,d1,d2,d3,cA0,k3',c15];exact⟨_,rfl,by simp[AF]⟩
    obtain⟨e2,r1,r2⟩:=hrun;rw[r1];obtain⟨o2,ho2⟩:∃ o2,drO a b c ks=(O++[x])++o2:=by
     refine⟨drO a b c P,?_⟩;have hk2:ks=P++ks.drop i:=by rw[← hP,List.take_append_drop]
     have e1:drO a b c ks=drO a b c (ks.drop i)++drO a b c P:=by
      unfold drO;rw[← List.reverse_append,← List.filter_append,← hk2]
     rw[e1,hdo]
    exact .inr ⟨rfl,.inr ⟨e2,h3,O,x,o2,i0,rfl,r2,by rw[ho2,vX];rfl,hi0,(fx.trans (.of y2)).trans f3,dd⟩⟩
   rw[hPl]at k3;have k3':call AD (m+8) 68 [pt A.bs,.int .i64 (i:Int)] h2=.ok (.int .i64 0) h3:=k3;have hrun:∃ e2,dpL (call AD (m+8)) e' h'=.norm e2 h3∧AB 0 e2=pt A.bs∧AB 1 e2=.int .i64 a∧AB 2 e2=.int .i64 b∧AB 3 e2=.int .i64 c∧AB 10 e2=.int .i64 ((i:Int) - 1):=by
    unfold dpL;simp only[sT,AT,AI,reduceIte,gD,Ao,t0,Ae,AJ,AO,sh,AN,AQ,l3,AM,AK,t10,c2,A1,ix,Aw,Ar,ld,al,Aa,st,m0,m1,m2,t1,t2,t3,d1,d2,d3,cA0,k3',c00,Br,sb];exact⟨_,rfl,by simp[AF,t0,t1,t2,t3]⟩
   obtain⟨e2,r1,r2,r3,r4,r5,r6⟩:=hrun;refine .inl ⟨by omega,e2,h3,r1,i,c3,AJg,lv3,fv3,by omega,(fx.trans (.of y2)).trans f3,r2,r3,r4,r5,r6,?_,a3⟩;rw[hdo,hfi,hP,SX,QC];exact s3'
theorem Ya(W:h.Wf)(s:Sl h A T M c0 arm ks fr lv fv bad false)(a b c:Int)(hkl:fr.length+ks.length≤11)(hp3:∀ k∈ks,3*k.p+3≤A.n)(hb:AEJ fa arm):
  (∃ h' c1 ADu lv' fv',call AD (m+9) 30 [pt A.bs,.int .i64 a,.int .i64 b,.int .i64 c] h=.ok (.int .i64 0) h'∧Fx A.D h h'∧Sl h' A T (EJ M (drO a b c ks)) c1 ADu (ks.filter fun k=> !drB a b c k) (frE fr (drO a b c ks)) lv' fv' bad false∧AEJ fa ADu)∨
  (∃ h' o1 x o2 i,call AD (m+9) 30 [pt A.bs,.int .i64 a,.int .i64 b,.int .i64 c] h=.ok (.int .i64 15) h'∧drO a b c ks=o1++x::o2∧i<2∧Fx A.D h h'∧AEx fa h' A T (BN (EJ M o1) [] ((Dy [x.p]).take i)).1 (BN (EJ M o1) [] ((Dy [x.p]).take i)).2):=by
 have c00:iNe 0 0=false:=CV rfl;have k0:=M1 (m:=m+7) s.row;obtain⟨_,_,_,l3,_⟩:=A7 s.row;have ln:=s.ls.len h;have sb:=qx (i:=ks.length) (g:=h) (by omega);have pre:∃ e1,YA (call AD (m+8)) (AS e0 0 [pt A.bs,.int .i64 a,.int .i64 b,.int .i64 c]) h=dpS (call AD (m+8)) e1 h∧AB 0 e1=pt A.bs∧AB 1 e1=.int .i64 a∧AB 2 e1=.int .i64 b∧AB 3 e1=.int .i64 c∧AB 10 e1=.int .i64 ((ks.length:Int) - 1):=by
  unfold YA;simp only[iN,By,sT,AT,AI,reduceIte,gD,cA0,k0,AM,AK,c00,Ao,Ae,AJ,AO,sh,AN,AQ,l3,Af,ln,Br,sb];exact⟨_,rfl,by simp[AF]⟩
 obtain⟨e1,p1,t0,t1,t2,t3,t10⟩:=pre;rcases SY (m:=m) W s hkl hp3 hb t0 t1 t2 t3 t10 with ⟨e2,h2,c1,ADu,lv',fv',r2,f2,s2,a2⟩|⟨e2,h2,o1,x,o2,i,r2,t8,ho,hi,f2,dd⟩
 ·refine .inl ⟨h2,c1,ADu,lv',fv',?_,f2,s2,a2⟩
  rw[SO rfl,SV,p1,YX];simp only[BE,Ax,r2,A2,BA];unfold dpE;simp only[sT,AT,AI,reduceIte,lV0]
 ·refine .inr ⟨h2,o1,x,o2,i,?_,ho,hi,f2,dd⟩
  rw[SO rfl,SV,p1,YX];simp only[BE,Ax,r2,B0,CY,lV0,t8]
end
end
end Go.Proofs.YtedbmmfebjfibaaGreat

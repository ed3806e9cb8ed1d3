/-
  Part ZO of what Lawsn stands on: printed by program, names and spaces cut.
-/
import Derived.Test.YtedbmmfebjfibaaGreatZN
set_option linter.unusedVariables false
set_option linter.unusedSimpArgs false
namespace Go.Proofs.YtedbmmfebjfibaaGreat
noncomputable section
open Go
set_option maxRecDepth 100000
theorem ZE:Jk.k=.ptr 80:=by kernel_rfl
theorem UI:SY.k=.slice 3:=by kernel_rfl
theorem ZF:Vt.k=.slice 83:=by kernel_rfl
def Cn(T:List Nat)(a b c:Int)(s:Nat)(l:List Nat):List Nat:=Ed T (MN (DY a.toNat b.toNat c.toNat s l.length (Ct T l)))
theorem G4{a b c:Int}{s n:Nat}(h:B4 a b c s n=true):0≤a∧a≤1099511627776∧0≤b∧b<255∧1≤c∧c≤1099511627776∧(s=1∨s=2)∧n≤65536:=of_decide_eq_true h
theorem Mt{T:List Nat}{a b c:Int}{s:Nat}{l:List Nat}(h:B4 a b c s l.length=true):(Cn T a b c s l).length=64:=by
 obtain⟨h1,h2,h3,h4,h5,h6,h7,h8⟩:=G4 h
 unfold Cn MN
 rw[HV,Ly]
 have:=NB (a:=a.toNat) (b:=b.toNat) (c:=c.toNat) (s:=s) (m:=l.length) (t:=Ct T l) (by omega) (by omega) (by omega) (by omega) h8 (Iz T l)
 omega
theorem PN{T:List Nat}{a b c:Int}{s:Nat}{l:List Nat}:∀ x∈Cn T a b c s l,x<256:=Qc (To NT)
theorem On{l:List Nat}(h:l.length=64):C6 l 0=l:=by
 unfold C6
 rw[Nat.mul_zero,List.drop_zero,List.take_of_length_le (by omega),h]
 exact List.append_nil l
def MK(p:Nat)(l:List Nat):List Deed:=(List.range ((l.length+63) / 64)).map (fun j=>Deed.w (p * 3+1+j) (C6 l j))++[.f]
def GV(p:Nat)(H:List Nat):List Deed:=[.w (p * 3) H,.f]
theorem MC:∀ (ds:List Deed) (M:List Nat) (cs:List (Nat×List Nat)),(Fv M cs (ds++[.f])).2=[]
 |[],M,cs=>rfl
 |.w i l::ds,M,cs=>MC ds _ _
 |.f::ds,M,cs=>MC ds _ _
theorem co{n p:Nat}{l:List Nat}(hp:3 * p+3≤n)(hl:1≤l.length∧l.length≤100)(hb:∀ x∈l,x<256){H:List Nat}(hH:H.length=64)(hHb:∀ x∈H,x<256):Eq n [] (MK p l++GV p H):=by
 have hk:(l.length+63) / 64=1∨(l.length+63) / 64=2:=by omega
 unfold MK GV
 rcases hk with hk|hk<;>rw[hk]
 ·exact⟨fun x hx=>(by cases hx),by show p * 3+1+0<n;omega,D9 _ _,K7 hb _,by simp,by simp,fun x hx=>(by cases hx),by omega,hH,hHb,by simp,by simp,trivial⟩
 ·refine⟨fun x hx=>(by cases hx),by show p * 3+1+0<n;omega,D9 _ _,K7 hb _,fun x hx=>?_,by show p * 3+1+1<n;omega,D9 _ _,K7 hb _,by simp,by simp,fun x hx=>(by cases hx),by omega,hH,hHb,by simp,by simp,trivial⟩
  have:=List.mem_singleton.1 hx
  rw[this]
  show p * 3+1+0≠p * 3+1+1
  omega
theorem Tl{n p:Nat}(hp:3 * p+3≤n){H:List Nat}(hH:H.length=64)(hHb:∀ x∈H,x<256):Eq n [] (GV p H):=⟨fun x hx=>(by cases hx),by omega,hH,hHb,by simp,by simp,trivial⟩
def LE(T M:List Nat)(p:Nat)(l H:List Nat):List Nat:=(Fv M [] (MK p l++GV p H)).1
def Mc(M:List Nat)(p:Nat)(H:List Nat):List Nat:=(Fv M [] (GV p H)).1
section
variable {F:CallF}{e:Env}{h h' h0:Hp}{S:Nat→Prop}{A:At}{T M:List Nat}{c0 bad m k p:Nat}{arm:Int}{ks:List Kt}{fr:List Nat}{v lv fv:Value}{ov:Bool}
theorem MJ(R:h.Row A.bs 0 (slL A.bd A.tb lv fv bad false)):call AF (m+1) 38 [pt A.bs] h=.ok (.int .i64 0) h:=by
 obtain⟨l0,_,_,_,_,_,l6⟩:=BC R
 have n1:∀ e:Env,AB 0 e=pt A.bs→oEq Jk.k false (AB 0) (kV (.pointer none)) (call AF m) e h=.ok (.bool false) h:=fun e he=>Io ZE he
 have n2:∀ e:Env,AB 10 e=pt A.bd→oEq Vs.k false (AB 10) (kV (.pointer none)) (call AF m) e h=.ok (.bool false) h:=fun e he=>Io eQ he
 rw[iD rfl]
 unfold d38
 simp only[iN,Nat.reduceAdd,sT,Nat.reduceLT,Nat.reduceEqDiff,reduceIte,gD,n1,Ay,Aq,AJ,AQ,Nat.zero_add,AP,AU,l0,n2,l6,lV0]
theorem jG{n:Nat}{h:Hp}(W:h.Wf){u:Value}{xs:List Value}(V:h.Vals u xs)(ha:Bh xs=true)(hl:xs.length≤1000000):
  ∃ h' v,call AF (n+1) 48 [u] h=.ok v h'∧h.Ext h'∧h'.WI (fun b=>h.next≤b) v xs:=by
 rcases V with ⟨rfl,rfl⟩|⟨b,off,c,el,L,h1,h2,h3,h4⟩
 ·have ne:∀ e:Env,AB 0 e=.slice none 0 0→oEq SY.k false (AB 0) (kV (.slice none 0 0)) (call AF n) e h=.ok (.bool true) h:=fun e he=>Ie (t:=0) UI he
  refine⟨h,nilS,?_,.refl W,.inl ⟨rfl,rfl⟩⟩
  rw[JH rfl]
  unfold d48
  simp only[iN,Nat.reduceAdd,sT,Nat.reduceLT,Nat.reduceEqDiff,reduceIte,ne,lV0]
 ·have V:h.Vals u xs:=.inr ⟨b,off,c,el,L,h1,h2,h3,h4⟩
  have x1:=(Hp.Ext.refl W).pushRow 0 []
  have R:=Hp.Row.new W 0 []
  have es:=fun (e:Env) (t:List Value)=>JO (F:=call AF n) (e:=e) (t:=t) W
  have n1:(h.pushRow 0 []).next=h.next+1:=rfl
  generalize h.pushRow 0 []=g at x1 R es n1
  have ne:∀ e:Env,AB 0 e=u→oEq SY.k false (AB 0) (kV (.slice none 0 0)) (call AF n) e h=.ok (.bool false) h:=fun e he=>Id (t:=0) UI (he.trans h1)
  have V1:=V.ext W x1
  have big:=W.big
  rcases Nat.eq_zero_or_pos xs.length with hz|hz
  ·obtain rfl:xs=[]:=List.eq_nil_of_length_eq_zero hz
   have ap:DF 1 8 3 (.slice (some ⟨h.next,0,none⟩) 0 0) u g=.ok (.slice (some ⟨h.next,0,none⟩) 0 0) (g.wr h.next 0 []):=Gt x1.wf big R (fun k=>V1.src rfl k) V1.lenV
   have R2:=R.wr_self x1.wf (off:=0) (vs:=[]) (Nat.le_refl _)
   refine⟨_,.slice (some ⟨h.next,0,none⟩) 0 0,?_,R.wr_ext x1 (Nat.le_refl _) (off:=0) (vs:=[]) (Nat.le_refl _),.inr ⟨h.next,0,rfl,R2,.inr rfl,Nat.le_refl _⟩⟩
   rw[JH rfl]
   unfold d48
   simp only[iN,Nat.reduceAdd,sT,Nat.reduceLT,Nat.reduceEqDiff,reduceIte,ne,es,BL,ap,lV0]
  ·obtain⟨h2,a1,a2,a3,a4,a5⟩:=ED (eb:=8) (en:=3) x1 R (es:=1) (fun k=>V1.src rfl k) V1.lenV (by omega) hz ha (by omega)
   refine⟨h2,_,?_,a2,.inr ⟨g.next,3+1,rfl,a3,.inl rfl,by omega⟩⟩
   rw[JH rfl]
   unfold d48
   simp only[iN,Nat.reduceAdd,sT,Nat.reduceLT,Nat.reduceEqDiff,reduceIte,ne,es,BL,a1,lV0]
theorem RD(W:h.Wf)(K:h.KS S v ks)(hu:∀ k∈ks,A0 k.u=true)(h0:ks=[]→v=.slice none 0 0)(hl:ks.length≤10000):
  ∃ h' w,call AF (m+1) 49 [v] h=.ok w h'∧h.Ext h'∧h'.KO h.next w ks:=by
 rcases K with ⟨rfl,rfl⟩|⟨b,c,el,L,h1,hcc,h2,hL,ht,hel,h3⟩
 ·have ne:∀ e:Env,AB 0 e=.slice none 0 0→oEq Vt.k false (AB 0) (kV (.slice none 0 0)) (call AF m) e h=.ok (.bool true) h:=fun e he=>Ie (t:=0) ZF he
  refine⟨h,nilS,?_,.refl W,.inl ⟨rfl,rfl⟩⟩
  rw[RA rfl]
  unfold d49
  simp only[iN,Nat.reduceAdd,sT,Nat.reduceLT,Nat.reduceEqDiff,reduceIte,ne,lV0]
 ·have hpos:0<ks.length:=by
   rcases Nat.eq_zero_or_pos ks.length with hz|hz
   ·have:=h0 (List.eq_nil_of_length_eq_zero hz)
    rw[this]at h1;cases h1
   ·exact hz
  have x1:=(Hp.Ext.refl W).pushRow 0 []
  have R:=Hp.Row.new W 0 []
  have es:=fun (e:Env) (t:List Value)=>JO (F:=call AF m) (e:=e) (t:=t) W
  have n1:(h.pushRow 0 []).next=h.next+1:=rfl
  generalize h.pushRow 0 []=g at x1 R es n1
  have ne:∀ e:Env,AB 0 e=v→oEq Vt.k false (AB 0) (kV (.slice none 0 0)) (call AF m) e h=.ok (.bool false) h:=fun e he=>Id (t:=0) ZF (he.trans h1)
  have R1:=h2.ext W x1
  have ha:Bh (flK ks)=true:=by
   clear h1 h2 R1 hl hpos h0 hcc hL ht
   induction ks with
   |nil=>rfl
   |cons k l ih=>
    refine OJ fun x hx=>?_
    obtain⟨y,hy,hxy⟩:=List.mem_flatMap.1 hx
    have huy:=hu y hy
    have hxy:x∈[Value.int .i64 y.a,.int .i64 y.b,.int .i64 y.c,.int .u8 (y.s:Int),y.u,.int .i64 (y.p:Int)]:=hxy
    simp only[List.mem_cons,List.mem_nil_iff,or_false]at hxy
    rcases hxy with rfl|rfl|rfl|rfl|rfl|rfl
    all_goals first|exact huy|rfl
  have big:=W.big
  obtain⟨h2',a1,a2,a3,a4,a5⟩:=ED (eb:=64) (en:=83) (u:=v) (cs:=flK ks) (n:=ks.length) x1 R (es:=6) (fun K=>by
   have e1:=R1.srcE (es:=6) (off:=0) (n:=ks.length) (sl:=ks.length) (c:=c) (k:=K) (by omega)
   rw[h1,e1,List.drop_zero,Nat.mul_comm ks.length 6,ht]) (by rw[h1];rfl) (by rw[CJ];omega) hpos ha (by omega)
  refine⟨h2',_,?_,a2,.inr ⟨g.next,rfl,a3,by omega,by omega⟩⟩
  rw[RA rfl]
  unfold d49
  simp only[iN,Nat.reduceAdd,sT,Nat.reduceLT,Nat.reduceEqDiff,reduceIte,ne,es,BL,a1,lV0]
def Hp.KN(h:Hp)(k:Nat)(v:Value)(ks:List Kt):Prop:=h.KO k v ks∨(ks=[]∧∃ b,v=.slice (some ⟨b,0,none⟩) 0 0∧h.Row b 0 []∧k≤b∧256≤b)
theorem Ss(W:h.Wf)(K:h.KS S v ks)(hu:∀ k∈ks,A0 k.u=true)(hl:ks.length≤10000):
  ∃ h' w,call AF (m+1) 49 [v] h=.ok w h'∧h.Ext h'∧h'.KN h.next w ks:=by
 have K0:=K
 rcases K with ⟨rfl,rfl⟩|⟨b,c,el,L,h1,hcc,h2,hL,ht,hel,h3⟩
 ·obtain⟨h',w,a,b,c⟩:=RD (m:=m) W K0 hu (fun _=>rfl) hl
  exact⟨h',w,a,b,.inl c⟩
 ·rcases Nat.eq_zero_or_pos ks.length with hz|hz
  ·obtain rfl:ks=[]:=List.eq_nil_of_length_eq_zero hz
   have x1:=(Hp.Ext.refl W).pushRow 0 []
   have R:=Hp.Row.new W 0 []
   have es:=fun (e:Env) (t:List Value)=>JO (F:=call AF m) (e:=e) (t:=t) W
   generalize h.pushRow 0 []=g at x1 R es
   have ne:∀ e:Env,AB 0 e=v→oEq Vt.k false (AB 0) (kV (.slice none 0 0)) (call AF m) e h=.ok (.bool false) h:=fun e he=>Id (t:=0) ZF (he.trans h1)
   have R1:=h2.ext W x1
   have ap:DF 6 64 83 (.slice (some ⟨h.next,0,none⟩) 0 0) v g=.ok (.slice (some ⟨h.next,0,none⟩) 0 0) (g.wr h.next 0 []):=Gt x1.wf W.big R (fun K=>by
    have e1:=R1.srcE (es:=6) (off:=0) (n:=0) (sl:=0) (c:=c) (k:=K) (by omega)
    rw[h1]
    exact e1) (by rw[h1];rfl)
   have R2:=R.wr_self x1.wf (off:=0) (vs:=[]) (Nat.le_refl _)
   refine⟨_,.slice (some ⟨h.next,0,none⟩) 0 0,?_,R.wr_ext x1 (Nat.le_refl _) (off:=0) (vs:=[]) (Nat.le_refl _),.inr ⟨rfl,h.next,rfl,R2,Nat.le_refl _,W.big⟩⟩
   rw[RA rfl]
   unfold d49
   simp only[iN,Nat.reduceAdd,sT,Nat.reduceLT,Nat.reduceEqDiff,reduceIte,ne,es,BL,ap,lV0]
  ·obtain⟨h',w,a,b,c⟩:=RD (m:=m) W K0 hu (fun h=>by rw[h]at hz;exact absurd hz (Nat.lt_irrefl 0)) hl
   exact⟨h',w,a,b,.inl c⟩
theorem Zy{xs:List Value}{z:Value}(o:h.WI S v (z::xs)):∃ w,h.Vals w xs∧∀ (F:CallF) (e:Env) (x:O),x e=v→DE 3 1 x (some (kV (.int .i64 1))) none none F e h=.ok w h:=by
 rcases o with ⟨_,h2⟩|⟨b,el,hv,Rb,hel,_⟩
 ·cases h2
 ·have hl:(z::xs).length=xs.length+1:=rfl
  have key:∀ (F:CallF) (e:Env) (x:O),x e=v→DE 3 1 x (some (kV (.int .i64 1))) none none F e h=Bn (some ⟨b,0,none⟩) 1 1 (xs.length+1) (xs.length+1) h:=fun F e x hx=>by
   show(match x e with|.slice a n c=>DB e n c (some (kV (.int .i64 1))) none none (fun l hh m=>Dq 3 1 a false l hh m h)|_=>.no)=_
   rw[hx,hv,hl]
   show(bif Nat.ble 1 (xs.length+1)then Dq 3 1 (some ⟨b,0,none⟩) false 1 (xs.length+1) (xs.length+1) h else .no)=_
   rw[Al.2 (show 1≤xs.length+1 by omega)]
   show(bif EX 3 (some ⟨b,0,none⟩) h then Bn (some ⟨b,0,none⟩) 1 1 (xs.length+1) (xs.length+1) h else .no)=_
   have:EX 3 (some ⟨b,0,none⟩) h=true:=by
    obtain⟨cc,hcc,_⟩:=Rb.rowOf
    unfold EX
    simp only[hcc]
    rcases hel with rfl|rfl<;>rfl
   rw[this];rfl
  cases xs with
  |nil=>
   refine⟨.slice (some ⟨b,0,none⟩) 0 0,.inr ⟨b,0,0,el,_,rfl,Rb,Nat.zero_le _,rfl⟩,fun F e x hx=>?_⟩
   rw[key F e x hx];rfl
  |cons y ys=>
   refine⟨.slice (some ⟨b,1,none⟩) (ys.length+1) (ys.length+1),.inr ⟨b,1,ys.length+1,el,_,rfl,Rb,?_,?_⟩,fun F e x hx=>?_⟩
   ·show 1+(ys.length+1)≤ys.length+1+1
    omega
   ·show((z::y::ys).drop 1).take (y::ys).length=y::ys
    exact List.take_length
   ·rw[key F e x hx]
    show Bn (some ⟨b,0,none⟩) 1 1 (ys.length+1+1) (ys.length+1+1) h=_
    unfold Bn
    simp only[Ai]
    have e1:Nat.beq (ys.length+1+1) 1=false:=rfl
    have e2:Nat.sub (ys.length+1+1) 1=ys.length+1:=rfl
    simp only[e1,e2]
theorem Ol{g1 g2 g3 g5:O}{a b c:Int}{u:Value}(h1:g1 e=.int .i64 a)(h2:g2 e=.int .i64 b)(h3:g3 e=.int .i64 c)(h5:g5 e=u)(hc:cellsOf u=[u])(hk:known u=true):
  Bm F0.zero [(0,1,g1),(1,1,g2),(2,1,g3),(3,1,kV (.int .u8 1)),(4,1,g5)] F e h=.ok (B1 a b c 1 u) h:=by
 rw[EH,Sb,BE (hk:=by rw[h1];rfl),h1,BE (hk:=by rw[h2];rfl),h2,BE (hk:=by rw[h3];rfl),h3,BE,BE (hk:=by rw[h5];exact hk),h5,hc]
 simp only[Gl,DN,List.length_singleton,List.length_cons,List.length_nil,A3,over,List.take,List.drop,List.append_eq,List.nil_append,List.cons_append,Nat.reduceAdd,Nat.reduceLeDiff,if_true,CP,reduceIte]
 rfl
theorem Sl.bsx{ks':List Kt}{fr':List Nat}{lv' fv':Value}{bad':Nat}{ov':Bool}(s:Sl h A T M c0 arm ks fr lv fv bad ov)(W:h.Wf)(x:Fx (fun b=>b=A.bs) h h')(row:h'.Row A.bs 0 (slL A.bd A.tb lv' fv' bad' ov'))(ls:h'.KS (fun b=>¬ A.D b) lv' ks')(ko:∀ k∈ks',KtOk h' (fun b=>¬ A.D b) k)
  (fs:h'.WI (fun b=>¬ A.D b) fv' (ints .i64 (fr'.map Int.ofNat)))(le:ks'.length≤1000∧fr'.length≤1000∧bad'≤1000∧∀ p∈fr',3 * p+3≤A.n):Sl h' A T M c0 arm ks' fr' lv' fv' bad' ov':=
 ⟨row,s.dk.fr W x (fun h=>s.ne.1 h.symm) (fun h=>s.ne.2.1 h.symm) (fun h=>s.ne.2.2.1 h.symm),x.row W s.tab (fun h=>s.ne.2.2.2.1 (.inl h)),s.tok,ls,ko,fs,s.ne,le⟩
end
end
noncomputable section
open Go
set_option maxRecDepth 100000
theorem Nk:∀ (ks:List Kt) (j:Nat) (x:Kt),j<ks.length→over (flK ks) (6 * j) (Ab x)=flK (ks.set j x)
 |[],j,x,h=>by cases h
 |k::ks,0,x,h=>by
  show over (Ab k++flK ks) 0 (Ab x)=Ab x++flK ks
  exact Lx rfl
 |k::ks,j+1,x,h=>by
  have ih:=Nk ks j x (by simpa using h)
  show over (Ab k++flK ks) (6 * (j+1)) (Ab x)=Ab k++flK (ks.set j x)
  rw[← ih]
  unfold over
  have e1:6 * (j+1)=(Ab k).length+6 * j:=by show _=6+_;omega
  have e2:6 * (j+1)+(Ab x).length=(Ab k).length+(6 * j+(Ab x).length):=by rw[e1];omega
  rw[e2,List.drop_length_add_append,e1,List.take_length_add_append,List.append_assoc,List.append_assoc,List.append_assoc]
def Hw(x:Kt):List Kt→List Kt
 |[]=>[x]
 |y::r=>if Gz x y<0 then y::Hw x r else x::y::r
def Hx(A:List Kt)(x:Kt):List Kt:=(Hw x A.reverse).reverse
def srt:List Kt→List Kt→List Kt
 |A,[]=>A
 |A,x::B=>srt (Hx A x) B
theorem Mx(x y:Kt)(r:List Kt):Hw x (y::r)=if Gz x y<0 then y::Hw x r else x::y::r:=rfl
theorem PR(x:Kt):∀ l:List Kt,(Hw x l).length=l.length+1
 |[]=>rfl
 |y::r=>by
  unfold Hw
  split
  ·rw[List.length_cons,PR x r,List.length_cons]
  ·rfl
theorem LW(A:List Kt)(x:Kt):(Hx A x).length=A.length+1:=by
 unfold Hx
 rw[List.length_reverse,PR,List.length_reverse]
theorem PS{x z:Kt}:∀ {l:List Kt},z∈Hw x l↔z=x∨z∈l
 |[]=>by simp[Hw]
 |y::r=>by
  unfold Hw
  split
  ·rw[List.mem_cons,PS,List.mem_cons]
   constructor
   ·rintro (h|h|h)
    ·exact .inr (.inl h)
    ·exact .inl h
    ·exact .inr (.inr h)
   ·rintro (h|h|h)
    ·exact .inr (.inl h)
    ·exact .inl h
    ·exact .inr (.inr h)
  ·exact List.mem_cons
theorem PT{A:List Kt}{x z:Kt}:z∈Hx A x↔z=x∨z∈A:=by
 unfold Hx
 rw[List.mem_reverse,PS,List.mem_reverse]
theorem My{x:Kt}:∀ {R Q:List Kt},(∀ y∈R,Gz x y<0)→Hw x (R++Q)=R++Hw x Q
 |[],Q,_=>rfl
 |y::R,Q,h=>by
  rw[List.cons_append,Mx,if_pos (h y List.mem_cons_self),My fun z hz=>h z (List.mem_cons_of_mem _ hz)]
  rfl
theorem TT{x:Kt}{P Q:List Kt}(hQ:∀ y∈Q,Gz x y<0)(hP:P=[]∨∃ P' y,P=P'++[y]∧¬ Gz x y<0):Hx (P++Q) x=P++x::Q:=by
 unfold Hx
 rw[List.reverse_append,My fun y hy=>hQ y (List.mem_reverse.1 hy)]
 have e:Hw x P.reverse=x::P.reverse:=by
  rcases hP with rfl|⟨P',y,rfl,hy⟩
  ·rfl
  ·rw[List.reverse_append]
   show Hw x (y::P'.reverse)=_
   unfold Hw
   rw[if_neg hy];rfl
 rw[e,List.reverse_append,List.reverse_cons,List.reverse_reverse,List.reverse_reverse,List.append_assoc];rfl
theorem Iv{α:Type}{x y:α}:∀ {P R:List α},(P++x::R).set P.length y=P++y::R
 |[],R=>rfl
 |z::P,R=>by
  show z::(P++x::R).set P.length y=_
  rw[Iv];rfl
theorem NF{l Z vs:List Value}{o:Nat}(h:o+vs.length≤l.length):over (l++Z) o vs=over l o vs++Z:=by
 unfold over
 rw[List.take_append_of_le_length (by omega),List.drop_append_of_le_length h,List.append_assoc,List.append_assoc,List.append_assoc]
theorem FS{α:Type}{x:α}{P R:List α}:(P++x::R)[P.length]? =some x:=by
 rw[List.getElem?_append_right (Nat.le_refl _),Nat.sub_self];rfl
theorem Ih{α:Type}{x y:α}{P R:List α}:(P++y::x::R)[P.length+1]? =some x:=by
 rw[List.getElem?_append_right (by omega),show P.length+1 - P.length=1 by omega];rfl
section
variable {F:CallF}{e:Env}{h h':Hp}{S:Nat→Prop}{bl n c:Nat}{ks:List Kt}{Z:List Value}
theorem OS(R:h.Row bl 84 (flK ks++Z))(hn:n=ks.length)(hc:ks.length≤c):h.KS (fun b=>b=bl) (.slice (some ⟨bl,0,none⟩) n c) ks:=by
 subst hn
 exact .inr ⟨bl,c,84,_,rfl,hc,R,by rw[List.length_append,CJ];omega,by rw[List.take_append_of_le_length (by rw[CJ];omega),← CJ,List.take_length],.inl rfl,rfl⟩
theorem Xf(W:h.Wf)(R:h.Row bl 84 (flK ks++Z))(h256:256≤bl){j:Nat}(hj:j<ks.length){x:Kt}(hu:A0 x.u=true):
  ∃ h',(∀ (F:CallF) (e:Env) (g g':O),g e=.pointer (some ⟨bl,6 * j,none⟩)→g' e=ktV x→Ac .free (Af 6 g g') F e h=.ok noRes h')∧Fx (fun b=>b=bl) h h'∧h'.Row bl 84 (flK (ks.set j x)++Z)∧h'.next=h.next∧h'.mark=h.mark:=by
 have Rq:h.quiet.Row bl 84 (flK ks++Z):=R.same rfl
 have hoo1:6 * j+(Ab x).length≤(flK ks).length:=by rw[CJ];show 6 * j+6≤_;omega
 have hoo:6 * j+(Ab x).length≤(flK ks++Z).length:=by rw[List.length_append];omega
 have st:=Rq.storeR (n:=6) (off:=6 * j) (v:=ktV x) W.quiet h256 rfl hoo (F6 hu)
 have wr:=Rq.wr_self W.quiet hoo
 rw[NF hoo1,Nk ks j x hj]at wr
 have fx:=Fx.wr (S:=fun b=>b=bl) W.quiet Rq hoo rfl
 have wn:=Rq.wr_next hoo
 have st:storeR 6 (.pointer (some ⟨bl,6 * j,none⟩)) (ktV x) h.quiet=.ok noRes (h.quiet.wr bl (6 * j) (Ab x)):=st
 generalize h.quiet.wr bl (6 * j) (Ab x)=q at st wr fx wn
 exact⟨h.back q,fun F e g g' e1 e2=>Bb (by rw[Ao,e1,e2];exact st),(fx.from (h:=h) rfl rfl).same rfl rfl,wr.same rfl,wn,rfl⟩
def swB:C:=(BW (AE (AC 41) (Bf Int.sub .i64 (AB 9) (kV (.int .i64 1)))
(AE (AC 44) (Bf Int.sub .i64 (AB 9) (kV (.int .i64 1)))
(AE (AC 45) (BF 6 (AB 0) (AB 44))
(AE (AC 46) (Ax 6 (AB 45))
(AE (AC 49) (BF 6 (AB 0) (AB 9))
(AE (AC 50) (Ax 6 (AB 49))
(AE (AC 51) (BF 6 (AB 0) (AB 9))
(cDo (Ac .free (Af 6 (AB 51) (AB 46)))
(AE (AC 52) (BF 6 (AB 0) (AB 41))
(cDo (Ac .free (Af 6 (AB 52) (AB 50)))
AX)))))))))))
def bG:C:=(BW (AE (AC 20) (AW iGt .i64 (AB 9) (AB 1))
(cG (AB 20) true (AC 22) (AD (AB 3))
(cG (AB 20) true (AC 23) (AD (AB 0))
(cG (AB 20) true (AC 24) (AD (AB 9))
(cG (AB 20) true (AC 25) (BF 6 (AB 23) (AB 24))
(cG (AB 20) true (AC 26) (Ax 6 (AB 25))
(cG (AB 20) true (AC 27) (AD (AB 0))
(cG (AB 20) true (AC 28) (AD (AB 9))
(cG (AB 20) true (AC 29) (Bf Int.sub .i64 (AB 28) (kV (.int .i64 1)))
(cG (AB 20) true (AC 30) (BF 6 (AB 27) (AB 29))
(cG (AB 20) true (AC 31) (Ax 6 (AB 30))
(cG (AB 20) true (AC 32) (Ac .free (Cf (AB 22) [(AB 26),(AB 31)]))
(cG (AB 20) true (AC 33) (AW iLt .i64 (AB 32) (kV (.int .i64 0)))
(AE (AC 34) (Aj (AB 20) (AB 33) (kV (.bool false)))
(AS (AB 34)
(A2 (AY 3 swB)
(AE (AC 36) (Bf Int.sub .i64 (AB 9) (kV (.int .i64 1)))
(AE (AC 9) (AD (AB 36))
AX)))
(BK 2)))))))))))))))))
theorem RS:jnB=bG:=rfl
theorem da(W:h.Wf){P R:List Kt}{x y:Kt}(hks:ks=P++y::x::R)(Rw:h.Row bl 84 (flK ks++Z))(h256:256≤bl)(hn:n=ks.length)(hc:ks.length≤c)(hl:ks.length≤100000)(ux:A0 x.u=true)(uy:A0 y.u=true)
  (s0:AB 0 e=.slice (some ⟨bl,0,none⟩) n c)(s9:AB 9 e=.int .i64 ((P.length+1:Nat):Int)):
  ∃ e' h',swB F e h=.norm e' h'∧Fx (fun b=>b=bl) h h'∧h'.Row bl 84 (flK (P++x::y::R)++Z)∧∀ j,j=0∨j=1∨j=2∨j=3∨j=8∨j=9→AB j e'=AB j e:=by
 have lk:ks.length=P.length+1+1+R.length:=by rw[hks,List.length_append,List.length_cons,List.length_cons];omega
 have K:=OS (Rw.same (h':=h.marked) rfl) hn hc
 obtain⟨b,rfl,ix,ld,_⟩:=K.at (i:=P.length+1) (k:=x) (by rw[hks];exact Ih)
 obtain⟨b',hb',iy,ldy,_⟩:=K.at (i:=P.length) (k:=y) (by rw[hks];exact FS)
 have hb':b'=b:=hb'
 subst hb'
 have a1:FE Int.sub .i64 (.int .i64 ((P.length+1:Nat):Int)) (.int .i64 1) h.marked=.ok (.int .i64 (P.length:Int)) h.marked:=by
  have:Int.sub ((P.length+1:Nat):Int) 1=(P.length:Int):=by
   show((P.length+1:Nat):Int) - 1=_
   omega
  rw[CO,this,Bg (by omega)]
 obtain⟨h1,q1,f1,R1,n1,mk1⟩:=Xf (j:=P.length+1) W.marked (Rw.same (h':=h.marked) rfl) h256 (by omega) uy
 have e1:ks.set (P.length+1) y=P++y::y::R:=by
  rw[hks,show P++y::x::R=(P++[y])++x::R by simp,show P.length+1=(P++[y]).length by simp,Iv];simp
 rw[e1]at R1
 have ix1:idxSR 6 (.slice (some ⟨b',0,none⟩) n c) (.int .i64 (P.length:Int)) h1=.ok (.pointer (some ⟨b',6 * P.length,none⟩)) h1:=by
  have:=DJ (h:=h1) (n:=n) (c:=c) (es:=6) (b:=b') (off:=0) (i:=P.length) (k:=.i64) (by omega)
  rwa [Nat.zero_add,Nat.mul_comm]at this
 obtain⟨h2,q2,f2,R2,n2,mk2⟩:=Xf (j:=P.length) f1.wf R1 h256 (by rw[List.length_append];simp) ux
 rw[Iv]at R2
 have fm:Fx (fun b=>b=b') h h1:=f1.from (h:=h) rfl rfl
 have hrun:∃ e',swB F e h=.norm e' h2∧∀ j,j=0∨j=1∨j=2∨j=3∨j=8∨j=9→AB j e'=AB j e:=by
  have q1':∀ (F:CallF) (e:Env),AB 51 e=.pointer (some ⟨b',6 * (P.length+1),none⟩)→AB 46 e=ktV y→Ac .free (Af 6 (AB 51) (AB 46)) F e h.marked=.ok noRes h1:=fun F e a b=>q1 F e _ _ a b
  have q2':∀ (F:CallF) (e:Env),AB 52 e=.pointer (some ⟨b',6 * P.length,none⟩)→AB 50 e=ktV x→Ac .free (Af 6 (AB 52) (AB 50)) F e h1=.ok noRes h2:=fun F e a b=>q2 F e _ _ a b
  unfold swB
  simp only[sT,Nat.reduceLT,Nat.reduceEqDiff,reduceIte,BA,Bz,s9,a1,A8,s0,iy,Aw,Av,ldy,ix,ld,q1',ix1,q2']
  refine⟨_,rfl,fun j hj=>?_⟩
  rcases hj with rfl|rfl|rfl|rfl|rfl|rfl<;>simp only[AH,Nat.reduceLT,Nat.reduceEqDiff,reduceIte]
 obtain⟨e',r1,r2⟩:=hrun
 exact⟨e',h2,r1,fm.trans f2,R2,r2⟩
end
end
noncomputable section
open Go
set_option maxRecDepth 100000
theorem UC{α:Type}(P:List α):P=[]∨∃ P' y,P=P'++[y]:=by
 rcases h:P.reverse with _|⟨y,r⟩
 ·exact .inl (List.reverse_eq_nil_iff.1 h)
 ·refine .inr ⟨r.reverse,y,?_⟩
  rw[← List.reverse_reverse P,h,List.reverse_cons]
section
variable {e:Env}{h h':Hp}{bl n c m:Nat}{ks:List Kt}{Z:List Value}
theorem XV(W:h.Wf){A B:List Kt}{x:Kt}(Rw:h.Row bl 84 (flK (A++x::B)++Z))(h256:256≤bl)(hn:n=(A++x::B).length)(hc:n≤c)(hl:n≤1000)(hu:∀ k∈A++x::B,A0 k.u=true)
  (s0:AB 0 e=.slice (some ⟨bl,0,none⟩) n c)(s1:AB 1 e=.int .i64 0)(s3:AB 3 e=.func (.func 51) ⟨[]⟩ ⟨[]⟩)(s9:AB 9 e=.int .i64 (A.length:Int)):
  ∃ e' h',Az jnB (call AF (m+3)) e h=.exit 2 e' h'∧Fx (fun b=>b=bl) h h'∧h'.Row bl 84 (flK (Hx A x++B)++Z)∧∀ j,j=0∨j=1∨j=2∨j=3∨j=8→AB j e'=AB j e:=by
 have hln:(A++x::B).length=A.length+1+B.length:=by rw[List.length_append,List.length_cons];omega
 refine Be (I:=fun i e' g=>∃ P Q,A=P++Q∧P.length+i=A.length∧Fx (fun b=>b=bl) h g∧g.Row bl 84 (flK (P++x::(Q++B))++Z)∧(∀ y∈Q,Gz x y<0)∧AB 9 e'=.int .i64 (P.length:Int)∧∀ j,j=0∨j=1∨j=2∨j=3∨j=8→AB j e'=AB j e)
  (Q:=fun r=>∃ e' h',r=.exit 2 e' h'∧Fx (fun b=>b=bl) h h'∧h'.Row bl 84 (flK (Hx A x++B)++Z)∧∀ j,j=0∨j=1∨j=2∨j=3∨j=8→AB j e'=AB j e) (A.length+1) (by omega) (fun i e' g ⟨P,Q,hA,hP,fx,R,hQ,t9,ts⟩=>?_) ⟨A,[],by rw[List.append_nil],rfl,.refl W,Rw,fun y hy=>(by cases hy),s9,fun _ _=>rfl⟩
 have W':=fx.wf
 have t0:=(ts 0 (by omega)).trans s0
 have t1:=(ts 1 (by omega)).trans s1
 have t3:=(ts 3 (by omega)).trans s3
 rcases UC P with rfl|⟨P',y,rfl⟩
 ·right
  have c1:iGt ((([]:List Kt).length:Nat):Int) 0=false:=Ei (by decide)
  have hrun:∃ e2,jnB (call AF (m+3)) e' g=.exit 2 e2 g.marked∧∀ j,j=0∨j=1∨j=2∨j=3∨j=8→AB j e2=AB j e':=by
   rw[RS]
   unfold bG
   simp only[sT,Nat.reduceLT,Nat.reduceEqDiff,reduceIte,gD,BA,AO,AN,t9,t1,c1]
   refine⟨_,rfl,fun j hj=>?_⟩
   rcases hj with rfl|rfl|rfl|rfl|rfl<;>simp only[AH,Nat.reduceLT,Nat.reduceEqDiff,reduceIte]
  obtain⟨e2,r1,r2⟩:=hrun
  rw[r1]
  refine⟨rfl,e2,_,rfl,fx.same rfl rfl,?_,fun j hj=>(r2 j hj).trans (ts j hj)⟩
  have:=TT (x:=x) (P:=[]) (Q:=Q) hQ (.inl rfl)
  rw[hA,this]
  have e5:([]++x::Q)++B=[]++x::(Q++B):=rfl
  rw[e5]
  exact R.same rfl
 ·have lP:(P'++[y]).length=P'.length+1:=by simp
  rw[lP]at hP t9
  have lA:A.length=P'.length+1+Q.length:=by rw[hA,List.length_append,lP]
  have eR:(P'++[y])++x::(Q++B)=P'++y::x::(Q++B):=by simp
  rw[eR]at R
  have lL:(P'++y::x::(Q++B)).length=n:=by
   rw[hn,hln,lA]
   simp only[List.length_append,List.length_cons];omega
  have ux:A0 x.u=true:=hu x (List.mem_append_right _ List.mem_cons_self)
  have uy:A0 y.u=true:=hu y (List.mem_append_left _ (by rw[hA];exact List.mem_append_left _ (List.mem_append_right _ List.mem_cons_self)))
  have K:=OS (n:=n) (c:=c) (R.same (h':=g.marked) rfl) lL.symm (by omega)
  obtain⟨b,hb,ix,ld,_⟩:=K.at (i:=P'.length+1) (k:=x) Ih
  obtain⟨b',hb',iy,ldy,_⟩:=K.at (i:=P'.length) (k:=y) FS
  have c1:iGt ((P'.length+1:Nat):Int) 0=true:=Fl (by omega)
  have a1:∀ g:Hp,FE Int.sub .i64 (.int .i64 ((P'.length+1:Nat):Int)) (.int .i64 1) g=.ok (.int .i64 (P'.length:Int)) g:=fun g=>by
   have:Int.sub ((P'.length+1:Nat):Int) 1=(P'.length:Int):=by
    show((P'.length+1:Nat):Int) - 1=_
    omega
   rw[CO,this,Bg (by omega)]
  obtain⟨h2,k2,x2⟩:=YT (m:=m) W'.marked.quiet x y
  have q2:∀ e:Env,AB 22 e=.func (.func 51) ⟨[]⟩ ⟨[]⟩→AB 26 e=ktV x→AB 31 e=ktV y→Ac .free (Cf (AB 22) [AB 26,AB 31]) (call AF (m+3)) e g.marked=.ok (.int .i64 (Gz x y)) (g.marked.back h2):=fun e e1 e2 e3=>by
   refine Bb ?_
   rw[Cj,Ah,Ah,A7,e1,e2,e3];exact k2
  have y2:g.Ext (g.marked.back h2):=(Hp.Ext.refl W').marked.trans (.back x2)
  generalize g.marked.back h2=h3 at q2 y2
  have R3:=R.ext W' y2
  by_cases hc:Gz x y<0
  ·left
   have c2:iLt (Gz x y) 0=true:=Jy hc
   have sw:∀ e2:Env,AB 0 e2=.slice (some ⟨bl,0,none⟩) n c→AB 9 e2=.int .i64 ((P'.length+1:Nat):Int)→∃ e3 h4,swB (call AF (m+3)) e2 h3=.norm e3 h4∧Fx (fun b=>b=bl) h3 h4∧h4.Row bl 84 (flK (P'++x::y::(Q++B))++Z)∧∀ j,j=0∨j=1∨j=2∨j=3∨j=8∨j=9→AB j e3=AB j e2:=fun e2 a b=>da y2.wf rfl R3 h256 lL.symm (by omega) (by omega) ux uy a b
   have hrun:∃ e3 h4,jnB (call AF (m+3)) e' g=.norm e3 h4∧Fx (fun b=>b=bl) h3 h4∧h4.Row bl 84 (flK (P'++x::y::(Q++B))++Z)∧AB 9 e3=.int .i64 (P'.length:Int)∧∀ j,j=0∨j=1∨j=2∨j=3∨j=8→AB j e3=AB j e':=by
    rw[RS]
    unfold bG
    simp only[sT,Nat.reduceLT,Nat.reduceEqDiff,reduceIte,gD,BA,AO,AN,t9,t1,c1,t3,t0,A8,ix,Aw,Av,ld,Bz,a1,iy,ldy,q2,c2,BP,A1]
    obtain⟨e3,h4,r1,f4,R4,r2⟩:=sw (Env.set 34 (.bool true) (Env.set 33 (.bool true) (Env.set 32 (.int .i64 (Gz x y)) (Env.set 31 (ktV y) (Env.set 30 (.pointer (some ⟨b',6 * P'.length,none⟩)) (Env.set 29 (.int .i64 (P'.length:Int)) (Env.set 28 (.int .i64 ((P'.length+1:Nat):Int)) (Env.set 27 (.slice (some ⟨bl,0,none⟩) n c) (Env.set 26 (ktV x) (Env.set 25 (.pointer (some ⟨b,6 * (P'.length+1),none⟩)) (Env.set 24 (.int .i64 ((P'.length+1:Nat):Int)) (Env.set 23 (.slice (some ⟨bl,0,none⟩) n c) (Env.set 22 (.func (.func 51) ⟨[]⟩ ⟨[]⟩) (Env.set 20 (.bool true) e')))))))))))))) (by simp[AH,t0]) (by simp[AH,t9])
    have u9:AB 9 e3=.int .i64 ((P'.length+1:Nat):Int):=(r2 9 (by omega)).trans (by simp[AH,t9])
    rw[r1]
    simp only[Df,BJ,sT,Nat.reduceLT,Nat.reduceEqDiff,reduceIte,Bz,u9,a1]
    refine⟨_,_,rfl,f4,R4,by simp[AH],fun j hj=>?_⟩
    have:=r2 j (by omega)
    rcases hj with rfl|rfl|rfl|rfl|rfl<;>simp only[AH,Nat.reduceLT,Nat.reduceEqDiff,reduceIte]at this ⊢<;>exact this
   obtain⟨e3,h4,r1,f4,R4,r9,r2⟩:=hrun
   refine⟨by omega,e3,h4,r1,P',y::Q,by rw[hA];simp,by omega,(fx.trans (.of y2)).trans f4,R4,fun z hz=>?_,r9,fun j hj=>(r2 j hj).trans (ts j hj)⟩
   rcases List.mem_cons.1 hz with rfl|hz
   ·exact hc
   ·exact hQ z hz
  ·right
   have c2:iLt (Gz x y) 0=false:=GT (by omega)
   have hrun:∃ e3,jnB (call AF (m+3)) e' g=.exit 2 e3 h3∧∀ j,j=0∨j=1∨j=2∨j=3∨j=8→AB j e3=AB j e':=by
    rw[RS]
    unfold bG
    simp only[sT,Nat.reduceLT,Nat.reduceEqDiff,reduceIte,gD,BA,AO,AN,t9,t1,c1,t3,t0,A8,ix,Aw,Av,ld,Bz,a1,iy,ldy,q2,c2]
    refine⟨_,rfl,fun j hj=>?_⟩
    rcases hj with rfl|rfl|rfl|rfl|rfl<;>simp only[AH,Nat.reduceLT,Nat.reduceEqDiff,reduceIte]
   obtain⟨e3,r1,r2⟩:=hrun
   rw[r1]
   refine⟨rfl,e3,h3,rfl,fx.trans (.of y2),?_,fun j hj=>(r2 j hj).trans (ts j hj)⟩
   rw[hA,TT hQ (.inr ⟨P',y,rfl,hc⟩),List.append_assoc,List.append_assoc]
   exact R3
theorem YW(W:h.Wf){ks:List Kt}(Rw:h.Row bl 84 (flK ks++Z))(h256:256≤bl)(hn:n=ks.length)(hc:n≤c)(hl:n≤1000)(hu:∀ k∈ks,A0 k.u=true):
  ∃ h',call AF (m+4) 97 [.slice (some ⟨bl,0,none⟩) n c,.int .i64 0,.int .i64 (n:Int),.func (.func 51) ⟨[]⟩ ⟨[]⟩] h=.ok noRes h'∧Fx (fun b=>b=bl) h h'∧h'.Row bl 84 (flK (srt (ks.take 1) (ks.drop 1))++Z):=by
 have run:∀ e1:Env,AB 0 e1=.slice (some ⟨bl,0,none⟩) n c→AB 1 e1=.int .i64 0→AB 2 e1=.int .i64 (n:Int)→AB 3 e1=.func (.func 51) ⟨[]⟩ ⟨[]⟩→AB 8 e1=.int .i64 ((1:Nat):Int)→∃ e' h',Az jsB (call AF (m+3)) e1 h=.exit 0 e' h'∧Fx (fun b=>b=bl) h h'∧h'.Row bl 84 (flK (srt (ks.take 1) (ks.drop 1))++Z):=fun e1 s0 s1 s2 s3 s8=>by
  refine Be (I:=fun i e' g=>∃ A B,A.length+B.length=ks.length∧(A.length=i+1∨(B=[]∧A.length≤i+1))∧srt A B=srt (ks.take 1) (ks.drop 1)∧(∀ k∈A++B,A0 k.u=true)∧Fx (fun b=>b=bl) h g∧g.Row bl 84 (flK (A++B)++Z)∧AB 0 e'=.slice (some ⟨bl,0,none⟩) n c∧AB 1 e'=.int .i64 0∧AB 2 e'=.int .i64 (n:Int)∧AB 3 e'=.func (.func 51) ⟨[]⟩ ⟨[]⟩∧AB 8 e'=.int .i64 ((i+1:Nat):Int))
   (Q:=fun x=>∃ e' h',x=.exit 0 e' h'∧Fx (fun b=>b=bl) h h'∧h'.Row bl 84 (flK (srt (ks.take 1) (ks.drop 1))++Z)) n (by omega) (fun i e' g ⟨A,B,hAB,hAi,hsr,hu',fx,R,t0,t1,t2,t3,t8⟩=>?_) ⟨ks.take 1,ks.drop 1,by rw[List.length_take,List.length_drop];omega,?_,rfl,by rw[List.take_append_drop];exact hu,.refl W,by rw[List.take_append_drop];exact Rw,s0,s1,s2,s3,s8⟩
  ·have W':=fx.wf
   cases B with
   |nil=>
    right
    have hA:A.length=n:=by simp only[List.length_nil]at hAB;omega
    have c1:iLt ((i+1:Nat):Int) (n:Int)=false:=DD (by omega)
    have hrun:∃ e3,jsB (call AF (m+3)) e' g=.exit 0 e3 g:=by
     rw[N0]
     unfold XY
     simp only[sT,Nat.reduceLT,Nat.reduceEqDiff,reduceIte,AO,AN,t8,t2,c1]
     exact⟨_,rfl⟩
    obtain⟨e3,r1⟩:=hrun
    rw[r1]
    refine⟨rfl,e3,g,rfl,fx,?_⟩
    rw[← hsr]
    rw[List.append_nil]at R
    exact R
   |cons x B=>
    left
    rw[List.length_cons]at hAB
    have hA:A.length=i+1:=by
     rcases hAi with h1|⟨h1,_⟩
     ·exact h1
     ·cases h1
    have c1:iLt ((i+1:Nat):Int) (n:Int)=true:=Eo (by omega)
    obtain⟨e2,h2,i1,f2,R2,i2⟩:=XV (m:=m) (e:=Env.set 9 (.int .i64 ((i+1:Nat):Int)) (Env.set 14 (.bool true) e')) W' R h256 (by rw[List.length_append,List.length_cons];omega) hc hl hu' (by simp[AH,t0]) (by simp[AH,t1]) (by simp[AH,t3]) (by simp only[AH,Nat.reduceLT,Nat.reduceEqDiff,reduceIte,hA])
    have g0:=i2 0 (by omega)
    have g1:=i2 1 (by omega)
    have g2:=i2 2 (by omega)
    have g3:=i2 3 (by omega)
    have g8:=i2 8 (by omega)
    simp only[AH,Nat.reduceLT,Nat.reduceEqDiff,reduceIte,t0]at g0
    simp only[AH,Nat.reduceLT,Nat.reduceEqDiff,reduceIte,t1]at g1
    simp only[AH,Nat.reduceLT,Nat.reduceEqDiff,reduceIte,t2]at g2
    simp only[AH,Nat.reduceLT,Nat.reduceEqDiff,reduceIte,t3]at g3
    simp only[AH,Nat.reduceLT,Nat.reduceEqDiff,reduceIte,t8]at g8
    have a3:FD .i64 (.int .i64 ((i+1:Nat):Int)) (.int .i64 1) h2=.ok (.int .i64 ((i+1+1:Nat):Int)) h2:=CR (by omega)
    have hrun:∃ e3,jsB (call AF (m+3)) e' g=.norm e3 h2∧AB 0 e3=.slice (some ⟨bl,0,none⟩) n c∧AB 1 e3=.int .i64 0∧AB 2 e3=.int .i64 (n:Int)∧AB 3 e3=.func (.func 51) ⟨[]⟩ ⟨[]⟩∧AB 8 e3=.int .i64 ((i+1+1:Nat):Int):=by
     rw[N0]
     unfold XY
     simp only[sT,Nat.reduceLT,Nat.reduceEqDiff,reduceIte,AO,AN,t8,t2,c1,i1,g8,BR,a3]
     exact⟨_,rfl,by simp[AH,g0,g1,g2,g3]⟩
    obtain⟨e3,r1,r2,r3,r4,r5,r6⟩:=hrun
    refine⟨by omega,e3,h2,r1,Hx A x,B,by rw[LW];omega,.inl (by rw[LW];omega),hsr,fun k hk=>?_,fx.trans f2,R2,r2,r3,r4,r5,r6⟩
    rcases List.mem_append.1 hk with h1|h1
    ·rcases PT.1 h1 with rfl|h1
     ·exact hu' _ (List.mem_append_right _ List.mem_cons_self)
     ·exact hu' k (List.mem_append_left _ h1)
    ·exact hu' k (List.mem_append_right _ (List.mem_cons_of_mem _ h1))
  ·cases ks with
   |nil=>exact .inr ⟨rfl,Nat.zero_le _⟩
   |cons k ks=>exact .inl rfl
 have a1:FD .i64 (.int .i64 0) (.int .i64 1) h=.ok (.int .i64 ((1:Nat):Int)) h:=CR (i:=0) (by omega)
 obtain⟨e2,h2,r1,x2⟩:=run (Env.set 8 (.int .i64 ((1:Nat):Int)) (Env.set 11 (.int .i64 ((1:Nat):Int)) (AV e0 0 [.slice (some ⟨bl,0,none⟩) n c,.int .i64 0,.int .i64 (n:Int),.func (.func 51) ⟨[]⟩ ⟨[]⟩]))) (by simp only[iN,Nat.reduceAdd,AH,Nat.reduceLT,Nat.reduceEqDiff,reduceIte]) (by simp only[iN,Nat.reduceAdd,AH,Nat.reduceLT,Nat.reduceEqDiff,reduceIte]) (by simp only[iN,Nat.reduceAdd,AH,Nat.reduceLT,Nat.reduceEqDiff,reduceIte]) (by simp only[iN,Nat.reduceAdd,AH,Nat.reduceLT,Nat.reduceEqDiff,reduceIte]) (by simp[AH])
 simp only[iN,Nat.reduceAdd]at r1
 refine⟨h2,?_,x2⟩
 rw[We rfl,W7]
 unfold aR
 simp only[iN,Nat.reduceAdd,sT,Nat.reduceLT,Nat.reduceEqDiff,reduceIte,BR,a1,r1,Dc,DW]
def GU(ks:List Kt):List Kt:=srt (ks.take 1) (ks.drop 1)
theorem Y1(W:h.Wf){ks:List Kt}(Rw:h.Row bl 84 (flK ks++Z))(h256:256≤bl)(hn:n=ks.length)(hc:n≤c)(hl:n≤12)(hu:∀ k∈ks,A0 k.u=true):
  ∃ h',call AF (m+6) 50 [.slice (some ⟨bl,0,none⟩) n c,.func (.func 51) ⟨[]⟩ ⟨[]⟩] h=.ok noRes h'∧Fx (fun b=>b=bl) h h'∧h'.Row bl 84 (flK (GU ks)++Z):=by
 obtain⟨h2,k2,x2,R2⟩:=YW (m:=m) W Rw h256 hn hc (by omega) hu
 obtain⟨k,kb⟩:=NZ (m:=m+3) (h:=h) (n:=n) (by omega)
 have cv:DQ .u64 (.int .i64 (n:Int)) h=.ok (.int .u64 (n:Int)) h:=by rw[Ck,D4 (by omega)]
 have a1:FE Int.sub .i64 (.int .i64 (n:Int)) (.int .i64 0) h=.ok (.int .i64 (n:Int)) h:=by
  have:Int.sub (n:Int) 0=(n:Int):=Int.sub_zero _
  rw[CO,this,Bg (by omega)]
 have c1:iLe (n:Int) 12=true:=Jx (by omega)
 have pd:call AF (m+5) 77 [.slice (some ⟨bl,0,none⟩) n c,.int .i64 0,.int .i64 (n:Int),.int .i64 (k:Int),.func (.func 51) ⟨[]⟩ ⟨[]⟩] h=.ok noRes h2:=by
  have hb:∃ e2,pdB (call AF (m+4)) (Env.set 11 (.bool true) (Env.set 10 (.bool true) (AV e0 0 [.slice (some ⟨bl,0,none⟩) n c,.int .i64 0,.int .i64 (n:Int),.int .i64 (k:Int),.func (.func 51) ⟨[]⟩ ⟨[]⟩]))) h=.ret e2 h2:=by
   rw[Ya]
   unfold kY
   simp only[iN,Nat.reduceAdd,sT,Nat.reduceLT,Nat.reduceEqDiff,reduceIte,Bz,a1,AO,AN,c1,cA0,k2]
   exact⟨_,rfl⟩
  obtain⟨e2,r1⟩:=hb
  have r1:=Ld r1
  simp only[iN,Nat.reduceAdd]at r1
  rw[Wb rfl,W3]
  unfold aN
  simp only[iN,Nat.reduceAdd,sT,Nat.reduceLT,Nat.reduceEqDiff,reduceIte,r1,Bp,DW]
 refine⟨h2,?_,x2,R2⟩
 rw[WY rfl]
 unfold d50
 simp only[iN,Nat.reduceAdd,sT,Nat.reduceLT,Nat.reduceEqDiff,reduceIte,Am,Ea,CN,cv,cA0,kb,pd,Dc,DW]
end
end
noncomputable section
open Go
set_option maxRecDepth 100000
def prC:C:=(AE (AC 104) (AM 46 [(AB 0),(AB 14)])
(AE (AC 106) (AM 45 [(AB 0),(AB 104),(AB 15)])
(AE (AC 107) (A9 1 8 75 (AB 17) (AB 106))
(AE (AC 108) (AM 47 [(AB 0),(AB 107)])
(AE (AC 18) (AD (AB 108))
(AE (AC 110) (AW iNe .i64 (AB 18) (kV (.int .i64 0)))
(AS (AB 110)
(AE (AC 10) (AD (AB 18))
Ad)
(AE (AC 114) (BM (AB 0))
(AE (AC 115) (AG 4 (AB 114))
(AE (AC 116) (AK (AB 115))
(AE (AC 117) (DE 3 1 (AB 116) (some (kV (.int .i64 1))) none none)
(AE (AC 118) (AM 48 [(AB 117)])
(AE (AC 119) (BM (AB 0))
(AE (AC 120) (AG 4 (AB 119))
(cDo (Af 1 (AB 120) (AB 118))
(BW (AE (AC 123) (BM (AB 0))
(AE (AC 124) (AG 3 (AB 123))
(AE (AC 125) (AK (AB 124))
(AE (AC 126) (Ac .weak (AM 49 [(AB 125)]))
(Dm (AB 12) (CW (AB 12) []
(AE (AC 127) (Ax 5 (AB 12))
(AE (AC 129) (Bm De.zero [(0,5,(AB 127)),(5,1,(AB 14))])
(AE (AC 130) (Ac .strong (AZ 1 (BI De.zero 1) [(0,6,(AB 129))]))
(AE (AC 131) (Ac .free (A9 6 64 83 (AB 126) (AB 130)))
(AE (AC 132) (BM (AB 0))
(AE (AC 133) (AG 3 (AB 132))
(cDo (Ac .free (Af 1 (AB 133) (AB 131)))
(AE (AC 135) (BM (AB 0))
(AE (AC 136) (AG 3 (AB 135))
(AE (AC 137) (AK (AB 136))
(AE (AC 138) (AM 50 [(AB 137),(kV (.func (.func 51) #[] #[]))])
(AE (AC 10) (AD (kV (.int .i64 0)))
Ad))))))))))))))))))))))))))))))))))
def kh:C:=(BW (AE (AC 81) (BM (AB 0))
(AE (AC 82) (AG 1 (AB 81))
(AE (AC 83) (AK (AB 82))
(AE (AC 84) (Ax 5 (AB 12))
(AE (AC 85) (Ac .free (AM 44 [(AB 83),(AB 84)]))
(AE (AC 86) (Aa 0 (AB 85))
(AE (AC 87) (Aa 1 (AB 85))
(AE (AC 15) (AD (AB 86))
(AE (AC 16) (AD (AB 87))
(AE (AC 17) (AD (kV (.slice none 0 0)))
(AE (AC 89) (BD (AB 4))
(AE (AC 90) (AW iGt .i64 (AB 89) (kV (.int .i64 0)))
(A2 (AS (AB 90)
(BW (AE (AC 94) (Ac .weak (AM 46 [(AB 0),(AB 14)]))
(AE (AC 95) (BZ .i64 (Ar .i64) (AB 94) (kV (.int .i64 1)))
(AE (AC 96) (AG 4 (AB 12))
(Dm (AB 96) (CW (AB 96) []
(AE (AC 97) (AK (AB 96))
(AE (AC 98) (Ac .free (AM 45 [(AB 0),(AB 95),(AB 97)]))
(AE (AC 17) (AD (AB 98))
AX)))))))))
AX)
prC))))))))))))))
theorem Ye:prB=kh:=rfl
theorem Hq:d11=MM:=rfl
section
variable {F:CallF}{e:Env}{h h' h0:Hp}{S:Nat→Prop}{A:At}{T M:List Nat}{c0 bad m k p:Nat}{arm:Int}{ks:List Kt}{fr:List Nat}{v lv fv:Value}{ov:Bool}
def VcI(h:Hp)(k:Nat)(v:Value)(l:List Nat):Prop:=(v=nilS∧l=[])∨Mk h k v l
theorem VcI.vals{k:Nat}{v:Value}{l:List Nat}(o:VcI h k v l):h.Vals v (l.map bv):=by
 rcases o with ⟨h1,h2⟩|o
 ·exact .inl ⟨h1,by rw[h2];rfl⟩
 ·exact o.vals
theorem VcI.ext{k:Nat}{v:Value}{l:List Nat}(o:VcI h k v l)(W:h.Wf)(x:h.Ext h'):VcI h' k v l:=by
 rcases o with o|o
 ·exact .inl o
 ·exact .inr (o.ext W x)
theorem VcI.same{k:Nat}{v:Value}{l:List Nat}(o:VcI h k v l)(hb:h'.bl=h.bl):VcI h' k v l:=by
 rcases o with o|o
 ·exact .inl o
 ·exact .inr (o.same hb)
theorem VcI.one{k:Nat}{v:Value}{l:List Nat}(o:VcI h k v l):cellsOf v=[v]∧A0 v=true∧known v=true:=by
 rcases o with ⟨h1,_⟩|⟨b,el,h1,_⟩<;>rw[h1]<;>exact⟨rfl,rfl,rfl⟩
def Hp.VE(h:Hp)(u:Value)(xs:List Value):Prop:=h.Vals u xs∨((∃ r,u=.chan (some r))∧xs=[])
theorem Hp.VE.bl{u:Value}{l:List Nat}(V:h.VE u (l.map bv))(g:Hp):lenSR u g=.ok (.int .i64 (l.length:Int)) g:=by
 rcases V with V|⟨⟨r,rfl⟩,h2⟩
 ·exact V.bl g
 ·rw[List.map_eq_nil_iff.1 h2];rfl
theorem Hp.VE.ext{u:Value}{xs:List Value}(V:h.VE u xs)(W:h.Wf)(x:h.Ext h'):h'.VE u xs:=V.imp (fun V=>V.ext W x) id
theorem Hp.VE.vals{u:Value}{xs:List Value}(V:h.VE u xs)(hl:0<xs.length):h.Vals u xs:=by
 rcases V with V|⟨_,h2⟩
 ·exact V
 ·rw[h2]at hl;cases hl
theorem Mb{n:Nat}(W:h.Wf){u:Value}{l:List Nat}(V:h.VE u (l.map bv))(hl:l.length≤900000):∃ h' v,call AF (n+1) 39 [u] h=.ok v h'∧h.Ext h'∧VcI h' h.next v l:=by
 rcases V with V|⟨⟨r,rfl⟩,h2⟩
 case inr=>
  obtain rfl:=List.map_eq_nil_iff.1 h2
  have x1:=(Hp.Ext.refl W).pushRow 0 []
  have R:=Hp.Row.new W 0 []
  have es:=fun (e:Env) (t:List Value)=>JO (F:=call AF n) (e:=e) (t:=t) W
  generalize h.pushRow 0 []=g at x1 R es
  have ne:∀ e:Env,AB 0 e=.chan (some r)→oEq KE.k false (AB 0) (kV (.slice none 0 0)) (call AF n) e h=.ok (.bool false) h:=fun e he=>by
   rw[ZC]
   show(match eqV (.slice 5) (AB 0 e) (.slice none 0 0)with|some r=>okB (false != r) h|none=>.no)=_
   rw[he]
   exact E5
  have big:=W.big
  have ap:DF 1 1 5 (.slice (some ⟨h.next,0,none⟩) 0 0) (.chan (some r)) g=.ok (.slice (some ⟨h.next,0,none⟩) 0 0) (g.wr h.next 0 []):=Gt x1.wf big R (fun k=>rfl) rfl
  have R2:=R.wr_self x1.wf (off:=0) (vs:=[]) (Nat.le_refl _)
  refine⟨_,.slice (some ⟨h.next,0,none⟩) 0 0,?_,R.wr_ext x1 (Nat.le_refl _) (off:=0) (vs:=[]) (Nat.le_refl _),.inr ⟨h.next,0,rfl,.inl rfl,R2,Nat.le_refl _⟩⟩
  rw[Hm rfl]
  unfold d39
  simp only[iN,Nat.reduceAdd,sT,Nat.reduceLT,Nat.reduceEqDiff,reduceIte,ne,es,BL,ap,lV0]
 have V0:=V
 rcases V with ⟨rfl,h2⟩|⟨b,off,c,el,L,h1,_⟩
 ·have ne:∀ e:Env,AB 0 e=.slice none 0 0→oEq KE.k false (AB 0) (kV (.slice none 0 0)) (call AF n) e h=.ok (.bool true) h:=fun e he=>Ie (t:=0) ZC he
  refine⟨h,nilS,?_,.refl W,.inl ⟨rfl,List.map_eq_nil_iff.1 h2⟩⟩
  rw[Hm rfl]
  unfold d39
  simp only[iN,Nat.reduceAdd,sT,Nat.reduceLT,Nat.reduceEqDiff,reduceIte,ne,lV0]
 ·rw[List.length_map]at h1
  rw[h1]at V0 ⊢
  obtain⟨h',v,a,b,c⟩:=Oo (n:=n) W V0 hl
  exact⟨h',v,a,b,.inr c⟩
theorem Hp.KN.same{k:Nat}{v:Value}{ks:List Kt}(o:h.KN k v ks)(hb:h'.bl=h.bl):h'.KN k v ks:=by
 rcases o with o|⟨h1,b,h2,h3,h4⟩
 ·exact .inl (o.same hb)
 ·exact .inr ⟨h1,b,h2,h3.same hb,h4⟩
theorem bJ(x0:h0.Ext h)(hk:h0.next≤k)(hk2:k≤h.next)(o:h.KN k v ks){x:Kt}(hu:A0 x.u=true)(hl:ks.length≤100000):
  ∃ h' v',DF 6 64 83 v (.slice (some ⟨h.next,0,none⟩) 1 1) (h.pushRow 0 (Ab x))=.ok v' h'∧h0.Ext h'∧h'.KO k v' (ks++[x])∧h.next≤h'.next:=by
 rcases o with o|⟨rfl,b,rfl,r,hb,h256⟩
 ·obtain⟨h',v',a1,a2,a3,a4,_⟩:=RZ x0 hk hk2 o hu hl
  exact⟨h',v',a1,a2,a3,a4⟩
 ·have W:=x0.wf
  have x1:=x0.pushRow 0 (Ab x)
  have y1:=(Hp.Ext.refl W).pushRow 0 (Ab x)
  have Rw:=Hp.Row.new W 0 (Ab x)
  have n1:(h.pushRow 0 (Ab x)).next=h.next+1:=rfl
  have r1:=r.ext W y1
  generalize h.pushRow 0 (Ab x)=h1 at x1 y1 Rw n1 r1
  have hs:∀ K:List Value→R,BN h1 6 (.slice (some ⟨h.next,0,none⟩) 1 1) 1 K=K (Ab x):=fun K=>Rw.srcE (es:=6) (off:=0) (n:=1) (by show 0+1 * 6≤6;omega)
  obtain⟨h5,a1,a2,a3,a4,_⟩:=ED (eb:=64) (en:=83) x1 r1 hs rfl rfl (by omega) (F6 hu) (by omega)
  refine⟨h5,_,a1,a2,.inr ⟨h1.next,rfl,?_,by omega,by have:=W.big;omega⟩,by omega⟩
  show h5.Row h1.next 84 (Ab x++[])
  rw[List.append_nil];exact a3
theorem Fx.fresh{S:Nat→Prop}{h h1 h2:Hp}{b:Nat}(a:Fx S h h1)(x:Fx (fun i=>i=b) h1 h2)(hb:h.next≤b):Fx S h h2:=
 ⟨Nat.le_trans a.next x.next,fun i hi hs=>by
  have:=a.next
  rw[x.get i (by omega) (by omega),a.get i hi hs],x.wf,fun L q1 q2 q3=>x.low L (a.low L q1 q2 q3) (Nat.le_trans q2 a.next) fun i hi=>by rw[hi];omega⟩
theorem UE{z:Kt}:∀ {B A:List Kt},z∈srt A B↔z∈A∨z∈B
 |[],A=>by simp[srt]
 |x::B,A=>by
  show z∈srt (Hx A x) B↔_
  rw[UE,PT,List.mem_cons]
  constructor
  ·rintro ((h|h)|h)
   ·exact .inr (.inl h)
   ·exact .inl h
   ·exact .inr (.inr h)
  ·rintro (h|h|h)
   ·exact .inl (.inr h)
   ·exact .inl (.inl h)
   ·exact .inr h
theorem UD:∀ (B A:List Kt),(srt A B).length=A.length+B.length
 |[],A=>rfl
 |x::B,A=>by
  show(srt (Hx A x) B).length=_
  rw[UD,LW,List.length_cons];omega
theorem Vi{z:Kt}{ks:List Kt}:z∈GU ks↔z∈ks:=by
 unfold GU
 rw[UE,← List.mem_append,List.take_append_drop]
theorem NO(ks:List Kt):(GU ks).length=ks.length:=by
 unfold GU
 rw[UD,List.length_take,List.length_drop];omega
theorem Sl.lst{ks':List Kt}{bl:Nat}{L0:List Value}(s:Sl h A T M c0 arm ks fr lv fv bad ov)(W:h.Wf)(x:Fx (fun b=>b=bl) h h')(nbl:¬ A.D bl)(Rl:h.Row bl 84 L0)(ls:h'.KS (fun b=>¬ A.D b) lv ks')(hm:∀ k∈ks',k∈ks)(hn:ks'.length=ks.length):Sl h' A T M c0 arm ks' fr lv fv bad ov:=by
 have kp:∀ b el L,b≠bl→h.Row b el L→h'.Row b el L:=fun b el L hb r=>x.row W r hb
 have nb:∀ b el L,(el=0∨el=6∨el=4)→h.Row b el L→b≠bl:=fun b el L he r=>ES r Rl (by omega)
 refine⟨kp _ _ _ (nb _ _ _ (.inl rfl) s.row) s.row,s.dk.fr W x (nb _ _ _ (.inl rfl) s.dk.disk) (nb _ _ _ (.inl rfl) s.dk.med) (fun h=>(It Rl s.dk.map) h.symm),kp _ _ _ (nb _ _ _ (.inl rfl) s.tab) s.tab,s.tok,ls,fun y hy=>⟨(s.ko y (hm y hy)).1.keep fun b el L hb he r=>kp b el L (nb b el L (by omega) r) r,(s.ko y (hm y hy)).2⟩,?_,s.ne,by rw[hn];exact s.le⟩
 rcases s.fs with h1|⟨b,el,h1,h2,h3,h4⟩
 ·exact .inl h1
 ·exact .inr ⟨b,el,h1,kp _ _ _ (nb b el _ (by omega) h2) h2,h3,h4⟩
theorem Yg(W:h.Wf)(s:Sl h A T M c0 arm ks (p::fr) lv fv bad false){a b c:Int}{l:List Nat}{u:Value}(V:h.VE u (l.map bv))(hb:∀ x∈l,x<256)(hl:l.length≤100)
  (hr:B4 a b c 1 l.length=true)(hf:ks.any (CG a b c)=false)(hst:Cg a b c ks=false)(hkl:ks.length≤10)(ha:Bu arm (k+10)):
  ∃ h' c1 arm' lv' fv' k',call AF (m+8) 11 [pt A.bs,.int .i64 a,.int .i64 b,.int .i64 c,u] h=.ok (.int .i64 0) h'∧Fx A.D h h'∧
   Sl h' A T (LE T M p l (Cn T a b c 1 l)) c1 arm' (GU (ks++[k'])) fr lv' fv' bad false∧k'.core=⟨a,b,c,1,l,p⟩∧Bu arm' k:=by
 have big:=W.big
 have hD:=s.D_lt W
 have hp3:3 * p+3≤A.n:=s.le.2.2.2 p List.mem_cons_self
 have hn:=s.dk.n1
 have hH:=Mt (T:=T) hr
 have hHb:=PN (T:=T) (a:=a) (b:=b) (c:=c) (s:=1) (l:=l)
 have c00:iNe 0 0=false:=CT rfl
 have k0:=MJ (m:=m+6) s.row
 obtain⟨h1,vc,k1,x1,mk1⟩:=Mb (n:=m+6) W V (by omega)
 have oc:=mk1.one
 have bl:=fun (F:CallF) (e:Env) (e1:AB 1 e=.int .i64 a) (e2:AB 2 e=.int .i64 b) (e3:AB 3 e=.int .i64 c) (e4:AB 28 e=vc)=>Ol (F:=F) (h:=h1) (g1:=AB 1) (g2:=AB 2) (g3:=AB 3) (g5:=AB 28) e1 e2 e3 e4 oc.1 oc.2.2
 have al:=fun (F:CallF) (e:Env)=>B7 (F:=F) (e:=e) x1.wf (n:=5) (t:=DU)
 have Ra:=Hp.Row.alloc x1.wf HZ (show(A3 0 0 0 0 nilS).length=5 from rfl)
 have y2:h1.Ext (h1.push (.cells DU 5 0)):=(Hp.Ext.refl x1.wf).push _
 have n2:(h1.push (.cells DU 5 0)).next=h1.next+1:=rfl
 generalize h1.push (.cells DU 5 0)=h2 at al Ra y2 n2
 obtain⟨st,_,y3,R12,n3⟩:=OO x1.wf y2 (Nat.le_refl _) Ra rfl (a:=a) (b:=b) (c:=c) (s:=1) (u:=vc) oc.2.1
 generalize h2.wr h1.next 0 (A3 a b c 1 vc)=h3 at st y3 R12 n3
 have x3:=x1.trans y3
 obtain⟨_,_,_,_,_,ld12⟩:=B9 R12
 have lnc:∀ g,lenSR vc g=.ok (.int .i64 (l.length:Int)) g:=fun g=>mk1.vals.bl g
 have k4:=Ir (n:=m+6) x3.wf (a:=a) (b:=b) (c:=c) (s:=1) (u:=vc) lnc
 rw[hr]at k4
 have y4:=(Hp.Ext.refl x3.wf).pushRow 0 (A3 a b c 1 vc)
 generalize h3.pushRow 0 (A3 a b c 1 vc)=h4 at k4 y4
 have x4:=x3.trans y4
 have lnu:∀ g:Hp,lenSR u g=.ok (.int .i64 (l.length:Int)) g:=fun g=>V.bl g
 obtain⟨_,_,l2,_⟩:=BC (s.row.ext W x4)
 have c1:iGt (l.length:Int) 100=false:=Ei (by omega)
 have s4:=s.ext W x4
 obtain⟨h5,k5,x5⟩:=HI (m:=m+4) x4.wf s4.row s4.ls.ks (by omega) a b c
 have hidx:Fa (CG a b c) 0 ks= -1:=by
  rcases Nq (CG a b c) ks 0 with ⟨_,h2⟩|⟨h1,_⟩
  ·exact h2
  ·rw[hf]at h1;cases h1
 rw[hidx]at k5
 have c2:iGe (-1) 0=false:=Ez (by omega)
 have x45:=x4.trans x5
 have s5:=s.ext W x45
 obtain⟨h6,k6,x6⟩:=Fw (m:=m+3) x45.wf s5.row s5.ls.ks (by omega) a b c
 rw[hst]at k6
 have x46:=x45.trans x6
 have s6:=s.ext W x46
 obtain⟨_,l1,_,_,l4,_⟩:=BC s6.row
 have hil:(ints .i64 ((p::fr).map Int.ofNat)).length=fr.length+1:=by unfold ints;rw[List.length_map,List.length_map];rfl
 have lnf:=s6.fs.vals.len
 rw[hil]at lnf
 have c3:iEq ((fr.length+1:Nat):Int) 0=false:=Bd (by omega)
 obtain⟨af,g1,g2⟩:=s6.fs.vals.at (i:=0) (by rw[hil];omega)
 have g1:idxSR 1 fv (.int .i64 0) h6=.ok (.pointer (some af)) h6:=g1
 have g2:Gq (.pointer (some af)) h6=.ok (.int .i64 (p:Int)) h6:=g2
 have pre:∃ e1,MM (call AF (m+7)) (AV e0 0 [pt A.bs,.int .i64 a,.int .i64 b,.int .i64 c,u]) h=prB (call AF (m+7)) e1 h6∧AB 0 e1=pt A.bs∧AB 4 e1=u∧AB 12 e1=pt h1.next∧AB 14 e1=.int .i64 (p:Int):=by
  unfold MM
  simp only[iN,Nat.reduceAdd,sT,Nat.reduceLT,Nat.reduceEqDiff,reduceIte,gD,cA0,k0,AO,AN,c00,k1,bl,al,Ao,st,Aw,Av,ld12,k4,Bt,Br,Bool.not_true,Am,lnu,Ay,Aq,AJ,AQ,Nat.zero_add,AP,AU,l2,c1,k5,c2,k6,l4,lnf,c3]
  rw[A8]
  simp only[sT,Nat.reduceLT,Nat.reduceEqDiff,reduceIte,g1,AP,g2]
  exact⟨_,rfl,by simp[AH]⟩
 obtain⟨e1,p1,t0,t4,t12,t14⟩:=pre
 have x6m:=x46.marked
 have R12m:h6.marked.Row h1.next 0 (A3 a b c 1 vc):=(((R12.ext x3.wf y4).ext x4.wf x5).ext x45.wf x6).same rfl
 obtain⟨_,_,_,_,_,ld12m⟩:=B9 R12m
 obtain⟨_,l1m,_⟩:=BC (s.row.ext W x6m)
 have mkm:VcI h6.marked h.next vc l:=((mk1.ext x1.wf y3).ext x3.wf ((y4.trans x5).trans x6)).same rfl
 obtain⟨h7,x7,hd⟩:=TH (n:=m+4) x6m.quiet.wf ((s.tab.ext W x6m).same (h':=h6.marked.quiet) rfl) s.tok (a:=a) (b:=b) (c:=c) (s:=1) ((mkm.vals).same (h':=h6.marked.quiet) rfl) hb (by omega) (by omega)
 rcases hd with ⟨_,vh,k7,mkh⟩|⟨hrf,_⟩
 case inr=>rw[hr]at hrf;cases hrf
 have q7:∀ e:Env,AB 83 e=pt A.tb→AB 84 e=B1 a b c 1 vc→Ac .free (AM 44 [AB 83,AB 84]) (call AF (m+7)) e h6.marked=.ok (.tuple ⟨[vh,.int .i64 0]⟩) (h6.marked.back h7):=fun e e1 e2=>by
  refine Bb ?_
  rw[Bk,Ah,Ah,A7,e1,e2];exact k7
 have y8:h6.Ext (h6.marked.back h7):=(Hp.Ext.refl x46.wf).marked.trans (.back x7)
 have mkh8:Mk (h6.marked.back h7) h6.next vh (Cn T a b c 1 l):=mkh.same rfl
 generalize h6.marked.back h7=h8 at q7 y8 mkh8
 have x8:=x46.trans y8
 have R12x:∀ g:Hp,h6.Ext g→g.Row h1.next 0 (A3 a b c 1 vc):=fun g x=>((((R12.ext x3.wf y4).ext x4.wf x5).ext x45.wf x6)).ext x46.wf x
 have hrunB:∃ e2 h11 dv1 ds1,prB (call AF (m+7)) e1 h6=prC (call AF (m+7)) e2 h11∧AB 0 e2=pt A.bs∧AB 12 e2=pt h1.next∧AB 14 e2=.int .i64 (p:Int)∧AB 15 e2=vh∧AB 17 e2=dv1∧h8.Ext h11∧CD h11 A h8.next dv1 ds1∧((l≠[]∧ds1=MK p l)∨(l=[]∧ds1=[])):=by
  rcases Nat.eq_zero_or_pos l.length with hz|hz
  ·have hl0:l=[]:=List.eq_nil_of_length_eq_zero hz
   have c4:iGt (l.length:Int) 0=false:=Ei (by omega)
   have hrun:∃ e2,prB (call AF (m+7)) e1 h6=prC (call AF (m+7)) e2 h8∧AB 0 e2=pt A.bs∧AB 12 e2=pt h1.next∧AB 14 e2=.int .i64 (p:Int)∧AB 15 e2=vh∧AB 17 e2=nilS:=by
    rw[Ye]
    unfold kh
    simp only[sT,Nat.reduceLT,Nat.reduceEqDiff,reduceIte,BA,Ay,t0,Aq,AJ,AQ,Nat.zero_add,AP,AU,l1m,Aw,Av,t12,ld12m,q7,BV,Bj,Bo,Am,t4,lnu,AO,AN,c4]
    exact⟨_,rfl,by simp[AH,t0,t12,t14]⟩
   obtain⟨e2,r1,u0,u12,u14,u15,u17⟩:=hrun
   exact⟨e2,h8,nilS,[],r1,u0,u12,u14,u15,u17,.refl x8.wf,⟨[],.inl ⟨rfl,rfl⟩,rfl,fun i w x hw _=>by cases hw⟩,.inr ⟨hl0,rfl⟩⟩
  ·have c4:iGt (l.length:Int) 0=true:=Fl (by omega)
   have mk1':Mk h1 h.next vc l:=by
    rcases mk1 with ⟨_,h2⟩|h2
    ·rw[h2]at hz;exact absurd hz (Nat.lt_irrefl 0)
    ·exact h2
   have x8m:=x8.marked
   have s8m:=s.ext W x8m
   have k9:=MX (m:=m+5) (s8m.row.same (h':=h8.marked.quiet) rfl) (p:=p) (by omega)
   have q9:∀ e:Env,AB 0 e=pt A.bs→AB 14 e=.int .i64 (p:Int)→Ac .weak (AM 46 [AB 0,AB 14]) (call AF (m+7)) e h8.marked=.ok (.int .i64 ((p * 3:Nat):Int)) (h8.marked.back h8.marked.quiet):=fun e e1 e2=>by
    refine G1 x8m.wf ?_ (Nat.le_refl _)
    rw[Bk,Ah,Ah,A7,e1,e2];exact k9
   have y9:h8.Ext (h8.marked.back h8.marked.quiet):=Hp.Ext.back2 (Hp.Ext.refl x8.wf).marked (Hp.Ext.refl x8.wf).marked.quiet
   have n9:(h8.marked.back h8.marked.quiet).next=h8.next:=rfl
   have m9:(h8.marked.back h8.marked.quiet).mark=h8.next:=rfl
   generalize h8.marked.back h8.marked.quiet=h9 at q9 y9 n9 m9
   have x9:=x8.trans y9
   have ad:=CR (h:=h9) (i:=p * 3) (by omega)
   obtain⟨_,_,_,_,lv12,_⟩:=B9 (R12x h9 (y8.trans y9))
   have hr12:h1.next<h9.mark:=by
    rw[m9]
    have:=(R12x h8 y8).lt x8.wf
    exact this
   have old9:∀ (off:Nat) (kk:C) (F:CallF) (e:Env),Jf (.pointer (some ⟨h1.next,off,none⟩)) kk F e h9=kk F e h9:=fun off kk F e=>Dw hr12
   have s9:=s.ext W x9
   have mk9:Mk h9 h.next vc l:=(((mk1'.ext x1.wf y3).ext x3.wf ((y4.trans x5).trans x6)).ext x46.wf (y8.trans y9))
   obtain⟨h10,dv1,k10,x10,D1⟩:=Jm (m:=m+6) x9.wf.quiet (s9.row.same (h':=h9.quiet) rfl) (fun b hb=>by have:=hD b hb;have:=x9.next;show b<h9.next;omega) (sct:=p * 3+1) (by omega) (mk9.same (h':=h9.quiet) rfl) (by omega)
   have q10:∀ e:Env,AB 0 e=pt A.bs→AB 95 e=.int .i64 ((p * 3+1:Nat):Int)→AB 97 e=vc→Ac .free (AM 45 [AB 0,AB 95,AB 97]) (call AF (m+7)) e h9=.ok dv1 (h9.back h10):=fun e e1 e2 e3=>by
    refine Bb ?_
    rw[Bk,Ah,Ah,Ah,A7,e1,e2,e3];exact k10
   have y11:h9.Ext (h9.back h10):=.back x10
   have D11:CD (h9.back h10) A h9.next dv1 (MK p l):=D1.same rfl
   generalize h9.back h10=h11 at q10 y11 D11
   have hrun:∃ e2,prB (call AF (m+7)) e1 h6=prC (call AF (m+7)) e2 h11∧AB 0 e2=pt A.bs∧AB 12 e2=pt h1.next∧AB 14 e2=.int .i64 (p:Int)∧AB 15 e2=vh∧AB 17 e2=dv1:=by
    rw[Ye]
    unfold kh
    simp only[sT,Nat.reduceLT,Nat.reduceEqDiff,reduceIte,BA,Ay,t0,Aq,AJ,AQ,Nat.zero_add,AP,AU,l1m,Aw,Av,t12,ld12m,q7,BV,Bj,Bo,Am,t4,lnu,AO,AN,c4,q9,t14,BR,ad,EP,old9,DV,lv12,q10]
    exact⟨_,rfl,by simp[AH,t0,t12,t14]⟩
   obtain⟨e2,r1,u0,u12,u14,u15,u17⟩:=hrun
   exact⟨e2,h11,dv1,MK p l,r1,u0,u12,u14,u15,u17,y9.trans y11,by rw[← n9];exact D11,.inl ⟨fun h=>by rw[h]at hz;exact absurd hz (Nat.lt_irrefl 0),rfl⟩⟩
 obtain⟨e2,h11,dv1,ds1,r1,u0,u12,u14,u15,u17,y811,D11,hds⟩:=hrunB
 have x11:=x8.trans y811
 have s11:=s.ext W x11
 have hd3:ds1.length≤3:=by
  rcases hds with ⟨_,rfl⟩|⟨_,rfl⟩
  ·unfold MK
   rw[List.length_append,List.length_map,List.length_range]
   show _+1≤3
   omega
  ·exact Nat.zero_le _
 have k11:=MX (m:=m+5) s11.row (p:=p) (by omega)
 have mkh11:Mk h11 h6.next vh (Cn T a b c 1 l):=(mkh8.ext x8.wf y811)
 obtain⟨h12,dv2,k12,x12,D2⟩:=Jm (m:=m+6) x11.wf s11.row (fun b hb=>by have:=hD b hb;have:=x11.next;omega) (sct:=p * 3) (by omega) mkh11 (by omega)
 rw[hH,show(List.range ((64+63) / 64)).map (fun j=>Deed.w (p * 3+j) (C6 (Cn T a b c 1 l) j))++[.f]=GV p (C6 (Cn T a b c 1 l) 0)from rfl,On hH]at D2
 have x12':=x11.trans x12
 obtain⟨h13,dv3,k13,x13,D3,n13,kp13⟩:=CD.app x12' (by have:=x8.next;omega) (by have:=y811.next;have:=x12.next;omega) (D11.ext x11.wf x12) D2 (by show 0<2;omega) (by
  show _+2≤1000
  omega)
 have s13:=s.ext W x13
 obtain⟨vs,w1,w2,w3⟩:=D3.ends fun b hb=>by have:=hD b hb;have:=x8.next;omega
 have hdl:(ds1++GV p (Cn T a b c 1 l)).length≤6:=by
  rw[List.length_append]
  show _+2≤6
  omega
 have hok:Eq A.n [] (ds1++GV p (Cn T a b c 1 l)):=by
  rcases hds with ⟨h0,rfl⟩|⟨_,rfl⟩
  ·exact co hp3 ⟨by rcases l with _|⟨_,_⟩;exact absurd rfl h0;exact Nat.succ_pos _,hl⟩ hb hH hHb
  ·exact Tl hp3 hH hHb
 obtain⟨h14,c14,arm14,k14,f14,d14,ea⟩:=Q1 (m:=m+2) x13.wf s13.row s.nK s13.dk w1 w2 w3 hok (ha.le (by omega)) (by omega)
 have hcs:(Fv M [] (ds1++GV p (Cn T a b c 1 l))).2=[]:=by
  have:ds1++GV p (Cn T a b c 1 l)=(ds1++[.w (p * 3) (Cn T a b c 1 l)])++[.f]:=by rw[List.append_assoc];rfl
  rw[this];exact MC _ _ _
 have hM:(Fv M [] (ds1++GV p (Cn T a b c 1 l))).1=LE T M p l (Cn T a b c 1 l):=by
  rcases hds with ⟨_,rfl⟩|⟨h0,rfl⟩
  ·rfl
  ·rw[h0];rfl
 rw[hcs,hM]at d14
 have s14:Sl h14 A T (LE T M p l (Cn T a b c 1 l)) c14 arm14 ks (p::fr) lv fv bad false:=(s13.sc.fx x13.wf f14).sl d14
 have a14:Bu arm14 k:=by rw[ea];exact Gf _ k arm (ha.le (by omega))
 obtain⟨_,_,_,l3',l4',_⟩:=BC s14.row
 obtain⟨wc,Vc,ct⟩:=Zy (xs:=ints .i64 (fr.map Int.ofNat)) (z:=.int .i64 (p:Int)) s14.fs
 have hone:Bh (ints .i64 (fr.map Int.ofNat))=true:=GY .i64 _
 obtain⟨h15,fv',k15,x15,wi15⟩:=jG (n:=m+6) f14.wf Vc hone (by have:=s.le.2.1;unfold ints;rw[List.length_map,List.length_map];rw[List.length_cons]at this;omega)
 have s15:=s14.ext f14.wf x15
 have onf:cellsOf fv'=[fv']∧A0 fv'=true:=by
  rcases wi15 with ⟨h1,_⟩|⟨b,el,h1,_⟩<;>rw[h1]<;>exact⟨rfl,rfl⟩
 obtain⟨h16,st16,row16,n16,f16,_⟩:=F8 x15.wf s15.row (off:=4) (show 4<7 by omega) s.ne.2.2.2.2 onf.1 onf.2
 have hDn14:∀ b,A.D b→b<h14.next:=fun b hb=>by have:=hD b hb;have:=x13.next;have:=f14.next;omega
 have row16:h16.Row A.bs 0 (slL A.bd A.tb lv fv' bad false):=row16
 have nbs:∀ b,¬ A.D b→b≠A.bs:=fun b hb h=>hb (.inl h)
 have s16:Sl h16 A T (LE T M p l (Cn T a b c 1 l)) c14 arm14 ks fr lv fv' bad false:=s15.bsx x15.wf f16 row16 (s15.ls.keep fun b el L hb r=>f16.row x15.wf r (nbs b hb)) (fun k hk=>⟨(s15.ko k hk).1.keep fun b el L hb _ r=>f16.row x15.wf r (nbs b hb),(s15.ko k hk).2⟩)
  (by
   rcases wi15 with h1|⟨b,el,h1,h2,h3,h4⟩
   ·exact .inl h1
   ·have hb:¬ A.D b:=fun h=>by have:=hDn14 b h;omega
    exact .inr ⟨b,el,h1,f16.row x15.wf h2 (nbs b hb),h3,hb⟩) ⟨s.le.1,by have:=s.le.2.1;rw[List.length_cons]at this;omega,s.le.2.2.1,fun q hq=>s.le.2.2.2 q (List.mem_cons_of_mem _ hq)⟩
 have W16:=f16.wf
 have xm16:=(Hp.Ext.refl W16).marked
 have s16m:=s16.ext W16 xm16
 obtain⟨_,_,_,l3m,_⟩:=BC s16m.row
 obtain⟨h17,w17,k17,x17,ko17⟩:=Ss (m:=m+6) xm16.quiet.wf ((s16m.same (h':=h16.marked.quiet) rfl).ls) (fun k hk=>(s16.ko k hk).1.vs.one.2.1) (by omega)
 have q17:∀ e:Env,AB 125 e=lv→Ac .weak (AM 49 [AB 125]) (call AF (m+7)) e h16.marked=.ok w17 (h16.marked.back h17):=fun e he=>by
  refine DK ?_ x17 (Nat.le_refl _)
  rw[Bk,Ah,A7,he];exact k17
 have y18:h16.Ext (h16.marked.back h17):=Hp.Ext.back2 xm16 (xm16.quiet.trans x17)
 have ko18:(h16.marked.back h17).KN h16.next w17 ks:=ko17.same rfl
 have m18:(h16.marked.back h17).mark=h16.next:=rfl
 generalize h16.marked.back h17=h18 at q17 y18 ko18 m18
 have hr12lt:h1.next<h6.next:=(R12x h6 (.refl x46.wf)).lt x46.wf
 have hl6:h6.next≤h13.next:=by
  have a1:=y8.next;have a2:=y811.next;have a4:=x12.next
  omega
 have nD12:¬ A.D h1.next:=fun h=>by have:=hD _ h;have:=x1.next;omega
 have R12':=kp13 _ _ _ (.inl rfl) (R12x h12 ((y8.trans y811).trans x12))
 have nK12:=Xo nD12
 have R1214:=f14.row x13.wf R12' nK12
 have R1216:=f16.row x15.wf (R1214.ext f14.wf x15) (nbs _ nD12)
 obtain⟨_,_,_,_,_,ld18⟩:=B9 (R1216.ext W16 y18)
 have old18:∀ (off:Nat) (kk:C) (F:CallF) (e:Env),Jf (.pointer (some ⟨h1.next,off,none⟩)) kk F e h18=kk F e h18:=fun off kk F e=>Dw (by
  rw[m18];exact R1216.lt W16)
 generalize hk':(⟨a,b,c,1,l,p,vc⟩:Kt)=k'
 have bd18:∀ (F:CallF) (e:Env),AB 127 e=B1 a b c 1 vc→AB 14 e=.int .i64 (p:Int)→Bm De.zero [(0,5,AB 127),(5,1,AB 14)] F e h18=.ok (ktV k') h18:=fun F e e1 e2=>by rw[← hk'];exact Sn e1 e2
 have hku:k'.u=vc:=by rw[← hk']
 have qs:∀ (F:CallF) (e:Env),AB 129 e=ktV k'→Ac .strong (AZ 1 (BI De.zero 1) [(0,6,AB 129)]) F e h18=.ok (.slice (some ⟨h18.next,0,none⟩) 1 1) (h18.back (h18.quiet.pushRow 0 (Ab k'))):=fun F e he=>DK (La y18.wf.quiet he) ((Hp.Ext.refl y18.wf.quiet).pushRow _ _) (by rw[m18];exact y18.next)
 have hn18:=y18.next
 have xX:h16.Ext (⟨h18.next,h18.next+1,0,h18.mark,h18.bl⟩:Hp):=⟨hn18,y18.get,by show _≤h18.next+1;omega,⟨y18.wf.big,y18.wf.has,y18.wf.fresh⟩⟩
 obtain⟨h20,lv',k20,x20,ko20,n20⟩:=bJ (k:=h16.next) xX (Nat.le_refl _) hn18 (ko18.same (h':=⟨h18.next,h18.next+1,0,h18.mark,h18.bl⟩) rfl) (x:=k') (by rw[hku];exact oc.2.1) (by omega)
 have q20:∀ (F:CallF) (e:Env),AB 126 e=w17→AB 130 e=.slice (some ⟨h18.next,0,none⟩) 1 1→Ac .free (A9 6 64 83 (AB 126) (AB 130)) F e (h18.back (h18.quiet.pushRow 0 (Ab k')))=.ok lv' ((h18.back (h18.quiet.pushRow 0 (Ab k'))).back h20):=fun F e e1 e2=>by
  refine Bb ?_
  rw[BL,e1,e2];exact k20
 have y21:h16.Ext ((h18.back (h18.quiet.pushRow 0 (Ab k'))).back h20):=Hp.Ext.back2 (Hp.Ext.back2 y18 (y18.quiet.pushRow _ _)) x20
 have ko21:((h18.back (h18.quiet.pushRow 0 (Ab k'))).back h20).KO h16.next lv' (ks++[k']):=ko20.same rfl
 generalize h18.back (h18.quiet.pushRow 0 (Ab k'))=h19 at qs q20 y21 ko21
 generalize h19.back h20=h21 at q20 y21 ko21
 have s21:=s16.ext W16 y21
 have onl:cellsOf lv'=[lv']∧A0 lv'=true:=⟨ko21.lst.one.1,ko21.lst.one.2.1⟩
 obtain⟨h22,st22,row22,n22,_,f22,_⟩:=RM y21.wf s21.row (off:=3) (show 3<7 by omega) s.ne.2.2.2.2 onl.1 onl.2
 have row22:h22.Row A.bs 0 (slL A.bd A.tb lv' fv' bad false):=row22
 have hDn16:∀ b,A.D b→b<h16.next:=fun b hb=>by have:=hDn14 b hb;have:=x15.next;have:=f16.next;omega
 have ko22:h22.KO h16.next lv' (ks++[k']):=ko21.keep fun b el L hb r=>f22.row y21.wf r (fun h=>by
  have:=(ko21.blk y21.wf hb).1
  have:=hDn16 A.bs (.inl rfl)
  omega)
 have bsv:h22.BS (fun b=>¬ A.D b) vc (l.map bv):=by
  have mk12:=(((mk1.ext x1.wf y3).ext x3.wf ((y4.trans x5).trans x6)).ext x46.wf (y8.trans y811)).ext x11.wf x12
  rcases mk12 with ⟨e1,e2⟩|⟨bq,eq,e1,e2,e3,e4⟩
  ·exact .inl ⟨e1,by rw[e2];rfl⟩
  ·have hb':¬ A.D bq:=fun h=>by have:=hD _ h;omega
   have r13:=kp13 _ _ _ e2 e3
   have r16:=f16.row x15.wf ((f14.row x13.wf r13 (Xo hb')).ext f14.wf x15) (nbs _ hb')
   exact .inr ⟨bq,0,l.length,eq,_,by rw[List.length_map];exact e1,by rw[List.length_map];exact Nat.le_refl _,f22.row y21.wf (r16.ext W16 y21) (nbs _ hb'),by omega,by rw[List.drop_zero,List.take_length],hb',e2⟩
 have s22:Sl h22 A T (LE T M p l (Cn T a b c 1 l)) c14 arm14 (ks++[k']) fr lv' fv' bad false:=s21.bsx y21.wf f22 row22 (by
   refine Hp.KW.ks ?_
   rcases ko22 with ⟨h1,h2⟩|⟨b,h1,h2,h3,_⟩
   ·exact .inl ⟨h1,h2⟩
   ·exact .inr ⟨b,h1,h2,fun h=>by have:=hDn16 b h;omega⟩) (fun x hx=>by
   rcases List.mem_append.1 hx with hx|hx
   ·exact⟨(s21.ko x hx).1.keep fun b el L hb _ r=>f22.row y21.wf r (nbs b hb),(s21.ko x hx).2⟩
   ·rw[List.mem_singleton.1 hx,← hk']
    exact⟨bsv,hb,hl,.inl rfl,hr,by show p<65536;omega⟩)
  (s21.fs.keep fun b el L hb r=>f22.row y21.wf r (nbs b hb)) ⟨by rw[List.length_append];show ks.length+1≤1000;omega,s16.le.2.1,s16.le.2.2.1,s16.le.2.2.2⟩
 have hcore:k'.core=⟨a,b,c,1,l,p⟩:=by rw[← hk'];rfl
 obtain⟨_,_,_,l3z,_⟩:=BC s22.row
 obtain⟨bl,hlw,Rl,hbk,hb256⟩:∃ bl,lv'=.slice (some ⟨bl,0,none⟩) (ks++[k']).length (ks++[k']).length∧h22.Row bl 84 (flK (ks++[k']))∧h16.next≤bl∧256≤bl:=by
  rcases ko22 with ⟨_,h2⟩|h2
  ·have:=congrArg List.length h2
   simp at this
  ·exact h2
 have nbl:¬ A.D bl:=fun h=>by have:=hDn16 bl h;omega
 obtain⟨h23,k23,f23,R23⟩:=Y1 (m:=m+1) (Z:=[]) (n:=(ks++[k']).length) (c:=(ks++[k']).length) f22.wf (by rw[List.append_nil];exact Rl) hb256 rfl (Nat.le_refl _) (by rw[List.length_append];show ks.length+1≤12;omega) fun k hk=>(s22.ko k hk).1.vs.one.2.1
 rw[← hlw]at k23
 have s23:Sl h23 A T (LE T M p l (Cn T a b c 1 l)) c14 arm14 (GU (ks++[k'])) fr lv' fv' bad false:=s22.lst f22.wf f23 nbl Rl (by
  rw[hlw,← NO]
  exact(OS R23 rfl (Nat.le_refl _)).mono fun b hb=>by rw[show b=bl from hb];exact nbl) (fun k hk=>(Vi).1 hk) (NO _)
 have fx:Fx A.D h h23:=by
  have e1:Fx A.D h h13:=.of x13
  have e2:Fx A.D h13 h14:=f14.mono fun b hb=>.inr hb
  have e3:Fx A.D h14 h15:=.of x15
  have e4:Fx A.D h15 h16:=f16.mono fun b hb=>.inl hb
  have e5:Fx A.D h16 h21:=.of y21
  have e6:Fx A.D h21 h22:=f22.mono fun b hb=>.inl hb
  have e7:=((((e1.trans e2).trans e3).trans e4).trans e5).trans e6
  have a1:=x13.next
  have a2:=f14.next
  have a3:=x15.next
  have a4:=f16.next
  exact e7.fresh f23 (by omega)
 refine⟨h23,c14,arm14,lv',fv',k',?_,fx,s23,hcore,a14⟩
 rw[Hl rfl,Hq,p1,r1]
 unfold prC
 have k11':call AF (m+7) 46 [pt A.bs,.int .i64 (p:Int)] h11=.ok (.int .i64 ((p * 3:Nat):Int)) h11:=k11
 have k12':call AF (m+7) 45 [pt A.bs,.int .i64 ((p * 3:Nat):Int),vh] h11=.ok dv2 h12:=k12
 have k14':call AF (m+7) 47 [pt A.bs,dv3] h13=.ok (.int .i64 0) h14:=k14
 have k15':call AF (m+7) 48 [wc] h14=.ok fv' h15:=k15
 have k23':call AF (m+7) 50 [lv',.func (.func 51) ⟨[]⟩ ⟨[]⟩] h22=.ok noRes h23:=k23
 simp only[sT,Nat.reduceLT,Nat.reduceEqDiff,reduceIte,cA0,u0,u14,k11',u15,k12',BL,u17,k13,k14',AO,AN,c00,Ay,Aq,AJ,AQ,Nat.zero_add,AP,AU,l4']
 rw[ct _ _ _ (by simp[AH])]
 simp only[sT,Nat.reduceLT,Nat.reduceEqDiff,reduceIte,cA0,u0,k15',Ay,Aq,AJ,AQ,Nat.zero_add,Ao,st16,BA,AP,AU,l3m,q17,u12,EP,old18,DV,Aw,Av,ld18,u14,bd18,qs,q20]
 rw[st22 _ _ _ _ (by simp[AH]) (by simp[AH])]
 simp only[sT,Nat.reduceLT,Nat.reduceEqDiff,reduceIte,u0,Ay,Aq,AJ,AQ,Nat.zero_add,AP,AU,l3z,cA0,k23',lV0]
end
end
noncomputable section
open Go
set_option maxRecDepth 100000
def cmL:C:=(AE (AC 100) (BM (AB 0))
(AE (AC 101) (AG 3 (AB 100))
(AE (AC 102) (AK (AB 101))
(AE (AC 103) (BD (AB 102))
(AE (AC 104) (AW iLt .i64 (AB 16) (AB 103))
(AS (AB 104)
(AY 2 (AE (AC 106) (BM (AB 0))
(AE (AC 107) (AG 3 (AB 106))
(AE (AC 108) (AK (AB 107))
(AE (AC 110) (BF 6 (AB 108) (AB 16))
(AE (AC 111) (Ax 6 (AB 110))
(AE (AC 17) (Bl 6 C5)
(cDo (Af 6 (AB 17) (AB 111))
(AE (AC 112) (AG 0 (AB 17))
(AE (AC 113) (AG 0 (AB 112))
(AE (AC 114) (AK (AB 113))
(AE (AC 116) (AW iEq .i64 (AB 114) (AB 1))
(cG (AB 116) true (AC 118) (AG 0 (AB 17))
(cG (AB 116) true (AC 119) (AG 1 (AB 118))
(cG (AB 116) true (AC 120) (AK (AB 119))
(cG (AB 116) true (AC 121) (AD (AB 2))
(cG (AB 116) true (AC 122) (AW iEq .i64 (AB 120) (AB 121))
(AE (AC 123) (Aj (AB 116) (AB 122) (kV (.bool false)))
(cG (AB 123) true (AC 125) (AG 0 (AB 17))
(cG (AB 123) true (AC 126) (AG 2 (AB 125))
(cG (AB 123) true (AC 127) (AK (AB 126))
(cG (AB 123) true (AC 128) (AD (AB 3))
(cG (AB 123) true (AC 129) (AW iLt .i64 (AB 127) (AB 128))
(AE (AC 130) (Aj (AB 123) (AB 129) (kV (.bool false)))
(AS (AB 130)
(AE (AC 134) (AM 52 [(AB 0),(AB 16)])
(AE (AC 135) (AZ 1 (BI ty3.zero 1) [(0,1,(AB 134))])
(AE (AC 136) (A9 1 8 3 (AB 15) (AB 135))
(AE (AC 15) (AD (AB 136))
AX))))
(AE (AC 138) (BZ .i64 (Ar .i64) (AB 16) (kV (.int .i64 1)))
(AE (AC 16) (AD (AB 138))
AX)))))))))))))))))))))))))))
(BK 1)))))))
def cmE:C:=(AE (AC 141) (AM 53 [(AB 0),(AB 15)])
(AE (AC 8) (AD (AB 141))
Ad))
def cmS:C:=(A2 (AY 1 (Az (AE (AC 100) (BM (AB 0))
(AE (AC 101) (AG 3 (AB 100))
(AE (AC 102) (AK (AB 101))
(AE (AC 103) (BD (AB 102))
(AE (AC 104) (AW iLt .i64 (AB 16) (AB 103))
(AS (AB 104)
(AY 2 (AE (AC 106) (BM (AB 0))
(AE (AC 107) (AG 3 (AB 106))
(AE (AC 108) (AK (AB 107))
(AE (AC 110) (BF 6 (AB 108) (AB 16))
(AE (AC 111) (Ax 6 (AB 110))
(AE (AC 17) (Bl 6 C5)
(cDo (Af 6 (AB 17) (AB 111))
(AE (AC 112) (AG 0 (AB 17))
(AE (AC 113) (AG 0 (AB 112))
(AE (AC 114) (AK (AB 113))
(AE (AC 116) (AW iEq .i64 (AB 114) (AB 1))
(cG (AB 116) true (AC 118) (AG 0 (AB 17))
(cG (AB 116) true (AC 119) (AG 1 (AB 118))
(cG (AB 116) true (AC 120) (AK (AB 119))
(cG (AB 116) true (AC 121) (AD (AB 2))
(cG (AB 116) true (AC 122) (AW iEq .i64 (AB 120) (AB 121))
(AE (AC 123) (Aj (AB 116) (AB 122) (kV (.bool false)))
(cG (AB 123) true (AC 125) (AG 0 (AB 17))
(cG (AB 123) true (AC 126) (AG 2 (AB 125))
(cG (AB 123) true (AC 127) (AK (AB 126))
(cG (AB 123) true (AC 128) (AD (AB 3))
(cG (AB 123) true (AC 129) (AW iLt .i64 (AB 127) (AB 128))
(AE (AC 130) (Aj (AB 123) (AB 129) (kV (.bool false)))
(AS (AB 130)
(AE (AC 134) (AM 52 [(AB 0),(AB 16)])
(AE (AC 135) (AZ 1 (BI ty3.zero 1) [(0,1,(AB 134))])
(AE (AC 136) (A9 1 8 3 (AB 15) (AB 135))
(AE (AC 15) (AD (AB 136))
AX))))
(AE (AC 138) (BZ .i64 (Ar .i64) (AB 16) (kV (.int .i64 1)))
(AE (AC 16) (AD (AB 138))
AX)))))))))))))))))))))))))))
(BK 1)))))))))
(AE (AC 141) (AM 53 [(AB 0),(AB 15)])
(AE (AC 8) (AD (AB 141))
Ad)))
theorem jI:cmS=A2 (AY 1 (Az cmL)) cmE:=rfl
def nc:C:=(BW (AE (AC 63) (BM (AB 0))
(AE (AC 64) (AG 1 (AB 63))
(AE (AC 65) (AK (AB 64))
(AE (AC 66) (AG 0 (AB 11))
(AE (AC 67) (Ax 5 (AB 66))
(AE (AC 68) (Ac .free (AM 44 [(AB 65),(AB 67)]))
(AE (AC 69) (Aa 0 (AB 68))
(AE (AC 70) (Aa 1 (AB 68))
(AE (AC 12) (AD (AB 69))
(AE (AC 13) (AD (AB 70))
(AE (AC 74) (AG 5 (AB 11))
(AE (AC 75) (AK (AB 74))
(AE (AC 76) (AM 46 [(AB 0),(AB 75)])
(AE (AC 78) (AM 45 [(AB 0),(AB 76),(AB 12)])
(AE (AC 79) (AM 47 [(AB 0),(AB 78)])
(AE (AC 14) (AD (AB 79))
(AE (AC 81) (AW iNe .i64 (AB 14) (kV (.int .i64 0)))
(AS (AB 81)
(AE (AC 8) (AD (AB 14))
Ad)
(AE (AC 85) (BM (AB 0))
(AE (AC 86) (AG 3 (AB 85))
(AE (AC 87) (AK (AB 86))
(AE (AC 88) (AM 49 [(AB 87)])
(AE (AC 89) (BM (AB 0))
(AE (AC 90) (AG 3 (AB 89))
(cDo (Af 1 (AB 90) (AB 88))
(BW (AE (AC 92) (BM (AB 0))
(AE (AC 93) (AG 3 (AB 92))
(AE (AC 94) (AK (AB 93))
(AE (AC 96) (Ax 6 (AB 11))
(AE (AC 97) (BF 6 (AB 94) (AB 10))
(cDo (Ac .free (Af 6 (AB 97) (AB 96)))
(AE (AC 15) (AD (kV (.slice none 0 0)))
(AE (AC 16) (AD (kV (.int .i64 0)))
cmS)))))))))))))))))))))))))))))))))))
theorem jH:cmB=nc:=rfl
theorem K9:d12=Nf:=rfl
section
variable {F:CallF}{e:Env}{h h':Hp}{S:Nat→Prop}{A:At}{T M:List Nat}{c0 bad m k p:Nat}{arm:Int}{ks:List Kt}{fr:List Nat}{v lv fv:Value}
theorem Wn(W:h.Wf)(s:Sl h A T M c0 arm ks fr lv fv bad false){j:Nat}{kx:Kt}(hj:ks[j]? =some kx)(hs1:kx.s=1){a b c:Int}(hf:Fa (CG a b c) 0 ks=(j:Int))(habc:kx.a=a∧kx.b=b∧kx.c=c)(hst:Cg a b c ks=false)(hp3:3 * kx.p+3≤A.n)(hkl:ks.length≤1000)(ha:Bu arm (k+5)):
  ∃ h' c1 arm' lv' e2,Nf (call AF (m+7)) (AV e0 0 [pt A.bs,.int .i64 a,.int .i64 b,.int .i64 c]) h=cmS (call AF (m+7)) e2 h'∧AB 0 e2=pt A.bs∧AB 1 e2=.int .i64 a∧AB 2 e2=.int .i64 b∧AB 3 e2=.int .i64 c∧AB 15 e2=nilS∧AB 16 e2=.int .i64 ((0:Nat):Int)∧Fx A.D h h'∧
   Sl h' A T (Mc M kx.p (Cn T a b c 2 kx.l)) c1 arm' (ks.set j {kx with s:=2}) fr lv' fv bad false∧Bu arm' k:=by
 have big:=W.big
 have hD:=s.D_lt W
 have hn:=s.dk.n1
 have hjl:=(List.getElem?_eq_some_iff.1 hj).1
 have hkm:=List.mem_of_getElem? hj
 obtain⟨o1,o2,o3,o4,o5,o6⟩:=s.ko kx hkm
 obtain⟨rfl,rfl,rfl⟩:=habc
 have oc:=o1.vs.one
 have c00:iNe 0 0=false:=CT rfl
 have k0:=MJ (m:=m+6) s.row
 obtain⟨h1,k1,x1⟩:=HI (m:=m+4) W s.row s.ls.ks (by omega) kx.a kx.b kx.c
 rw[hf]at k1
 have c1:iGe (j:Int) 0=true:=Gg (by omega)
 have s1:=s.ext W x1
 obtain⟨_,_,_,l3,_⟩:=BC s1.row
 obtain⟨bb,_,ix,ld,lde⟩:=s1.ls.ks.at hj
 have lst:=lde 3 (.int .u8 (kx.s:Int)) rfl
 have c2:iEq (kx.s:Int) 2=false:=Bd (by omega)
 obtain⟨h2,k2,x2⟩:=Fw (m:=m+3) x1.wf s1.row s1.ls.ks (by omega) kx.a kx.b kx.c
 rw[hst]at k2
 have x12:=x1.trans x2
 have s2:=s.ext W x12
 have c3:iLt (j:Int) 0=false:=GT (by omega)
 obtain⟨_,_,_,l3',_⟩:=BC s2.row
 obtain⟨bb2,_,ix2,ld2,_⟩:=s2.ls.ks.at hj
 have al:=fun (F:CallF) (e:Env)=>B7 (F:=F) (e:=e) x12.wf (n:=6) (t:=C5)
 have Ra:=Hp.Row.alloc x12.wf GO (show(Ab K0).length=6 from rfl)
 have y3:h2.Ext (h2.push (.cells C5 6 0)):=(Hp.Ext.refl x12.wf).push _
 have n3:(h2.push (.cells C5 6 0)).next=h2.next+1:=rfl
 generalize h2.push (.cells C5 6 0)=h3 at al Ra y3 n3
 obtain⟨st,_,y4,R11,n4⟩:=L8 x12.wf y3 (Nat.le_refl _) Ra rfl (k:=kx) oc.2.1
 generalize h3.wr h2.next 0 (Ab kx)=h4 at st y4 R11 n4
 have h256:256≤h2.next:=by have:=x12.next;omega
 obtain⟨h5,st5,R5,n5,f5,e5⟩:=F8 y4.wf R11 (off:=3) (show 3<6 by omega) h256 (v:=.int .u8 2) rfl rfl
 have y5:=e5 h2 y4 (Nat.le_refl _)
 generalize hkx:({kx with s:=2}:Kt)=X
 have R5:h5.Row h2.next 0 (Ab X):=by rw[← hkx];exact R5
 have x5:=x12.trans y5
 have pre:∃ e1,Nf (call AF (m+7)) (AV e0 0 [pt A.bs,.int .i64 kx.a,.int .i64 kx.b,.int .i64 kx.c]) h=cmB (call AF (m+7)) e1 h5∧AB 0 e1=pt A.bs∧AB 1 e1=.int .i64 kx.a∧AB 2 e1=.int .i64 kx.b∧AB 3 e1=.int .i64 kx.c∧AB 10 e1=.int .i64 (j:Int)∧AB 11 e1=pt h2.next:=by
  unfold Nf
  simp only[iN,Nat.reduceAdd,sT,Nat.reduceLT,Nat.reduceEqDiff,reduceIte,gD,cA0,k0,AO,AN,c00,k1,c1,Ay,Aq,AJ,AQ,Nat.zero_add,Nat.add_zero,AP,AU,l3,A8,ix,lst,c2,k2,c3,l3',ix2,Aw,Av,ld2,al,Ao,st,st5]
  exact⟨_,rfl,by simp[AH]⟩
 obtain⟨e1,p1,t0,t1,t2,t3,t10,t11⟩:=pre
 have x5m:=x5.marked
 have s5m:=s.ext W x5m
 have R5m:h5.marked.Row h2.next 0 (Ab X):=R5.same rfl
 obtain⟨_,_,_,_,_,_,_,ld5⟩:=Bx R5m
 obtain⟨_,l1m,_⟩:=BC s5m.row
 have hX:X.a=kx.a∧X.b=kx.b∧X.c=kx.c∧X.s=2∧X.u=kx.u∧X.l=kx.l∧X.p=kx.p:=by rw[← hkx];exact⟨rfl,rfl,rfl,rfl,rfl,rfl,rfl⟩
 obtain⟨e6a,e6b,e6c,e6s,e6u,e6l,e6p⟩:=hX
 rw[e6a,e6b,e6c,e6s,e6u]at ld5
 have bsu:=(s5m.ko kx hkm).1
 have hr2:B4 kx.a kx.b kx.c 2 kx.l.length=true:=by
  obtain⟨g1,g2,g3,g4,g5,g6,g7,g8⟩:=G4 o5
  exact decide_eq_true ⟨g1,g2,g3,g4,g5,g6,.inr rfl,g8⟩
 have hH:=Mt (T:=T) hr2
 have hHb:=PN (T:=T) (a:=kx.a) (b:=kx.b) (c:=kx.c) (s:=2) (l:=kx.l)
 obtain⟨h6,x6,hd⟩:=TH (n:=m+4) x5m.quiet.wf ((s5m.tab).same (h':=h5.marked.quiet) rfl) s.tok (a:=kx.a) (b:=kx.b) (c:=kx.c) (s:=2) (bsu.vs.vals.same (h':=h5.marked.quiet) rfl) o2 (by omega) (by omega)
 rcases hd with ⟨_,vh,k6,mkh⟩|⟨hrf,_⟩
 case inr=>rw[hr2]at hrf;cases hrf
 have q6:∀ e:Env,AB 65 e=pt A.tb→AB 67 e=B1 kx.a kx.b kx.c 2 kx.u→Ac .free (AM 44 [AB 65,AB 67]) (call AF (m+7)) e h5.marked=.ok (.tuple ⟨[vh,.int .i64 0]⟩) (h5.marked.back h6):=fun e e1 e2=>by
  refine Bb ?_
  rw[Bk,Ah,Ah,A7,e1,e2];exact k6
 have y7:h5.Ext (h5.marked.back h6):=(Hp.Ext.refl x5.wf).marked.trans (.back x6)
 have mk7:Mk (h5.marked.back h6) h5.next vh (Cn T kx.a kx.b kx.c 2 kx.l):=mkh.same rfl
 generalize h5.marked.back h6=h7 at q6 y7 mk7
 have x7:=x5.trans y7
 have s7:=s.ext W x7
 obtain⟨_,_,_,_,_,lp7,_⟩:=Bx (R5.ext x5.wf y7)
 rw[e6p]at lp7
 have k7:=MX (m:=m+5) s7.row (p:=kx.p) (by omega)
 obtain⟨h8,dv,k8,x8,D8⟩:=Jm (m:=m+6) x7.wf s7.row (fun b hb=>by have:=hD b hb;have:=x7.next;omega) (sct:=kx.p * 3) (by omega) mk7 (by omega)
 rw[hH,show(List.range ((64+63) / 64)).map (fun j=>Deed.w (kx.p * 3+j) (C6 (Cn T kx.a kx.b kx.c 2 kx.l) j))++[.f]=GV kx.p (C6 (Cn T kx.a kx.b kx.c 2 kx.l) 0)from rfl,On hH]at D8
 have x8':=x7.trans x8
 have s8:=s.ext W x8'
 obtain⟨vs,w1,w2,w3⟩:=D8.ends fun b hb=>by have:=hD b hb;have:=x7.next;omega
 obtain⟨h9,c9,arm9,k9,f9,d9,ea⟩:=Q1 (m:=m+2) x8'.wf s8.row s.nK s8.dk w1 w2 w3 (Tl hp3 hH hHb) (ha.le (by show 2≤_;omega)) (by show 2≤100;omega)
 have d9:Dk h9 A.bd A.bm A.bc A.n (Mc M kx.p (Cn T kx.a kx.b kx.c 2 kx.l)) c9 [] arm9 false:=d9
 have s9:Sl h9 A T (Mc M kx.p (Cn T kx.a kx.b kx.c 2 kx.l)) c9 arm9 ks fr lv fv bad false:=(s8.sc.fx x8'.wf f9).sl d9
 have a9:Bu arm9 k:=by rw[ea];exact Gf _ k arm (ha.le (by show 2+k≤_;omega))
 have nD11:¬ A.D h2.next:=fun h=>by have:=hD _ h;have:=x12.next;omega
 have R9:=f9.row x8'.wf ((R5.ext x5.wf y7).ext x7.wf x8) (Xo nD11)
 obtain⟨_,_,_,l39,_⟩:=BC s9.row
 have hu:∀ k∈ks,A0 k.u=true:=fun k hk=>(s9.ko k hk).1.vs.one.2.1
 obtain⟨h10,w10,k10,x10,ko10⟩:=RD (m:=m+6) f9.wf s9.ls hu (fun h=>by rw[h]at hjl;cases hjl) (by omega)
 have s10:=s9.ext f9.wf x10
 obtain⟨h11,st11,row11,n11,f11,_⟩:=F8 x10.wf s10.row (off:=3) (show 3<7 by omega) s.ne.2.2.2.2 (v:=w10) ko10.lst.one.1 ko10.lst.one.2.1
 have row11:h11.Row A.bs 0 (slL A.bd A.tb w10 fv bad false):=row11
 have nbs:∀ b,¬ A.D b→b≠A.bs:=fun b hb h=>hb (.inl h)
 have hDn9:∀ b,A.D b→b<h9.next:=fun b hb=>by have:=hD b hb;have:=x8'.next;have:=f9.next;omega
 have ko11:h11.KO h9.next w10 ks:=ko10.keep fun b el L hb r=>f11.row x10.wf r (fun h=>by
  have:=(ko10.blk x10.wf hb).1
  have:=hDn9 A.bs (.inl rfl)
  omega)
 have s11:Sl h11 A T (Mc M kx.p (Cn T kx.a kx.b kx.c 2 kx.l)) c9 arm9 ks fr w10 fv bad false:=s10.bsx x10.wf f11 row11 (by
   refine Hp.KW.ks ?_
   rcases ko11 with ⟨h1,h2⟩|⟨b,h1,h2,h3,_⟩
   ·exact .inl ⟨h1,h2⟩
   ·exact .inr ⟨b,h1,h2,fun h=>by have:=hDn9 b h;omega⟩) (fun x hx=>⟨(s10.ko x hx).1.keep fun b el L hb _ r=>f11.row x10.wf r (nbs b hb),(s10.ko x hx).2⟩) (s10.fs.keep fun b el L hb r=>f11.row x10.wf r (nbs b hb)) s10.le
 have R1111:=f11.row x10.wf (R9.ext f9.wf x10) (nbs _ nD11)
 have W11:=f11.wf
 have xm:=(Hp.Ext.refl W11).marked
 have s11m:=s11.ext W11 xm
 obtain⟨_,_,_,l3m,_⟩:=BC s11m.row
 obtain⟨_,_,_,_,_,_,ld11,_⟩:=Bx (R1111.same (h':=h11.marked) rfl)
 rcases ko11 with ⟨_,hnil⟩|⟨bl,hw,Rl,hbk,hb256⟩
 ·rw[hnil]at hjl;cases hjl
 have ixl:idxSR 6 w10 (.int .i64 (j:Int)) h11.marked=.ok (.pointer (some ⟨bl,6 * j,none⟩)) h11.marked:=by
  rw[hw]
  have:=DJ (h:=h11.marked) (n:=ks.length) (c:=ks.length) (es:=6) (b:=bl) (off:=0) (i:=j) (k:=.i64) hjl
  rwa [Nat.zero_add,Nat.mul_comm]at this
 have Rq:h11.marked.quiet.Row bl 84 (flK ks):=Rl.same rfl
 have hXu:A0 X.u=true:=by rw[e6u];exact oc.2.1
 have hoo:6 * j+(Ab X).length≤(flK ks).length:=by rw[CJ];show 6 * j+6≤_;omega
 have stq:=Rq.storeR (n:=6) (off:=6 * j) (v:=ktV X) xm.wf.quiet hb256 rfl hoo (F6 hXu)
 have wrq:=Rq.wr_self xm.wf.quiet hoo
 rw[Nk ks j X hjl]at wrq
 have fxq:=Fx.wr (S:=fun b=>b=bl) xm.wf.quiet Rq hoo rfl
 have stq:storeR 6 (.pointer (some ⟨bl,6 * j,none⟩)) (ktV X) h11.marked.quiet=.ok noRes (h11.marked.quiet.wr bl (6 * j) (Ab X)):=stq
 generalize h11.marked.quiet.wr bl (6 * j) (Ab X)=q at stq wrq fxq
 have q12:∀ (F:CallF) (e:Env),AB 97 e=.pointer (some ⟨bl,6 * j,none⟩)→AB 96 e=ktV X→Ac .free (Af 6 (AB 97) (AB 96)) F e h11.marked=.ok noRes (h11.marked.back q):=fun F e e1 e2=>Bb (by rw[Ao,e1,e2];exact stq)
 have f12:Fx (fun b=>b=bl) h11 (h11.marked.back q):=((fxq.from (h:=h11.marked) rfl rfl).same (h2:=h11.marked.back q) rfl rfl).from (h:=h11) rfl rfl
 have Rl12:(h11.marked.back q).Row bl 84 (flK (ks.set j X)):=wrq.same rfl
 generalize h11.marked.back q=h12 at q12 f12 Rl12
 have nbl:¬ A.D bl:=fun h=>by have:=hDn9 bl h;omega
 have hsl:(ks.set j X).length=ks.length:=List.length_set
 have kp12:∀ b el L,b≠bl→h11.Row b el L→h12.Row b el L:=fun b el L hb r=>f12.row W11 r hb
 have nblb:∀ b el L,(el=0∨el=6∨el=4)→h11.Row b el L→b≠bl:=fun b el L he r=>ES r Rl (by omega)
 have s12:Sl h12 A T (Mc M kx.p (Cn T kx.a kx.b kx.c 2 kx.l)) c9 arm9 (ks.set j X) fr w10 fv bad false:=by
  refine⟨kp12 _ _ _ (nblb _ _ _ (.inl rfl) s11.row) s11.row,s11.dk.fr W11 f12 (nblb _ _ _ (.inl rfl) s11.dk.disk) (nblb _ _ _ (.inl rfl) s11.dk.med) (fun h=>(It Rl s11.dk.map) h.symm),kp12 _ _ _ (nblb _ _ _ (.inl rfl) s11.tab) s11.tab,s.tok,Hp.KW.ks (.inr ⟨bl,by rw[hsl];exact hw,Rl12,nbl⟩),fun x hx=>?_,?_,s.ne,by rw[hsl];exact s11.le⟩
  ·have kp:=fun (x:Kt) (hx:x∈ks)=>(s11.ko x hx).1.keep (h':=h12) fun b el L hb he r=>kp12 b el L (nblb b el L (by omega) r) r
   rcases List.mem_or_eq_of_mem_set hx with h1|h1
   ·exact⟨kp x h1,(s11.ko x h1).2⟩
   ·rw[h1]
    have:=kp kx hkm
    refine⟨?_,?_,?_,.inr e6s,?_,?_⟩
    ·rw[e6u,e6l];exact this
    ·rw[e6l];exact o2
    ·rw[e6l];exact o3
    ·rw[e6a,e6b,e6c,e6s,e6l];exact hr2
    ·rw[e6p];exact o6
  ·rcases s11.fs with h1|⟨b,el,h1,h2,h3,h4⟩
   ·exact .inl h1
   ·exact .inr ⟨b,el,h1,kp12 _ _ _ (nblb b el _ (by omega) h2) h2,h3,h4⟩
 have mid:∃ e2,cmB (call AF (m+7)) e1 h5=cmS (call AF (m+7)) e2 h12∧AB 0 e2=pt A.bs∧AB 1 e2=.int .i64 kx.a∧AB 2 e2=.int .i64 kx.b∧AB 3 e2=.int .i64 kx.c∧AB 15 e2=nilS∧AB 16 e2=.int .i64 ((0:Nat):Int):=by
  have k7':call AF (m+7) 46 [pt A.bs,.int .i64 (kx.p:Int)] h7=.ok (.int .i64 ((kx.p * 3:Nat):Int)) h7:=k7
  have k8':call AF (m+7) 45 [pt A.bs,.int .i64 ((kx.p * 3:Nat):Int),vh] h7=.ok dv h8:=k8
  have k9':call AF (m+7) 47 [pt A.bs,dv] h8=.ok (.int .i64 0) h9:=k9
  have k10':call AF (m+7) 49 [lv] h9=.ok w10 h10:=k10
  rw[jH]
  unfold nc
  simp only[sT,Nat.reduceLT,Nat.reduceEqDiff,reduceIte,BA,Ay,t0,Aq,AJ,AQ,Nat.zero_add,Nat.add_zero,AP,AU,l1m,Aw,Av,t11,ld5,q6,BV,Bj,Bo,lp7,cA0,k7',k8',k9',AO,AN,c00,l39,k10',Ao,st11,l3m,ld11,A8,t10,ixl,q12]
  exact⟨_,rfl,by simp[AH,t0,t1,t2,t3]⟩
 obtain⟨e2,r1,u0,u1,u2,u3,u15,u16⟩:=mid
 have fx12:Fx A.D h h12:=by
  have e1:Fx A.D h h8:=.of x8'
  have e2:Fx A.D h8 h9:=f9.mono fun b hb=>.inr hb
  have e3:Fx A.D h9 h10:=.of x10
  have e4:Fx A.D h10 h11:=f11.mono fun b hb=>.inl hb
  have e14:=((e1.trans e2).trans e3).trans e4
  refine⟨Nat.le_trans e14.next f12.next,fun i hi hs=>?_,f12.wf,fun L q1 q2 q3=>f12.low L (e14.low L q1 q2 q3) (Nat.le_trans q2 e14.next) fun b hb=>by have:=x8'.next;have:=f9.next;omega⟩
  rw[f12.get i (by have:=e14.next;omega) (fun h=>by have:=x8'.next;have:=f9.next;omega),e14.get i hi hs]
 exact⟨h12,c9,arm9,w10,e2,p1.trans r1,u0,u1,u2,u3,u15,u16,fx12,hkx ▸ s12,by rw[ea];exact Gf _ _ arm (ha.le (by show 2+k≤_;omega))⟩
end
end
noncomputable section
open Go
set_option maxRecDepth 100000
theorem ZD:KE.k=.slice 5:=by kernel_rfl
theorem jF{n:Nat}{h:Hp}(W:h.Wf){u:Value}{xs:List Value}(V:h.Vals u xs)(ha:Bh xs=true)(hl:xs.length≤1000000):
  ∃ h' v,call AF (n+1) 39 [u] h=.ok v h'∧h.Ext h'∧h'.Cl (fun b=>h.next≤b∧b<h'.next) 5 v xs:=by
 rcases V with ⟨rfl,rfl⟩|⟨b,off,c,el,L,h1,h2,h3,h4⟩
 ·have ne:∀ e:Env,AB 0 e=.slice none 0 0→oEq KE.k false (AB 0) (kV (.slice none 0 0)) (call AF n) e h=.ok (.bool true) h:=fun e he=>Ie (t:=0) ZD he
  refine⟨h,nilS,?_,.refl W,.inl ⟨rfl,rfl⟩⟩
  rw[Hm rfl]
  unfold d39
  simp only[iN,Nat.reduceAdd,sT,Nat.reduceLT,Nat.reduceEqDiff,reduceIte,ne,lV0]
 ·have V:h.Vals u xs:=.inr ⟨b,off,c,el,L,h1,h2,h3,h4⟩
  have x1:=(Hp.Ext.refl W).pushRow 0 []
  have R:=Hp.Row.new W 0 []
  have es:=fun (e:Env) (t:List Value)=>JO (F:=call AF n) (e:=e) (t:=t) W
  have n1:(h.pushRow 0 []).next=h.next+1:=rfl
  generalize h.pushRow 0 []=g at x1 R es n1
  have ne:∀ e:Env,AB 0 e=u→oEq KE.k false (AB 0) (kV (.slice none 0 0)) (call AF n) e h=.ok (.bool false) h:=fun e he=>Id (t:=0) ZD (he.trans h1)
  have V1:=V.ext W x1
  have big:=W.big
  rcases Nat.eq_zero_or_pos xs.length with hz|hz
  ·obtain rfl:xs=[]:=List.eq_nil_of_length_eq_zero hz
   have ap:DF 1 1 5 (.slice (some ⟨h.next,0,none⟩) 0 0) u g=.ok (.slice (some ⟨h.next,0,none⟩) 0 0) (g.wr h.next 0 []):=Gt x1.wf big R (fun k=>V1.src rfl k) V1.lenV
   have R2:=R.wr_self x1.wf (off:=0) (vs:=[]) (Nat.le_refl _)
   refine⟨_,.slice (some ⟨h.next,0,none⟩) 0 0,?_,R.wr_ext x1 (Nat.le_refl _) (off:=0) (vs:=[]) (Nat.le_refl _),.inr ⟨h.next,0,rfl,R2,.inr ⟨rfl,rfl⟩,⟨Nat.le_refl _,?_⟩,big⟩⟩
   ·rw[Hm rfl]
    unfold d39
    simp only[iN,Nat.reduceAdd,sT,Nat.reduceLT,Nat.reduceEqDiff,reduceIte,ne,es,BL,ap,lV0]
   ·have:=R.wr_next (off:=0) (vs:=[]) (Nat.le_refl _)
    omega
  ·obtain⟨h2,a1,a2,a3,a4,a5⟩:=ED (eb:=1) (en:=5) x1 R (es:=1) (fun k=>V1.src rfl k) V1.lenV (by omega) hz ha (by omega)
   refine⟨h2,_,?_,a2,.inr ⟨g.next,5+1,rfl,a3,.inl rfl,⟨by omega,by omega⟩,by omega⟩⟩
   rw[Hm rfl]
   unfold d39
   simp only[iN,Nat.reduceAdd,sT,Nat.reduceLT,Nat.reduceEqDiff,reduceIte,ne,es,BL,a1,lV0]
def ebB:C:=(AE (AC 14) (AW iLt .i64 (AB 13) (AB 12))
(AS (AB 14)
(A2 (AY 1 (AE (AC 5) (AD (AB 13))
(BW (AE (AC 18) (BF 1 (AB 0) (AB 5))
(AE (AC 19) (AK (AB 18))
(AE (AC 22) (BF 1 (AB 1) (AB 5))
(AE (AC 23) (AK (AB 22))
(AE (AC 24) (AW iNe .u8 (AB 19) (AB 23))
(AS (AB 24)
(AE (AC 4) (AD (kV (.bool false)))
Ad)
AX)))))))))
(AE (AC 25) (BZ .i64 (Ar .i64) (AB 13) (kV (.int .i64 1)))
(AE (AC 13) (AD (AB 25))
AX)))
(BK 0)))
def eqE:C:=AE (AC 4) (AD (kV (.bool true))) Ad
theorem XK:eqS=A2 (AY 0 (Az ebB)) eqE:=rfl
theorem RH:d42=Wu:=rfl
section
variable {F:CallF}{e:Env}{h h':Hp}{S:Nat→Prop}{A:At}{bad m k p:Nat}{fr:List Nat}{v lv fv:Value}{ov:Bool}
theorem Up(W:h.Wf){u v:Value}{a b:List Nat}(U:h.Vals u (a.map bv))(V:h.VE v (b.map bv))(hl:a.length≤900000):∃ h',call AF (m+1) 42 [u,v] h=.ok (.bool (decide (a=b))) h'∧h.Ext h':=by
 have Ul:=U.bl h
 have Vl:=V.bl h
 by_cases hab:a.length=b.length
 ·have c1:iNe (a.length:Int) (b.length:Int)=false:=by rw[Gi,hab];simp
  have pre:∃ e1,Wu (call AF m) (AV e0 0 [u,v]) h=eqS (call AF m) e1 h∧AB 0 e1=u∧AB 1 e1=v∧AB 12 e1=.int .i64 (a.length:Int)∧AB 13 e1=.int .i64 ((0:Nat):Int):=by
   unfold Wu
   simp only[iN,Nat.reduceAdd,sT,Nat.reduceLT,Nat.reduceEqDiff,reduceIte,Am,Ul,Vl,AO,AN,c1]
   exact⟨_,rfl,by simp[AH]⟩
  obtain⟨e1,p1,s0,s1,s12,s13⟩:=pre
  have run:(∃ e' h',Az ebB (call AF m) e1 h=.exit 0 e' h'∧h.Ext h'∧a=b)∨(∃ e' h',Az ebB (call AF m) e1 h=.ret e' h'∧h.Ext h'∧a≠b∧AB 4 e'=.bool false):=by
   refine Be (I:=fun i e' h'=>h.Ext h'∧AB 0 e'=u∧AB 1 e'=v∧AB 12 e'=.int .i64 (a.length:Int)∧AB 13 e'=.int .i64 (i:Int)∧i≤a.length∧(a=b↔a.drop i=b.drop i))
    (Q:=fun x=>(∃ e' h',x=.exit 0 e' h'∧h.Ext h'∧a=b)∨(∃ e' h',x=.ret e' h'∧h.Ext h'∧a≠b∧AB 4 e'=.bool false)) a.length (by omega) (fun i e' h' ⟨x',t0,t1,t12,t13,hi,hr⟩=>?_) ⟨.refl W,s0,s1,s12,s13,Nat.zero_le _,by simp⟩
   by_cases hlt:i<a.length
   ·have xm:=x'.marked
    obtain⟨p,g1,g2⟩:=IE (U.ext W xm) hlt
    obtain⟨q,g3,g4⟩:=IE ((V.ext W xm).vals (by rw[List.length_map];omega)) (i:=i) (by omega)
    rw[Fg hlt,Fg (l:=b) (by omega)]at hr
    generalize a.getD i 0=c at g2 hr
    generalize b.getD i 0=d at g4 hr
    have c1:=Eo hlt
    by_cases hcd:c=d
    ·left
     subst hcd
     have c2:iNe (c:Int) (c:Int)=false:=by rw[Gi];simp
     have a3:=CR (i:=i) (h:=h'.marked) (by omega)
     have hrun:∃ e2,ebB (call AF m) e' h'=.norm e2 h'.marked∧AB 0 e2=u∧AB 1 e2=v∧AB 12 e2=.int .i64 (a.length:Int)∧AB 13 e2=.int .i64 ((i+1:Nat):Int):=by
      unfold ebB
      simp only[sT,Nat.reduceLT,Nat.reduceEqDiff,reduceIte,AO,AN,t13,t12,c1,BA,A8,t0,g1,AP,g2,t1,g3,g4,c2,BR,a3]
      exact⟨_,rfl,by simp[AH,t0,t1,t12]⟩
     obtain⟨e2,r1,r2,r3,r4,r5⟩:=hrun
     refine⟨hlt,e2,h'.marked,r1,xm,r2,r3,r4,r5,hlt,hr.trans ?_⟩
     simp
    ·right
     have c2:iNe (c:Int) (d:Int)=true:=by rw[Gi];simp;omega
     have hrun:∃ e2,ebB (call AF m) e' h'=.ret e2 h'.marked∧AB 4 e2=.bool false:=by
      unfold ebB
      simp only[sT,Nat.reduceLT,Nat.reduceEqDiff,reduceIte,AO,AN,t13,t12,c1,BA,A8,t0,g1,AP,g2,t1,g3,g4,c2]
      exact⟨_,rfl,by simp[AH]⟩
     obtain⟨e2,r1,r2⟩:=hrun
     rw[r1]
     refine⟨rfl,.inr ⟨e2,h'.marked,rfl,xm,fun h=>hcd ?_,r2⟩⟩
     have:=hr.1 h
     injection this
   ·right
    have c1:=DD (show a.length≤i by omega)
    have hrun:∃ e2,ebB (call AF m) e' h'=.exit 0 e2 h':=by
     unfold ebB
     simp only[sT,Nat.reduceLT,Nat.reduceEqDiff,reduceIte,AO,AN,t13,t12,c1]
     exact⟨_,rfl⟩
    obtain⟨e2,r1⟩:=hrun
    rw[r1]
    refine⟨rfl,.inl ⟨e2,h',rfl,x',hr.2 ?_⟩⟩
    rw[List.drop_of_length_le (by omega),List.drop_of_length_le (by omega)]
  rcases run with ⟨e2,h2,r1,x2,r2⟩|⟨e2,h2,r1,x2,r2,r3⟩
  ·refine⟨h2,?_,x2⟩
   rw[Q9 rfl,RH,p1,XK,decide_eq_true r2]
   simp only[BP,A1,r1,A5,BJ]
   unfold eqE
   simp only[sT,Nat.reduceLT,Nat.reduceEqDiff,reduceIte,lV0]
  ·refine⟨h2,?_,x2⟩
   rw[Q9 rfl,RH,p1,XK,decide_eq_false r2]
   simp only[BP,A1,r1,CB,Co,lV0,r3]
 ·have c1:iNe (a.length:Int) (b.length:Int)=true:=by rw[Gi];simp;omega
  refine⟨h,?_,.refl W⟩
  rw[Q9 rfl,RH,decide_eq_false (fun h=>hab (by rw[h]))]
  unfold Wu
  simp only[iN,Nat.reduceAdd,sT,Nat.reduceLT,Nat.reduceEqDiff,reduceIte,Am,Ul,Vl,AO,AN,c1,lV0]
theorem Uq{e:Env}{h h':Hp}{g:O}{n:Nat}{v:Value}(hv:N4 n (g e) h=.ok v h'):Eh [.cN g n] e h=.ok v h:=by
 have h1:GH e h (.cN g n)=.ok v h':=hv
 show(match GH e h (.cN g n)with|.ok v _=>forceV v fun v=>KM h [v]|.no=>.no)=_
 rw[h1]
 simp only[BG];rfl
theorem Hp.Cl.bs0{h:Hp}{S:Nat→Prop}{v:Value}{xs:List Value}(o:h.Cl S 5 v xs):h.BS S v xs:=by
 rcases o with h1|⟨b,el,h1,h2,h3,h4,h5⟩
 ·exact .inl h1
 ·exact .inr ⟨b,0,_,el,xs,h1,Nat.le_refl _,h2,by omega,by rw[List.drop_zero,List.take_length],h4,h3.elim (fun h=>.inr h) (fun h=>.inl h.1)⟩
theorem dF(W:h.Wf){x:Kt}(U:h.Vals x.u (x.l.map bv))(hl:x.l.length≤1000):∃ h' v',call AF (m+2) 65 [ktV x] h=.ok (B1 x.a x.b x.c x.s v') h'∧h.Ext h'∧A0 v'=true∧h'.BS (fun b=>h.next≤b) v' (x.l.map bv):=by
 have bx:=fun (F:CallF) (e:Env) (he:AB 0 e=ktV x)=>Gp (F:=F) W he
 have x1:=(Hp.Ext.refl W).pushRow 0 (Ab x)
 have R1:=Hp.Row.new W 0 (Ab x)
 have n1:(h.pushRow 0 (Ab x)).next=h.next+1:=rfl
 generalize h.pushRow 0 (Ab x)=h1 at bx x1 R1 n1
 have al:=fun (F:CallF) (e:Env)=>B7 (F:=F) (e:=e) x1.wf (n:=5) (t:=DU)
 have Ra:=Hp.Row.alloc x1.wf HZ (show(A3 0 0 0 0 nilS).length=5 from rfl)
 have y2:h1.Ext (h1.push (.cells DU 5 0)):=(Hp.Ext.refl x1.wf).push _
 have n2:(h1.push (.cells DU 5 0)).next=h1.next+1:=rfl
 generalize h1.push (.cells DU 5 0)=h2 at al Ra y2 n2
 have x2:=x1.trans y2
 have R2:=R1.ext x1.wf y2
 obtain⟨_,_,_,_,l4,_⟩:=Bx R2
 obtain⟨h3,v',k3,y3,c3⟩:=jF (n:=m) x2.wf (U.ext W x2) (C9 _) (by rw[List.length_map];omega)
 have onv:cellsOf v'=[v']∧A0 v'=true:=⟨c3.vs.one.1,c3.vs.one.2.1⟩
 have R3:=R2.ext x2.wf y3
 have Ra3:=Ra.ext y2.wf y3
 have big:=W.big
 obtain⟨h4,st4,R4,n4,f4,e4⟩:=F8 y3.wf R3 (off:=4) (show 4<6 by omega) big onv.1 onv.2
 have x3:=x2.trans y3
 have x4:=e4 h x3 (Nat.le_refl _)
 have R4:h4.Row h.next 0 (Ab ⟨x.a,x.b,x.c,x.s,x.l,x.p,v'⟩):=R4
 obtain⟨_,_,_,_,_,_,_,ld⟩:=Bx R4
 have Ra4:=f4.row y3.wf Ra3 (by omega)
 obtain⟨st5,ld5,x5,R5,n5⟩:=OO W x4 (by omega) Ra4 rfl (a:=x.a) (b:=x.b) (c:=x.c) (s:=x.s) (u:=v') onv.2
 have f5:=Fx.wr (S:=fun b=>b=h1.next) f4.wf Ra4 (vs:=A3 x.a x.b x.c x.s v') (off:=0) (Nat.le_refl _) rfl
 generalize h4.wr h1.next 0 (A3 x.a x.b x.c x.s v')=h5 at st5 ld5 x5 R5 f5
 have vs5:h5.BS (fun b=>h.next≤b) v' (x.l.map bv):=(c3.bs0.keep fun b el L hb _ r=>f5.row f4.wf (f4.row y3.wf r (by omega)) (by omega)).mono fun b hb=>by omega
 refine⟨h5,v',?_,x5,onv.2,vs5⟩
 have k3:call AF (m+1) 39 [x.u] h2=.ok v' h3:=k3
 have hrun:∃ e2,d65 (call AF (m+1)) (AV e0 0 [ktV x]) h=.ret e2 h5∧AB 2 e2=pt h1.next:=by
  unfold d65
  simp only[iN,Nat.reduceAdd,sT,Nat.reduceLT,Nat.reduceEqDiff,reduceIte,bx,al,AJ,AQ,Nat.zero_add,Nat.add_zero,AP,AU,l4,cA0,k3,Ao,st4,Aw,Av,ld,st5]
  exact⟨_,rfl,by simp[AH]⟩
 obtain⟨e2,r1,r2⟩:=hrun
 rw[iY rfl,r1,Bp,Uq (h':=h5) (v:=B1 x.a x.b x.c x.s v') (by rw[r2,Av];exact ld5)]
theorem oW{g:O}{b:Nat}(hg:g e=pt b):oEq Jk.k false g (kV (.pointer none)) F e h=.ok (.bool false) h:=Io ZE hg
theorem OR(R:h.Row A.bs 0 (slL A.bd A.tb lv fv bad ov))(V:h.Vals fv (ints .i64 (fr.map Int.ofNat))):call AF (m+1) 20 [pt A.bs] h=.ok (.int .i64 (fr.length:Int)) h:=by
 obtain⟨_,_,_,_,l4,_⟩:=BC R
 have p1:∀ (F:CallF) (e:Env) (g:Hp),AB 0 e=pt A.bs→oEq Jk.k false (AB 0) (kV (.pointer none)) F e g=.ok (.bool false) g:=fun F e g he=>oW he
 have ln:=V.len
 rw[show(ints .i64 (fr.map Int.ofNat)).length=fr.length by unfold ints;rw[List.length_map,List.length_map]]at ln
 rw[gu rfl]
 unfold d20
 simp only[iN,Nat.reduceAdd,sT,Nat.reduceLT,Nat.reduceEqDiff,reduceIte,p1,Ay,Aq,AJ,AQ,Nat.zero_add,AP,AU,l4,Am,ln,lV0]
end
end
noncomputable section
open Go
set_option maxRecDepth 100000
section
variable {F:CallF}{e:Env}{h h' h0:Hp}{S:Nat→Prop}{A:At}{bad m k:Nat}{ks:List Kt}{v lv fv:Value}{ov:Bool}
def aaB:C:=(AE (AC 14) (AW iLt .i64 (AB 13) (AB 12))
(AS (AB 14)
(A2 (AY 1 (AE (AC 15) (BF 6 (AB 11) (AB 13))
(AE (AC 16) (Ax 6 (AB 15))
(AE (AC 5) (Bl 6 C5)
(cDo (Af 6 (AB 5) (AB 16))
(AE (AC 18) (Ax 6 (AB 5))
(AE (AC 19) (AM 65 [(AB 18)])
(AE (AC 20) (AZ 1 (BI F0.zero 1) [(0,5,(AB 19))])
(AE (AC 21) (A9 5 56 43 (AB 3) (AB 20))
(AE (AC 3) (AD (AB 21))
AX))))))))))
(AE (AC 22) (BZ .i64 (Ar .i64) (AB 13) (kV (.int .i64 1)))
(AE (AC 13) (AD (AB 22))
AX)))
(BK 0)))
def aaE:C:=(AE (AC 2) (AD (AB 3))
Ad)
theorem eZ:aaS=A2 (AY 0 (Az aaB)) aaE:=rfl
theorem jP:d21=aD:=rfl
theorem du:BI F0.zero 1=A3 0 0 0 0 nilS:=by kernel_rfl
theorem Yy(W:h.Wf){g:O}{a b c:Int}{s:Nat}{u:Value}(hg:g e=B1 a b c s u):AZ 1 (BI F0.zero 1) [(0,5,g)] F e h=.ok (.slice (some ⟨h.next,0,none⟩) 1 1) (h.pushRow 0 (A3 a b c s u)):=by
 rw[du,Ca,BE (hk:=by rw[hg];rfl),hg,show cellsOf (B1 a b c s u)=A3 a b c s u from rfl,if_pos (show(A3 a b c s u).length=5 from rfl),if_pos (show 0+5≤(A3 0 0 0 0 nilS).length from Nat.le_refl _),CP,DA W];rfl
def JJ(k:Kt):List Value:=A3 k.a k.b k.c k.s k.u
def flS(L:List Kt):List Value:=L.flatMap JJ
theorem Nl:∀ L:List Kt,(flS L).length=L.length * 5
 |[]=>rfl
 |k::l=>by
  show(JJ k++flS l).length=_
  rw[List.length_append,Nl l,List.length_cons]
  show 5+l.length * 5=_
  omega
theorem aj(a b:List Kt):flS (a++b)=flS a++flS b:=List.flatMap_append
def Hp.AL(h:Hp)(k:Nat)(v:Value)(ks:List Kt):Prop:=(v=nilS∧ks=[])∨∃ b L,v=.slice (some ⟨b,0,none⟩) ks.length ks.length∧h.Row b 44 (flS L)∧L.map Kt.core=ks.map Kt.core∧k≤b∧∀ x∈L,h.BS (fun b=>k≤b) x.u (x.l.map bv)
theorem KH(W:h.Wf)(Rs:h.Row A.bs 0 (slL A.bd A.tb lv fv bad ov))(K:h.KS S lv ks)(hk:∀ k∈ks,h.Vals k.u (k.l.map bv)∧k.l.length≤1000∧A0 k.u=true)(hl:ks.length≤1000):
  ∃ h' v,call AF (m+4) 21 [pt A.bs] h=.ok v h'∧h.Ext h'∧h'.AL h.next v ks:=by
 have p1:∀ (F:CallF) (e:Env) (g:Hp),AB 0 e=pt A.bs→oEq Jk.k false (AB 0) (kV (.pointer none)) F e g=.ok (.bool false) g:=fun F e g he=>oW he
 obtain⟨_,_,_,l3,_⟩:=BC Rs
 have ln:=K.len h
 have pre:∃ e1,aD (call AF (m+3)) (AV e0 0 [pt A.bs]) h=aaS (call AF (m+3)) e1 h∧AB 3 e1=nilS∧AB 11 e1=lv∧AB 12 e1=.int .i64 (ks.length:Int)∧AB 13 e1=.int .i64 ((0:Nat):Int):=by
  unfold aD
  simp only[iN,Nat.reduceAdd,sT,Nat.reduceLT,Nat.reduceEqDiff,reduceIte,p1,Ay,Aq,AJ,AQ,Nat.zero_add,AP,AU,l3,Am,ln]
  exact⟨_,rfl,by simp[AH]⟩
 obtain⟨e1,q1,s3,s11,s12,s13⟩:=pre
 have run:∃ e' h' v,Az aaB (call AF (m+3)) e1 h=.exit 0 e' h'∧h.Ext h'∧AB 3 e'=v∧h'.AL h.next v ks:=by
  refine Be (I:=fun i e' h'=>∃ v,h.Ext h'∧AB 3 e'=v∧AB 11 e'=lv∧AB 12 e'=.int .i64 (ks.length:Int)∧AB 13 e'=.int .i64 (i:Int)∧i≤ks.length∧h'.AL h.next v (ks.take i))
   (Q:=fun x=>∃ e' h' v,x=.exit 0 e' h'∧h.Ext h'∧AB 3 e'=v∧h'.AL h.next v ks) ks.length (by omega) (fun i e' h' ⟨v,x',t3,t11,t12,t13,hi,hv⟩=>?_) ⟨_,.refl W,s3,s11,s12,s13,Nat.zero_le _,.inl ⟨rfl,rfl⟩⟩
  have W':=x'.wf
  by_cases hlt:i<ks.length
  ·left
   have c1:=Eo hlt
   obtain⟨x,hx⟩:∃ x,ks[i]? =some x:=⟨_,List.getElem?_eq_getElem hlt⟩
   obtain⟨U,ul,ou⟩:=hk x (List.mem_of_getElem? hx)
   obtain⟨bb,_,ix,ld,_⟩:=(K.ext W x').at hx
   have al:=fun (F:CallF) (e:Env)=>B7 (F:=F) (e:=e) W' (n:=6) (t:=C5)
   have Ra:=Hp.Row.alloc W' GO (show(Ab K0).length=6 from rfl)
   have y1:h'.Ext (h'.push (.cells C5 6 0)):=(Hp.Ext.refl W').push _
   generalize h'.push (.cells C5 6 0)=h1 at al Ra y1
   obtain⟨st,ld2,y2,R5,n2⟩:=L8 W' y1 (Nat.le_refl _) Ra rfl (k:=x) ou
   generalize h1.wr h'.next 0 (Ab x)=h2 at st ld2 y2 R5 n2
   have x2:=x'.trans y2
   obtain⟨h3,v',k3,y3,ov',vv'⟩:=dF (m:=m+1) x2.wf (U.ext W x2) ul
   have x3:=x2.trans y3
   have sl:=fun (F:CallF) (e:Env) (he:AB 19 e=B1 x.a x.b x.c x.s v')=>Yy (F:=F) x3.wf he
   have x4:=x3.pushRow 0 (A3 x.a x.b x.c x.s v')
   have y4:=(Hp.Ext.refl x3.wf).pushRow 0 (A3 x.a x.b x.c x.s v')
   have Rw:=Hp.Row.new x3.wf 0 (A3 x.a x.b x.c x.s v')
   generalize h3.pushRow 0 (A3 x.a x.b x.c x.s v')=h4 at sl x4 y4 Rw
   have hs:∀ K:List Value→R,BN h4 5 (.slice (some ⟨h3.next,0,none⟩) 1 1) 1 K=K (A3 x.a x.b x.c x.s v'):=fun K=>Rw.srcE (es:=5) (off:=0) (n:=1) (by show 0+1 * 5≤5;omega)
   have ha:Bh (A3 x.a x.b x.c x.s v')=true:=by
    show(bif A0 v' then true else false)=true
    rw[ov'];rfl
   have big:=W.big
   have htk:ks.take (i+1)=ks.take i++[x]:=by rw[List.take_add_one,hx];rfl
   have hil:(ks.take i).length=i:=by rw[List.length_take];omega
   have vn:h4.BS (fun b=>h.next≤b) v' (x.l.map bv):=(vv'.ext x3.wf y4).mono fun b hb=>by have:=x2.next;omega
   have app:∃ h5 b5 L5,DF 5 56 43 v (.slice (some ⟨h3.next,0,none⟩) 1 1) h4=.ok (.slice (some ⟨b5,0,none⟩) (i+1) (i+1)) h5∧h.Ext h5∧h5.Row b5 44 (flS L5)∧L5.map Kt.core=(ks.take (i+1)).map Kt.core∧h.next≤b5∧∀ y∈L5,h5.BS (fun b=>h.next≤b) y.u (y.l.map bv):=by
    rcases hv with ⟨hv,h0⟩|⟨b,L,hv,r,hL,hb,hvs⟩
    ·have h0:i=0:=by rw[h0]at hil;exact hil.symm
     obtain⟨h5,a1,a2,a3,a4,_,a6⟩:=N7 (eb:=56) (en:=43) x4 hs rfl rfl ha (by omega)
     exact⟨h5,_,[{x with u:=v'}],by rw[hv,h0];exact a1,a2,a3,by rw[htk,h0];rfl,x4.next,fun y hy=>by rw[List.mem_singleton.1 hy];exact vn.ext x4.wf a6⟩
    ·rw[hil]at hv
     have hLl:L.length=i:=by rw[← List.length_map (f:=Kt.core),hL,List.length_map,hil]
     have r4:=((r.ext W' y2).ext x2.wf y3).ext x3.wf y4
     obtain⟨h5,a1,a2,a3,_,_,a6⟩:=LT (eb:=56) (en:=43) (n:=i) x4 hs rfl rfl (by omega) ha r4 (by rw[Nl,hLl]) hb (by omega) (by omega)
     refine⟨h5,_,L++[{x with u:=v'}],by rw[hv];exact a1,a2,by rw[aj];exact a3,by rw[htk,List.map_append,List.map_append,hL];rfl,x4.next,fun y hy=>?_⟩
     have kp:∀ y:Kt,h4.BS (fun b=>h.next≤b) y.u (y.l.map bv)→h5.BS (fun b=>h.next≤b) y.u (y.l.map bv):=fun y o=>by
      rcases o with h1|⟨b6,off,c,el,L6,q1,q2,q3,q4,q5,q6,q7⟩
      ·exact .inl h1
      ·exact .inr ⟨b6,off,c,el,L6,q1,q2,a6 b6 el L6 (ES q3 r4 (by omega)) q3,q4,q5,q6,q7⟩
     rcases List.mem_append.1 hy with h1|h1
     ·exact kp y ((((hvs y h1).ext W' y2).ext x2.wf y3).ext x3.wf y4)
     ·rw[List.mem_singleton.1 h1];exact kp _ vn
   obtain⟨h5,b5,L5,k5,x5,R5',hL5,hb5,hvs5⟩:=app
   have a3:=CR (i:=i) (h:=h5) (by omega)
   have hrun:∃ e2,aaB (call AF (m+3)) e' h'=.norm e2 h5∧AB 3 e2=.slice (some ⟨b5,0,none⟩) (i+1) (i+1)∧AB 11 e2=lv∧AB 12 e2=.int .i64 (ks.length:Int)∧AB 13 e2=.int .i64 ((i+1:Nat):Int):=by
    unfold aaB
    simp only[sT,Nat.reduceLT,Nat.reduceEqDiff,reduceIte,AO,AN,t13,t12,c1,A8,t11,ix,Aw,Av,ld,al,Ao,st,ld2,cA0,k3,sl,BL,t3,k5,BR,a3]
    exact⟨_,rfl,by simp[AH,t11,t12]⟩
   obtain⟨e2,r1,r2,r3,r4,r5⟩:=hrun
   exact⟨hlt,e2,h5,r1,_,x5,r2,r3,r4,r5,by omega,.inr ⟨b5,L5,by rw[htk,List.length_append,hil];rfl,R5',hL5,hb5,hvs5⟩⟩
  ·right
   have hie:i=ks.length:=by omega
   have c1:=DD (show ks.length≤i by omega)
   have hrun:∃ e2,aaB (call AF (m+3)) e' h'=.exit 0 e2 h'∧AB 3 e2=v:=by
    unfold aaB
    simp only[sT,Nat.reduceLT,Nat.reduceEqDiff,reduceIte,AO,AN,t13,t12,c1]
    exact⟨_,rfl,by simp[AH,t3]⟩
   obtain⟨e2,r1,r2⟩:=hrun
   rw[r1]
   rw[hie,List.take_length]at hv
   exact⟨rfl,e2,h',v,rfl,x',r2,hv⟩
 obtain⟨e2,h2,v,r1,x2,r2,hv⟩:=run
 have key:call AF (m+4) 21 [pt A.bs] h=.ok v h2:=by
  rw[gv rfl,jP,q1,eZ]
  simp only[BP,A1,r1,A5,BJ]
  unfold aaE
  simp only[sT,Nat.reduceLT,Nat.reduceEqDiff,reduceIte,r2,lV0]
 exact⟨h2,v,key,x2,hv⟩
end
end
end Go.Proofs.YtedbmmfebjfibaaGreat

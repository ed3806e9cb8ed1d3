/-
  Part ZP of what Lawke stands on: printed by program, names and spaces cut.
-/
import Derived.Test.YtedbmmfebjfibaaGreatZO
open Go.Value renaming int→AI
open Go.IntKind renaming i64→AT
open Nat renaming reduceEqDiff→BY,reduceLT→By,reduceAdd→IS,le_refl→IT,zero_add→vk,lt_or_ge→wN,zero_le→wP,le_trans→wd,eq_zero_or_pos→wg,mul_comm→xr,zero_mul→zB,succ_mul→zW,lt_irrefl→AAA,not_lt_zero→AAT,add_comm→ABI,succ_pos→ABQ
open Go renaming Value→IN,World→wb
open List renaming length_append→No,length_map→OF,getElem?_eq_getElem→sh,getD_eq_getElem?_getD→vm,mem_cons_self→vp,mem_cons_of_mem→vr,length_cons→vw,mem_of_getElem?→vy,mem_filter→vz,mem_singleton→v7,replicate→v8,mem_cons→wA,getElem?_eq_some_iff→wC,getElem?_append_left→wD,append_nil→wF,append_assoc→wG,mem_append_right→wI,mem_append→wK,mem_map→wM,getElem?_append_right→wQ,length_take→wT,mem_append_left→wU,eq_nil_of_length_eq_zero→wh,range→wm,length_drop→xC,drop_zero→xF,mem_of_mem_take→xK,map_cons→xV,length_replicate→xh,nodup_cons→xx,flatten_cons→yD,nodup_append→yP,getElem_mem→ym,nodup_range→zU,mem_iff_getElem?→AAL,take_add_one→AAy,foldl_append→AA1,flatMap_cons→ACK
open Bool renaming and_eq_true→wJ
open Int renaming ofNat→wj
open Go.DataW renaming trod→yI
open Go.MemPlace renaming cell→yd
open Go.Value renaming chan→AAW
set_option linter.unusedVariables false
set_option linter.unusedSimpArgs false
namespace Go.Proofs.YtedbmmfebjfibaaGreat
noncomputable section
open Go Go.RowKit Go.WideShapes Go.ChangeShapes
set_option maxRecDepth 100000
theorem ZH{W:wb}{a:Addr}{v:IN}(h:W.cell? a=some v):a.spot=none/\∃ cs tt fr,W.heap[a.block]? =some (.cells cs tt fr)/\cs[a.off]? =some v:=by
 unfold World.cell? at h;split at h
 ·rename_i cs tt fr hb
  split at h
  ·cases h
  ·rename_i hs
   refine⟨?_,cs,tt,fr,hb,h⟩;cases hsp:a.spot with
   |none=>rfl
   |some s=>rw[hsp]at hs;exact(hs rfl).elim
 ·cases h
theorem dJ{W:wb}{a:Addr}{L:List IN}{cs:Array IN}{tt:TypeId}{fr:Nat×Nat}(hb:W.heap[a.block]? =some (.cells cs tt fr))(hc:∀ j,j<L.length->cs[a.off+j]? =some (L.getD j AEE))(hf:∀ j,j<L.length->W.frozen? ⟨a.block,a.off+j,none⟩=false):LG W a L:=by
 refine⟨cs,tt,fr,hb,hc,fun i hi hh=>?_⟩;have h6:=hf i hi;obtain⟨lo,hi'⟩:=fr;simp only[World.frozen?,hb]at h6;simp only at hh;simp only[Bool.and_eq_false_iff,decide_eq_false_iff_not]at h6;omega
theorem WS{α:Type}{Q:Nat->α->Prop}:∀ n,(∀ i,i<n->∃ x,Q i x)->∃ xs:List α,xs.length=n/\∀ i x,xs[i]? =some x->Q i x
 |0,_=>⟨[],rfl,fun i x h=>by cases h⟩
 |n+1,h=>by
  obtain⟨xs,hl,hx⟩:=WS n fun i hi=>h i (by omega)
  obtain⟨y,hy⟩:=h n (by omega);refine⟨xs++[y],by rw[No,hl];rfl,fun i x hi=>?_⟩;rcases wN i xs.length with h1|h1
  ·rw[wD h1]at hi;exact hx i x hi
  ·rw[wQ h1]at hi
   have h2:i - xs.length< [y].length:=(wC.1 hi).1;have h2:i - xs.length<1:=h2;have h3:i - xs.length=0:=by omega
   rw[h3]at hi;cases hi;rw[show i=n by omega];exact hy
theorem GT{s:Nat}:∀ {Ls:List (List IN)},(∀ l∈Ls,l.length=s)->Ls.flatten.length=Ls.length*s
 |[],_=>by simp
 |l::Ls,h=>by
  rw[yD,No,h l vp,GT fun x hx=>h x (vr _ hx),vw,zW,ABI]
theorem RE{s:Nat}:∀ {Ls:List (List IN)} {i r:Nat} {l:List IN},(∀ l∈Ls,l.length=s)->Ls[i]? =some l->r<s->Ls.flatten[i*s+r]? =l[r]?
 |[],i,_,_,_,h,_=>by cases h
 |x::Ls,0,r,l,h,hi,hr=>by
  cases hi;rw[yD,zB,vk,wD (by rw[h x vp];exact hr)]
 |x::Ls,i+1,r,l,h,hi,hr=>by
  have hx:=h x vp;rw[yD,wQ (by rw[hx,zW];omega),hx];have:(i+1)*s+r - s=i*s+r:=by rw[zW];omega
  rw[this];exact RE (fun y hy=>h y (vr _ hy)) hi hr
theorem OH{s:Nat}:∀ {Ls:List (List IN)} {i:Nat} {l:List IN} (R:List IN),(∀ l∈Ls,l.length=s)->Ls[i]? =some l->((Ls.flatten++R).drop (i*s)).take s=l
 |[],i,_,_,_,h=>by cases h
 |x::Ls,0,l,R,h,hi=>by
  cases hi;rw[zB,xF,yD,wG];exact List.take_left' (h x vp)
 |x::Ls,i+1,l,R,h,hi=>by
  have hx:=h x vp;have:(i+1)*s=s+i*s:=by rw[zW,ABI]
  rw[this,<- List.drop_drop,yD,wG,List.drop_left' hx];exact OH R (fun y hy=>h y (vr _ hy)) hi
def HQ(W:wb)(Q:List IN->Prop)(s:Nat)(v:IN)(n:Nat)(Ls:List (List IN)):Prop:=(∀ l∈Ls,l.length=s/\Q l)/\n<=Ls.length/\
 ((v=AEP/\Ls=[])\/(∃ a,v=.slice (some a) 0 0/\Ls=[])\/∃ a,v=.slice (some a) n Ls.length/\0<Ls.length/\a.spot=none/\LG W a Ls.flatten)
theorem J0{H:Type}{enc:TypeId×IN->H}{P:Program}{t e:TypeId}{s:Nat}(ht:P.underlying t=some (.slice e))(hs:P.cellsOf e=s)(h0:0<s){W:wb}{fuel:Nat}{v:IN}{x:DataW H×List MemPlace}{Q:List IN->Prop}
  (dec:∀ (m:Nat) (l:List IN) (y:DataW H×List MemPlace),l.length=s->yI enc P W 0 (fun _=>true) true m e l=some y->(∀ b off,yd b off∈y.2->W.frozen? ⟨b,off,none⟩=false)->Q l)
  (hf:yI enc P W 0 (fun _=>true) true fuel t [v]=some x)(hfz:∀ b off,yd b off∈x.2->W.frozen? ⟨b,off,none⟩=false):∃ n Ls,HQ W Q s v n Ls:=by
 rcases DataW.trod_slice ht hf with ⟨hcs,_⟩|⟨a,n,c,elems,rest,m,_,hcs,hx,_,hl,hm,hlen,hel,hsp,_⟩
 ·have:v=AEP:=by simpa using hcs
  exact⟨0,[],(fun l hl=>by cases hl),IT _,.inl ⟨this,rfl⟩⟩
 ·have:v=.slice (some a) n c:=by simpa using hcs
  subst this;obtain⟨hrl,hr⟩:=hsp rfl;subst hx;rcases wg c with hc|hc
  ·subst hc
   have:n=0:=by omega
   subst this;exact⟨0,[],(fun l hl=>by cases hl),IT _,.inr (.inl ⟨a,rfl,rfl⟩)⟩
  ·have htot:(elems++rest).length=c:=by rw[No];omega
   have each:∀ i,i<c->∃ l:List IN,(l.length=s/\Q l)/\∀ j,j<s->W.cell? ((a.add (i*s)).add j)=l[j]?:=fun i hi=>by
    have hi':i<(elems++rest).length:=by omega
    have hb:(W.cells? 0 (a.add (i*P.cellsOf e)) (P.cellsOf e)).bind (yI enc P W 0 (fun _=>true) true m e)=some ((elems++rest)[i]'hi'):=by
     rcases wN i n with h4|h4
     ·have:=hel i h4
      rw[this,<- sh hi',wD (by omega)]
     ·have:=hr (i - n) (by omega)
      rw[show n+(i - n)=i by omega]at this;rw[this,<- sh hi',wQ (by omega),hlen]
    rw[hs,Option.bind_eq_some_iff]at hb;obtain⟨l,h4,h5⟩:=hb;obtain⟨_,h6,h7⟩:=World.cells?_some h4;exact⟨l,⟨h6,dec m l _ h6 h5 fun b off hm=>hfz b off (wI _ (List.mem_flatMap.2 ⟨_,ym hi',hm⟩))⟩,h7⟩
   obtain⟨Ls,hLl,hLs⟩:=WS c each;have hall:∀ l∈Ls,l.length=s/\Q l:=fun l hl=>by
    obtain⟨i,hi,rfl⟩:=List.mem_iff_getElem.1 hl;exact(hLs i _ (sh hi)).1
   have hls:∀ l∈Ls,l.length=s:=fun l hl=>(hall l hl).1
   have hz:0<Ls.length:=by omega
   have c0:=(hLs 0 _ (sh hz)).2 0 h0;have hl0:0<(Ls[0]'hz).length:=by rw[hls _ (ym hz)];exact h0
   rw[sh hl0,zB]at c0;have c0:W.cell? a=some ((Ls[0]'hz)[0]'hl0):=c0;obtain⟨AI2,cs,tt,fr,hb,_⟩:=ZH c0;obtain⟨ab,ao,spot⟩:=a;simp only at AI2;subst AI2;have hfl:=GT hls;refine⟨n,Ls,hall,by omega,.inr (.inr ⟨⟨ab,ao,none⟩,by rw[hLl],hz,rfl,dJ hb (fun j hj=>?_) fun j hj=>hfz ab (ao+j) (wU _ ?_)⟩)⟩
   ·rw[hfl]at hj
    have hi:j/s<Ls.length:=Nat.div_lt_of_lt_mul (by rw[xr];exact hj);have hr:j % s<s:=Nat.mod_lt _ h0;have e:j/s*s+j % s=j:=by rw[xr];exact Nat.div_add_mod j s
    have hx:=sh hi;have q:=(hLs _ _ hx).2 _ hr;have g:=RE hls hx hr;rw[e]at g;have hll:j % s<(Ls[j/s]'hi).length:=by rw[hls _ (ym hi)];exact hr
    rw[sh hll]at q g;rw[Addr.AFF,Addr.AFF,IE hb]at q;rw[vm,g];show cs[ao+j]? =some _;have:ao+j/s*s+j % s=ao+j:=by omega
    rw[<- this];exact q
   ·simp only[MemPlace.row,wM,List.mem_range]
    exact⟨j,by rw[hfl]at hj;rw[hs,hlen,hrl,show n+(c - n)=c by omega,<- hLl];exact hj,rfl⟩
theorem bT{α:Type}{f:α->List IN}:∀ {Ls:List (List IN)},(∀ l∈Ls,∃ x,l=f x)->∃ xs:List α,Ls=xs.map f
 |[],_=>⟨[],rfl⟩
 |l::Ls,h=>by
  obtain⟨x,rfl⟩:=h l vp;obtain⟨xs,rfl⟩:=bT fun l hl=>h l (vr _ hl)
  exact⟨x::xs,rfl⟩
theorem W6{φ:Phi}{a:Addr}{n c i m:Nat}(hs:a.spot=none)(hn:n<=c)(hc:0<c)(hm:0<m)(hp:φ i=some (QF a m)):AED φ (.slice (some ⟨i,0,none⟩) n c) (.slice (some a) n c):=by
 refine .slice hn ⟨rfl,hs,_,hp,rfl,.inl ⟨hc,?_,.inl rfl⟩⟩;show a.off=(if m=0 then 0 else a.off)+0;rw[if_neg (by omega),Nat.add_zero]
theorem HQ.rel{W:wb}{Q:List IN->Prop}{s n:Nat}{v:IN}{Ls:List (List IN)}(b:HQ W Q s v n Ls)(h0:0<s)(rf:∀ l,Q l->∀ φ,AEX φ l l)(i:Nat):∃ (u:IN) (q:Option Pl),Yx W Ls.flatten q/\(∀ φ,AEX φ Ls.flatten Ls.flatten)/\(∀ φ:Phi,φ i=q->AED φ u v)/\
  ((u=AEP/\Ls=[])\/(u=.chan (some 0)/\Ls=[])\/u=.slice (some ⟨i,0,none⟩) n Ls.length):=by
 obtain⟨h1,h2,h3⟩:=b;have AEh:∀ φ,AEX φ Ls.flatten Ls.flatten:=fun φ=>by
  clear h2 h3
  induction Ls with
  |nil=>exact .nil
  |cons l Ls ih=>
   rw[yD];exact(rf l (h1 l vp).2 φ).append (ih fun l hl=>h1 l (vr _ hl))
 rcases h3 with ⟨rfl,rfl⟩|⟨a,rfl,rfl⟩|⟨a,rfl,h4,h5,h6⟩
 ·exact⟨AEP,none,.inl rfl,AEh,fun _ _=>.AEz,.inl ⟨rfl,rfl⟩⟩
 ·have:n=0:=by simpa using h2
  subst this;exact⟨.chan (some 0),none,.inl rfl,AEh,fun _ _=>.AGV,.inr (.inl ⟨rfl,rfl⟩)⟩
 ·have hfl:=GT fun l hl=>(h1 l hl).1
  refine⟨.slice (some ⟨i,0,none⟩) n Ls.length,some (QF a Ls.flatten.length),.inr ⟨a,rfl,h6⟩,AEh,fun φ hφ=>W6 h5 h2 h4 (by rw[hfl];exact Nat.mul_pos h4 h0) hφ,.inr (.inr rfl)⟩
def QB(l:List IN):Prop:=∃ x:Nat,l=[bv x]/\x<256
def QL(l:List IN):Prop:=∃ b:Bool,l=[.bool b]
theorem km{l:List IN}(h:QB l)(φ:Phi):AEX φ l l:=by
 obtain⟨x,rfl,_⟩:=h;exact .cons (.int _ _) .nil
theorem Ta{l:List IN}(h:QL l)(φ:Phi):AEX φ l l:=by
 obtain⟨x,rfl⟩:=h;exact .cons (.bool _) .nil
theorem SQ:∀ xs:List Nat,(xs.map fun x=>[bv x]).flatten=xs.map bv
 |[]=>rfl
 |a::xs=>by rw[xV,yD,SQ xs];rfl
theorem N9:∀ {Ls:List (List IN)},(∀ l∈Ls,QB l)->∃ xs:List Nat,Ls=xs.map (fun x=>[bv x])/\∀ x∈xs,x<256
 |[],_=>⟨[],rfl,fun x hx=>by cases hx⟩
 |l::Ls,h=>by
  obtain⟨x,rfl,hx⟩:=h l vp;obtain⟨xs,rfl,hxs⟩:=N9 fun l hl=>h l (vr _ hl)
  exact⟨x::xs,rfl,fun y hy=>by
   rcases wA.1 hy with rfl|hy
   ·exact hx
   ·exact hxs y hy⟩
theorem nN{W:wb}{v:IN}{n:Nat}{Ls:List (List IN)}(b:HQ W QB 1 v n Ls):∃ l:List Nat,(∀ x∈l,x<256)/\∀ (i:Nat) (u:IN),((u=AEP/\Ls=[])\/(u=.chan (some 0)/\Ls=[])\/u=.slice (some ⟨i,0,none⟩) n Ls.length)->∀ h:Hp,h.Row i 0 Ls.flatten->h.VE u (l.map bv):=by
 obtain⟨h1,h2,_⟩:=b;obtain⟨xs,rfl,hxs⟩:=N9 fun l hl=>(h1 l hl).2
 rw[OF]at h2;refine⟨xs.take n,fun x hx=>hxs x (xK hx),fun i u hu h hr=>?_⟩;rw[SQ]at hr;rcases hu with ⟨rfl,hx⟩|⟨rfl,hx⟩|rfl
 ·have:xs=[]:=by simpa using hx
  subst this;exact .inl (.inl ⟨rfl,by simp⟩)
 ·have:xs=[]:=by simpa using hx
  subst this;exact .inr ⟨⟨0,rfl⟩,by simp⟩
 ·have hl:(xs.take n).length=n:=by rw[wT];omega
  refine .inl (.inr ⟨i,0,(xs.map fun x=>[bv x]).length,0,xs.map bv,?_,hr,?_,?_⟩)
  ·rw[OF,OF,hl]
  ·rw[OF,hl,OF];omega
  ·rw[OF,hl,xF,List.map_take]
structure OD where
 kd:Int
 a:Int
 b:Int
 c:Int
 no:Int
 u:IN
 w:IN
def OD.cells(x:OD):List IN:=opL x.kd x.a x.b x.c x.no x.u x.w
def Yz(W:wb)(x:OD):Prop:=(∃ n Ls,HQ W QB 1 x.u n Ls)/\∃ n Ls,HQ W QL 1 x.w n Ls
theorem qy{φ:Phi}{kd a b c no:Int}{ui ub vi vb:IN}(h1:AED φ ui vi)(h2:AED φ ub vb):AEX φ (opL kd a b c no ui ub) (opL kd a b c no vi vb):=
 .cons (.int _ _) (.cons (.int _ _) (.cons (.int _ _) (.cons (.int _ _) (.cons (.int _ _) (.cons h1 (.cons h2 .nil))))))
theorem cZ{u:IN}{P Q:Prop}{i n m:Nat}(h:(u=AEP/\P)\/(u=.chan (some 0)/\Q)\/u=.slice (some ⟨i,0,none⟩) n m):oneCell u=true:=by
 rcases h with ⟨rfl,_⟩|⟨rfl,_⟩|rfl<;>rfl
theorem uf{u:IN}{P Q:Prop}{i n m:Nat}(h:(u=AEP/\P)\/(u=.chan (some 0)/\Q)\/u=.slice (some ⟨i,0,none⟩) n m):∀ k z,u≠.int k z:=fun k z e=>by
 rcases h with ⟨h,_⟩|⟨h,_⟩|h<;>rw[h]at e<;>cases e
theorem Wn{W:wb}:∀ (xs:List OD),(∀ x∈xs,Yz W x)->∀ k:Nat,∃ (us:List OD) (qs:List (Option Pl)) (Zs:List (List IN)),us.length=xs.length/\qs.length=2*xs.length/\Zs.length=2*xs.length/\
  (∀ (i:Nat) (q:Option Pl) (L:List IN),qs[i]? =some q->Zs[i]? =some L->Yx W L q/\∀ φ,AEX φ L L)/\(∀ φ:Phi,(∀ (i:Nat) (q:Option Pl),qs[i]? =some q->φ (i+k)=q)->AEX φ (us.flatMap OD.cells) (xs.flatMap OD.cells))/\
  (∀ h:Hp,(∀ (i:Nat) (L:List IN),Zs[i]? =some L->h.Row (i+k) 0 L)->∀ u∈us,∃ l:List Nat,h.VE u.u (l.map bv)/\(∀ x∈l,x<256)/\oneCell u.u=true/\AIP u.w)
 |[],_,k=>⟨[],[],[],rfl,rfl,rfl,(fun i q L h=>by cases h),(fun φ _=>.nil),fun h _ x hx=>by cases hx⟩
 |x::xs,hx,k=>by
  obtain⟨us,qs,Zs,l1,l2,l3,h1,h2,h3⟩:=Wn xs (fun y hy=>hx y (vr _ hy)) (k+2);obtain⟨⟨n,LI,bI⟩,⟨n',LB,bB⟩⟩:=hx x vp;obtain⟨ui,q0,i1,i2,i3,i4⟩:=bI.rel (by omega) (fun l h φ=>km h φ) k;obtain⟨ub,q1,j1,j2,j3,j4⟩:=bB.rel (by omega) (fun l h φ=>Ta h φ) (k+1);obtain⟨lb,hlb,hB⟩:=nN bI;refine⟨⟨x.kd,x.a,x.b,x.c,x.no,ui,ub⟩::us,q0::q1::qs,LI.flatten::LB.flatten::Zs,by rw[vw,vw,l1],by simp only[vw];omega,by simp only[vw];omega,fun i q' L e1 e2=>?_,fun φ hφ=>?_,fun h hr y hy=>?_⟩
  ·match i,e1,e2 with
   |0,e1,e2=>cases e1;cases e2;exact⟨i1,i2⟩
   |1,e1,e2=>cases e1;cases e2;exact⟨j1,j2⟩
   |i+2,e1,e2=>exact h1 i q' L e1 e2
  ·rw[ACK,ACK]
   refine(qy (i3 φ (by have:=hφ 0 q0 rfl;rwa [vk]at this)) (j3 φ (by have:=hφ 1 q1 rfl;rwa [ABI]at this))).append (h2 φ fun i q' e=>?_);have:=hφ (i+2) q' e
   rwa [show i+2+k=i+(k+2)by omega]at this
  ·rcases wA.1 hy with rfl|hy
   ·exact⟨lb,hB k ui i4 h (by have:=hr 0 _ rfl;rwa [vk]at this),hlb,cZ i4,cZ j4,uf j4⟩
   ·refine h3 h (fun i L e=>?_) y hy
    have:=hr (i+2) L e
    rwa [show i+2+k=i+(k+2)by omega]at this
theorem XK(φ:Phi):∀ L:List IN,AEX φ (v8 L.length (AAW none)) L
 |[]=>.nil
 |_::L=>.cons .unk (XK φ L)
def Yy(W:wb)(φ:Phi)(L:List IN)(q:Option Pl):Prop:=q=none\/∃ a L',q=some (QF a L.length)/\LG W a L'/\AEX φ L L'
theorem Yx.AIR{W:wb}{φ:Phi}{L:List IN}{q:Option Pl}(h:Yx W L q)(r:AEX φ L L):Yy W φ L q:=by
 rcases h with h|⟨a,ha,hr⟩
 ·exact .inl h
 ·exact .inr ⟨a,L,ha,hr,r⟩
theorem dL{W:wb}{U:TTy}{ps:List (Option Pl)}{Ls:List (List IN)}(AEO:Ls.length<=256)(hlen:ps.length=Ls.length)
  (h:∀ (i:Nat) (q:Option Pl) (L:List IN),ps[i]? =some q->Ls[i]? =some L->Yy W (OU ps) L q):AEG U (OU ps) nil (inH Ls) W:=
 qF AEO fun i p e=>by
  have e:(ps[i]?).getD none=some p:=e;cases hq:ps[i]? with
  |none=>rw[hq]at e;cases e
  |some q=>
   rw[hq]at e;have e:q=some p:=e;subst e;have hi:=(wC.1 hq).1;have hL:=sh (l:=Ls) (i:=i) (by omega);rcases h i _ _ hq hL with h|⟨a,L',ha,hr,hrl⟩
   ·cases h
   ·obtain rfl:=Option.some.inj ha
    exact⟨a,_,rfl,hL,hr.lt,cx hr hrl⟩
theorem Ju(xs:List OD):xs.flatMap OD.cells=(xs.map OD.cells).flatten:=by rw[List.flatMap_def]
theorem rA{W:wb}{v:IN}{n:Nat}{Ls:List (List IN)}(b:HQ W (fun l=>∃ x:OD,l=x.cells/\Yz W x) 7 v n Ls)(i k cap:Nat):
  ∃ (u:IN) (q:Option Pl) (L0:List IN) (qs:List (Option Pl)) (Zs:List (List IN)),qs.length=2*min n cap/\Zs.length=2*min n cap/\
  (∀ φ:Phi,φ i=q->(∀ (j:Nat) (q':Option Pl),qs[j]? =some q'->φ (j+k)=q')->Yy W φ L0 q/\AED φ u v)/\(∀ (j:Nat) (q':Option Pl) (L:List IN),qs[j]? =some q'->Zs[j]? =some L->Yx W L q'/\∀ φ,AEX φ L L)/\
  (∀ h:Hp,h.Wf->h.Row i 0 L0->(∀ (j:Nat) (L:List IN),Zs[j]? =some L->h.Row (j+k) 0 L)->AIQ h u n cap):=by
 obtain⟨h1,h2,h3⟩:=b;rcases h3 with ⟨rfl,rfl⟩|⟨a,rfl,rfl⟩|⟨a,rfl,h4,h5,h6⟩
 ·have:n=0:=by simpa using h2
  subst this;exact⟨AEP,none,[],[],[],by simp,by simp,fun φ _ _=>⟨.inl rfl,.AEz⟩,(fun j q' L h=>by cases h),fun h _ _ _=>⟨fun g=>rfl,fun i hi=>absurd hi (AAT _)⟩⟩
 ·have:n=0:=by simpa using h2
  subst this;exact⟨.chan (some 0),none,[],[],[],by simp,by simp,fun φ _ _=>⟨.inl rfl,.AGV⟩,(fun j q' L h=>by cases h),fun h _ _ _=>⟨fun g=>rfl,fun i hi=>absurd hi (AAT _)⟩⟩
 ·obtain⟨xs,hxs⟩:∃ xs:List OD,Ls=xs.map OD.cells/\∀ x∈xs,Yz W x:=by
   clear h2 h4 h5 h6
   induction Ls with
   |nil=>exact⟨[],rfl,fun x hx=>by cases hx⟩
   |cons l Ls ih=>
    obtain⟨_,x,rfl,hx⟩:=h1 l vp;obtain⟨xs,rfl,hxs⟩:=ih fun l hl=>h1 l (vr _ hl)
    exact⟨x::xs,rfl,fun y hy=>by
     rcases wA.1 hy with rfl|hy
     ·exact hx
     ·exact hxs y hy⟩
  obtain⟨rfl,hok⟩:=hxs;rw[OF]at h2 h4;have hml:(xs.take (min n cap)).length=min n cap:=by rw[wT];omega
  obtain⟨us,qs,Zs,l1,l2,l3,r1,r2,r3⟩:=Wn (xs.take (min n cap)) (fun x hx=>hok x (xK hx)) k;have hsplit:(xs.map OD.cells).flatten=(xs.take (min n cap)).flatMap OD.cells++(xs.drop (min n cap)).flatMap OD.cells:=by
   rw[<- Ju,<- List.flatMap_append,List.take_append_drop]
  have hcl:∀ (ys:List OD),∀ l∈ys.map OD.cells,l.length=7:=fun ys l hl=>by
   obtain⟨x,_,rfl⟩:=wM.1 hl;rfl
  have ul:(us.flatMap OD.cells).length=(xs.take (min n cap)).length*7:=by rw[Ju,GT (hcl us),OF,l1]
  have vl:((xs.take (min n cap)).flatMap OD.cells).length=(xs.take (min n cap)).length*7:=by rw[Ju,GT (hcl _),OF]
  have AIS:(us.flatMap OD.cells++v8 ((xs.drop (min n cap)).flatMap OD.cells).length (AAW none)).length=(xs.map OD.cells).flatten.length:=by
   rw[hsplit,No,No,xh,ul,vl]
  have hpos:0<(xs.map OD.cells).flatten.length:=by rw[GT (hcl xs),OF];omega
  refine⟨.slice (some ⟨i,0,none⟩) n (xs.map OD.cells).length,some (QF a (xs.map OD.cells).flatten.length),us.flatMap OD.cells++v8 ((xs.drop (min n cap)).flatMap OD.cells).length (AAW none),qs,Zs,by rw[l2,hml],by rw[l3,hml],fun φ hφ hq=>⟨.inr ⟨a,(xs.map OD.cells).flatten,by rw[AIS],h6,?_⟩,W6 h5 (by rw[OF];exact h2) (by rw[OF];exact h4) hpos hφ⟩,r1,fun h Wh hrow AIT=>⟨fun g=>Dv,fun j hj AKv=>?_⟩⟩
  ·rw[hsplit]
   exact(r2 φ hq).append (XK φ _)
  ·have hju:j<us.length:=by rw[l1,hml];omega
   have hx:us[j]? =some (us[j]'hju):=sh hju;obtain⟨lb,hB,hlb,ou,ow⟩:=r3 h AIT _ (ym hju);refine⟨i,(us[j]'hju).kd,(us[j]'hju).a,(us[j]'hju).b,(us[j]'hju).c,(us[j]'hju).no,(us[j]'hju).u,(us[j]'hju).w,lb,fun g xg=>?_,hB,hlb,ou,ow⟩;have hm:(us.map OD.cells)[j]? =some (us[j]'hju).cells:=by rw[List.getElem?_map,hx];rfl
   have hd:=OH (v8 ((xs.drop (min n cap)).flatMap OD.cells).length (AAW none)) (hcl us) hm;rw[<- Ju]at hd;refine⟨?_,?_,?_⟩
   ·have:=Cy (h:=g) (n:=n) (c:=(xs.map OD.cells).length) (es:=7) (b:=i) (off:=0) (k:=.i64) hj
    rwa [vk]at this
   ·rw[(hrow.ext Wh xg).loadN (by rw[No,ul];omega),hd];rfl
   ·rw[(hrow.ext Wh xg).AEF (by rw[No,ul];omega)]
    have h5:((us.flatMap OD.cells++v8 ((xs.drop (min n cap)).flatMap OD.cells).length (AAW none)).drop (j*7)).take 7=(us[j]'hju).cells:=hd;have h6:=congrArg (fun l=>l[5]?) h5;simp only[List.getElem?_take,List.getElem?_drop]at h6;rw[if_pos (by omega)]at h6;rw[vm,h6];rfl
end
noncomputable section
open Go
set_option maxRecDepth 100000
def Cnt(ks:List Kt):Prop:=(∀ x∈ks,∀ y∈ks,¬ Mx x y)/\(ks.map Kt.key).Nodup
section
variable {h g g':Hp}{T M:List Nat}{bd tb n m k:Nat}{v:IN}{ks:List Kt}
structure O3 (h g:Hp)(T M:List Nat)(bs r9 k1 bd tb i:Nat)(v mv:IN)(ks:List Kt):Prop where
 x:h.Ext g
 row:g.Row bs 0 (slL bd tb AEP AEP (AFR T M i).length false)
 rb:g.Row r9 0 [pt bs]
 ko:g.KO k1 v ks
 ok:∀ k∈ks,AGZ g (fun b=>r9<b) k
 ms:g.Own k1 3 mv (ints .i64 ((mrk T M i).map wj))
 le:k1<=g.next
theorem O3.ext{g g':Hp}{bs r9 k1 i:Nat}{mv:IN}(o:O3 h g T M bs r9 k1 bd tb i v mv ks)(x:g.Ext g'):O3 h g' T M bs r9 k1 bd tb i v mv ks:=
 have W:=o.x.wf
 ⟨o.x.trans x,o.row.ext W x,o.rb.ext W x,o.ko.ext W x,fun k hk=>⟨(o.ok k hk).1.ext W x,(o.ok k hk).2⟩,o.ms.ext W x,wd o.le x.next⟩
theorem jj{g:Hp}{r9 k1 i:Nat}{mv:IN}(W:h.Wf)(o:O1 h g T M h.next r9 k1 bd tb i v mv ks)(hl:ks.length<=12)(h1:h.next<r9)(h2:r9<k1):
  ∃ g',call AC (m+7) 50 [v,.func (.func 51) ⟨[]⟩ ⟨[]⟩] g=.ok AEE g'/\O3 h g' T M h.next r9 k1 bd tb i v mv (Bq ks):=by
 have Wg:=o.x.wf;rcases o.ko with ⟨rfl,rfl⟩|⟨b,rfl,R,hb,AEO⟩
 ·obtain⟨g3,k3,x3⟩:=jh (m:=m+1) Wg (S:=fun _=>True) (ks:=[]) (.inl ⟨rfl,rfl⟩) (wP _) fun i x y hx _=>by cases hx
  have o3:=o.ext x3;exact⟨g3,k3,⟨o3.x,o3.row,o3.rb,o3.ko,o3.ok,o3.ms,o3.le⟩⟩
 ·have hu:∀ k∈ks,oneCell k.u=true:=fun k hk=>(o.ok k hk).1.vs.one.2.1
  obtain⟨g3,k3,f3,R3⟩:=TA (m:=m+1) (Z:=[]) (n:=ks.length) (c:=ks.length) Wg (by rw[wF];exact R) AEO rfl (IT _) hl hu;rw[wF]at R3;refine⟨g3,k3,⟨Fx.xtF o.x f3 fun i hi=>by rw[hi];omega,f3.row Wg o.row (by omega),f3.row Wg o.rb (by omega),.inr ⟨b,by rw[Ie],R3,hb,AEO⟩,fun k hk=>?_,?_,wd o.le f3.next⟩⟩
  ·have hk:=Ep.1 hk
   exact⟨(o.ok k hk).1.keep fun b' el L _ he r=>f3.row Wg r (Cp r R (by omega)),(o.ok k hk).2⟩
  ·rcases o.ms with h1|⟨b',h1,h2,h3,h4⟩
   ·exact .inl h1
   ·exact .inr ⟨b',h1,f3.row Wg h2 (Cp h2 R (by omega)),h3,h4⟩
end
end
noncomputable section
open Go
set_option maxRecDepth 100000
structure AE6 (np:Nat)(T M:List Nat)(ks:List Kt)(fr:List Nat):Prop where
 len:M.length=64*(3*np)
 hd:∀ k∈ks,sec M (3*k.p)=AEJ T k.a k.b k.c k.s k.l
 dt:∀ k∈ks,dat M k.p k.l.length=k.l
 bl:∀ p∈fr,∀ r,r<64->M.getD (64*(3*p)+r) 0=0
 rs:∀ k∈ks,AEN k.a k.b k.c k.s k.l.length=true/\k.l.length<=100
 pl:∀ p∈fr,p<np
abbrev Med(T M:List Nat)(ks:List Kt)(fr:List Nat):Prop:=AE6 8 T M ks fr
def Com(ks:List Kt):Prop:=∀ x∈ks,∀ y∈ks,y.a=x.a->y.b=x.b->y.s=2->y.c<=x.c
section
variable {T M M':List Nat}{ks ks':List Kt}{fr fr' ps:List Nat}{kd a b c:Int}{l H:List Nat}{n p q k np:Nat}
theorem Gf(h1:M'.length=M.length)(h:∀ x,x/64=q->M'.getD x 0=M.getD x 0):sec M' q=sec M q:=by
 have hl:∀ M:List Nat,(sec M q).length=min 64 (M.length - 64*q):=fun M=>by unfold sec;rw[wT,xC]
 refine JX (by rw[hl,hl,h1]) fun i hi=>?_
 rw[hl]at hi;rw[J2 (by omega),J2 (by omega),h _ (by omega)]
theorem Ez(h1:M'.length=M.length)(hk:k<=128)(h:∀ x,x/64=3*p+1\/x/64=3*p+2->M'.getD x 0=M.getD x 0):dat M' p k=dat M p k:=by
 have hl:∀ M:List Nat,(dat M p k).length=min k (M.length - 64*(3*p+1)):=fun M=>by unfold dat;rw[wT,xC]
 refine JX (by rw[hl,hl,h1]) fun i hi=>?_
 rw[hl]at hi;rw[Mi (by omega),Mi (by omega),h _ (by omega)]
theorem QM(h1:M.length=64*n)(hq:q<n)(hH:H.length=64)(h:∀ r,r<64->M.getD (64*q+r) 0=H.getD r 0):sec M q=H:=by
 have hl:=J3 h1 hq;refine JX (by rw[hl,hH]) fun i hi=>?_
 rw[J2 (by omega),h i (by omega)]
theorem pS(h1:M.length=64*n)(hp:3*p+3<=n)(hl:l.length<=128)(h:∀ r,r<l.length->M.getD (64*(3*p+1)+r) 0=l.getD r 0):dat M p l.length=l:=by
 have hd:(dat M p l.length).length=l.length:=by unfold dat;rw[wT,xC];omega
 refine JX hd fun i hi=>?_
 rw[hd]at hi;rw[Mi hi,h i hi]
theorem aF(hM:M.length=64*n)(hp:3*p+3<=n)(hl:l.length<=100)(hH:H.length=64):
  (DT T M p l H).length=64*n/\sec (DT T M p l H) (3*p)=H/\dat (DT T M p l H) p l.length=l/\∀ x,x/192≠p->(DT T M p l H).getD x 0=M.getD x 0:=by
 rcases wg l.length with h0|h0
 ·obtain rfl:=wh h0
  have e:DT T M p [] H=Fh M (p*3) H:=rfl;have hL:=Cn hM (show p*3<n by omega) hH;rw[e];refine⟨hL,QM hL (by omega) hH fun r hr=>?_,List.take_zero,fun x hx=>?_⟩
  ·rw[DM hM (by omega) hH,if_pos (by omega),show(64*(3*p)+r) % 64=r by omega]
  ·rw[DM hM (by omega) hH,if_neg (by omega)]
 ·obtain⟨hL,hx⟩:=aG (T:=T) hM hp ⟨h0,hl⟩ hH
  refine⟨hL,QM hL (by omega) hH fun r hr=>?_,pS hL hp (by omega) fun r hr=>?_,fun x hn=>?_⟩
  ·rw[hx,if_pos (by omega),show(64*(3*p)+r) % 64=r by omega]
  ·rw[hx,if_neg (by omega)]
   by_cases h1:r<64
   ·rw[if_pos (by omega),show(64*(3*p+1)+r) % 64=r by omega]
   ·rw[if_neg (by omega),if_pos ⟨by omega,by omega⟩,show 64+(64*(3*p+1)+r) % 64=r by omega]
  ·rw[hx,if_neg (by omega),if_neg (by omega),if_neg (by omega)]
theorem db:∀ (ps:List Nat) {M:List Nat},M.length=64*n->(∀ p∈ps,3*p+3<=n)->(Fy M ps).length=64*n/\∀ x,(Fy M ps).getD x 0=if x % 192<64/\x/192∈ps then 0 else M.getD x 0
 |[],M,hM,_=>⟨hM,fun x=>by rw[if_neg (fun h=>by cases h.2)];rfl⟩
 |p::ps,M,hM,hp=>by
  have h3:=hp p vp;have e:Fy M (p::ps)=Fy (Fh M (p*3) A9) ps:=rfl;have hz:A9.length=64:=xh;have hL:=Cn hM (show p*3<n by omega) hz;obtain⟨g1,g2⟩:=db ps hL fun q hq=>hp q (vr _ hq)
  rw[e];refine⟨g1,fun x=>?_⟩;rw[g2,DM hM (by omega) hz];by_cases h1:x % 192<64/\x/192∈ps
  ·rw[if_pos h1,if_pos ⟨h1.1,vr _ h1.2⟩]
  ·rw[if_neg h1]
   by_cases h2:x/64=p*3
   ·rw[if_pos h2,if_pos ⟨by omega,by rw[show x/192=p by omega];exact vp⟩]
    unfold A9;exact Ng
   ·rw[if_neg h2,if_neg]
    rintro⟨q1,q2⟩;rcases wA.1 q2 with q2|q2
    ·omega
    ·exact h1 ⟨q1,q2⟩
theorem IG:∀ (out:List Kt) (M:List Nat),EW M out=Fy M (out.map Kt.plc)
 |[],_=>rfl
 |x::out,M=>IG out (Fy M [x.p])
theorem AE6.cut(m:AE6 np T M ks fr)(hs:∀ k∈ks',k∈ks/\k.p∉ps)(hf:∀ p∈fr',p∈fr\/p∈ps)(hp:∀ p∈ps,3*p+3<=3*np):AE6 np T (Fy M ps) ks' fr':=by
 obtain⟨g1,g2⟩:=db ps m.len hp;have hn:∀ k∈ks',∀ x,x/192=k.p->(Fy M ps).getD x 0=M.getD x 0:=fun k hk x hx=>by
  rw[g2,if_neg];rintro⟨_,q2⟩;rw[hx]at q2;exact(hs k hk).2 q2
 refine⟨g1,fun k hk=>?_,fun k hk=>?_,fun p hp r hr=>?_,fun k hk=>m.rs k (hs k hk).1,fun p hp'=>?_⟩
 ·rw[Gf (g1.trans m.len.symm) fun x hx=>hn k hk x (by omega)]
  exact m.hd k (hs k hk).1
 ·rw[Ez (g1.trans m.len.symm) (by have:=(m.rs k (hs k hk).1).2;omega) fun x hx=>hn k hk x (by omega)]
  exact m.dt k (hs k hk).1
 ·rw[g2]
  by_cases h1:(64*(3*p)+r) % 192<64/\(64*(3*p)+r)/192∈ps
  ·rw[if_pos h1]
  ·rw[if_neg h1]
   rcases hf p hp with h|h
   ·exact m.bl p h r hr
   ·exact absurd ⟨by omega,by rw[show(64*(3*p)+r)/192=p by omega];exact h⟩ h1
 ·rcases hf p hp' with h|h
  ·exact m.pl p h
  ·have:=hp p h;omega
theorem AE6.go(m:AE6 np T M ks fr)(i:AEq np ks fr)(P:Kt->Bool){out:List Kt}(ho:out.Perm (ks.filter P)):AE6 np T (Fy M (out.map Kt.plc)) (ks.filter fun k=> !P k) (frE fr out):=by
 refine m.cut (fun k hk=>?_) (fun p hp=>?_) fun p hp=>?_
 ·obtain⟨h1,h2⟩:=vz.1 hk
  refine⟨h1,fun hp=>?_⟩;obtain⟨y,hy,hyp⟩:=wM.1 hp;obtain⟨h3,h4⟩:=vz.1 (ho.mem_iff.1 hy);rw[CZ i.nd h3 h1 hyp]at h4;rw[h4]at h2;cases h2
 ·have:=(Je out fr).mem_iff.1 hp
  exact wK.1 this
 ·obtain⟨y,hy,rfl⟩:=wM.1 hp
  exact i.lt y (vz.1 (ho.mem_iff.1 hy)).1
theorem H7(hc:Com ks)(hst:Bm a b c ks=false):∀ y∈ks,y.a=a->y.b=b->y.s=2->y.c<c:=fun y hy h1 h2 h3=>by
 unfold Bm at hst;cases hf:ks.find? (Kw a b)with
 |none=>
  refine absurd ?_ (List.find?_eq_none.1 hf y hy);unfold Kw;rw[decide_eq_true h1,decide_eq_true h2,decide_eq_true h3];rfl
 |some k=>
  rw[hf]at hst;have hk:=List.find?_some hf;unfold Kw at hk;rw[wJ,wJ]at hk;have k1:=of_decide_eq_true hk.1.1;have k2:=of_decide_eq_true hk.1.2;have k3:=of_decide_eq_true hk.2;have hkm:=List.mem_of_find?_eq_some hf;have:=hc k hkm y hy (h1.trans k1.symm) (h2.trans k2.symm) h3;have h4:¬ c<=k.c:=of_decide_eq_false hst;omega
theorem mem_set{x y z:Kt}{j:Nat}(hj:ks[j]? =some x)(hz:z∈ks.set j y):z=y\/z∈ks:=(List.mem_or_eq_of_mem_set hz).symm
theorem jc{x y z:Kt}{j:Nat}(hj:ks[j]? =some x)(hz:z∈ks)(hne:z≠x):z∈ks.set j y:=by
 obtain⟨i,hi⟩:=AAL.1 hz;refine AAL.2 ⟨i,?_⟩;rw[List.getElem?_set,if_neg]
 ·exact hi
 ·intro h
  rw[<- h,hj]at hi;exact hne (Option.some.inj hi).symm
theorem DK{x y:Kt}(h:x.core=y.core):x.a=y.a/\x.b=y.b/\x.c=y.c/\x.s=y.s/\x.l=y.l/\x.p=y.p:=⟨congrArg Kc.a h,congrArg Kc.b h,congrArg Kc.c h,congrArg Kc.s h,congrArg Kc.l h,congrArg Kc.p h⟩
theorem TM(i:AEq np ks fr)(m:AE6 np T M ks fr)(hc:Com ks)(t:Tb T M ks fr kd a b c l M' ks' fr'):AE6 np T M' ks' fr'/\Com ks'/\(∀ k,¬ (k.a=a/\k.b=b)->(k∈ks'↔k∈ks)):=by
 rcases t with ⟨hk,hz,p,k',rfl,rfl,hcr,rfl⟩|⟨hk,j,kx,hj,AFL,hst,rfl,rfl,rfl⟩|⟨rfl,j,kx,hj,AFL,hst,rfl,rfl,rfl⟩|⟨rfl,rfl,rfl,rfl⟩
 ·unfold DX at hz
  split at hz
  ·cases hz
  rename_i hn;split at hz
  ·split at hz<;>cases hz
  split at hz
  ·cases hz
  rename_i hst;have AGb:Bm a b c ks=false:=by
   cases hq:Bm a b c ks
   ·rfl
   ·exact absurd hq hst
  have hr:AEN a b c 1 l.length=true:=by
   cases hq:AEN a b c 1 l.length
   ·exact absurd (.inl hq) hn
   ·rfl
  have AFy:l.length<=100:=Nat.le_of_not_lt fun h=>hn (.inr h)
  have e1:k'.a=a:=congrArg Kc.a hcr;have e2:k'.b=b:=congrArg Kc.b hcr;have e3:k'.c=c:=congrArg Kc.c hcr;have e4:k'.s=1:=congrArg Kc.s hcr;have e5:k'.l=l:=congrArg Kc.l hcr;have e6:k'.p=p:=congrArg Kc.p hcr;have hp8:=m.pl p vp;obtain⟨g1,g2,g3,g4⟩:=aF (T:=T) (p:=p) (H:=AEJ T a b c 1 l) m.len (by omega) AFy (Dm hr);have hnd:(ks.map Kt.plc++(p::fr')).Nodup:=i.plc.nodup_iff.2 zU;have hmem:∀ k,k∈Bq (ks++[k'])↔k∈ks\/k=k':=fun k=>by rw[Ep,wK,v7]
  have hkp:∀ k∈ks,k.p≠p:=fun k hk h=>(yP.1 hnd).2.2 k.p (wM.2 ⟨k,hk,rfl⟩) p vp h
  have hfp:∀ q∈fr',q≠p:=fun q hq h=>(xx.1 (yP.1 hnd).2.1).1 (h ▸ hq)
  have hs:∀ k∈ks,∀ x,x/192=k.p->(DT T M p l (AEJ T a b c 1 l)).getD x 0=M.getD x 0:=fun k hk x hx=>g4 x (by rw[hx];exact hkp k hk)
  refine⟨⟨g1,fun k hk=>?_,fun k hk=>?_,fun q hq r hr=>?_,fun k hk=>?_,fun q hq=>m.pl q (vr _ hq)⟩,fun x hx y hy h1 h2 h3=>?_,fun k hne=>?_⟩
  ·rcases (hmem k).1 hk with hk|rfl
   ·rw[Gf (g1.trans m.len.symm) fun x hx=>hs k hk x (by omega)]
    exact m.hd k hk
   ·rw[e6,g2,e1,e2,e3,e4,e5]
  ·rcases (hmem k).1 hk with hk|rfl
   ·rw[Ez (g1.trans m.len.symm) (by have:=(m.rs k hk).2;omega) fun x hx=>hs k hk x (by omega)]
    exact m.dt k hk
   ·rw[e6,e5,g3]
  ·rw[g4 _ (by have:=hfp q hq;omega)]
   exact m.bl q (vr _ hq) r hr
  ·rcases (hmem k).1 hk with hk|rfl
   ·exact m.rs k hk
   ·rw[e1,e2,e3,e4,e5];exact⟨hr,AFy⟩
  ·rcases (hmem y).1 hy with hyk|hyk
   ·rcases (hmem x).1 hx with hxk|hxk
    ·exact hc x hxk y hyk h1 h2 h3
    ·rw[hxk]at h1 h2 ⊢
     have:=H7 hc AGb y hyk (h1.trans e1) (h2.trans e2) h3;rw[e3];omega
   ·rw[hyk]at h3
    omega
  ·rw[hmem]
   refine⟨fun h=>h.resolve_right fun h1=>hne (by rw[h1];exact⟨e1,e2⟩),.inl⟩
 ·have hjl:=(wC.1 hj).1
  have hkm:=vy hj;obtain⟨rfl,rfl,rfl⟩:=AFL;have hp3:=i.lt kx hkm;have hr0:=m.rs kx hkm;have hr2:AEN kx.a kx.b kx.c 2 kx.l.length=true:=by
   obtain⟨g1,g2,g3,g4,g5,g6,g7,g8⟩:=Dh hr0.1;exact decide_eq_true ⟨g1,g2,g3,g4,g5,g6,.inr rfl,g8⟩
  obtain⟨g1,g2⟩:=Me m.len (p:=kx.p) hp3 (Dm (T:=T) hr2);have i2:=i.set (y:={kx with s:=2}) hj rfl rfl;have AEg:∀ z∈ks.set j {kx with s:=2},z={kx with s:=2}\/(z∈ks/\z.p≠kx.p):=fun z hz=>by
   rcases mem_set hj hz with h|h
   ·exact .inl h
   ·by_cases hzp:z.p=kx.p
    ·have hX:({kx with s:=2}:Kt)∈ks.set j {kx with s:=2}:=List.mem_set hjl _
     exact .inl (CZ i2.nd hz hX hzp)
    ·exact .inr ⟨h,hzp⟩
  have hs:∀ z∈ks,z.p≠kx.p->∀ x,x/192=z.p->(EK M kx.p (AEJ T kx.a kx.b kx.c 2 kx.l)).getD x 0=M.getD x 0:=fun z hz hzp x hx=>by rw[g2,if_neg (by omega)]
  have m2:AE6 np T (EK M kx.p (AEJ T kx.a kx.b kx.c 2 kx.l)) (ks.set j {kx with s:=2}) fr:=by
   refine⟨g1,fun k hk=>?_,fun k hk=>?_,fun q hq r hr=>?_,fun k hk=>?_,m.pl⟩
   ·rcases AEg k hk with rfl|⟨h1,h2⟩
    ·exact QM g1 (by show 3*kx.p<3*np;omega) (Dm hr2) fun r hr=>by rw[g2,if_pos (show(64*(3*kx.p)+r)/64=3*kx.p by omega),show(64*(3*kx.p)+r) % 64=r by omega]
    ·rw[Gf (g1.trans m.len.symm) fun x hx=>hs k h1 h2 x (by omega)]
     exact m.hd k h1
   ·rcases AEg k hk with rfl|⟨h1,h2⟩
    ·show dat _ kx.p kx.l.length=kx.l
     rw[Ez (g1.trans m.len.symm) (by omega) fun x hx=>by rw[g2,if_neg (by omega)]];exact m.dt kx hkm
    ·rw[Ez (g1.trans m.len.symm) (by have:=(m.rs k h1).2;omega) fun x hx=>hs k h1 h2 x (by omega)]
     exact m.dt k h1
   ·have hnd:(ks.map Kt.plc++fr).Nodup:=i.plc.nodup_iff.2 zU
    have hqk:kx.p≠q:=(yP.1 hnd).2.2 kx.p (wM.2 ⟨kx,hkm,rfl⟩) q hq;rw[g2,if_neg (by omega)];exact m.bl q hq r hr
   ·rcases AEg k hk with rfl|⟨h1,h2⟩
    ·exact⟨hr2,hr0.2⟩
    ·exact m.rs k h1
  have m3:=m2.go i2 (elB kx.a kx.b kx.c) (out:=(ks.set j {kx with s:=2}).filter (elB kx.a kx.b kx.c)) (.refl _);refine⟨m3,fun x hx y hy h1 h2 h3=>?_,fun k hne=>?_⟩
  ·obtain⟨hx1,hx2⟩:=vz.1 hx
   obtain⟨hy1,hy2⟩:=vz.1 hy;rcases AEg y hy1 with rfl|⟨hy3,hy4⟩
   ·refine Int.not_lt.1 fun hlt=>?_
    have hlt:x.c<kx.c:=hlt;have h1:kx.a=x.a:=h1;have h2:kx.b=x.b:=h2;unfold elB at hx2;rw[decide_eq_true h1.symm,decide_eq_true h2.symm,decide_eq_true hlt]at hx2;cases hx2
   ·rcases AEg x hx1 with rfl|⟨hx3,hx4⟩
    ·have h1:y.a=kx.a:=h1
     have h2:y.b=kx.b:=h2;have hlt:=H7 hc hst y hy3 h1 h2 h3;unfold elB at hy2;rw[decide_eq_true h1,decide_eq_true h2,decide_eq_true hlt]at hy2;cases hy2
    ·exact hc x hx3 y hy3 h1 h2 h3
  ·rw[vz]
   constructor
   ·rintro⟨h1,_⟩
    rcases AEg k h1 with rfl|⟨h2,_⟩
    ·exact absurd ⟨rfl,rfl⟩ hne
    ·exact h2
   ·intro h1
    refine⟨jc hj h1 fun h=>hne (by rw[h];exact⟨rfl,rfl⟩),?_⟩;cases hq:elB kx.a kx.b kx.c k
    ·rfl
    ·unfold elB at hq
     rw[wJ,wJ]at hq;exact absurd ⟨of_decide_eq_true hq.1.1,of_decide_eq_true hq.1.2⟩ hne
 ·obtain⟨AFp,hPl⟩:=Py hj
  obtain⟨rfl,rfl,rfl⟩:=AFL;have hkm:=vy hj;have hp3:=i.lt kx hkm;have hnd:=i.nd;have hsub:∀ k∈ks.take j++ks.drop (j+1),k∈ks/\k.p≠kx.p:=fun k hk=>by
   have hkk:k∈ks:=by
    rcases wK.1 hk with h|h
    ·exact xK h
    ·exact List.mem_of_mem_drop h
   refine⟨hkk,fun hp=>?_⟩;have e:=CZ hnd hkk hkm hp;rw[AFp]at hnd;have pm:(ks.take j++kx::ks.drop (j+1)).Perm (kx::(ks.take j++ks.drop (j+1))):=List.perm_middle;have kn:=(pm.map Kt.plc).nodup_iff.1 hnd;rw[xV,xx]at kn;exact kn.1 (wM.2 ⟨k,hk,hp⟩)
  refine⟨m.cut (fun k hk=>⟨(hsub k hk).1,fun h=>(hsub k hk).2 (v7.1 h)⟩) (fun p hp=>wK.1 ((HB _).mem_iff.1 hp)) (fun p hp=>by rw[v7.1 hp];exact hp3),fun x hx y hy=>hc x (hsub x hx).1 y (hsub y hy).1,fun k hne=>⟨fun h=>(hsub k h).1,fun h=>?_⟩⟩;rw[AFp]at h;rcases wK.1 h with h|h
  ·exact wU _ h
  ·rcases wA.1 h with h|h
   ·exact absurd ⟨by rw[h],by rw[h]⟩ hne
   ·exact wI _ h
 ·refine⟨by rw[IG];exact m.go i (drB a b c) (List.reverse_perm _),fun x hx y hy=>hc x (vz.1 hx).1 y (vz.1 hy).1,fun k hne=>?_⟩
  rw[vz];refine⟨fun h=>h.1,fun h=>⟨h,?_⟩⟩;cases hq:drB a b c k
  ·rfl
  ·unfold drB at hq
   rw[wJ,wJ]at hq;exact absurd ⟨of_decide_eq_true hq.1.1,of_decide_eq_true hq.1.2⟩ hne
end
end
noncomputable section
open Go
set_option maxRecDepth 100000
theorem aX{F:Nat->Option Kc}:∀ {ks:List Kt},(∀ k∈ks,F k.p=some k.core)->(ks.map Kt.plc).filterMap F=ks.map Kt.core
 |[],_=>rfl
 |k::ks,h=>by
  show(k.p::ks.map Kt.plc).filterMap F=_;rw[List.filterMap_cons_some (h k vp),aX fun x hx=>h x (vr _ hx),xV]
theorem V4{F:Nat->Option Kc}:∀ {fr:List Nat},(∀ p∈fr,F p=none)->fr.filterMap F=[]
 |[],_=>rfl
 |p::fr,h=>by rw[List.filterMap_cons_none (h p vp),V4 fun x hx=>h x (vr _ hx)]
def qL(c:Kc):Int×Int×Int:=(c.a,c.b,c.c)
theorem Pv(ks:List Kt):ks.map Kt.key=(ks.map Kt.core).map qL:=by rw[List.map_map];rfl
theorem Zo{ks ks0:List Kt}(pm:(ks0.map Kt.core).Perm (ks.map Kt.core)){x:Kt}(hx:x∈ks0):∃ y∈ks,y.core=x.core:=wM.1 (pm.mem_iff.1 (wM.2 ⟨x,hx,rfl⟩))
section
variable {h:Hp}{T M:List Nat}{k p bl np:Nat}{ks:List Kt}{fr:List Nat}
theorem AE6.find(i:AEq np ks fr)(md:AE6 np T M ks fr):(kcs T M np).Perm (ks.map Kt.core)/\AFR T M np=[]/\∀ p∈mrk T M np,∃ k∈ks,k.p=p:=by
 have hold:=fun (k:Kt) (hk:k∈ks)=>RK (p:=k.p) (md.rs k hk).1 (md.rs k hk).2 (md.hd k hk) (md.dt k hk)
 have AHi:=fun (p:Nat) (hp:p∈fr)=>aR (T:=T) md.len (show 3*p<3*np by have:=md.pl p hp;omega) (md.bl p hp)
 have hall:∀ p∈wm np,(∃ k∈ks,k.p=p)\/p∈fr:=fun p hp=>by
  rcases wK.1 (i.plc.mem_iff.2 hp)with h|h
  ·obtain⟨k,hk,hkp⟩:=wM.1 h
   exact .inl ⟨k,hk,hkp⟩
  ·exact .inr h
 refine⟨?_,List.filter_eq_nil_iff.2 fun p hp hb=>?_,fun p hp=>?_⟩
 ·have h1:(kcs T M np).Perm ((ks.map Kt.plc++fr).filterMap fun p=>(lkN T M p).map (bD M p)):=by
   unfold kcs;exact(i.plc.symm).filterMap _
  rw[List.filterMap_append,aX (fun k hk=>by
   obtain⟨_,h2,h3,_⟩:=hold k hk;rw[h2];exact congrArg some h3),V4 (fun p hp=>by rw[(AHi p hp).1];rfl),wF]at h1
  exact h1
 ·rcases hall p hp with ⟨k,hk,rfl⟩|h
  ·rw[(hold k hk).2.2.2]at hb;cases hb
  ·rw[(AHi p h).2]at hb;cases hb
 ·obtain⟨h1,h2⟩:=vz.1 hp
  rcases hall p h1 with h|h
  ·exact h
  ·rw[(AHi p h).1,(AHi p h).2]at h2
   cases h2
def H33(one two:List Nat)(ks:List Kt):Prop:=(∃ k∈ks,k.a=3/\k.b=3/\k.c=5/\k.s=2/\k.l=one)/\(∃ k∈ks,k.a=3/\k.b=3/\k.c=8/\k.s=1/\k.l=two)/\∀ k∈ks,k.a=3->k.b=3->k.c=5\/k.c=8
end
end
noncomputable section
open Go
set_option maxRecDepth 100000
section

def kp7(j:Nat):Prop:=j=0\/j=1\/j=2\/j=7\/j=8\/j=9\/j=11
end
end
noncomputable section
open Go
set_option maxRecDepth 100000
theorem XP:B3 .mt 0 (opL 0 0 0 0 0 AEP AEP)=some N5:=by kernel_rfl
section
variable {h g:Hp}{n:Nat}{v w u:IN}{kd a b c no:Int}
theorem AG3(W0:h.Wf)(x:h.Ext g){r:Nat}(hr:h.next<=r){L:List IN}(R:g.Row r 0 L)(hL:L.length=7)(hu:oneCell u=true)(hw:oneCell w=true):
  AER 7 (pt r) (opV kd a b c no u w) g=.ok AEE (g.wr r 0 (opL kd a b c no u w))/\h.Ext (g.wr r 0 (opL kd a b c no u w))/\(g.wr r 0 (opL kd a b c no u w)).Row r 0 (opL kd a b c no u w):=by
 have AEO:256<=r:=by have:=W0.big;omega
 have ho:0+(opL kd a b c no u w).length<=L.length:=by rw[hL];exact IT _
 have h1:Bc (opL kd a b c no u w)=true:=by
  show(bif oneCell u then(bif oneCell w then true else false)else false)=true;rw[hu,hw];rfl
 have st:=R.AER (n:=7) (off:=0) x.wf AEO (v:=opV kd a b c no u w) rfl ho h1;have wr:=R.AET x.wf ho;rw[Hy (show L.length=(opL kd a b c no u w).length from hL)]at wr;exact⟨st,R.AEi x hr ho,wr⟩
end
end
noncomputable section
open Go
set_option maxRecDepth 100000
section
variable {h h':Hp}{bd bm bc n c0 m:Nat}{M:List Nat}{cs:List (Nat×List Nat)}
theorem SV(W:h.Wf)(d:Dk h bd bm bc n M c0 cs 0 false):
  ∃ h',call AC (m+1) 96 [pt bd] h=.ok (AI AT 15) h'/\Fx (fun i=>i=bd) h h'/\Dk h' bd bm bc n M c0 cs (-1) true:=by
 obtain⟨_,_,l2,_⟩:=CR d.disk;have c1:iEq 0 0=true:=Ci rfl;obtain⟨h1,st1,R1,n1,f1,_⟩:=D0 (v:=.bool true) W d.disk (off:=3) (show 3<4 by omega) d.big.1 rfl rfl;have R1:h1.Row bd 0 (dkL bm bc n 0 true):=R1;obtain⟨h2,st2,R2,n2,f2,_⟩:=D0 (v:=AI AT (-1)) f1.wf R1 (off:=2) (show 2<4 by omega) d.big.1 rfl rfl;have R2:h2.Row bd 0 (dkL bm bc n (-1) true):=R2;have f12:=f1.trans f2;refine⟨h2,?_,f12,⟨R2,f12.row W d.med (fun h=>d.bdm h.symm),d.len,d.byt,by rw[f12.get _ (d.lt W).2.2 (fun h=>d.bdc h.symm)];exact d.map,d.big,d.n1⟩⟩;rw[Zb rfl];unfold d96;simp only[iN,IS,sT,By,BY,reduceIte,Ao,Ad,AG,AM,AK,AO,vk,l2,AJ,AH,c1,Ab,st1,st2,lV0]
theorem PE(W:h.Wf)(d:Dk h bd bm bc n M c0 cs 0 false){i:Nat}(hi:i<n){u:IN}{l:List Nat}(AKz:h.AEb u (l.map bv))(hl:l.length=64):
  ∃ h',call AC (m+3) 75 [pt bd,AI AT (i:Int),u] h=.ok (AI AT 15) h'/\Fx (fun b=>b=bd) h h'/\Dk h' bd bm bc n M c0 cs (-1) true:=by
 have k1:=H9 (m:=m) d hi;have Ul:=AKz.bl h;rw[hl]at Ul;obtain⟨h1,k2,f1,d1⟩:=SV (m:=m+1) W d;have c1:iNe 0 0=false:=CY rfl;have c3:iNe 15 0=true:=FH (by omega);have c2:iNe ((64:Nat):Int) 64=false:=CY rfl;refine⟨h1,?_,f1,d1⟩;rw[ZV rfl];unfold d75;simp only[iN,IS,sT,By,BY,reduceIte,cA0,k1,AJ,AH,c1,AX,Ul,c2,k2,c3,lV0]
theorem Xv(W:h.Wf)(d:Dk h bd bm bc n M c0 cs 0 false):
  ∃ h',call AC (m+3) 76 [pt bd] h=.ok (AI AT 15) h'/\Fx (fun b=>b=bd) h h'/\Dk h' bd bm bc n M c0 cs (-1) true:=by
 have k1:=H9 (m:=m) d (i:=0) (by have:=d.n1;omega);have k1:call AC (m+2) 95 [pt bd,AI AT 0] h=.ok (AI AT 0) h:=k1;obtain⟨h1,k2,f1,d1⟩:=SV (m:=m+1) W d;have c1:iNe 0 0=false:=CY rfl;have c3:iNe 15 0=true:=FH (by omega);refine⟨h1,?_,f1,d1⟩;rw[ZW rfl,Z7];unfold Z8;simp only[iN,IS,sT,By,BY,reduceIte,cA0,k1,k2,AJ,AH,c1,c3,lV0]
end
section
variable {F:AEB}{e:Env}{h h':Hp}{S:Nat->Prop}{A:At}{T M:List Nat}{c0 bad m p n bl:Nat}{v lv fv:IN}{ov:Bool}{cs:List (Nat×List Nat)}
theorem aH(W:h.Wf)(R:h.Row A.bs 0 (slL A.bd A.tb lv fv bad ov))(hne:¬ A.K A.bs)(d:Dk h A.bd A.bm A.bc A.n M c0 cs 0 false){v:IN}{i:Nat}{l:List Nat}(o:GI h A v (.w i l))(hi:i<A.n)(hl:l.length=64):
  ∃ h',HV (call AC (m+4)) v [] h=.ok (AI AT 15) h'/\Fx A.K h h'/\Dk h' A.bd A.bm A.bc A.n M c0 cs (-1) true:=by
 rcases o with ⟨r3,r10,r9,u,rfl,h2,h3,h4,h5,h6,h7,h8⟩|⟨r2,r7,p,rfl,h2,h3,rfl,h5,rfl,h7,h8⟩
 ·obtain⟨l0,_⟩:=A7 (R.same (h':=h.marked) rfl)
  have m3:AEF ⟨r3,0,none⟩ h.marked=.ok (pt A.bs) h.marked:=(h2.same (h':=h.marked) rfl).AEF (off:=0) (by show 0<1;omega);have m10:AEF ⟨r10,0,none⟩ h.marked=.ok (AI AT (i:Int)) h.marked:=(h3.same (h':=h.marked) rfl).AEF (off:=0) (by show 0<1;omega);have m9:AEF ⟨r9,0,none⟩ h.marked=.ok u h.marked:=(h4.same (h':=h.marked) rfl).AEF (off:=0) (by show 0<1;omega);obtain⟨h1,k1,f1,d1⟩:=PE (m:=m) W.marked.quiet (d.same (h':=h.marked.quiet) rfl) hi ((h5.vs.vals).same (h':=h.marked.quiet) rfl) hl;have q1:∀ e:Env,J 7 e=pt A.bd->J 8 e=AI AT (i:Int)->J 9 e=u->Al .free (AS 75 [J 7,J 8,J 9]) (call AC (m+3)) e h.marked=.ok (AI AT 15) (h.marked.back h1):=fun e e1 e2 e3=>by
   refine BO ?_;rw[Ba,AV,AV,AV,A1,e1,e2,e3];exact k1
  refine⟨h.marked.back h1,?_,((f1.mono (T:=A.K) fun b hb=>.inl hb).from (h:=h.marked) rfl rfl).same (h2:=h.marked.back h1) rfl rfl |>.from (h:=h) rfl rfl,d1.same rfl⟩;rw[CI];show call AC (m+3+1) 74 [pt r3,pt r10,pt r9] h=_;rw[ZU rfl];unfold d74;simp only[iN,IS,sT,By,BY,reduceIte,A3,AK,AO,m3,Ao,Ad,AG,AM,vk,l0,m10,m9,q1,lV0]
 ·have m2:AEF ⟨r2,0,none⟩ h.marked=.ok (pt A.bs) h.marked:=(h2.same (h':=h.marked) rfl).AEF (off:=0) (by show 0<1;omega)
  have m7:AEF ⟨r7,0,none⟩ h.marked=.ok (AI AT (p:Int)) h.marked:=(h3.same (h':=h.marked) rfl).AEF (off:=0) (by show 0<1;omega);obtain⟨l0,_⟩:=A7 (R.same (h':=h.marked) rfl);have o1:∀ (off:Nat) (kk:C) (F:AEB) (e:Env),JA (.pointer (some ⟨r2,off,none⟩)) kk F e h.marked=kk F e h.marked:=fun off kk F e=>Dg (h2.lt W)
  have o2:∀ (off:Nat) (kk:C) (F:AEB) (e:Env),JA (.pointer (some ⟨A.bs,off,none⟩)) kk F e h.marked=kk F e h.marked:=fun off kk F e=>Dg (R.lt W)
  have k1:=MQ (m:=m+1) (R.same (h':=h.marked.quiet) rfl) (p:=p) h5;have q1:∀ e:Env,J 7 e=pt A.bs->J 8 e=AI AT (p:Int)->Al .weak (AS 46 [J 7,J 8]) (call AC (m+3)) e h.marked=.ok (AI AT ((p*3:Nat):Int)) (h.marked.back h.marked.quiet):=fun e e1 e2=>by
   refine Ge W.marked ?_ (IT _);rw[Ba,AV,AV,A1,e1,e2];exact k1
  have y2:h.Ext (h.marked.back h.marked.quiet):=Hp.Ext.AFK (Hp.Ext.refl W).marked (Hp.Ext.refl W).marked.quiet;have n2:(h.marked.back h.marked.quiet).next=h.next:=rfl;have b2:(h.marked.back h.marked.quiet).bl=h.bl:=rfl;have mk2:(h.marked.back h.marked.quiet).mark=h.next:=rfl;generalize h.marked.back h.marked.quiet=h2' at q1 y2 n2 b2 mk2;have qm:∀ (F:AEB) (e:Env),Al .AEV (Gb 1 ty5.zero (kV (AI AT 64)) (kV (AI AT 64))) F e h2'=.ok (.slice (some ⟨h2'.next,0,none⟩) 64 64) (h2'.back (h2'.quiet.AEA 0 (A9.map bv))):=fun F e=>by
   have:=L9 (F:=F) (e:=e) y2.quiet.wf (x:=kV (AI AT 64)) (y:=kV (AI AT 64)) (N:=64) rfl rfl (by omega);have hz:v8 64 0=A9:=rfl;exact DP this ((Hp.Ext.refl y2.quiet.wf).AEA _ _) (by omega)
  have y3:h2'.Ext (h2'.back (h2'.quiet.AEA 0 (A9.map bv))):=.back ((Hp.Ext.refl y2.wf.quiet).AEA _ _);have R3:(h2'.back (h2'.quiet.AEA 0 (A9.map bv))).Row h2'.next 0 (A9.map bv):=(Hp.Row.new y2.wf.quiet 0 (A9.map bv)).same rfl;have n3:(h2'.back (h2'.quiet.AEA 0 (A9.map bv))).next=h2'.next+1:=rfl;generalize h2'.back (h2'.quiet.AEA 0 (A9.map bv))=h3' at qm y3 R3 n3;have x3:=y2.trans y3;obtain⟨h4,k4,f4,d4⟩:=PE (m:=m) x3.wf.quiet ((d.ext W x3).same (h':=h3'.quiet) rfl) hi (u:=.slice (some ⟨h2'.next,0,none⟩) 64 64) (l:=A9) (.inr ⟨h2'.next,0,64,0,_,rfl,R3.same rfl,IT _,rfl⟩) rfl;have q4:∀ e:Env,J 6 e=pt A.bd->J 9 e=AI AT ((p * 3:Nat):Int)->J 10 e=.slice (some ⟨h2'.next,0,none⟩) 64 64->Al .free (AS 75 [J 6,J 9,J 10]) (call AC (m+3)) e h3'=.ok (AI AT 15) (h3'.back h4):=fun e e1 e2 e3=>by
   refine BO ?_;rw[Ba,AV,AV,AV,A1,e1,e2,e3];exact k4
  refine⟨h3'.back h4,?_,(Fx.of (S:=A.K) x3).trans (((f4.mono (T:=A.K) fun b hb=>.inl hb).from (h:=h3') rfl rfl).same (h2:=h3'.back h4) rfl rfl),d4.same rfl⟩;rw[CI];show call AC (m+3+1) 83 [pt r2,pt r7] h=_;rw[ZZ rfl];unfold d83;simp only[iN,IS,sT,By,BY,reduceIte,A3,EH,o1,o2,Da,AK,AO,m2,Ao,Ad,AG,AM,vk,l0,m7,q1,qm,q4,lV0]
end
end
noncomputable section
open Go
set_option maxRecDepth 100000
def Nm(p:List Nat×List (Nat×List Nat))(d:AEp):List Nat×List (Nat×List Nat):=((match d with|.w _ _=>p.1|.f=>E6 p.1 p.2),(match d with|.w i l=>p.2++[(i,l)]|.f=>[]))
theorem FU:∀ (ds:List AEp) (M:List Nat) (cs:List (Nat×List Nat)),BP M cs ds=ds.foldl Nm (M,cs)
 |[],_,_=>rfl
 |d::ds,M,cs=>by rw[Ow,FU ds];rfl
section
variable {h h':Hp}{A:At}{M:List Nat}{c0 bad m k p n j:Nat}{arm:Int}{fr:List Nat}{v lv fv:IN}{ov:Bool}{cs:List (Nat×List Nat)}{ds:List AEp}{x:AEp}
theorem qp(W:h.Wf)(R:h.Row A.bs 0 (slL A.bd A.tb lv fv bad ov))(hne:¬ A.K A.bs)(d:Dk h A.bd A.bm A.bc A.n M c0 cs arm false)(ha:HF arm (k+1))(dI:GI h A v x)(ok:DW A.n cs (x::ds))(hK:AFU cs)(hS:AEv A.n cs):
  ∃ h2 c2,HV (call AC (m+4)) v [] h=.ok (AI AT 0) h2/\Fx A.K h h2/\Dk h2 A.bd A.bm A.bc A.n (Nm (M,cs) x).1 c2 (Nm (M,cs) x).2 (AFN arm) false/\DW A.n (Nm (M,cs) x).2 ds/\AFU (Nm (M,cs) x).2/\AEv A.n (Nm (M,cs) x).2:=by
 cases x with
 |w j l=>
  obtain⟨o1,o2,o3,o4,o5⟩:=ok;obtain⟨h2,k2,f2,d2⟩:=Vj (m:=m) W R hne d ha dI o2 (fun y hy=>⟨o1 y hy,(hS y hy).1⟩) o3;refine⟨h2,c0,k2,f2,d2,o5,fun p q y z hp hq he=>?_,fun y hy=>?_⟩
  ·have hp:(cs++[(j,l)])[p]? =some y:=hp
   have hq:(cs++[(j,l)])[q]? =some z:=hq;rcases wN p cs.length with hp1|hp1<;>rcases wN q cs.length with hq1|hq1
   ·rw[wD hp1]at hp
    rw[wD hq1]at hq;exact hK p q y z hp hq he
   ·rw[wD hp1]at hp
    rw[wQ hq1]at hq;have hz:=vy hq;rw[v7.1 hz]at he;exact absurd he (o1 y (vy hp))
   ·rw[wD hq1]at hq
    rw[wQ hp1]at hp;have hz:=vy hp;rw[v7.1 hz]at he;exact absurd he.symm (o1 z (vy hq))
   ·have h1:=(wC.1 hp).1
    have h2:=(wC.1 hq).1;rw[No,List.length_singleton]at h1 h2;omega
  ·have hy:y∈cs++[(j,l)]:=hy
   rcases wK.1 hy with hy|hy
   ·exact hS y hy
   ·rw[v7.1 hy];exact⟨o2,o3,o4⟩
 |f=>
  obtain⟨o1,o2,o3⟩:=ok;obtain⟨h2,k2,f2,d2⟩:=RF (m:=m+1) W d ha hK hS o1 o2;have dI:v=.func (.func 76) ⟨[pt A.bd]⟩ ⟨[]⟩:=dI;exact⟨h2,_,by rw[dI,CI];exact k2,f2,d2,o3,fun i j y z h=>(by cases h),fun y hy=>by cases hy⟩
theorem eW(W:h.Wf)(R:h.Row A.bs 0 (slL A.bd A.tb lv fv bad ov))(AEO:256<=A.bs)(hne:¬ A.K A.bs)(d:Dk h A.bd A.bm A.bc A.n M c0 [] (j:Int) false){vs:List IN}{dv:IN}(V:h.VS (fun b=>¬ A.D b) dv vs)(hlen:vs.length=ds.length)(hd:∀ (i:Nat) (v:IN) (x:AEp),vs[i]? =some v->ds[i]? =some x->GI h A v x)(hok:DW A.n [] ds)(hj:j<ds.length)(AFy:ds.length<=100):
  ∃ h' c1,call AC (m+5) 47 [pt A.bs,dv] h=.ok (AI AT 15) h'/\Fx A.D h h'/\h'.Row A.bs 0 (slL A.bd A.tb lv fv bad true)/\Dk h' A.bd A.bm A.bc A.n (BP M [] (ds.take j)).1 c1 (BP M [] (ds.take j)).2 (-1) true/\AFU (BP M [] (ds.take j)).2/\AEv A.n (BP M [] (ds.take j)).2:=by
 have Vl:=V.vals.len;have pre:∃ e1,Xm (call AC (m+4)) (AQ e0 0 [pt A.bs,dv]) h=alS (call AC (m+4)) e1 h/\J 0 e1=pt A.bs/\J 8 e1=dv/\J 9 e1=AI AT (vs.length:Int)/\J 10 e1=AI AT ((0:Nat):Int):=by
  unfold Xm;simp only[iN,IS,sT,By,BY,reduceIte,AX,Vl];exact⟨_,rfl,by simp[AD]⟩
 obtain⟨e1,p1,s0,s8,s9,s10⟩:=pre;have run:∃ e' h' c1,Aw alB (call AC (m+4)) e1 h=.ret e' h'/\J 4 e'=AI AT 15/\Fx A.D h h'/\h'.Row A.bs 0 (slL A.bd A.tb lv fv bad true)/\Dk h' A.bd A.bm A.bc A.n (BP M [] (ds.take j)).1 c1 (BP M [] (ds.take j)).2 (-1) true/\AFU (BP M [] (ds.take j)).2/\AEv A.n (BP M [] (ds.take j)).2:=by
  refine BU (I:=fun i e' h'=>∃ (c1:Nat),Fx A.K h h'/\Dk h' A.bd A.bm A.bc A.n (BP M [] (ds.take i)).1 c1 (BP M [] (ds.take i)).2 ((j - i:Nat):Int) false/\DW A.n (BP M [] (ds.take i)).2 (ds.drop i)/\AFU (BP M [] (ds.take i)).2/\AEv A.n (BP M [] (ds.take i)).2/\i<=j/\J 0 e'=pt A.bs/\J 8 e'=dv/\J 9 e'=AI AT (vs.length:Int)/\J 10 e'=AI AT (i:Int))
   (Q:=fun x=>∃ e' h' c1,x=.ret e' h'/\J 4 e'=AI AT 15/\Fx A.D h h'/\h'.Row A.bs 0 (slL A.bd A.tb lv fv bad true)/\Dk h' A.bd A.bm A.bc A.n (BP M [] (ds.take j)).1 c1 (BP M [] (ds.take j)).2 (-1) true/\AFU (BP M [] (ds.take j)).2/\AEv A.n (BP M [] (ds.take j)).2) j (by omega) (fun i e' h' ⟨c1,x',d',ok',hK,hS,hi,t0,t8,t9,t10⟩=>?_)
   ⟨c0,.refl W,d,hok,fun i j y z h=>(by cases h),fun y hy=>(by cases hy),wP _,s0,s8,s9,s10⟩
  have hlt:i<ds.length:=by omega
  have hiv:i<vs.length:=by omega
  have c1':iLt (i:Int) (vs.length:Int)=true:=EF hiv;have V':=V.fx W x' fun b hb=>UZ hb
  obtain⟨a,g1,g2⟩:=V'.vals.at hiv;have hv:vs[i]? =some (vs.getD i AEE):=by rw[vm,sh hiv];rfl
  have hx:ds[i]? =some (ds[i]'hlt):=sh hlt;have dI:=(hd i _ _ hv hx).keep (h':=h') trivial fun b el L hb r=>x'.row W r (UZ hb)
  generalize vs.getD i AEE=v at g2 dI;have AGJ:ds.drop i=ds[i]'hlt::ds.drop (i+1):=List.drop_eq_getElem_cons hlt;have htk:ds.take (i+1)=ds.take i++[ds[i]'hlt]:=by rw[AAy,hx];rfl
  rw[AGJ]at ok';generalize ds[i]'hlt=x at dI ok' htk;have R':=x'.row W R hne;have W':=x'.wf;by_cases hij:i<j
  ·left
   have AF3:BP M [] (ds.take (i+1))=Nm (BP M [] (ds.take i)) x:=by rw[htk,FU,FU,AA1];rfl
   generalize BP M [] (ds.take i)=p at d' ok' hK hS AF3;have ha':HF (((j - i:Nat):Nat):Int) (0+1):=⟨by omega,by omega,.inr (by omega)⟩;obtain⟨h2,c2,k2,f2,d2,ok2,hK2,hS2⟩:=qp (m:=m) W' R' hne d' ha' dI ok' hK hS;rw[<- AF3]at d2 ok2 hK2 hS2;have ea:AFN (((j - i:Nat):Nat):Int)=((j - (i+1):Nat):Int):=by unfold AFN;omega
   rw[ea]at d2;have c0':iNe 0 0=false:=CY rfl;have a3:=CF (i:=i) (h:=h2) (by omega);have hrun:∃ e2,alB (call AC (m+4)) e' h'=.norm e2 h2/\J 0 e2=pt A.bs/\J 8 e2=dv/\J 9 e2=AI AT (vs.length:Int)/\J 10 e2=AI AT ((i+1:Nat):Int):=by
    unfold alB;simp only[sT,By,BY,reduceIte,AJ,AH,t10,t9,c1',Ay,t8,g1,AK,g2,Ca,A1,k2,c0',BG,a3];exact⟨_,rfl,by simp[AD,t0,t8,t9]⟩
   obtain⟨e2,r1,r2,r3,r4,r5⟩:=hrun;exact⟨hij,e2,h2,r1,c2,x'.trans f2,d2,ok2,hK2,hS2,by omega,r2,r3,r4,r5⟩
  ·right
   have hie:i=j:=by omega
   subst hie;rw[Nat.sub_self]at d';have d':Dk h' A.bd A.bm A.bc A.n (BP M [] (ds.take i)).1 c1 (BP M [] (ds.take i)).2 0 false:=d';obtain⟨h2,k2,f2,d2⟩:∃ h2,HV (call AC (m+4)) v [] h'=.ok (AI AT 15) h2/\Fx A.K h' h2/\Dk h2 A.bd A.bm A.bc A.n (BP M [] (ds.take i)).1 c1 (BP M [] (ds.take i)).2 (-1) true:=by
    cases x with
    |w j l=>
     obtain⟨_,o2,o3,_,_⟩:=ok';exact aH W' R' hne d' dI o2 o3
    |f=>
     have dI:v=.func (.func 76) ⟨[pt A.bd]⟩ ⟨[]⟩:=dI;obtain⟨h2,k2,f2,d2⟩:=Xv (m:=m+1) W' d';exact⟨h2,by rw[dI,CI];exact k2,f2.mono fun b hb=>.inl hb,d2⟩
   have R2:=f2.row W' R' hne;obtain⟨h3,st3,R3,n3,f3,_⟩:=D0 (v:=.bool true) f2.wf R2 (off:=6) (show 6<7 by omega) AEO rfl rfl;have R3:h3.Row A.bs 0 (slL A.bd A.tb lv fv bad true):=R3;have c3:iNe 15 0=true:=FH (by omega);have hrun:∃ e2,alB (call AC (m+4)) e' h'=.ret e2 h3/\J 4 e2=AI AT 15:=by
    unfold alB;simp only[sT,By,BY,reduceIte,AJ,AH,t10,t9,c1',Ay,t8,g1,AK,g2,Ca,A1,k2,c3,Ao,t0,Ad,AG,AM,vk,Ab,st3];exact⟨_,rfl,by simp[AD]⟩
   obtain⟨e2,r1,r2⟩:=hrun;rw[r1];refine⟨rfl,e2,h3,c1,rfl,r2,((x'.trans f2).mono fun b hb=>.inr hb).trans (f3.mono fun b hb=>.inl hb),R3,d2.fr f2.wf f3 (fun h=>hne (.inl h.symm)) (fun h=>hne (.inr (.inl h.symm))) (fun h=>hne (.inr (.inr h.symm))),hK,hS⟩
 obtain⟨e2,h2,c1,r1,r2,r3,r4,r5,r6,r7⟩:=run;refine⟨h2,c1,?_,r3,r4,r5,r6,r7⟩;rw[ZP rfl,Z3,p1,Y5];simp only[BB,Ap,r1,Bz,CU,lV0,r2]
end
end
noncomputable section
open Go
set_option maxRecDepth 100000
def AE3(fa:Bool)(a:Int):Prop:=(-1<=a/\a<=1099511627776)/\(fa=false->a<0)
theorem AE3.AFN{fa:Bool}{a:Int}(h:AE3 fa a):AE3 fa (AFN a):=by
 obtain⟨⟨h1,h2⟩,h3⟩:=h;unfold Go.Proofs.YtedbmmfebjfibaaGreat.AFN;exact⟨⟨by omega,by omega⟩,fun hf=>by have:=h3 hf;omega⟩
theorem AE3.fold{fa:Bool}{a:Int}(h:AE3 fa a):∀ n:Nat,AE3 fa ((wm n).foldl (fun a _=>Go.Proofs.YtedbmmfebjfibaaGreat.AFN a) a)
 |0=>h
 |n+1=>by rw[List.range_succ,AA1];exact(h.fold n).AFN
theorem AE3.no{a:Int}(h:a<0)(h1: -1<=a):AE3 false a:=⟨⟨h1,by omega⟩,fun _=>h⟩
theorem AE3.may{a:Int}(h: -1<=a)(h1:a<=1099511627776):AE3 true a:=⟨⟨h,h1⟩,fun h=>by cases h⟩
structure AFO (fa:Bool)(h:Hp)(A:At)(T M:List Nat)(cs:List (Nat×List Nat)):Prop where
 row:∃ lv fv bad,h.Row A.bs 0 (slL A.bd A.tb lv fv bad true)
 dk:∃ c0,Dk h A.bd A.bm A.bc A.n M c0 cs (-1) true
 tab:h.Row A.tb 0 (T.map wv)
 tok:AE1 T
 key:AFU cs
 sec:AEv A.n cs
 ne:A.bs≠A.bd/\A.bs≠A.bm/\A.bs≠A.bc/\¬ A.D A.tb/\256<=A.bs
 may:fa=true
theorem AFO.same{fa:Bool}{h h':Hp}{A:At}{T M:List Nat}{cs:List (Nat×List Nat)}(d:AFO fa h A T M cs)(hb:h'.bl=h.bl):AFO fa h' A T M cs:=by
 obtain⟨⟨lv,fv,bad,r⟩,⟨c0,k⟩,t,q1,q2,q3,q4,q5⟩:=d;exact⟨⟨lv,fv,bad,r.same hb⟩,⟨c0,k.same hb⟩,t.same hb,q1,q2,q3,q4,q5⟩
theorem AFO.ext{fa:Bool}{h h':Hp}{A:At}{T M:List Nat}{cs:List (Nat×List Nat)}(d:AFO fa h A T M cs)(W:h.Wf)(x:h.Ext h'):AFO fa h' A T M cs:=by
 obtain⟨⟨lv,fv,bad,r⟩,⟨c0,k⟩,t,q1,q2,q3,q4,q5⟩:=d;exact⟨⟨lv,fv,bad,r.ext W x⟩,⟨c0,k.ext W x⟩,t.ext W x,q1,q2,q3,q4,q5⟩
def Dy(ps:List Nat):List AEp:=ps.map (fun p=>AEp.w (p*3) A9)++[.f]
section
variable {fa:Bool}{F:AEB}{e:Env}{h h' h0:Hp}{A:At}{T M:List Nat}{c0 bad m p n j:Nat}{arm:Int}{ks:List Kt}{fr:List Nat}{v lv fv:IN}{ds:List AEp}{x:AEp}
theorem PJ(W:h.Wf)(s:Sl h A T M c0 arm ks fr lv fv bad false){vs:List IN}{dv:IN}(V:h.VS (fun b=>¬ A.D b) dv vs)(hlen:vs.length=ds.length)(hd:∀ (i:Nat) (v:IN) (x:AEp),vs[i]? =some v->ds[i]? =some x->GI h A v x)(hok:DW A.n [] ds)(hb:AE3 fa arm)(AFy:ds.length<=100):
  (∃ h' c1 AEc,call AC (m+5) 47 [pt A.bs,dv] h=.ok (AI AT 0) h'/\Fx A.K h h'/\Dk h' A.bd A.bm A.bc A.n (BP M [] ds).1 c1 (BP M [] ds).2 AEc false/\AE3 fa AEc)\/
  (∃ j h',j<ds.length/\call AC (m+5) 47 [pt A.bs,dv] h=.ok (AI AT 15) h'/\Fx A.D h h'/\AFO fa h' A T (BP M [] (ds.take j)).1 (BP M [] (ds.take j)).2):=by
 by_cases hj:0<=arm/\arm<(ds.length:Int)
 ·obtain⟨j,rfl⟩:=Int.eq_ofNat_of_zero_le hj.1
  obtain⟨h',c1,k1,f1,r1,d1,hK,hS⟩:=eW (m:=m) (j:=j) W s.row s.ne.2.2.2.2 s.nK s.dk V hlen hd hok (by omega) AFy;exact .inr ⟨j,h',by omega,k1,f1,⟨⟨_,_,_,r1⟩,⟨_,d1⟩,f1.row W s.tab s.ne.2.2.2.1,s.tok,hK,hS,s.ne,by
   cases fa
   ·exact absurd (hb.2 rfl) (by omega)
   ·rfl⟩⟩
 ·obtain⟨h',c1,AEc,k1,f1,d1,ea⟩:=lE (m:=m) W s.row s.nK s.dk V hlen hd hok ⟨hb.1.2,hb.1.1,by omega⟩ AFy
  exact .inl ⟨h',c1,AEc,k1,f1,d1,by rw[ea];exact hb.fold _⟩
theorem JG(W:h.Wf)(s:Sl h A T M c0 arm ks fr lv fv bad false){ps:List Nat}{pv:IN}(V:h.AEb pv (ints .i64 (ps.map wj)))(hp:∀ p∈ps,3*p+3<=A.n)(hnd:ps.Nodup)(hl:ps.length<=50)(hb:AE3 fa arm):
  (∃ h' c1 AEc,call AC (m+6) 53 [pt A.bs,pv] h=.ok (AI AT 0) h'/\Fx A.K h h'/\Sl h' A T (Fy M ps) c1 AEc ks fr lv fv bad false/\AE3 fa AEc)\/
  (∃ j h',j<ps.length+1/\ps≠[]/\call AC (m+6) 53 [pt A.bs,pv] h=.ok (AI AT 15) h'/\Fx A.D h h'/\AFO fa h' A T (BP M [] ((Dy ps).take j)).1 (BP M [] ((Dy ps).take j)).2):=by
 have ln:∀ g:Hp,AE5 pv g=.ok (AI AT (ps.length:Int)) g:=fun g=>by
  have:=V.shape;obtain⟨a,c,rfl⟩:=this;rw[show(ints .i64 (ps.map wj)).length=ps.length by simp[ints]];rfl
 have bx:=fun (F:AEB) (e:Env) (he:J 0 e=pt A.bs)=>(show DA (J 0) F e h=.ok (pt h.next) (h.AEA 0 [pt A.bs])by rw[Ev,he,Es W];rfl)
 have x1:=(Hp.Ext.refl W).AEA 0 [pt A.bs];have R2:=Hp.Row.new W 0 [pt A.bs];have n1:(h.AEA 0 [pt A.bs]).next=h.next+1:=rfl;generalize h.AEA 0 [pt A.bs]=h1 at bx x1 R2 n1;have hD:=s.AGs W;have hDn:A.n<=65536:=s.dk.n1.2;by_cases h0:ps=[]
 ·subst h0
  have c1:iEq ((([]:List Nat).length:Nat):Int) 0=true:=Ci rfl;refine .inl ⟨h1,c0,arm,?_,.of x1,s.ext W x1,hb⟩;rw[ZR rfl,Z4];unfold Z5;simp only[iN,IS,sT,By,BY,reduceIte,bx,AX,ln,AJ,AH,c1,lV0]
 have hpos:0<ps.length:=by
  cases ps with
  |nil=>exact absurd rfl h0
  |cons _ _=>exact ABQ _
 have c1:iEq (ps.length:Int) 0=false:=Bj (by omega);have pre:∃ e1,Z5 (call AC (m+5)) (AQ e0 0 [pt A.bs,pv]) h=skS (call AC (m+5)) e1 h1/\J 2 e1=pt h.next/\J 5 e1=.slice none 0 0/\J 11 e1=pv/\J 12 e1=AI AT (ps.length:Int)/\J 13 e1=AI AT ((0:Nat):Int):=by
  unfold Z5;simp only[iN,IS,sT,By,BY,reduceIte,bx,AX,ln,AJ,AH,c1];exact⟨_,rfl,by simp[AD]⟩
 obtain⟨e1,p1,s2,s5,s11,s12,s13⟩:=pre;have run:∃ e' h' v,Aw skB (call AC (m+5)) e1 h1=.exit 0 e' h'/\h.Ext h'/\CJ h' A h1.next v (ps.map fun p=>AEp.w (p*3) A9)/\h'.Row h.next 0 [pt A.bs]/\h1.next<=h'.next/\J 2 e'=pt h.next/\J 5 e'=v:=by
  refine BU (I:=fun i e' h'=>∃ v,h.Ext h'/\CJ h' A h1.next v ((ps.take i).map fun p=>AEp.w (p*3) A9)/\h'.Row h.next 0 [pt A.bs]/\h1.next<=h'.next/\i<=ps.length/\J 2 e'=pt h.next/\J 5 e'=v/\J 11 e'=pv/\J 12 e'=AI AT (ps.length:Int)/\J 13 e'=AI AT (i:Int))
   (Q:=fun x=>∃ e' h' v,x=.exit 0 e' h'/\h.Ext h'/\CJ h' A h1.next v (ps.map fun p=>AEp.w (p*3) A9)/\h'.Row h.next 0 [pt A.bs]/\h1.next<=h'.next/\J 2 e'=pt h.next/\J 5 e'=v) ps.length (by omega) (fun i e' h' ⟨v,x',dv,R',hn',hi,t2,t5,t11,t12,t13⟩=>?_)
   ⟨_,x1,⟨[],.inl ⟨rfl,rfl⟩,rfl,fun i w x h=>by cases h⟩,R2,IT _,wP _,s2,s5,s11,s12,s13⟩
  have W':=x'.wf;by_cases hlt:i<ps.length
  ·left
   have c1:=EF hlt;obtain⟨p,hpi⟩:∃ p,ps[i]? =some p:=⟨_,sh hlt⟩;have hpm:=vy hpi;obtain⟨a,g1,g2⟩:=(V.ext W x').at (i:=i) (by simp[ints];exact hlt);have g2:HN (.pointer (some a)) h'=.ok (AI AT (p:Int)) h':=by
    rw[g2];have:(ints .i64 (ps.map wj)).getD i AEE=AI AT (p:Int):=by
     rw[vm];simp[ints,hpi]
    rw[this]
   obtain⟨h2,al,st,y2,R7,n2,_⟩:=JP W' eT (v:=AI AT (p:Int)) rfl rfl;have x2:=x'.trans y2;have nDb:∀ b,h.next<=b->¬ A.D b:=fun b hb=>iJ hD hb
   have hvb:∀ b,AEe v b->h1.next<=b/\b<h'.next:=fun b hb=>by
    obtain⟨vs,o1,_⟩:=dv;obtain⟨o,nn,c,hc⟩:=hb;rcases o1 with ⟨h1',_⟩|⟨b',h1',h2',h3',_⟩
    ·rw[h1']at hc;cases hc
    ·rw[h1']at hc
     have:=h2'.lt W';injection hc with hc _ _
     injection hc with hc
     injection hc with hc _ _
     omega
   have ds:Im h2 A (fun b=>¬ A.D b/\¬ AEe v b) (.func (.func 83) ⟨[]⟩ ⟨[pt h.next,pt h'.next]⟩) (.w (p*3) A9):=.inr ⟨h.next,h'.next,p,rfl,R'.ext W' y2,R7,rfl,by have:=hp p hpm;omega,rfl,⟨nDb _ (IT _),fun hb=>by have:=hvb _ hb;omega⟩,⟨nDb _ (by have:=x'.next;omega),fun hb=>by have:=hvb _ hb;omega⟩⟩;obtain⟨h3,v3,k3,x3,dv3,n3,kp3⟩:=(dv.ext W' y2).snoc (f:=83) x2 x1.next (by omega) rfl ds (by rw[OF,wT];omega);have er:(ps.take (i+1)).map (fun p=>AEp.w (p*3) A9)=(ps.take i).map (fun p=>AEp.w (p*3) A9)++[AEp.w (p*3) A9]:=by
    rw[AAy,hpi,List.map_append];rfl
   rw[<- er]at dv3;have fs:=fun (F:AEB) (e:Env) (a:J 18 e=.func (.func 83) ⟨[]⟩ ⟨[pt h.next,pt h'.next]⟩)=>Jd (F:=F) (e:=e) x2.wf a
   have a3:=CF (i:=i) (h:=h3) (by omega);have hrun:∃ e2,skB (call AC (m+5)) e' h'=.norm e2 h3/\J 2 e2=pt h.next/\J 5 e2=v3/\J 11 e2=pv/\J 12 e2=AI AT (ps.length:Int)/\J 13 e2=AI AT ((i+1:Nat):Int):=by
    unfold skB;simp only[sT,By,BY,reduceIte,AJ,AH,t13,t12,c1,Ay,t11,g1,AK,g2,al,Ab,st,Df,AV,A1,t2,fs,BF,t5,k3,BG,a3];exact⟨_,rfl,by simp[AD,t2,t11,t12]⟩
   obtain⟨e2,r1,r2,r3,r4,r5,r6⟩:=hrun;exact⟨hlt,e2,h3,r1,v3,x3,dv3,kp3 _ _ _ (fun hb=>by have:=hvb _ hb;omega) (R'.ext W' y2),by omega,by omega,r2,r3,r4,r5,r6⟩
  ·right
   have c1:=Cz (show ps.length<=i by omega);have hrun:∃ e2,skB (call AC (m+5)) e' h'=.exit 0 e2 h'/\J 2 e2=pt h.next/\J 5 e2=v:=by
    unfold skB;simp only[sT,By,BY,reduceIte,AJ,AH,t13,t12,c1];exact⟨_,rfl,by simp[AD,t2,t5]⟩
   obtain⟨e2,r1,r2,r3⟩:=hrun;rw[r1];rw[List.take_of_length_le (by omega)]at dv;exact⟨rfl,e2,h',v,rfl,x',dv,R',hn',r2,r3⟩
 obtain⟨e2,h2,v2,r1,x2,dv2,R2',n2,t2,t5⟩:=run;have x2m:=x2.marked;have R2m:h2.marked.Row h.next 0 [pt A.bs]:=R2'.same rfl;have l2:AEF ⟨h.next,0,none⟩ h2.marked=.ok (pt A.bs) h2.marked:=R2m.AEF (off:=0) (by show 0<1;omega);obtain⟨l0,_⟩:=A7 (s.row.ext W x2m);have qs:∀ (F:AEB) (e:Env),J 28 e=.func (.func 76) ⟨[pt A.bd]⟩ ⟨[]⟩->Al .AEV (Aj 1 (BQ TQ.zero 1) [(0,1,J 28)]) F e h2.marked=.ok (.slice (some ⟨h2.next,0,none⟩) 1 1) (h2.marked.back (h2.marked.quiet.AEA 0 [.func (.func 76) ⟨[pt A.bd]⟩ ⟨[]⟩])):=fun F e he=>DP (Jd x2m.wf.quiet he) ((Hp.Ext.refl x2m.wf.quiet).AEA _ _) (IT _)
 have y3:h2.Ext (h2.marked.back (h2.marked.quiet.AEA 0 [.func (.func 76) ⟨[pt A.bd]⟩ ⟨[]⟩])):=Hp.Ext.AFK (Hp.Ext.refl x2.wf).marked ((Hp.Ext.refl x2.wf).marked.quiet.AEA _ _);have Rw:(h2.marked.back (h2.marked.quiet.AEA 0 [.func (.func 76) ⟨[pt A.bd]⟩ ⟨[]⟩])).Row h2.next 0 [.func (.func 76) ⟨[pt A.bd]⟩ ⟨[]⟩]:=(Hp.Row.new x2m.wf.quiet 0 [.func (.func 76) ⟨[pt A.bd]⟩ ⟨[]⟩]).same rfl;generalize h2.marked.back (h2.marked.quiet.AEA 0 [.func (.func 76) ⟨[pt A.bd]⟩ ⟨[]⟩])=h3 at qs y3 Rw;have x3:=x2.trans y3;obtain⟨h4,v4,k4,x4,dv4,n4⟩:=(dv2.ext x2.wf y3).atB (f:=76) (d:=.f) x3 x1.next (wd n2 y3.next) rfl Rw rfl (by rw[OF];omega);have ck:∀ (K:C) (F:AEB) (e:Env),J 5 e=v2->J 2 e=pt h.next->DI (J 5) [J 2] K F e h3=K F e h3:=fun K F e a1 a2=>by
  obtain⟨vs,o1,_⟩:=dv2;rcases o1 with ⟨h1',_⟩|⟨b',h1',h2',h3',_⟩
  ·exact fQ (b:=0) a1 (.inl h1') a2 (.inl h1')
  ·exact fQ (b:=b') a1 (.inr ⟨_,_,_,h1'⟩) a2 (.inr (by omega))
 have s4:=s.ext W x4;obtain⟨vs,w1,w2,w3⟩:=dv4.ends fun b hb=>by have:=hD b hb;have:=x1.next;omega
 have fin:∀ (z:Int) (h5:Hp),call AC (m+5) 47 [pt A.bs,v4] h4.quiet=.ok (AI AT z) h5->call AC (m+6) 53 [pt A.bs,pv] h=.ok (AI AT z) (h4.back h5):=fun z h5 k5=>by
  have q5:∀ e:Env,J 22 e=pt A.bs->J 30 e=v4->Al .free (AS 47 [J 22,J 30]) (call AC (m+5)) e h4=.ok (AI AT z) (h4.back h5):=fun e a1 a2=>by
   refine BO ?_;rw[Ba,AV,AV,A1,a1,a2];exact k5
  rw[ZR rfl,Z4,p1,rH];simp only[BB,Ap,r1,Az,A8];unfold skE;simp only[sT,By,BY,reduceIte,A3,AK,AO,t2,l2,Ao,Ad,AG,AM,vk,l0,Df,AV,A1,qs];rw[ck _ _ _ (by simp[AD,t5]) (by simp[AD,t2])];simp only[sT,By,BY,reduceIte];rw[k4 _ _ _ _ (by simp[AD,t5]) (by simp[AD])];simp only[sT,By,BY,reduceIte,q5,lV0]
 have hl2:(Dy ps).length=ps.length+1:=by unfold Dy;rw[No,OF];rfl
 rcases PJ (m:=m) x4.wf.quiet (s4.same (h':=h4.quiet) rfl) (ds:=Dy ps) (w1.same (h':=h4.quiet) rfl) w2 (fun i v x a b=>(w3 i v x a b).AFQ fun b el L hb _ r=>⟨r.same rfl,hb⟩) (cX ps [] (.inr h0) (by simp only[List.length_nil];omega) (fun p hq=>⟨hp p hq,fun x hx=>by cases hx⟩) hnd) hb (by omega)with ⟨h5,c5,AKC,k5,f5,d5,b5⟩|⟨j,h5,hj,k5,f5,dd⟩
 ·unfold Dy at d5
  rw[Sx]at d5;have f5':Fx A.K h4 (h4.back h5):=(f5.from (h:=h4) rfl rfl).same rfl rfl;exact .inl ⟨h4.back h5,c5,AKC,fin 0 h5 k5,(Fx.of x4).trans f5',((s4.sc.fx x4.wf f5').sl (d5.same rfl)),b5⟩
 ·have f5':Fx A.D h4 (h4.back h5):=(f5.from (h:=h4) rfl rfl).same rfl rfl
  exact .inr ⟨j,h4.back h5,by omega,h0,fin 15 h5 k5,(Fx.of x4).trans f5',dd.same rfl⟩
end
end
noncomputable section
open Go
set_option maxRecDepth 100000
def Jx(p:Nat)(l H:List Nat):List AEp:=(if l=[]then []else GH p l)++DY p H
section
variable {fa:Bool}{F:AEB}{e:Env}{h h' h0:Hp}{A:At}{T M:List Nat}{c0 bad m k p:Nat}{arm:Int}{ks:List Kt}{fr:List Nat}{lv fv:IN}
theorem cz(W:h.Wf)(s:Sl h A T M c0 arm ks (p::fr) lv fv bad false){a b c:Int}{l:List Nat}{u:IN}(V:h.VE u (l.map bv))(hb:∀ x∈l,x<256)(hl:l.length<=100)
  (hr:AEN a b c 1 l.length=true)(hf:ks.any (BN a b c)=false)(hst:Bm a b c ks=false)(hkl:ks.length<=10)(hbm:AE3 fa arm):
  (∃ h' c1 AEc lv' fv' k',call AC (m+8) 11 [pt A.bs,AI AT a,AI AT b,AI AT c,u] h=.ok (AI AT 0) h'/\Fx A.D h h'/\
   Sl h' A T (DT T M p l (AEJ T a b c 1 l)) c1 AEc (Bq (ks++[k'])) fr lv' fv' bad false/\k'.core=⟨a,b,c,1,l,p⟩/\AE3 fa AEc)\/
  (∃ j h',j<(Jx p l (AEJ T a b c 1 l)).length/\call AC (m+8) 11 [pt A.bs,AI AT a,AI AT b,AI AT c,u] h=.ok (AI AT 15) h'/\Fx A.D h h'/\AFO fa h' A T (BP M [] ((Jx p l (AEJ T a b c 1 l)).take j)).1 (BP M [] ((Jx p l (AEJ T a b c 1 l)).take j)).2):=by
 have big:=W.big;have hD:=s.AGs W;have hp3:3*p+3<=A.n:=s.le.2.2.2 p vp;have hn:=s.dk.n1;have hH:=Dm (T:=T) hr;have hHb:=Mw (T:=T) (a:=a) (b:=b) (c:=c) (s:=1) (l:=l);have c00:iNe 0 0=false:=CY rfl;have k0:=Ns (m:=m+6) s.row;obtain⟨h1,vc,k1,x1,mk1⟩:=OB (n:=m+6) W V (by omega);have oc:=mk1.one;have bl:=fun (F:AEB) (e:Env) (e1:J 1 e=AI AT a) (e2:J 2 e=AI AT b) (e3:J 3 e=AI AT c) (e4:J 28 e=vc)=>Qi (F:=F) (h:=h1) (g1:=J 1) (g2:=J 2) (g3:=J 3) (g5:=J 28) e1 e2 e3 e4 oc.1 oc.2.2
 have al:=fun (F:AEB) (e:Env)=>Bx (F:=F) (e:=e) x1.wf (n:=5) (t:=Dz)
 have Ra:=Hp.Row.alloc x1.wf Ij (show(A4 0 0 0 0 AEP).length=5 from rfl);have y2:h1.Ext (h1.push (.cells Dz 5 0)):=(Hp.Ext.refl x1.wf).push _;have n2:(h1.push (.cells Dz 5 0)).next=h1.next+1:=rfl;generalize h1.push (.cells Dz 5 0)=h2 at al Ra y2 n2;obtain⟨st,_,y3,R12,n3⟩:=QH x1.wf y2 (IT _) Ra rfl (a:=a) (b:=b) (c:=c) (s:=1) (u:=vc) oc.2.1;generalize h2.wr h1.next 0 (A4 a b c 1 vc)=h3 at st y3 R12 n3;have x3:=x1.trans y3;obtain⟨_,_,_,_,_,AGa⟩:=CC R12;have lnc:∀ g,AE5 vc g=.ok (AI AT (l.length:Int)) g:=fun g=>mk1.vals.bl g
 have k4:=Jz (n:=m+6) x3.wf (a:=a) (b:=b) (c:=c) (s:=1) (u:=vc) lnc;rw[hr]at k4;have y4:=(Hp.Ext.refl x3.wf).AEA 0 (A4 a b c 1 vc);generalize h3.AEA 0 (A4 a b c 1 vc)=h4 at k4 y4;have x4:=x3.trans y4;have lnu:∀ g:Hp,AE5 u g=.ok (AI AT (l.length:Int)) g:=fun g=>V.bl g
 obtain⟨_,_,l2,_⟩:=A7 (s.row.ext W x4);have c1:iGt (l.length:Int) 100=false:=Fa (by omega);have s4:=s.ext W x4;obtain⟨h5,k5,x5⟩:=IM (m:=m+4) x4.wf s4.row s4.ls.ks (by omega) a b c;have hidx:GJ (BN a b c) 0 ks= -1:=by
  rcases Pg (BN a b c) ks 0 with ⟨_,h2⟩|⟨h1,_⟩
  ·exact h2
  ·rw[hf]at h1;cases h1
 rw[hidx]at k5;have c2:iGe (-1) 0=false:=FZ (by omega);have x45:=x4.trans x5;have s5:=s.ext W x45;obtain⟨h6,k6,x6⟩:=Gg (m:=m+3) x45.wf s5.row s5.ls.ks (by omega) a b c;rw[hst]at k6;have x46:=x45.trans x6;have s6:=s.ext W x46;obtain⟨_,l1,_,_,l4,_⟩:=A7 s6.row;have hil:(ints .i64 ((p::fr).map wj)).length=fr.length+1:=by unfold ints;rw[OF,OF];rfl
 have lnf:=s6.fs.vals.len;rw[hil]at lnf;have c3:iEq ((fr.length+1:Nat):Int) 0=false:=Bj (by omega);obtain⟨af,g1,g2⟩:=s6.fs.vals.at (i:=0) (by rw[hil];omega);have g1:AE0 1 fv (AI AT 0) h6=.ok (.pointer (some af)) h6:=g1;have g2:HN (.pointer (some af)) h6=.ok (AI AT (p:Int)) h6:=g2;have pre:∃ e1,Nu (call AC (m+7)) (AQ e0 0 [pt A.bs,AI AT a,AI AT b,AI AT c,u]) h=prB (call AC (m+7)) e1 h6/\J 0 e1=pt A.bs/\J 4 e1=u/\J 12 e1=pt h1.next/\J 14 e1=AI AT (p:Int):=by
  unfold Nu;simp only[iN,IS,sT,By,BY,reduceIte,gD,cA0,k0,AJ,AH,c00,k1,bl,al,Ab,st,Aq,As,AGa,k4,Bi,Bh,Bool.not_true,AX,lnu,Ao,Ad,AG,AM,vk,AK,AO,l2,c1,k5,c2,k6,l4,lnf,c3];rw[Ay];simp only[sT,By,BY,reduceIte,g1,AK,g2];exact⟨_,rfl,by simp[AD]⟩
 obtain⟨e1,p1,t0,t4,t12,t14⟩:=pre;have x6m:=x46.marked;have AKD:h6.marked.Row h1.next 0 (A4 a b c 1 vc):=(((R12.ext x3.wf y4).ext x4.wf x5).ext x45.wf x6).same rfl;obtain⟨_,_,_,_,_,AHQ⟩:=CC AKD;obtain⟨_,l1m,_⟩:=A7 (s.row.ext W x6m);have mkm:VcI h6.marked h.next vc l:=((mk1.ext x1.wf y3).ext x3.wf ((y4.trans x5).trans x6)).same rfl;obtain⟨h7,x7,hd⟩:=WD (n:=m+4) x6m.quiet.wf ((s.tab.ext W x6m).same (h':=h6.marked.quiet) rfl) s.tok (a:=a) (b:=b) (c:=c) (s:=1) ((mkm.vals).same (h':=h6.marked.quiet) rfl) hb (by omega) (by omega);rcases hd with ⟨_,vh,k7,mkh⟩|⟨hrf,_⟩
 case inr=>rw[hr]at hrf;cases hrf
 have q7:∀ e:Env,J 83 e=pt A.tb->J 84 e=Bv a b c 1 vc->Al .free (AS 44 [J 83,J 84]) (call AC (m+7)) e h6.marked=.ok (.tuple ⟨[vh,AI AT 0]⟩) (h6.marked.back h7):=fun e e1 e2=>by
  refine BO ?_;rw[Ba,AV,AV,A1,e1,e2];exact k7
 have y8:h6.Ext (h6.marked.back h7):=(Hp.Ext.refl x46.wf).marked.trans (.back x7);have AI3:Mk (h6.marked.back h7) h6.next vh (AEJ T a b c 1 l):=mkh.same rfl;generalize h6.marked.back h7=h8 at q7 y8 AI3;have x8:=x46.trans y8;have AHj:∀ g:Hp,h6.Ext g->g.Row h1.next 0 (A4 a b c 1 vc):=fun g x=>((((R12.ext x3.wf y4).ext x4.wf x5).ext x45.wf x6)).ext x46.wf x
 have AIU:∃ e2 h11 dv1 ds1,prB (call AC (m+7)) e1 h6=prC (call AC (m+7)) e2 h11/\J 0 e2=pt A.bs/\J 12 e2=pt h1.next/\J 14 e2=AI AT (p:Int)/\J 15 e2=vh/\J 17 e2=dv1/\h8.Ext h11/\CJ h11 A h8.next dv1 ds1/\((l≠[]/\ds1=GH p l)\/(l=[]/\ds1=[])):=by
  rcases wg l.length with hz|hz
  ·have hl0:l=[]:=wh hz
   have c4:iGt (l.length:Int) 0=false:=Fa (by omega);have hrun:∃ e2,prB (call AC (m+7)) e1 h6=prC (call AC (m+7)) e2 h8/\J 0 e2=pt A.bs/\J 12 e2=pt h1.next/\J 14 e2=AI AT (p:Int)/\J 15 e2=vh/\J 17 e2=AEP:=by
    rw[cy];unfold jV;simp only[sT,By,BY,reduceIte,A3,Ao,t0,Ad,AG,AM,vk,AK,AO,l1m,Aq,As,t12,AHQ,q7,BK,BW,BZ,AX,t4,lnu,AJ,AH,c4];exact⟨_,rfl,by simp[AD,t0,t12,t14]⟩
   obtain⟨e2,r1,u0,u12,u14,u15,u17⟩:=hrun;exact⟨e2,h8,AEP,[],r1,u0,u12,u14,u15,u17,.refl x8.wf,⟨[],.inl ⟨rfl,rfl⟩,rfl,fun i w x hw _=>by cases hw⟩,.inr ⟨hl0,rfl⟩⟩
  ·have c4:iGt (l.length:Int) 0=true:=GV (by omega)
   have AKE:Mk h1 h.next vc l:=by
    rcases mk1 with ⟨_,h2⟩|h2
    ·rw[h2]at hz;exact absurd hz (AAA 0)
    ·exact h2
   have x8m:=x8.marked;have s8m:=s.ext W x8m;have k9:=MQ (m:=m+5) (s8m.row.same (h':=h8.marked.quiet) rfl) (p:=p) (by omega);have q9:∀ e:Env,J 0 e=pt A.bs->J 14 e=AI AT (p:Int)->Al .weak (AS 46 [J 0,J 14]) (call AC (m+7)) e h8.marked=.ok (AI AT ((p*3:Nat):Int)) (h8.marked.back h8.marked.quiet):=fun e e1 e2=>by
    refine Ge x8m.wf ?_ (IT _);rw[Ba,AV,AV,A1,e1,e2];exact k9
   have y9:h8.Ext (h8.marked.back h8.marked.quiet):=Hp.Ext.AFK (Hp.Ext.refl x8.wf).marked (Hp.Ext.refl x8.wf).marked.quiet;have n9:(h8.marked.back h8.marked.quiet).next=h8.next:=rfl;have m9:(h8.marked.back h8.marked.quiet).mark=h8.next:=rfl;generalize h8.marked.back h8.marked.quiet=h9 at q9 y9 n9 m9;have x9:=x8.trans y9;have ad:=CF (h:=h9) (i:=p * 3) (by omega);obtain⟨_,_,_,_,AKF,_⟩:=CC (AHj h9 (y8.trans y9));have AKG:h1.next<h9.mark:=by
    rw[m9];have:=(AHj h8 y8).lt x8.wf;exact this
   have AKH:∀ (off:Nat) (kk:C) (F:AEB) (e:Env),JA (.pointer (some ⟨h1.next,off,none⟩)) kk F e h9=kk F e h9:=fun off kk F e=>Dg AKG
   have s9:=s.ext W x9;have mk9:Mk h9 h.next vc l:=(((AKE.ext x1.wf y3).ext x3.wf ((y4.trans x5).trans x6)).ext x46.wf (y8.trans y9));obtain⟨h10,dv1,k10,x10,D1⟩:=LF (m:=m+6) x9.wf.quiet (s9.row.same (h':=h9.quiet) rfl) (fun b hb=>by have:=hD b hb;have:=x9.next;show b<h9.next;omega) (sct:=p*3+1) (by omega) (mk9.same (h':=h9.quiet) rfl) (by omega);have q10:∀ e:Env,J 0 e=pt A.bs->J 95 e=AI AT ((p*3+1:Nat):Int)->J 97 e=vc->Al .free (AS 45 [J 0,J 95,J 97]) (call AC (m+7)) e h9=.ok dv1 (h9.back h10):=fun e e1 e2 e3=>by
    refine BO ?_;rw[Ba,AV,AV,AV,A1,e1,e2,e3];exact k10
   have y11:h9.Ext (h9.back h10):=.back x10;have D11:CJ (h9.back h10) A h9.next dv1 (GH p l):=D1.same rfl;generalize h9.back h10=h11 at q10 y11 D11;have hrun:∃ e2,prB (call AC (m+7)) e1 h6=prC (call AC (m+7)) e2 h11/\J 0 e2=pt A.bs/\J 12 e2=pt h1.next/\J 14 e2=AI AT (p:Int)/\J 15 e2=vh/\J 17 e2=dv1:=by
    rw[cy];unfold jV;simp only[sT,By,BY,reduceIte,A3,Ao,t0,Ad,AG,AM,vk,AK,AO,l1m,Aq,As,t12,AHQ,q7,BK,BW,BZ,AX,t4,lnu,AJ,AH,c4,q9,t14,BG,ad,EH,AKH,Da,AKF,q10];exact⟨_,rfl,by simp[AD,t0,t12,t14]⟩
   obtain⟨e2,r1,u0,u12,u14,u15,u17⟩:=hrun;exact⟨e2,h11,dv1,GH p l,r1,u0,u12,u14,u15,u17,y9.trans y11,by rw[<- n9];exact D11,.inl ⟨fun h=>by rw[h]at hz;exact absurd hz (AAA 0),rfl⟩⟩
 obtain⟨e2,h11,dv1,ds1,r1,u0,u12,u14,u15,u17,AG4,D11,hds⟩:=AIU;have x11:=x8.trans AG4;have s11:=s.ext W x11;have hd3:ds1.length<=3:=by
  rcases hds with ⟨_,rfl⟩|⟨_,rfl⟩
  ·unfold GH
   rw[No,OF,List.length_range];show _+1<=3;omega
  ·exact wP _
 have k11:=MQ (m:=m+5) s11.row (p:=p) (by omega);have AIV:Mk h11 h6.next vh (AEJ T a b c 1 l):=(AI3.ext x8.wf AG4);obtain⟨h12,dv2,k12,x12,D2⟩:=LF (m:=m+6) x11.wf s11.row (fun b hb=>by have:=hD b hb;have:=x11.next;omega) (sct:=p*3) (by omega) AIV (by omega);rw[hH,show(wm ((64+63)/64)).map (fun j=>AEp.w (p*3+j) (Ct (AEJ T a b c 1 l) j))++[.f]=DY p (Ct (AEJ T a b c 1 l) 0)from rfl,Qk hH]at D2;have AKI:=x11.trans x12;obtain⟨h13,dv3,k13,x13,D3,n13,AI4⟩:=CJ.app AKI (by have:=x8.next;omega) (by have:=AG4.next;have:=x12.next;omega) (D11.ext x11.wf x12) D2 (by show 0<2;omega) (by
  show _+2<=1000;omega)
 have s13:=s.ext W x13;obtain⟨vs,w1,w2,w3⟩:=D3.ends fun b hb=>by have:=hD b hb;have:=x8.next;omega
 have hdl:(ds1++DY p (AEJ T a b c 1 l)).length<=6:=by
  rw[No];show _+2<=6;omega
 have hok:DW A.n [] (ds1++DY p (AEJ T a b c 1 l)):=by
  rcases hds with ⟨h0,rfl⟩|⟨_,rfl⟩
  ·exact jJ hp3 ⟨by rcases l with _|⟨_,_⟩;exact absurd rfl h0;exact ABQ _,hl⟩ hb hH hHb
  ·exact Wd hp3 hH hHb
 have AKJ:ds1++DY p (AEJ T a b c 1 l)=Jx p l (AEJ T a b c 1 l):=by
  unfold Jx;rcases hds with ⟨h0,rfl⟩|⟨h0,rfl⟩
  ·rw[if_neg h0]
  ·rw[if_pos h0]
 have AI5:call AC (m+7) 46 [pt A.bs,AI AT (p:Int)] h11=.ok (AI AT ((p*3:Nat):Int)) h11:=k11;have AI6:call AC (m+7) 45 [pt A.bs,AI AT ((p*3:Nat):Int),vh] h11=.ok dv2 h12:=k12;rcases PJ (m:=m+2) x13.wf s13 w1 w2 w3 hok hbm (by omega)with ⟨h14,c14,AFv,k14,f14,d14,b14⟩|⟨j,h14,hj,k14,f14,dd⟩
 case inr=>
  rw[AKJ]at hj dd;have c15:iNe 15 0=true:=FH (by omega);have AHR:call AC (m+7) 47 [pt A.bs,dv3] h13=.ok (AI AT 15) h14:=k14;refine .inr ⟨j,h14,hj,?_,(Fx.of x13).trans f14,dd⟩;rw[HZ rfl,Hb,p1,r1];unfold prC;simp only[sT,By,BY,reduceIte,cA0,u0,u14,AI5,u15,AI6,BF,u17,k13,AHR,AJ,AH,c15,lV0]
 have hcs:(BP M [] (ds1++DY p (AEJ T a b c 1 l))).2=[]:=by
  have:ds1++DY p (AEJ T a b c 1 l)=(ds1++[.w (p*3) (AEJ T a b c 1 l)])++[.f]:=by rw[wG];rfl
  rw[this];exact H4 _ _ _
 have hM:(BP M [] (ds1++DY p (AEJ T a b c 1 l))).1=DT T M p l (AEJ T a b c 1 l):=by
  rcases hds with ⟨_,rfl⟩|⟨h0,rfl⟩
  ·rfl
  ·rw[h0];rfl
 rw[hcs,hM]at d14;have s14:Sl h14 A T (DT T M p l (AEJ T a b c 1 l)) c14 AFv ks (p::fr) lv fv bad false:=(s13.sc.fx x13.wf f14).sl d14;obtain⟨_,_,_,l3',l4',_⟩:=A7 s14.row;obtain⟨wc,Vc,ct⟩:=fV (xs:=ints .i64 (fr.map wj)) (z:=AI AT (p:Int)) s14.fs;have hone:Bc (ints .i64 (fr.map wj))=true:=HU .i64 _;obtain⟨h15,fv',k15,x15,AI7⟩:=oy (n:=m+6) f14.wf Vc hone (by have:=s.le.2.1;unfold ints;rw[OF,OF];rw[vw]at this;omega);have s15:=s14.ext f14.wf x15;have onf:cellsOf fv'=[fv']/\oneCell fv'=true:=by
  rcases AI7 with ⟨h1,_⟩|⟨b,el,h1,_⟩<;>rw[h1]<;>exact⟨rfl,rfl⟩
 obtain⟨h16,AKK,AGt,n16,f16,_⟩:=D0 x15.wf s15.row (off:=4) (show 4<7 by omega) s.ne.2.2.2.2 onf.1 onf.2;have AHS:∀ b,A.D b->b<h14.next:=fun b hb=>by have:=hD b hb;have:=x13.next;have:=f14.next;omega
 have AGt:h16.Row A.bs 0 (slL A.bd A.tb lv fv' bad false):=AGt;have nbs:∀ b,¬ A.D b->b≠A.bs:=fun b hb h=>hb (.inl h)
 have s16:Sl h16 A T (DT T M p l (AEJ T a b c 1 l)) c14 AFv ks fr lv fv' bad false:=s15.bsx x15.wf f16 AGt (s15.ls.keep fun b el L hb r=>f16.row x15.wf r (nbs b hb)) (fun k hk=>⟨(s15.ko k hk).1.keep fun b el L hb _ r=>f16.row x15.wf r (nbs b hb),(s15.ko k hk).2⟩)
  (by
   rcases AI7 with h1|⟨b,el,h1,h2,h3,h4⟩
   ·exact .inl h1
   ·have hb:¬ A.D b:=fun h=>by have:=AHS b h;omega
    exact .inr ⟨b,el,h1,f16.row x15.wf h2 (nbs b hb),h3,hb⟩) ⟨s.le.1,by have:=s.le.2.1;rw[vw]at this;omega,s.le.2.2.1,fun q hq=>s.le.2.2.2 q (vr _ hq)⟩
 have W16:=f16.wf;have AHk:=(Hp.Ext.refl W16).marked;have AI8:=s16.ext W16 AHk;obtain⟨_,_,_,l3m,_⟩:=A7 AI8.row;obtain⟨h17,w17,k17,x17,AKL⟩:=Va (m:=m+6) AHk.quiet.wf ((AI8.same (h':=h16.marked.quiet) rfl).ls) (fun k hk=>(s16.ko k hk).1.vs.one.2.1) (by omega);have q17:∀ e:Env,J 125 e=lv->Al .weak (AS 49 [J 125]) (call AC (m+7)) e h16.marked=.ok w17 (h16.marked.back h17):=fun e he=>by
  refine DP ?_ x17 (IT _);rw[Ba,AV,A1,he];exact k17
 have y18:h16.Ext (h16.marked.back h17):=Hp.Ext.AFK AHk (AHk.quiet.trans x17);have AI9:(h16.marked.back h17).KN h16.next w17 ks:=AKL.same rfl;have m18:(h16.marked.back h17).mark=h16.next:=rfl;generalize h16.marked.back h17=h18 at q17 y18 AI9 m18;have AJA:h1.next<h6.next:=(AHj h6 (.refl x46.wf)).lt x46.wf;have hl6:h6.next<=h13.next:=by
  have a1:=y8.next;have a2:=AG4.next;have a4:=x12.next;omega
 have AJB:¬ A.D h1.next:=fun h=>by have:=hD _ h;have:=x1.next;omega
 have AKM:=AI4 _ _ _ (.inl rfl) (AHj h12 ((y8.trans AG4).trans x12));have AKN:=UZ AJB;have AIW:=f14.row x13.wf AKM AKN;have AHT:=f16.row x15.wf (AIW.ext f14.wf x15) (nbs _ AJB);obtain⟨_,_,_,_,_,AKO⟩:=CC (AHT.ext W16 y18);have AIX:∀ (off:Nat) (kk:C) (F:AEB) (e:Env),JA (.pointer (some ⟨h1.next,off,none⟩)) kk F e h18=kk F e h18:=fun off kk F e=>Dg (by
  rw[m18];exact AHT.lt W16)
 generalize hk':(⟨a,b,c,1,l,p,vc⟩:Kt)=k';have AKP:∀ (F:AEB) (e:Env),J 127 e=Bv a b c 1 vc->J 14 e=AI AT (p:Int)->B5 Fm.zero [(0,5,J 127),(5,1,J 14)] F e h18=.ok (ktV k') h18:=fun F e e1 e2=>by rw[<- hk'];exact VV e1 e2
 have hku:k'.u=vc:=by rw[<- hk']
 have qs:∀ (F:AEB) (e:Env),J 129 e=ktV k'->Al .AEV (Aj 1 (BQ Fm.zero 1) [(0,6,J 129)]) F e h18=.ok (.slice (some ⟨h18.next,0,none⟩) 1 1) (h18.back (h18.quiet.AEA 0 (AU k'))):=fun F e he=>DP (NA y18.wf.quiet he) ((Hp.Ext.refl y18.wf.quiet).AEA _ _) (by rw[m18];exact y18.next)
 have AJC:=y18.next;have xX:h16.Ext (⟨h18.next,h18.next+1,0,h18.mark,h18.bl⟩:Hp):=⟨AJC,y18.get,by show _<=h18.next+1;omega,⟨y18.wf.big,y18.wf.has,y18.wf.fresh⟩⟩;obtain⟨h20,lv',k20,x20,AKQ,n20⟩:=gv (k:=h16.next) xX (IT _) AJC (AI9.same (h':=⟨h18.next,h18.next+1,0,h18.mark,h18.bl⟩) rfl) (x:=k') (by rw[hku];exact oc.2.1) (by omega);have q20:∀ (F:AEB) (e:Env),J 126 e=w17->J 130 e=.slice (some ⟨h18.next,0,none⟩) 1 1->Al .free (Bk 6 64 83 (J 126) (J 130)) F e (h18.back (h18.quiet.AEA 0 (AU k')))=.ok lv' ((h18.back (h18.quiet.AEA 0 (AU k'))).back h20):=fun F e e1 e2=>by
  refine BO ?_;rw[BF,e1,e2];exact k20
 have y21:h16.Ext ((h18.back (h18.quiet.AEA 0 (AU k'))).back h20):=Hp.Ext.AFK (Hp.Ext.AFK y18 (y18.quiet.AEA _ _)) x20;have AG5:((h18.back (h18.quiet.AEA 0 (AU k'))).back h20).KO h16.next lv' (ks++[k']):=AKQ.same rfl;generalize h18.back (h18.quiet.AEA 0 (AU k'))=h19 at qs q20 y21 AG5;generalize h19.back h20=h21 at q20 y21 AG5;have s21:=s16.ext W16 y21;have onl:cellsOf lv'=[lv']/\oneCell lv'=true:=⟨AG5.lst.one.1,AG5.lst.one.2.1⟩;obtain⟨h22,AKR,AGu,n22,_,f22,_⟩:=UG y21.wf s21.row (off:=3) (show 3<7 by omega) s.ne.2.2.2.2 onl.1 onl.2;have AGu:h22.Row A.bs 0 (slL A.bd A.tb lv' fv' bad false):=AGu;have AGv:∀ b,A.D b->b<h16.next:=fun b hb=>by have:=AHS b hb;have:=x15.next;have:=f16.next;omega
 have AJD:h22.KO h16.next lv' (ks++[k']):=AG5.keep fun b el L hb r=>f22.row y21.wf r (fun h=>by
  have:=(AG5.blk y21.wf hb).1;have:=AGv A.bs (.inl rfl);omega)
 have bsv:h22.BS (fun b=>¬ A.D b) vc (l.map bv):=by
  have AKS:=(((mk1.ext x1.wf y3).ext x3.wf ((y4.trans x5).trans x6)).ext x46.wf (y8.trans AG4)).ext x11.wf x12;rcases AKS with ⟨e1,e2⟩|⟨bq,eq,e1,e2,e3,e4⟩
  ·exact .inl ⟨e1,by rw[e2];rfl⟩
  ·have hb':¬ A.D bq:=fun h=>by have:=hD _ h;omega
   have r13:=AI4 _ _ _ e2 e3;have r16:=f16.row x15.wf ((f14.row x13.wf r13 (UZ hb')).ext f14.wf x15) (nbs _ hb');exact .inr ⟨bq,0,l.length,eq,_,by rw[OF];exact e1,by rw[OF];exact IT _,f22.row y21.wf (r16.ext W16 y21) (nbs _ hb'),by omega,by rw[xF,List.take_length],hb',e2⟩
 have s22:Sl h22 A T (DT T M p l (AEJ T a b c 1 l)) c14 AFv (ks++[k']) fr lv' fv' bad false:=s21.bsx y21.wf f22 AGu (by
   refine Hp.KW.ks ?_;rcases AJD with ⟨h1,h2⟩|⟨b,h1,h2,h3,_⟩
   ·exact .inl ⟨h1,h2⟩
   ·exact .inr ⟨b,h1,h2,fun h=>by have:=AGv b h;omega⟩) (fun x hx=>by
   rcases wK.1 hx with hx|hx
   ·exact⟨(s21.ko x hx).1.keep fun b el L hb _ r=>f22.row y21.wf r (nbs b hb),(s21.ko x hx).2⟩
   ·rw[v7.1 hx,<- hk']
    exact⟨bsv,hb,hl,.inl rfl,hr,by show p<65536;omega⟩)
  (s21.fs.keep fun b el L hb r=>f22.row y21.wf r (nbs b hb)) ⟨by rw[No];show ks.length+1<=1000;omega,s16.le.2.1,s16.le.2.2.1,s16.le.2.2.2⟩
 have AFt:k'.core=⟨a,b,c,1,l,p⟩:=by rw[<- hk'];rfl
 obtain⟨_,_,_,l3z,_⟩:=A7 s22.row;obtain⟨bl,hlw,Rl,hbk,AF8⟩:∃ bl,lv'=.slice (some ⟨bl,0,none⟩) (ks++[k']).length (ks++[k']).length/\h22.Row bl 84 (flK (ks++[k']))/\h16.next<=bl/\256<=bl:=by
  rcases AJD with ⟨_,h2⟩|h2
  ·have:=congrArg List.length h2
   simp at this
  ·exact h2
 have nbl:¬ A.D bl:=fun h=>by have:=AGv bl h;omega
 obtain⟨h23,k23,f23,R23⟩:=TA (m:=m+1) (Z:=[]) (n:=(ks++[k']).length) (c:=(ks++[k']).length) f22.wf (by rw[wF];exact Rl) AF8 rfl (IT _) (by rw[No];show ks.length+1<=12;omega) fun k hk=>(s22.ko k hk).1.vs.one.2.1
 rw[<- hlw]at k23;have s23:Sl h23 A T (DT T M p l (AEJ T a b c 1 l)) c14 AFv (Bq (ks++[k'])) fr lv' fv' bad false:=s22.lst f22.wf f23 nbl Rl (by
  rw[hlw,<- Ie];exact(QK R23 rfl (IT _)).mono fun b hb=>by rw[show b=bl from hb];exact nbl) (fun k hk=>(Ep).1 hk) (Ie _)
 have fx:Fx A.D h h23:=by
  have e1:Fx A.D h h13:=.of x13;have e2:Fx A.D h13 h14:=f14.mono fun b hb=>.inr hb
  have e3:Fx A.D h14 h15:=.of x15;have e4:Fx A.D h15 h16:=f16.mono fun b hb=>.inl hb
  have e5:Fx A.D h16 h21:=.of y21;have e6:Fx A.D h21 h22:=f22.mono fun b hb=>.inl hb
  have e7:=((((e1.trans e2).trans e3).trans e4).trans e5).trans e6;have a1:=x13.next;have a2:=f14.next;have a3:=x15.next;have a4:=f16.next;exact e7.fresh f23 (by omega)
 refine .inl ⟨h23,c14,AFv,lv',fv',k',?_,fx,s23,AFt,b14⟩;rw[HZ rfl,Hb,p1,r1];unfold prC;have AHR:call AC (m+7) 47 [pt A.bs,dv3] h13=.ok (AI AT 0) h14:=k14;have AKT:call AC (m+7) 48 [wc] h14=.ok fv' h15:=k15;have AKU:call AC (m+7) 50 [lv',.func (.func 51) ⟨[]⟩ ⟨[]⟩] h22=.ok AEE h23:=k23;simp only[sT,By,BY,reduceIte,cA0,u0,u14,AI5,u15,AI6,BF,u17,k13,AHR,AJ,AH,c00,Ao,Ad,AG,AM,vk,AK,AO,l4'];rw[ct _ _ _ (by simp[AD])];simp only[sT,By,BY,reduceIte,cA0,u0,AKT,Ao,Ad,AG,AM,vk,Ab,AKK,A3,AK,AO,l3m,q17,u12,EH,AIX,Da,Aq,As,AKO,u14,AKP,qs,q20];rw[AKR _ _ _ _ (by simp[AD]) (by simp[AD])];simp only[sT,By,BY,reduceIte,u0,Ao,Ad,AG,AM,vk,AK,AO,l3z,cA0,AKU,lV0]
end
end
end Go.Proofs.YtedbmmfebjfibaaGreat

/-
  'SlotsApart' of layer 06 answers true, whatever memory it is called in, whatever bytes and calls it is handed and whatever the tape answers: no condition. What the canonical machine gives is shown for any of them (YtedbmmfebjfibaaGreatApf); that machine is sound for the model (YtedbmmfebjfibaaGreatFns).
-/
import Derived.Test.YtedbmmfebjfibaaGreatZP
import Derived.Test.YtedbmmfebjfibaaGreatRows
import Derived.ProofKit
import Derived.OpenShut
import Derived.Carry
set_option linter.unusedVariables false
set_option linter.unusedSimpArgs false
namespace Go.Proofs.YtedbmmfebjfibaaGreat
noncomputable section
open Go Go.RowKit Go.WideShapes Go.ChangeShapes
set_option maxRecDepth 100000
theorem WQ{W:World}{a:Addr}{v:Value}(h:W.cell? a=some v):a.spot=none∧∃ cs tt fr,W.heap[a.block]? =some (.cells cs tt fr)∧cs[a.off]? =some v:=by
 unfold World.cell? at h
 split at h
 ·rename_i cs tt fr hb
  split at h
  ·cases h
  ·rename_i hs
   refine⟨?_,cs,tt,fr,hb,h⟩
   cases hsp:a.spot with
   |none=>rfl
   |some s=>rw[hsp]at hs;exact(hs rfl).elim
 ·cases h
theorem Yv{W:World}{a:Addr}{L:List Value}{cs:Array Value}{tt:TypeId}{fr:Nat×Nat}(hb:W.heap[a.block]? =some (.cells cs tt fr))(hc:∀ j,j<L.length→cs[a.off+j]? =some (L.getD j noRes))(hf:∀ j,j<L.length→W.frozen? ⟨a.block,a.off+j,none⟩=false):J8 W a L:=by
 refine⟨cs,tt,fr,hb,hc,fun i hi hh=>?_⟩
 have h6:=hf i hi
 obtain⟨lo,hi'⟩:=fr
 simp only[World.frozen?,hb]at h6
 simp only at hh
 simp only[Bool.and_eq_false_iff,decide_eq_false_iff_not]at h6
 omega
theorem Tb{α:Type}{Q:Nat→α→Prop}:∀ n,(∀ i,i<n→∃ x,Q i x)→∃ xs:List α,xs.length=n∧∀ i x,xs[i]? =some x→Q i x
 |0,_=>⟨[],rfl,fun i x h=>by cases h⟩
 |n+1,h=>by
  obtain⟨xs,hl,hx⟩:=Tb n fun i hi=>h i (by omega)
  obtain⟨y,hy⟩:=h n (by omega)
  refine⟨xs++[y],by rw[List.length_append,hl];rfl,fun i x hi=>?_⟩
  rcases Nat.lt_or_ge i xs.length with h1|h1
  ·rw[List.getElem?_append_left h1]at hi;exact hx i x hi
  ·rw[List.getElem?_append_right h1]at hi
   have h2:i - xs.length< [y].length:=(List.getElem?_eq_some_iff.1 hi).1
   have h2:i - xs.length<1:=h2
   have h3:i - xs.length=0:=by omega
   rw[h3]at hi
   cases hi
   rw[show i=n by omega];exact hy
theorem F1{s:Nat}:∀ {Ls:List (List Value)},(∀ l∈Ls,l.length=s)→Ls.flatten.length=Ls.length * s
 |[],_=>by simp
 |l::Ls,h=>by
  rw[List.flatten_cons,List.length_append,h l List.mem_cons_self,F1 fun x hx=>h x (List.mem_cons_of_mem _ hx),List.length_cons,Nat.succ_mul,Nat.add_comm]
theorem PY{s:Nat}:∀ {Ls:List (List Value)} {i r:Nat} {l:List Value},(∀ l∈Ls,l.length=s)→Ls[i]? =some l→r<s→Ls.flatten[i * s+r]? =l[r]?
 |[],i,_,_,_,h,_=>by cases h
 |x::Ls,0,r,l,h,hi,hr=>by
  cases hi
  rw[List.flatten_cons,Nat.zero_mul,Nat.zero_add,List.getElem?_append_left (by rw[h x List.mem_cons_self];exact hr)]
 |x::Ls,i+1,r,l,h,hi,hr=>by
  have hx:=h x List.mem_cons_self
  rw[List.flatten_cons,List.getElem?_append_right (by rw[hx,Nat.succ_mul];omega),hx]
  have:(i+1) * s+r - s=i * s+r:=by rw[Nat.succ_mul];omega
  rw[this]
  exact PY (fun y hy=>h y (List.mem_cons_of_mem _ hy)) hi hr
theorem M8{s:Nat}:∀ {Ls:List (List Value)} {i:Nat} {l:List Value} (R:List Value),(∀ l∈Ls,l.length=s)→Ls[i]? =some l→((Ls.flatten++R).drop (i * s)).take s=l
 |[],i,_,_,_,h=>by cases h
 |x::Ls,0,l,R,h,hi=>by
  cases hi
  rw[Nat.zero_mul,List.drop_zero,List.flatten_cons,List.append_assoc]
  exact List.take_left' (h x List.mem_cons_self)
 |x::Ls,i+1,l,R,h,hi=>by
  have hx:=h x List.mem_cons_self
  have:(i+1) * s=s+i * s:=by rw[Nat.succ_mul,Nat.add_comm]
  rw[this,← List.drop_drop,List.flatten_cons,List.append_assoc,List.drop_left' hx]
  exact M8 R (fun y hy=>h y (List.mem_cons_of_mem _ hy)) hi
def Hz(W:World)(Q:List Value→Prop)(s:Nat)(v:Value)(n:Nat)(Ls:List (List Value)):Prop:=(∀ l∈Ls,l.length=s∧Q l)∧n≤Ls.length∧
 ((v=nilS∧Ls=[])∨(∃ a,v=.slice (some a) 0 0∧Ls=[])∨∃ a,v=.slice (some a) n Ls.length∧0<Ls.length∧a.spot=none∧J8 W a Ls.flatten)
theorem Og{H:Type}{enc:TypeId×Value→H}{P:Program}{t e:TypeId}{s:Nat}(ht:P.underlying t=some (.slice e))(hs:P.cellsOf e=s)(h0:0<s){W:World}{fuel:Nat}{v:Value}{x:DataW H×List MemPlace}{Q:List Value→Prop}
  (dec:∀ (m:Nat) (l:List Value) (y:DataW H×List MemPlace),l.length=s→DataW.trod enc P W 0 (fun _=>true) true m e l=some y→(∀ b off,MemPlace.cell b off∈y.2→W.frozen? ⟨b,off,none⟩=false)→Q l)
  (hf:DataW.trod enc P W 0 (fun _=>true) true fuel t [v]=some x)(hfz:∀ b off,MemPlace.cell b off∈x.2→W.frozen? ⟨b,off,none⟩=false):∃ n Ls,Hz W Q s v n Ls:=by
 rcases DataW.trod_slice ht hf with ⟨hcs,_⟩|⟨a,n,c,elems,rest,m,_,hcs,hx,_,hl,hm,hlen,hel,hsp,_⟩
 ·have:v=nilS:=by simpa using hcs
  exact⟨0,[],(fun l hl=>by cases hl),Nat.le_refl _,.inl ⟨this,rfl⟩⟩
 ·have:v=.slice (some a) n c:=by simpa using hcs
  subst this
  obtain⟨hrl,hr⟩:=hsp rfl
  subst hx
  rcases Nat.eq_zero_or_pos c with hc|hc
  ·subst hc
   have:n=0:=by omega
   subst this
   exact⟨0,[],(fun l hl=>by cases hl),Nat.le_refl _,.inr (.inl ⟨a,rfl,rfl⟩)⟩
  ·have htot:(elems++rest).length=c:=by rw[List.length_append];omega
   have each:∀ i,i<c→∃ l:List Value,(l.length=s∧Q l)∧∀ j,j<s→W.cell? ((a.add (i * s)).add j)=l[j]?:=fun i hi=>by
    have hi':i<(elems++rest).length:=by omega
    have hb:(W.cells? 0 (a.add (i * P.cellsOf e)) (P.cellsOf e)).bind (DataW.trod enc P W 0 (fun _=>true) true m e)=some ((elems++rest)[i]'hi'):=by
     rcases Nat.lt_or_ge i n with h4|h4
     ·have:=hel i h4
      rw[this,← List.getElem?_eq_getElem hi',List.getElem?_append_left (by omega)]
     ·have:=hr (i - n) (by omega)
      rw[show n+(i - n)=i by omega]at this
      rw[this,← List.getElem?_eq_getElem hi',List.getElem?_append_right (by omega),hlen]
    rw[hs,Option.bind_eq_some_iff]at hb
    obtain⟨l,h4,h5⟩:=hb
    obtain⟨_,h6,h7⟩:=World.cells?_some h4
    exact⟨l,⟨h6,dec m l _ h6 h5 fun b off hm=>hfz b off (List.mem_append_right _ (List.mem_flatMap.2 ⟨_,List.getElem_mem hi',hm⟩))⟩,h7⟩
   obtain⟨Ls,hLl,hLs⟩:=Tb c each
   have hall:∀ l∈Ls,l.length=s∧Q l:=fun l hl=>by
    obtain⟨i,hi,rfl⟩:=List.mem_iff_getElem.1 hl
    exact(hLs i _ (List.getElem?_eq_getElem hi)).1
   have hls:∀ l∈Ls,l.length=s:=fun l hl=>(hall l hl).1
   have hz:0<Ls.length:=by omega
   have c0:=(hLs 0 _ (List.getElem?_eq_getElem hz)).2 0 h0
   have hl0:0<(Ls[0]'hz).length:=by rw[hls _ (List.getElem_mem hz)];exact h0
   rw[List.getElem?_eq_getElem hl0,Nat.zero_mul]at c0
   have c0:W.cell? a=some ((Ls[0]'hz)[0]'hl0):=c0
   obtain⟨hsp0,cs,tt,fr,hb,_⟩:=WQ c0
   obtain⟨ab,ao,spot⟩:=a
   simp only at hsp0
   subst hsp0
   have hfl:=F1 hls
   refine⟨n,Ls,hall,by omega,.inr (.inr ⟨⟨ab,ao,none⟩,by rw[hLl],hz,rfl,Yv hb (fun j hj=>?_) fun j hj=>hfz ab (ao+j) (List.mem_append_left _ ?_)⟩)⟩
   ·rw[hfl]at hj
    have hi:j / s<Ls.length:=Nat.div_lt_of_lt_mul (by rw[Nat.mul_comm];exact hj)
    have hr:j % s<s:=Nat.mod_lt _ h0
    have e:j / s * s+j % s=j:=by rw[Nat.mul_comm];exact Nat.div_add_mod j s
    have hx:=List.getElem?_eq_getElem hi
    have q:=(hLs _ _ hx).2 _ hr
    have g:=PY hls hx hr
    rw[e]at g
    have hll:j % s<(Ls[j / s]'hi).length:=by rw[hls _ (List.getElem_mem hi)];exact hr
    rw[List.getElem?_eq_getElem hll]at q g
    rw[Addr.add_is,Addr.add_is,HS hb]at q
    rw[List.getD_eq_getElem?_getD,g]
    show cs[ao+j]? =some _
    have:ao+j / s * s+j % s=ao+j:=by omega
    rw[← this];exact q
   ·simp only[MemPlace.row,List.mem_map,List.mem_range]
    exact⟨j,by rw[hfl]at hj;rw[hs,hlen,hrl,show n+(c - n)=c by omega,← hLl];exact hj,rfl⟩
theorem UB{φ:Phi}{a:Addr}{n c i m:Nat}(hs:a.spot=none)(hn:n≤c)(hc:0<c)(hm:0<m)(hp:φ i=some (Mp a m)):RelV φ (.slice (some ⟨i,0,none⟩) n c) (.slice (some a) n c):=by
 refine .slice hn ⟨rfl,hs,_,hp,rfl,.inl ⟨hc,?_,.inl rfl⟩⟩
 show a.off=(if m=0 then 0 else a.off)+0
 rw[if_neg (by omega),Nat.add_zero]
theorem Hz.rel{W:World}{Q:List Value→Prop}{s n:Nat}{v:Value}{Ls:List (List Value)}(b:Hz W Q s v n Ls)(h0:0<s)(rf:∀ l,Q l→∀ φ,RelL φ l l)(i:Nat):∃ (u:Value) (q:Option Pl),UQ W Ls.flatten q∧(∀ φ,RelL φ Ls.flatten Ls.flatten)∧(∀ φ:Phi,φ i=q→RelV φ u v)∧
  ((u=nilS∧Ls=[])∨(u=.chan (some 0)∧Ls=[])∨u=.slice (some ⟨i,0,none⟩) n Ls.length):=by
 obtain⟨h1,h2,h3⟩:=b
 have hrel:∀ φ,RelL φ Ls.flatten Ls.flatten:=fun φ=>by
  clear h2 h3
  induction Ls with
  |nil=>exact .nil
  |cons l Ls ih=>
   rw[List.flatten_cons]
   exact(rf l (h1 l List.mem_cons_self).2 φ).append (ih fun l hl=>h1 l (List.mem_cons_of_mem _ hl))
 rcases h3 with ⟨rfl,rfl⟩|⟨a,rfl,rfl⟩|⟨a,rfl,h4,h5,h6⟩
 ·exact⟨nilS,none,.inl rfl,hrel,fun _ _=>.slice0,.inl ⟨rfl,rfl⟩⟩
 ·have:n=0:=by simpa using h2
  subst this
  exact⟨.chan (some 0),none,.inl rfl,hrel,fun _ _=>.slcE,.inr (.inl ⟨rfl,rfl⟩)⟩
 ·have hfl:=F1 fun l hl=>(h1 l hl).1
  refine⟨.slice (some ⟨i,0,none⟩) n Ls.length,some (Mp a Ls.flatten.length),.inr ⟨a,rfl,h6⟩,hrel,fun φ hφ=>UB h5 h2 h4 (by rw[hfl];exact Nat.mul_pos h4 h0) hφ,.inr (.inr rfl)⟩
def QB(l:List Value):Prop:=∃ x:Nat,l=[bv x]∧x<256
def QL(l:List Value):Prop:=∃ b:Bool,l=[.bool b]
theorem eo{l:List Value}(h:QB l)(φ:Phi):RelL φ l l:=by
 obtain⟨x,rfl,_⟩:=h
 exact .cons (.int _ _) .nil
theorem et{l:List Value}(h:QL l)(φ:Phi):RelL φ l l:=by
 obtain⟨x,rfl⟩:=h
 exact .cons (.bool _) .nil
theorem QS:∀ xs:List Nat,(xs.map fun x=>[bv x]).flatten=xs.map bv
 |[]=>rfl
 |a::xs=>by rw[List.map_cons,List.flatten_cons,QS xs];rfl
theorem Mw:∀ {Ls:List (List Value)},(∀ l∈Ls,QB l)→∃ xs:List Nat,Ls=xs.map (fun x=>[bv x])∧∀ x∈xs,x<256
 |[],_=>⟨[],rfl,fun x hx=>by cases hx⟩
 |l::Ls,h=>by
  obtain⟨x,rfl,hx⟩:=h l List.mem_cons_self
  obtain⟨xs,rfl,hxs⟩:=Mw fun l hl=>h l (List.mem_cons_of_mem _ hl)
  exact⟨x::xs,rfl,fun y hy=>by
   rcases List.mem_cons.1 hy with rfl|hy
   ·exact hx
   ·exact hxs y hy⟩
theorem hJ{W:World}{v:Value}{n:Nat}{Ls:List (List Value)}(b:Hz W QB 1 v n Ls):∃ l:List Nat,(∀ x∈l,x<256)∧∀ (i:Nat) (u:Value),((u=nilS∧Ls=[])∨(u=.chan (some 0)∧Ls=[])∨u=.slice (some ⟨i,0,none⟩) n Ls.length)→∀ h:Hp,h.Row i 0 Ls.flatten→h.VE u (l.map bv):=by
 obtain⟨h1,h2,_⟩:=b
 obtain⟨xs,rfl,hxs⟩:=Mw fun l hl=>(h1 l hl).2
 rw[List.length_map]at h2
 refine⟨xs.take n,fun x hx=>hxs x (List.mem_of_mem_take hx),fun i u hu h hr=>?_⟩
 rw[QS]at hr
 rcases hu with ⟨rfl,hx⟩|⟨rfl,hx⟩|rfl
 ·have:xs=[]:=by simpa using hx
  subst this
  exact .inl (.inl ⟨rfl,by simp⟩)
 ·have:xs=[]:=by simpa using hx
  subst this
  exact .inr ⟨⟨0,rfl⟩,by simp⟩
 ·have hl:(xs.take n).length=n:=by rw[List.length_take];omega
  refine .inl (.inr ⟨i,0,(xs.map fun x=>[bv x]).length,0,xs.map bv,?_,hr,?_,?_⟩)
  ·rw[List.length_map,List.length_map,hl]
  ·rw[List.length_map,hl,List.length_map];omega
  ·rw[List.length_map,hl,List.drop_zero,List.map_take]
structure OD where
 kd:Int
 a:Int
 b:Int
 c:Int
 no:Int
 u:Value
 w:Value
def OD.cells(x:OD):List Value:=opL x.kd x.a x.b x.c x.no x.u x.w
def V5(W:World)(x:OD):Prop:=(∃ n Ls,Hz W QB 1 x.u n Ls)∧∃ n Ls,Hz W QL 1 x.w n Ls
theorem lD{φ:Phi}{kd a b c no:Int}{ui ub vi vb:Value}(h1:RelV φ ui vi)(h2:RelV φ ub vb):RelL φ (opL kd a b c no ui ub) (opL kd a b c no vi vb):=
 .cons (.int _ _) (.cons (.int _ _) (.cons (.int _ _) (.cons (.int _ _) (.cons (.int _ _) (.cons h1 (.cons h2 .nil))))))
theorem YX{u:Value}{P Q:Prop}{i n m:Nat}(h:(u=nilS∧P)∨(u=.chan (some 0)∧Q)∨u=.slice (some ⟨i,0,none⟩) n m):oneCell u=true:=by
 rcases h with ⟨rfl,_⟩|⟨rfl,_⟩|rfl<;>rfl
theorem Tq{W:World}:∀ (xs:List OD),(∀ x∈xs,V5 W x)→∀ k:Nat,∃ (us:List OD) (qs:List (Option Pl)) (Zs:List (List Value)),us.length=xs.length∧qs.length=2 * xs.length∧Zs.length=2 * xs.length∧
  (∀ (i:Nat) (q:Option Pl) (L:List Value),qs[i]? =some q→Zs[i]? =some L→UQ W L q∧∀ φ,RelL φ L L)∧(∀ φ:Phi,(∀ (i:Nat) (q:Option Pl),qs[i]? =some q→φ (i+k)=q)→RelL φ (us.flatMap OD.cells) (xs.flatMap OD.cells))∧
  (∀ h:Hp,(∀ (i:Nat) (L:List Value),Zs[i]? =some L→h.Row (i+k) 0 L)→∀ u∈us,∃ l:List Nat,h.VE u.u (l.map bv)∧(∀ x∈l,x<256)∧oneCell u.u=true∧oneCell u.w=true)
 |[],_,k=>⟨[],[],[],rfl,rfl,rfl,(fun i q L h=>by cases h),(fun φ _=>.nil),fun h _ x hx=>by cases hx⟩
 |x::xs,hx,k=>by
  obtain⟨us,qs,Zs,l1,l2,l3,h1,h2,h3⟩:=Tq xs (fun y hy=>hx y (List.mem_cons_of_mem _ hy)) (k+2)
  obtain⟨⟨n,LI,bI⟩,⟨n',LB,bB⟩⟩:=hx x List.mem_cons_self
  obtain⟨ui,q0,i1,i2,i3,i4⟩:=bI.rel (by omega) (fun l h φ=>eo h φ) k
  obtain⟨ub,q1,j1,j2,j3,j4⟩:=bB.rel (by omega) (fun l h φ=>et h φ) (k+1)
  obtain⟨lb,hlb,hB⟩:=hJ bI
  refine⟨⟨x.kd,x.a,x.b,x.c,x.no,ui,ub⟩::us,q0::q1::qs,LI.flatten::LB.flatten::Zs,by rw[List.length_cons,List.length_cons,l1],by simp only[List.length_cons];omega,by simp only[List.length_cons];omega,fun i q' L e1 e2=>?_,fun φ hφ=>?_,fun h hr y hy=>?_⟩
  ·match i,e1,e2 with
   |0,e1,e2=>cases e1;cases e2;exact⟨i1,i2⟩
   |1,e1,e2=>cases e1;cases e2;exact⟨j1,j2⟩
   |i+2,e1,e2=>exact h1 i q' L e1 e2
  ·rw[List.flatMap_cons,List.flatMap_cons]
   refine(lD (i3 φ (by have:=hφ 0 q0 rfl;rwa [Nat.zero_add]at this)) (j3 φ (by have:=hφ 1 q1 rfl;rwa [Nat.add_comm]at this))).append (h2 φ fun i q' e=>?_)
   have:=hφ (i+2) q' e
   rwa [show i+2+k=i+(k+2)by omega]at this
  ·rcases List.mem_cons.1 hy with rfl|hy
   ·exact⟨lb,hB k ui i4 h (by have:=hr 0 _ rfl;rwa [Nat.zero_add]at this),hlb,YX i4,YX j4⟩
   ·refine h3 h (fun i L e=>?_) y hy
    have:=hr (i+2) L e
    rwa [show i+2+k=i+(k+2)by omega]at this
theorem UL(φ:Phi):∀ L:List Value,RelL φ (List.replicate L.length (Value.chan none)) L
 |[]=>.nil
 |_::L=>.cons .unk (UL φ L)
def V4(W:World)(φ:Phi)(L:List Value)(q:Option Pl):Prop:=q=none∨∃ a L',q=some (Mp a L.length)∧J8 W a L'∧RelL φ L L'
theorem UQ.irel{W:World}{φ:Phi}{L:List Value}{q:Option Pl}(h:UQ W L q)(r:RelL φ L L):V4 W φ L q:=by
 rcases h with h|⟨a,ha,hr⟩
 ·exact .inl h
 ·exact .inr ⟨a,L,ha,hr,r⟩
theorem Yw{W:World}{ty:TTy}{ps:List (Option Pl)}{Ls:List (List Value)}(h256:Ls.length≤256)(hlen:ps.length=Ls.length)
  (h:∀ (i:Nat) (q:Option Pl) (L:List Value),ps[i]? =some q→Ls[i]? =some L→V4 W (NL ps) L q):RelW ty (NL ps) nil (inH Ls) W:=
 kH h256 fun i p e=>by
  have e:(ps[i]?).getD none=some p:=e
  cases hq:ps[i]? with
  |none=>rw[hq]at e;cases e
  |some q=>
   rw[hq]at e
   have e:q=some p:=e
   subst e
   have hi:=(List.getElem?_eq_some_iff.1 hq).1
   have hL:=List.getElem?_eq_getElem (l:=Ls) (i:=i) (by omega)
   rcases h i _ _ hq hL with h|⟨a,L',ha,hr,hrl⟩
   ·cases h
   ·obtain rfl:=Option.some.inj ha
    exact⟨a,_,rfl,hL,hr.lt,Ym hr hrl⟩
theorem I7(xs:List OD):xs.flatMap OD.cells=(xs.map OD.cells).flatten:=by rw[List.flatMap_def]
theorem lE{W:World}{v:Value}{n:Nat}{Ls:List (List Value)}(b:Hz W (fun l=>∃ x:OD,l=x.cells∧V5 W x) 7 v n Ls)(i k cap:Nat):
  ∃ (u:Value) (q:Option Pl) (L0:List Value) (qs:List (Option Pl)) (Zs:List (List Value)),qs.length=2 * min n cap∧Zs.length=2 * min n cap∧
  (∀ φ:Phi,φ i=q→(∀ (j:Nat) (q':Option Pl),qs[j]? =some q'→φ (j+k)=q')→V4 W φ L0 q∧RelV φ u v)∧(∀ (j:Nat) (q':Option Pl) (L:List Value),qs[j]? =some q'→Zs[j]? =some L→UQ W L q'∧∀ φ,RelL φ L L)∧
  (∀ h:Hp,h.Wf→h.Row i 0 L0→(∀ (j:Nat) (L:List Value),Zs[j]? =some L→h.Row (j+k) 0 L)→OpsS h u n cap):=by
 obtain⟨h1,h2,h3⟩:=b
 rcases h3 with ⟨rfl,rfl⟩|⟨a,rfl,rfl⟩|⟨a,rfl,h4,h5,h6⟩
 ·have:n=0:=by simpa using h2
  subst this
  exact⟨nilS,none,[],[],[],by simp,by simp,fun φ _ _=>⟨.inl rfl,.slice0⟩,(fun j q' L h=>by cases h),fun h _ _ _=>⟨fun g=>rfl,fun i hi=>absurd hi (Nat.not_lt_zero _)⟩⟩
 ·have:n=0:=by simpa using h2
  subst this
  exact⟨.chan (some 0),none,[],[],[],by simp,by simp,fun φ _ _=>⟨.inl rfl,.slcE⟩,(fun j q' L h=>by cases h),fun h _ _ _=>⟨fun g=>rfl,fun i hi=>absurd hi (Nat.not_lt_zero _)⟩⟩
 ·obtain⟨xs,hxs⟩:∃ xs:List OD,Ls=xs.map OD.cells∧∀ x∈xs,V5 W x:=by
   clear h2 h4 h5 h6
   induction Ls with
   |nil=>exact⟨[],rfl,fun x hx=>by cases hx⟩
   |cons l Ls ih=>
    obtain⟨_,x,rfl,hx⟩:=h1 l List.mem_cons_self
    obtain⟨xs,rfl,hxs⟩:=ih fun l hl=>h1 l (List.mem_cons_of_mem _ hl)
    exact⟨x::xs,rfl,fun y hy=>by
     rcases List.mem_cons.1 hy with rfl|hy
     ·exact hx
     ·exact hxs y hy⟩
  obtain⟨rfl,hok⟩:=hxs
  rw[List.length_map]at h2 h4
  have hml:(xs.take (min n cap)).length=min n cap:=by rw[List.length_take];omega
  obtain⟨us,qs,Zs,l1,l2,l3,r1,r2,r3⟩:=Tq (xs.take (min n cap)) (fun x hx=>hok x (List.mem_of_mem_take hx)) k
  have hsplit:(xs.map OD.cells).flatten=(xs.take (min n cap)).flatMap OD.cells++(xs.drop (min n cap)).flatMap OD.cells:=by
   rw[← I7,← List.flatMap_append,List.take_append_drop]
  have hcl:∀ (ys:List OD),∀ l∈ys.map OD.cells,l.length=7:=fun ys l hl=>by
   obtain⟨x,_,rfl⟩:=List.mem_map.1 hl;rfl
  have ul:(us.flatMap OD.cells).length=(xs.take (min n cap)).length * 7:=by rw[I7,F1 (hcl us),List.length_map,l1]
  have vl:((xs.take (min n cap)).flatMap OD.cells).length=(xs.take (min n cap)).length * 7:=by rw[I7,F1 (hcl _),List.length_map]
  have hlen0:(us.flatMap OD.cells++List.replicate ((xs.drop (min n cap)).flatMap OD.cells).length (Value.chan none)).length=(xs.map OD.cells).flatten.length:=by
   rw[hsplit,List.length_append,List.length_append,List.length_replicate,ul,vl]
  have hpos:0<(xs.map OD.cells).flatten.length:=by rw[F1 (hcl xs),List.length_map];omega
  refine⟨.slice (some ⟨i,0,none⟩) n (xs.map OD.cells).length,some (Mp a (xs.map OD.cells).flatten.length),us.flatMap OD.cells++List.replicate ((xs.drop (min n cap)).flatMap OD.cells).length (Value.chan none),qs,Zs,by rw[l2,hml],by rw[l3,hml],fun φ hφ hq=>⟨.inr ⟨a,(xs.map OD.cells).flatten,by rw[hlen0],h6,?_⟩,UB h5 (by rw[List.length_map];exact h2) (by rw[List.length_map];exact h4) hpos hφ⟩,r1,fun h Wh hrow hrows=>⟨fun g=>Dt,fun j hj hj80=>?_⟩⟩
  ·rw[hsplit]
   exact(r2 φ hq).append (UL φ _)
  ·have hju:j<us.length:=by rw[l1,hml];omega
   have hx:us[j]? =some (us[j]'hju):=List.getElem?_eq_getElem hju
   obtain⟨lb,hB,hlb,ou,ow⟩:=r3 h hrows _ (List.getElem_mem hju)
   refine⟨i,(us[j]'hju).kd,(us[j]'hju).a,(us[j]'hju).b,(us[j]'hju).c,(us[j]'hju).no,(us[j]'hju).u,(us[j]'hju).w,lb,fun g xg=>?_,hB,hlb,ou,ow⟩
   have hm:(us.map OD.cells)[j]? =some (us[j]'hju).cells:=by rw[List.getElem?_map,hx];rfl
   have hd:=M8 (List.replicate ((xs.drop (min n cap)).flatMap OD.cells).length (Value.chan none)) (hcl us) hm
   rw[← I7]at hd
   refine⟨?_,?_,?_⟩
   ·have:=DX (h:=g) (n:=n) (c:=(xs.map OD.cells).length) (es:=7) (b:=i) (off:=0) (k:=.i64) hj
    rwa [Nat.zero_add]at this
   ·rw[(hrow.ext Wh xg).loadN (by rw[List.length_append,ul];omega),hd];rfl
   ·rw[(hrow.ext Wh xg).load1 (by rw[List.length_append,ul];omega)]
    have h5:((us.flatMap OD.cells++List.replicate ((xs.drop (min n cap)).flatMap OD.cells).length (Value.chan none)).drop (j * 7)).take 7=(us[j]'hju).cells:=hd
    have h6:=congrArg (fun l=>l[5]?) h5
    simp only[List.getElem?_take,List.getElem?_drop]at h6
    rw[if_pos (by omega)]at h6
    rw[List.getD_eq_getElem?_getD,h6];rfl
end
noncomputable section
open Go
set_option maxRecDepth 100000
def Cnt(ks:List Kt):Prop:=(∀ x∈ks,∀ y∈ks,¬ j6 x y)∧(ks.map Kt.key).Nodup
section
variable {F:CallF}{e:Env}{h g g':Hp}{T M:List Nat}{bd bm bc tb n m c0 k:Nat}{arm:Int}{v:Value}{ks:List Kt}
structure O3 (h g:Hp)(T M:List Nat)(bs r9 k1 bd tb i:Nat)(v mv:Value)(ks:List Kt):Prop where
 x:h.Ext g
 row:g.Row bs 0 (slL bd tb nilS nilS (bads T M i).length false)
 rb:g.Row r9 0 [pt bs]
 ko:g.KO k1 v ks
 ok:∀ k∈ks,KtOk g (fun b=>r9<b) k
 ms:g.Own k1 3 mv (ints .i64 ((mrk T M i).map Int.ofNat))
 le:k1≤g.next
theorem O3.ext{g g':Hp}{bs r9 k1 i:Nat}{mv:Value}(o:O3 h g T M bs r9 k1 bd tb i v mv ks)(x:g.Ext g'):O3 h g' T M bs r9 k1 bd tb i v mv ks:=
 have W:=o.x.wf
 ⟨o.x.trans x,o.row.ext W x,o.rb.ext W x,o.ko.ext W x,fun k hk=>⟨(o.ok k hk).1.ext W x,(o.ok k hk).2⟩,o.ms.ext W x,Nat.le_trans o.le x.next⟩
theorem dY{g:Hp}{r9 k1 i:Nat}{mv:Value}(W:h.Wf)(o:O1 h g T M h.next r9 k1 bd tb i v mv ks)(hl:ks.length≤12)(h1:h.next<r9)(h2:r9<k1):
  ∃ g',call AD (m+7) 50 [v,.func (.func 51) ⟨[]⟩ ⟨[]⟩] g=.ok noRes g'∧O3 h g' T M h.next r9 k1 bd tb i v mv (DS ks):=by
 have Wg:=o.x.wf
 rcases o.ko with ⟨rfl,rfl⟩|⟨b,rfl,R,hb,h256⟩
 ·obtain⟨g3,k3,x3⟩:=dW (m:=m+1) Wg (S:=fun _=>True) (ks:=[]) (.inl ⟨rfl,rfl⟩) (Nat.zero_le _) fun i x y hx _=>by cases hx
  have o3:=o.ext x3
  exact⟨g3,k3,⟨o3.x,o3.row,o3.rb,o3.ko,o3.ok,o3.ms,o3.le⟩⟩
 ·have hu:∀ k∈ks,oneCell k.u=true:=fun k hk=>(o.ok k hk).1.vs.one.2.1
  obtain⟨g3,k3,f3,R3⟩:=Q0 (m:=m+1) (Z:=[]) (n:=ks.length) (c:=ks.length) Wg (by rw[List.append_nil];exact R) h256 rfl (Nat.le_refl _) hl hu
  rw[List.append_nil]at R3
  refine⟨g3,k3,⟨Fx.xtF o.x f3 fun i hi=>by rw[hi];omega,f3.row Wg o.row (by omega),f3.row Wg o.rb (by omega),.inr ⟨b,by rw[Hj],R3,hb,h256⟩,fun k hk=>?_,?_,Nat.le_trans o.le f3.next⟩⟩
  ·have hk:=GA.1 hk
   exact⟨(o.ok k hk).1.keep fun b' el L _ he r=>f3.row Wg r (Ds r R (by omega)),(o.ok k hk).2⟩
  ·rcases o.ms with h1|⟨b',h1,h2,h3,h4⟩
   ·exact .inl h1
   ·exact .inr ⟨b',h1,f3.row Wg h2 (Ds h2 R (by omega)),h3,h4⟩
theorem Yb(W:h.Wf)(d:Dk h bd bm bc n M c0 [] arm false)(Rt:h.Row tb 0 (T.map wv))(hT:TblOk T)(hn:3≤n∧n≤90)(htb:tb≠bd∧tb≠bm∧tb≠bc)
  (hI:∀ ks:List Kt,ks.map Kt.core=kcs T M (n / 3)→Cnt ks)(hl:(kcs T M (n / 3)).length≤12)(ha:Bk arm (k+60)):
  ∃ h' bs c1 arm' lv fv ks ks0,call AD (m+8) 16 [pt bd,pt tb,.int .i64 100] h=.ok (.tuple ⟨[pt bs,.int .i64 0]⟩) h'∧Fx (fun b=>b=bd∨b=bm∨b=bc) h h'∧
   Sl h' ⟨bs,bd,bm,bc,tb,n⟩ T (GC M (outL ks (mrk T M (n / 3)) (n / 3))) c1 arm' ks (freeL ks (n / 3)) lv fv (bads T M (n / 3)).length false∧ks0.map Kt.core=kcs T M (n / 3)∧ks=DS ks0∧h.next≤bs∧Bk arm' k:=by
 have big:=W.big
 have s57:∀ (mm:Nat) (g:Hp),call AD (mm+1) 57 [.int .i64 100] g=.ok (.int .i64 3) g:=fun mm g=>by
  have:=UC (n:=mm) (h:=g) (z:=100)
  rw[Nj]at this;exact this
 have s57':=fun g=>s57 (m+6) g
 have k1:=dU (m:=m+5) d
 have k2:=aj (m:=m+5) d
 have c1:iEq (n:Int) 0=false:=BW (by omega)
 have c2:iEq 3 0=false:=BW (by omega)
 have c3:iGt 3 (n:Int)=false:=Ee (by omega)
 have ne:∀ (F:CallF) (e:Env),AB 27 e=pt tb→oEq Q8.k false (AB 27) (kV (.pointer none)) F e h=.ok (.bool false) h:=fun F e he=>JA eZ he
 have bl:∀ (F:CallF) (e:Env),AB 0 e=pt bd→AB 1 e=pt tb→AB 2 e=.int .i64 100→Bp ZI.zero [(0,1,AB 0),(1,1,AB 1),(2,1,AB 2)] F e h=.ok (.agg ⟨slL bd tb nilS nilS 0 false⟩) h:=fun F e a b c=>Zu a b c
 have bx:∀ (F:CallF) (e:Env),AB 46 e=.agg ⟨slL bd tb nilS nilS 0 false⟩→DD (AB 46) F e h=.ok (pt h.next) (h.pushRow 0 (slL bd tb nilS nilS 0 false)):=fun F e he=>by rw[Fe,he,FR W];rfl
 have x1:=(Hp.Ext.refl W).pushRow 0 (slL bd tb nilS nilS 0 false)
 have R1:=Hp.Row.new W 0 (slL bd tb nilS nilS 0 false)
 have n1:(h.pushRow 0 (slL bd tb nilS nilS 0 false)).next=h.next+1:=rfl
 generalize h.pushRow 0 (slL bd tb nilS nilS 0 false)=h1 at bx x1 R1 n1
 obtain⟨h2,al,st,y2,R9,n2,_⟩:=Ic x1.wf d7 (v:=pt h.next) rfl rfl
 have x2:=x1.trans y2
 have dv:=fun g=>qq (h:=g) (n:=n) (by omega)
 have pre:∃ e1,aM (call AD (m+7)) (AQ e0 0 [pt bd,pt tb,.int .i64 100]) h=lB (call AD (m+7)) e1 h2∧AB 2 e1=.int .i64 100∧AB 8 e1=.int .i64 (n:Int)∧AB 9 e1=pt h1.next∧AB 10 e1=nilS∧AB 11 e1=nilS∧AB 51 e1=.int .i64 ((n / 3:Nat):Int)∧AB 52 e1=.int .i64 ((0:Nat):Int):=by
  unfold aM
  simp only[iN,Nat.reduceAdd,sT,Nat.reduceLT,Nat.reduceEqDiff,reduceIte,gD,cA0,k1,AL,AK,c1,ne,s57',c2,c3,k2,bl,bx,al,AX,st,I5,dv]
  exact⟨_,rfl,by simp[AG]⟩
 obtain⟨e1,p1,s2,s8,s9,s10,s11,s51,s52⟩:=pre
 have hbs:h.next≤h.next∧h.next<h1.next∧h1.next<h2.next:=⟨Nat.le_refl _,by omega,by omega⟩
 have o0:O1 h h2 T M h.next h1.next h2.next bd tb 0 nilS nilS []:=⟨x2,R1.ext x1.wf y2,R9,.inl ⟨rfl,rfl⟩,rfl,fun k hk=>(by cases hk),.inl ⟨rfl,rfl⟩,Nat.le_refl _⟩
 have run1:∃ e' g v mv ks,Ax Ke (call AD (m+7)) e1 h2=.exit 1 e' g∧O1 h g T M h.next h1.next h2.next bd tb (n / 3) v mv ks∧AB 10 e'=v∧AB 11 e'=mv∧AB 2 e'=.int .i64 100∧AB 8 e'=.int .i64 (n:Int)∧AB 9 e'=pt h1.next:=by
  refine BZ (I:=fun i e' g=>∃ v mv ks,O1 h g T M h.next h1.next h2.next bd tb i v mv ks∧i≤n / 3∧AB 10 e'=v∧AB 11 e'=mv∧AB 52 e'=.int .i64 (i:Int)∧AB 2 e'=.int .i64 100∧AB 8 e'=.int .i64 (n:Int)∧AB 9 e'=pt h1.next∧AB 51 e'=.int .i64 ((n / 3:Nat):Int))
   (Q:=fun x=>∃ e' g v mv ks,x=.exit 1 e' g∧O1 h g T M h.next h1.next h2.next bd tb (n / 3) v mv ks∧AB 10 e'=v∧AB 11 e'=mv∧AB 2 e'=.int .i64 100∧AB 8 e'=.int .i64 (n:Int)∧AB 9 e'=pt h1.next) (n / 3) (by omega) (fun i e' g ⟨v,mv,ks,o,hi,t10,t11,t52,t2,t8,t9,t51⟩=>?_) ⟨_,_,_,o0,Nat.zero_le _,s10,s11,s52,s2,s8,s9,s51⟩
  by_cases hlt:i<n / 3
  ·left
   obtain⟨e2,g2,v2,mv2,ks2,r1,o2,r2,r3,r4,r5⟩:=YZ (m:=m+1) W d Rt hT o hbs hlt t9 t10 t11 t51 t52
   exact⟨hlt,e2,g2,r1,v2,mv2,ks2,o2,hlt,r2,r3,r4,(r5 2 (by omega)).trans t2,(r5 8 (by omega)).trans t8,(r5 9 (by omega)).trans t9,(r5 51 (by omega)).trans t51⟩
  ·right
   have hie:i=n / 3:=by omega
   have c1:iLt (i:Int) ((n / 3:Nat):Int)=false:=DI (by omega)
   have hrun:∃ e2,Ke (call AD (m+7)) e' g=.exit 1 e2 g∧∀ j,j=10∨j=11∨j=2∨j=8∨j=9→AB j e2=AB j e':=by
    unfold Ke
    simp only[sT,Nat.reduceLT,Nat.reduceEqDiff,reduceIte,AL,AK,t52,t51,c1]
    refine⟨_,rfl,fun j hj=>?_⟩
    rcases hj with rfl|rfl|rfl|rfl|rfl<;>simp only[AG,Nat.reduceLT,Nat.reduceEqDiff,reduceIte]
   obtain⟨e2,r1,r2⟩:=hrun
   rw[r1]
   exact⟨rfl,e2,g,v,mv,ks,rfl,hie ▸ o,(r2 10 (by omega)).trans t10,(r2 11 (by omega)).trans t11,(r2 2 (by omega)).trans t2,(r2 8 (by omega)).trans t8,(r2 9 (by omega)).trans t9⟩
 obtain⟨e2,g2,v,mv,ks,q1,o,t10,t11,t2,t8,t9⟩:=run1
 have hkl:ks.length≤12:=by rw[← List.length_map (f:=Kt.core),o.cs];exact hl
 obtain⟨g3,k3,o3⟩:=dY (m:=m) W o hkl hbs.2.1 hbs.2.2
 have hC:=hI ks o.cs
 have hcs:=o.cs
 clear o
 have hm3:∀ k,k∈DS ks↔k∈ks:=fun k=>GA
 have hl3:(DS ks).length≤12:=by rw[Hj];exact hkl
 have hn3:((DS ks).map Kt.key).Nodup:=((IR ks).map Kt.key).nodup_iff.2 hC.2
 generalize hks3:DS ks=ks3 at o3 hm3 hl3 hn3
 have o4:=o3.ext (Hp.Ext.refl o3.x.wf).marked
 have lb:=Ct o4.rb
 have old:∀ (kk:C) (F:CallF) (e:Env),J1 (pt h1.next) kk F e g3.marked=kk F e g3.marked:=fun kk F e=>Dy (by
  show h1.next<g3.next
  have:=o3.le;omega)
 obtain⟨g5,w,k5,x5,kw,kz⟩:=PE (m:=m+3) o4.x.wf.quiet (o4.ko.lst.same (h':=g3.marked.quiet) rfl) (by omega) (fun k hk=>(o4.ok k hk).1.vs.one.2.1) (fun x hx y hy=>hC.1 x ((hm3 x).1 hx) y ((hm3 y).1 hy)) fun i j x y hx hy hij ht=>absurd ((List.getElem?_inj (i:=i) (j:=j) (by rw[List.length_map];exact(List.getElem?_eq_some_iff.1 hx).1) hn3).1 (by rw[List.getElem?_map,List.getElem?_map,hx,hy];obtain⟨e1,e2,e3,_⟩:=ht;show some (x.a,x.b,x.c)=some (y.a,y.b,y.c);rw[e1,e2,e3])) (by omega)
 have q5:∀ e:Env,AB 10 e=v→Am .weak (AS 59 [AB 10]) (call AD (m+7)) e g3.marked=.ok w (g3.marked.back g5):=fun e he=>by
  refine DJ ?_ x5 (Nat.le_refl _)
  rw[Bb,AY,A3,he];exact k5
 have y5:g3.marked.Ext (g3.marked.back g5):=.back x5
 have kw5:(g3.marked.back g5).KO g3.marked.quiet.next w ks3:=kw.same rfl
 generalize g3.marked.back g5=g6 at q5 y5 kw5
 have o6:=o4.ext y5
 have onew:cellsOf w=[w]∧oneCell w=true:=⟨kw5.lst.one.1,kw5.lst.one.2.1⟩
 obtain⟨g7,k7,row7,n7,_,fx7,ex7⟩:=Rj o6.x.wf o6.row (off:=3) (show 3<7 by omega) big onew.1 onew.2
 have x7:=ex7 h o6.x (Nat.le_refl _)
 have kp7:∀ b el L,b≠h.next→g6.Row b el L→g7.Row b el L:=fun b el L hb r=>fx7.row o6.x.wf r hb
 have row7:g7.Row h.next 0 (slL bd tb w nilS (bads T M (n / 3)).length false):=row7
 have hk2:h2.next≤g3.marked.quiet.next:=o3.le
 have own7:∀ {u:Value} {xs:List Value},g6.Own h2.next 3 u xs→g7.Own h2.next 3 u xs:=fun o=>by
  rcases o with h1'|⟨b,h1',h2',h3',h4'⟩
  ·exact .inl h1'
  ·exact .inr ⟨b,h1',kp7 b _ _ (by omega) h2',h3',h4'⟩
 have ko7:g7.KO h2.next w ks3:=by
  rcases kw5 with h1'|⟨b,h1',h2',h3',h4'⟩
  ·exact .inl h1'
  ·exact .inr ⟨b,h1',kp7 b _ _ (by omega) h2',by omega,h4'⟩
 have p0:O2 h g7 (mrk T M (n / 3)) h.next h1.next h2.next bd tb 0 (bads T M (n / 3)).length w mv nilS nilS ks3:=⟨x7,row7,kp7 _ _ _ (by omega) o6.rb,ko7,fun k hk=>⟨(o6.ok k hk).1.keep fun b el L hb he r=>kp7 b el L (by have hb:h1.next<b:=hb;omega) r,(o6.ok k hk).2⟩,.inl ⟨rfl,rfl⟩,.inl ⟨rfl,rfl⟩,own7 o6.ms,fun b=>⟨fun h=>absurd h Ft,fun h=>absurd h Ft⟩,by rw[n7];exact o6.le⟩
 have mid:∃ e3,To (call AD (m+7)) e2 g2=lC (call AD (m+7)) e3 g7∧AB 9 e3=pt h1.next∧AB 11 e3=mv∧AB 17 e3=.func (.func 60) ⟨[]⟩ ⟨[pt h1.next]⟩∧AB 18 e3=nilS∧AB 102 e3=.int .i64 ((n / 3:Nat):Int)∧AB 103 e3=.int .i64 ((0:Nat):Int):=by
  unfold To
  simp only[sT,Nat.reduceLT,Nat.reduceEqDiff,reduceIte,cA0,t10,k3,Ay,EU,t9,old,DW,AM,AP,lb,q5,Au,Aj,AJ,AN,Nat.zero_add]
  rw[k7 _ _ _ _ (by simp[AG]) (by simp[AG])]
  simp only[sT,Nat.reduceLT,Nat.reduceEqDiff,reduceIte,cA0,Dw,t9,t2,s57',t8,I5,dv]
  exact⟨_,rfl,by simp[AG,t9,t11]⟩
 obtain⟨e3,p3,u9,u11,u17,u18,u102,u103⟩:=mid
 have run2:∃ e' g fv ou,Ax Kf (call AD (m+7)) e3 g7=.exit 4 e' g∧O2 h g (mrk T M (n / 3)) h.next h1.next h2.next bd tb (n / 3) (bads T M (n / 3)).length w mv fv ou ks3∧AB 9 e'=pt h1.next∧AB 18 e'=ou:=by
  refine BZ (I:=fun i e' g=>∃ fv ou,O2 h g (mrk T M (n / 3)) h.next h1.next h2.next bd tb i (bads T M (n / 3)).length w mv fv ou ks3∧i≤n / 3∧AB 9 e'=pt h1.next∧AB 11 e'=mv∧AB 17 e'=.func (.func 60) ⟨[]⟩ ⟨[pt h1.next]⟩∧AB 18 e'=ou∧AB 102 e'=.int .i64 ((n / 3:Nat):Int)∧AB 103 e'=.int .i64 (i:Int))
   (Q:=fun x=>∃ e' g fv ou,x=.exit 4 e' g∧O2 h g (mrk T M (n / 3)) h.next h1.next h2.next bd tb (n / 3) (bads T M (n / 3)).length w mv fv ou ks3∧AB 9 e'=pt h1.next∧AB 18 e'=ou) (n / 3) (by omega) (fun i e' g ⟨fv,ou,o,hi,t9,t11,t17,t18,Q5,Ok⟩=>?_) ⟨_,_,p0,Nat.zero_le _,u9,u11,u17,u18,u102,u103⟩
  by_cases hlt:i<n / 3
  ·left
   have hml:(mrk T M (n / 3)).length≤n / 3:=DQ _ _
   obtain⟨e2,g2,fv2,ou2,r1,o2,r2,r3,r4⟩:=Ya (m:=m+1) W o hbs hlt (by omega) (by omega) (by omega) t9 t11 t17 t18 Q5 Ok
   exact⟨hlt,e2,g2,r1,fv2,ou2,o2,hlt,(r4 9 (by omega)).trans t9,(r4 11 (by omega)).trans t11,(r4 17 (by omega)).trans t17,r2,(r4 102 (by omega)).trans Q5,r3⟩
  ·right
   have hie:i=n / 3:=by omega
   have c1:iLt (i:Int) ((n / 3:Nat):Int)=false:=DI (by omega)
   have hrun:∃ e2,Kf (call AD (m+7)) e' g=.exit 4 e2 g∧AB 9 e2=pt h1.next∧AB 18 e2=ou:=by
    unfold Kf
    simp only[sT,Nat.reduceLT,Nat.reduceEqDiff,reduceIte,AL,AK,Ok,Q5,c1]
    exact⟨_,rfl,by simp[AG,t9,t18]⟩
   obtain⟨e2,r1,r2,r3⟩:=hrun
   rw[r1]
   exact⟨rfl,e2,g,fv,ou,rfl,hie ▸ o,r2,r3⟩
 obtain⟨e4,g8,fv,ou,q8,o8,v9,v18⟩:=run2
 have W8:=o8.x.wf
 have lt:=d.lt W
 have nD:∀ b,h.next<b→¬ (⟨h.next,bd,bm,bc,tb,n⟩:At).D b:=fun b hb=>by
  rintro (h1|h1|h1|h1)
  ·have h1:b=h.next:=h1
   omega
  ·have h1:b=bd:=h1
   omega
  ·have h1:b=bm:=h1
   omega
  ·have h1:b=bc:=h1
   omega
 have hbl:(bads T M (n / 3)).length≤n / 3:=DQ _ _
 have hfl:(freeL ks3 (n / 3)).length≤n / 3:=DQ _ _
 have hol:(outL ks3 (mrk T M (n / 3)) (n / 3)).length≤n / 3:=DQ _ _
 have htlt:=Rt.lt W
 have sl:Sl g8 ⟨h.next,bd,bm,bc,tb,n⟩ T M c0 arm ks3 (freeL ks3 (n / 3)) w fv (bads T M (n / 3)).length false:=by
  refine⟨o8.row,d.ext W o8.x,Rt.ext W o8.x,hT,?_,fun k hk=>⟨(o8.ok k hk).1.mono fun b hb=>nD b (by have hb:h1.next<b:=hb;omega),(o8.ok k hk).2⟩,?_,⟨by show h.next≠bd;omega,by show h.next≠bm;omega,by show h.next≠bc;omega,?_,big⟩,⟨by omega,by omega,by omega,fun p hp=>?_⟩⟩
  ·refine Hp.KW.ks ?_
   rcases o8.ko with h1'|⟨b,h1',h2',h3',_⟩
   ·exact .inl h1'
   ·exact .inr ⟨b,h1',h2',nD b (by omega)⟩
  ·rcases o8.fs with h1'|⟨b,h1',h2',h3',_⟩
   ·exact .inl h1'
   ·exact .inr ⟨b,4,h1',h2',.inl rfl,nD b (by omega)⟩
  ·rintro (h1|h1|h1|h1)
   ·have h1:tb=h.next:=h1
    omega
   ·exact htb.1 h1
   ·exact htb.2.1 h1
   ·exact htb.2.2 h1
  ·have:=List.mem_range.1 (List.mem_filter.1 hp).1
   show 3 * p+3≤n
   omega
 obtain⟨g9,c9,arm9,k9,f9,s9',a9⟩:=J5 (m:=m+1) (k:=k) W8 sl (ps:=outL ks3 (mrk T M (n / 3)) (n / 3)) (pv:=ou) o8.os.vals (fun p hp=>by
  have:=List.mem_range.1 (List.mem_filter.1 hp).1
  show 3 * p+3≤n
  omega) (List.nodup_range.filter _) (by omega) (ha.le (by omega))
 have lb8:=Ct o8.rb
 have c0':iNe 0 0=false:=Cm rfl
 have lb9:=Ct (f9.row W8 o8.rb (by
  rintro (q|q|q)
  ·have q:h1.next=bd:=q
   omega
  ·have q:h1.next=bm:=q
   omega
  ·have q:h1.next=bc:=q
   omega))
 have k9:call AD (m+7) 53 [pt h.next,ou] g8=.ok (.int .i64 0) g9:=k9
 refine⟨g9,h.next,c9,arm9,w,fv,ks3,ks,?_,(Fx.of o8.x).trans f9,s9',hcs,hks3.symm,Nat.le_refl _,a9⟩
 rw[iD rfl,jU,p1,cz]
 simp only[BH,Aw,q1,A1,BB]
 rw[cy,p3,dA]
 simp only[BH,Aw,q8,A1,BB]
 unfold kv
 simp only[sT,Nat.reduceLT,Nat.reduceEqDiff,reduceIte,AM,AP,v9,lb8,cA0,v18,k9,AL,AK,c0',lb9,BX,DH]
end
end
noncomputable section
open Go
set_option maxRecDepth 100000
structure Med (T M:List Nat)(ks:List Kt)(fr:List Nat):Prop where
 len:M.length=64 * 24
 hd:∀ k∈ks,sec M (3 * k.p)=headL T k.a k.b k.c k.s k.l
 dt:∀ k∈ks,dat M k.p k.l.length=k.l
 bl:∀ p∈fr,∀ r,r<64→M.getD (64 * (3 * p)+r) 0=0
 rs:∀ k∈ks,rightS k.a k.b k.c k.s k.l.length=true∧k.l.length≤100
 pl:∀ p∈fr,p<8
def Com(ks:List Kt):Prop:=∀ x∈ks,∀ y∈ks,y.a=x.a→y.b=x.b→y.s=2→y.c≤x.c
section
variable {T M M':List Nat}{ks ks':List Kt}{fr fr' ps:List Nat}{kd a b c:Int}{l H:List Nat}{n p q k:Nat}
theorem MV(h1:M'.length=M.length)(h:∀ x,x / 64=q→M'.getD x 0=M.getD x 0):sec M' q=sec M q:=by
 have hl:∀ M:List Nat,(sec M q).length=min 64 (M.length - 64 * q):=fun M=>by unfold sec;rw[List.length_take,List.length_drop]
 refine Ij (by rw[hl,hl,h1]) fun i hi=>?_
 rw[hl]at hi
 rw[JE (by omega),JE (by omega),h _ (by omega)]
theorem Ig(h1:M'.length=M.length)(hk:k≤128)(h:∀ x,x / 64=3 * p+1∨x / 64=3 * p+2→M'.getD x 0=M.getD x 0):dat M' p k=dat M p k:=by
 have hl:∀ M:List Nat,(dat M p k).length=min k (M.length - 64 * (3 * p+1)):=fun M=>by unfold dat;rw[List.length_take,List.length_drop]
 refine Ij (by rw[hl,hl,h1]) fun i hi=>?_
 rw[hl]at hi
 rw[La (by omega),La (by omega),h _ (by omega)]
theorem SW(h1:M.length=64 * n)(hq:q<n)(hH:H.length=64)(h:∀ r,r<64→M.getD (64 * q+r) 0=H.getD r 0):sec M q=H:=by
 have hl:=JF h1 hq
 refine Ij (by rw[hl,hH]) fun i hi=>?_
 rw[JE (by omega),h i (by omega)]
theorem jg(h1:M.length=64 * n)(hp:3 * p+3≤n)(hl:l.length≤128)(h:∀ r,r<l.length→M.getD (64 * (3 * p+1)+r) 0=l.getD r 0):dat M p l.length=l:=by
 have hd:(dat M p l.length).length=l.length:=by unfold dat;rw[List.length_take,List.length_drop];omega
 refine Ij hd fun i hi=>?_
 rw[hd]at hi
 rw[La hi,h i hi]
theorem XK(hM:M.length=64 * n)(hp:3 * p+3≤n)(hl:l.length≤100)(hH:H.length=64):
  (C2 T M p l H).length=64 * n∧sec (C2 T M p l H) (3 * p)=H∧dat (C2 T M p l H) p l.length=l∧∀ x,x / 192≠p→(C2 T M p l H).getD x 0=M.getD x 0:=by
 rcases Nat.eq_zero_or_pos l.length with h0|h0
 ·obtain rfl:=List.eq_nil_of_length_eq_zero h0
  have e:C2 T M p [] H=Ho M (p * 3) H:=rfl
  have hL:=C5 hM (show p * 3<n by omega) hH
  rw[e]
  refine⟨hL,SW hL (by omega) hH fun r hr=>?_,List.take_zero,fun x hx=>?_⟩
  ·rw[D0 hM (by omega) hH,if_pos (by omega),show(64 * (3 * p)+r) % 64=r by omega]
  ·rw[D0 hM (by omega) hH,if_neg (by omega)]
 ·obtain⟨hL,hx⟩:=XL (T:=T) hM hp ⟨h0,hl⟩ hH
  refine⟨hL,SW hL (by omega) hH fun r hr=>?_,jg hL hp (by omega) fun r hr=>?_,fun x hn=>?_⟩
  ·rw[hx,if_pos (by omega),show(64 * (3 * p)+r) % 64=r by omega]
  ·rw[hx,if_neg (by omega)]
   by_cases h1:r<64
   ·rw[if_pos (by omega),show(64 * (3 * p+1)+r) % 64=r by omega]
   ·rw[if_neg (by omega),if_pos ⟨by omega,by omega⟩,show 64+(64 * (3 * p+1)+r) % 64=r by omega]
  ·rw[hx,if_neg (by omega),if_neg (by omega),if_neg (by omega)]
theorem ZA:∀ (ps:List Nat) {M:List Nat},M.length=64 * n→(∀ p∈ps,3 * p+3≤n)→(GC M ps).length=64 * n∧∀ x,(GC M ps).getD x 0=if x % 192<64∧x / 192∈ps then 0 else M.getD x 0
 |[],M,hM,_=>⟨hM,fun x=>by rw[if_neg (fun h=>by cases h.2)];rfl⟩
 |p::ps,M,hM,hp=>by
  have h3:=hp p List.mem_cons_self
  have e:GC M (p::ps)=GC (Ho M (p * 3) BP) ps:=rfl
  have hz:BP.length=64:=List.length_replicate
  have hL:=C5 hM (show p * 3<n by omega) hz
  obtain⟨g1,g2⟩:=ZA ps hL fun q hq=>hp q (List.mem_cons_of_mem _ hq)
  rw[e]
  refine⟨g1,fun x=>?_⟩
  rw[g2,D0 hM (by omega) hz]
  by_cases h1:x % 192<64∧x / 192∈ps
  ·rw[if_pos h1,if_pos ⟨h1.1,List.mem_cons_of_mem _ h1.2⟩]
  ·rw[if_neg h1]
   by_cases h2:x / 64=p * 3
   ·rw[if_pos h2,if_pos ⟨by omega,by rw[show x / 192=p by omega];exact List.mem_cons_self⟩]
    unfold BP
    exact Qo
   ·rw[if_neg h2,if_neg]
    rintro⟨q1,q2⟩
    rcases List.mem_cons.1 q2 with q2|q2
    ·omega
    ·exact h1 ⟨q1,q2⟩
theorem M4:∀ (out:List Kt) (M:List Nat),Hv M out=GC M (out.map Kt.plc)
 |[],_=>rfl
 |x::out,M=>M4 out (GC M [x.p])
theorem Med.cut(m:Med T M ks fr)(hs:∀ k∈ks',k∈ks∧k.p∉ps)(hf:∀ p∈fr',p∈fr∨p∈ps)(hp:∀ p∈ps,3 * p+3≤24):Med T (GC M ps) ks' fr':=by
 obtain⟨g1,g2⟩:=ZA ps m.len hp
 have hn:∀ k∈ks',∀ x,x / 192=k.p→(GC M ps).getD x 0=M.getD x 0:=fun k hk x hx=>by
  rw[g2,if_neg]
  rintro⟨_,q2⟩
  rw[hx]at q2
  exact(hs k hk).2 q2
 refine⟨g1,fun k hk=>?_,fun k hk=>?_,fun p hp r hr=>?_,fun k hk=>m.rs k (hs k hk).1,fun p hp'=>?_⟩
 ·rw[MV (g1.trans m.len.symm) fun x hx=>hn k hk x (by omega)]
  exact m.hd k (hs k hk).1
 ·rw[Ig (g1.trans m.len.symm) (by have:=(m.rs k (hs k hk).1).2;omega) fun x hx=>hn k hk x (by omega)]
  exact m.dt k (hs k hk).1
 ·rw[g2]
  by_cases h1:(64 * (3 * p)+r) % 192<64∧(64 * (3 * p)+r) / 192∈ps
  ·rw[if_pos h1]
  ·rw[if_neg h1]
   rcases hf p hp with h|h
   ·exact m.bl p h r hr
   ·exact absurd ⟨by omega,by rw[show(64 * (3 * p)+r) / 192=p by omega];exact h⟩ h1
 ·rcases hf p hp' with h|h
  ·exact m.pl p h
  ·have:=hp p h;omega
theorem Med.go(m:Med T M ks fr)(i:InvS ks fr)(P:Kt→Bool){out:List Kt}(ho:out.Perm (ks.filter P)):Med T (GC M (out.map Kt.plc)) (ks.filter fun k=> !P k) (frE fr out):=by
 refine m.cut (fun k hk=>?_) (fun p hp=>?_) fun p hp=>?_
 ·obtain⟨h1,h2⟩:=List.mem_filter.1 hk
  refine⟨h1,fun hp=>?_⟩
  obtain⟨y,hy,hyp⟩:=List.mem_map.1 hp
  obtain⟨h3,h4⟩:=List.mem_filter.1 (ho.mem_iff.1 hy)
  rw[De i.nd h3 h1 hyp]at h4
  rw[h4]at h2
  cases h2
 ·have:=(It out fr).mem_iff.1 hp
  exact List.mem_append.1 this
 ·obtain⟨y,hy,rfl⟩:=List.mem_map.1 hp
  exact i.lt y (List.mem_filter.1 (ho.mem_iff.1 hy)).1
theorem Q4(hc:Com ks)(hst:Bx a b c ks=false):∀ y∈ks,y.a=a→y.b=b→y.s=2→y.c<c:=fun y hy h1 h2 h3=>by
 unfold Bx at hst
 cases hf:ks.find? (FO a b)with
 |none=>
  refine absurd ?_ (List.find?_eq_none.1 hf y hy)
  unfold FO
  rw[decide_eq_true h1,decide_eq_true h2,decide_eq_true h3];rfl
 |some k=>
  rw[hf]at hst
  have hk:=List.find?_some hf
  unfold FO at hk
  rw[Bool.and_eq_true,Bool.and_eq_true]at hk
  have k1:=of_decide_eq_true hk.1.1
  have k2:=of_decide_eq_true hk.1.2
  have k3:=of_decide_eq_true hk.2
  have hkm:=List.mem_of_find?_eq_some hf
  have:=hc k hkm y hy (h1.trans k1.symm) (h2.trans k2.symm) h3
  have h4:¬ c≤k.c:=of_decide_eq_false hst
  omega
theorem mem_set{x y z:Kt}{j:Nat}(hj:ks[j]? =some x)(hz:z∈ks.set j y):z=y∨z∈ks:=(List.mem_or_eq_of_mem_set hz).symm
theorem dR{x y z:Kt}{j:Nat}(hj:ks[j]? =some x)(hz:z∈ks)(hne:z≠x):z∈ks.set j y:=by
 obtain⟨i,hi⟩:=List.mem_iff_getElem?.1 hz
 refine List.mem_iff_getElem?.2 ⟨i,?_⟩
 rw[List.getElem?_set,if_neg]
 ·exact hi
 ·intro h
  rw[← h,hj]at hi
  exact hne (Option.some.inj hi).symm
theorem Fa{x y:Kt}(h:x.core=y.core):x.a=y.a∧x.b=y.b∧x.c=y.c∧x.s=y.s∧x.l=y.l∧x.p=y.p:=⟨congrArg Kc.a h,congrArg Kc.b h,congrArg Kc.c h,congrArg Kc.s h,congrArg Kc.l h,congrArg Kc.p h⟩
theorem JM(i:InvS ks fr)(m:Med T M ks fr)(hc:Com ks)(t:UR T M ks fr kd a b c l M' ks' fr'):Med T M' ks' fr'∧Com ks'∧(∀ k,¬ (k.a=a∧k.b=b)→(k∈ks'↔k∈ks)):=by
 rcases t with ⟨hk,hz,p,k',rfl,rfl,hcr,rfl⟩|⟨hk,j,kx,hj,habc,hst,rfl,rfl,rfl⟩|⟨rfl,j,kx,hj,habc,hst,rfl,rfl,rfl⟩|⟨rfl,rfl,rfl,rfl⟩
 ·unfold Eg at hz
  split at hz
  ·cases hz
  rename_i hn
  split at hz
  ·split at hz<;>cases hz
  split at hz
  ·cases hz
  rename_i hst
  have hst':Bx a b c ks=false:=by
   cases hq:Bx a b c ks
   ·rfl
   ·exact absurd hq hst
  have hr:rightS a b c 1 l.length=true:=by
   cases hq:rightS a b c 1 l.length
   ·exact absurd (.inl hq) hn
   ·rfl
  have h100:l.length≤100:=Nat.le_of_not_lt fun h=>hn (.inr h)
  have e1:k'.a=a:=congrArg Kc.a hcr
  have e2:k'.b=b:=congrArg Kc.b hcr
  have e3:k'.c=c:=congrArg Kc.c hcr
  have e4:k'.s=1:=congrArg Kc.s hcr
  have e5:k'.l=l:=congrArg Kc.l hcr
  have e6:k'.p=p:=congrArg Kc.p hcr
  have hp8:=m.pl p List.mem_cons_self
  obtain⟨g1,g2,g3,g4⟩:=XK (T:=T) (p:=p) (H:=headL T a b c 1 l) m.len (by omega) h100 (F2 hr)
  have hnd:(ks.map Kt.plc++(p::fr')).Nodup:=i.plc.nodup_iff.2 (by decide)
  have hmem:∀ k,k∈DS (ks++[k'])↔k∈ks∨k=k':=fun k=>by rw[GA,List.mem_append,List.mem_singleton]
  have hkp:∀ k∈ks,k.p≠p:=fun k hk h=>(List.nodup_append.1 hnd).2.2 k.p (List.mem_map.2 ⟨k,hk,rfl⟩) p List.mem_cons_self h
  have hfp:∀ q∈fr',q≠p:=fun q hq h=>(List.nodup_cons.1 (List.nodup_append.1 hnd).2.1).1 (h ▸ hq)
  have hs:∀ k∈ks,∀ x,x / 192=k.p→(C2 T M p l (headL T a b c 1 l)).getD x 0=M.getD x 0:=fun k hk x hx=>g4 x (by rw[hx];exact hkp k hk)
  refine⟨⟨g1,fun k hk=>?_,fun k hk=>?_,fun q hq r hr=>?_,fun k hk=>?_,fun q hq=>m.pl q (List.mem_cons_of_mem _ hq)⟩,fun x hx y hy h1 h2 h3=>?_,fun k hne=>?_⟩
  ·rcases (hmem k).1 hk with hk|rfl
   ·rw[MV (g1.trans m.len.symm) fun x hx=>hs k hk x (by omega)]
    exact m.hd k hk
   ·rw[e6,g2,e1,e2,e3,e4,e5]
  ·rcases (hmem k).1 hk with hk|rfl
   ·rw[Ig (g1.trans m.len.symm) (by have:=(m.rs k hk).2;omega) fun x hx=>hs k hk x (by omega)]
    exact m.dt k hk
   ·rw[e6,e5,g3]
  ·rw[g4 _ (by have:=hfp q hq;omega)]
   exact m.bl q (List.mem_cons_of_mem _ hq) r hr
  ·rcases (hmem k).1 hk with hk|rfl
   ·exact m.rs k hk
   ·rw[e1,e2,e3,e4,e5];exact⟨hr,h100⟩
  ·rcases (hmem y).1 hy with hyk|hyk
   ·rcases (hmem x).1 hx with hxk|hxk
    ·exact hc x hxk y hyk h1 h2 h3
    ·rw[hxk]at h1 h2 ⊢
     have:=Q4 hc hst' y hyk (h1.trans e1) (h2.trans e2) h3
     rw[e3];omega
   ·rw[hyk]at h3
    omega
  ·rw[hmem]
   refine⟨fun h=>h.resolve_right fun h1=>hne (by rw[h1];exact⟨e1,e2⟩),.inl⟩
 ·have hjl:=(List.getElem?_eq_some_iff.1 hj).1
  have hkm:=List.mem_of_getElem? hj
  obtain⟨rfl,rfl,rfl⟩:=habc
  have hp3:=i.lt kx hkm
  have hr0:=m.rs kx hkm
  have hr2:rightS kx.a kx.b kx.c 2 kx.l.length=true:=by
   obtain⟨g1,g2,g3,g4,g5,g6,g7,g8⟩:=Dg hr0.1
   exact decide_eq_true ⟨g1,g2,g3,g4,g5,g6,.inr rfl,g8⟩
  obtain⟨g1,g2⟩:=Wr m.len (p:=kx.p) hp3 (F2 (T:=T) hr2)
  have i2:=i.set (y:={kx with s:=2}) hj rfl rfl
  have hset:∀ z∈ks.set j {kx with s:=2},z={kx with s:=2}∨(z∈ks∧z.p≠kx.p):=fun z hz=>by
   rcases mem_set hj hz with h|h
   ·exact .inl h
   ·by_cases hzp:z.p=kx.p
    ·have hX:({kx with s:=2}:Kt)∈ks.set j {kx with s:=2}:=List.mem_set hjl _
     exact .inl (De i2.nd hz hX hzp)
    ·exact .inr ⟨h,hzp⟩
  have hs:∀ z∈ks,z.p≠kx.p→∀ x,x / 192=z.p→(Fv M kx.p (headL T kx.a kx.b kx.c 2 kx.l)).getD x 0=M.getD x 0:=fun z hz hzp x hx=>by rw[g2,if_neg (by omega)]
  have m2:Med T (Fv M kx.p (headL T kx.a kx.b kx.c 2 kx.l)) (ks.set j {kx with s:=2}) fr:=by
   refine⟨g1,fun k hk=>?_,fun k hk=>?_,fun q hq r hr=>?_,fun k hk=>?_,m.pl⟩
   ·rcases hset k hk with rfl|⟨h1,h2⟩
    ·exact SW g1 (by show 3 * kx.p<24;omega) (F2 hr2) fun r hr=>by rw[g2,if_pos (show(64 * (3 * kx.p)+r) / 64=3 * kx.p by omega),show(64 * (3 * kx.p)+r) % 64=r by omega]
    ·rw[MV (g1.trans m.len.symm) fun x hx=>hs k h1 h2 x (by omega)]
     exact m.hd k h1
   ·rcases hset k hk with rfl|⟨h1,h2⟩
    ·show dat _ kx.p kx.l.length=kx.l
     rw[Ig (g1.trans m.len.symm) (by omega) fun x hx=>by rw[g2,if_neg (by omega)]]
     exact m.dt kx hkm
    ·rw[Ig (g1.trans m.len.symm) (by have:=(m.rs k h1).2;omega) fun x hx=>hs k h1 h2 x (by omega)]
     exact m.dt k h1
   ·have hnd:(ks.map Kt.plc++fr).Nodup:=i.plc.nodup_iff.2 (by decide)
    have hqk:kx.p≠q:=(List.nodup_append.1 hnd).2.2 kx.p (List.mem_map.2 ⟨kx,hkm,rfl⟩) q hq
    rw[g2,if_neg (by omega)]
    exact m.bl q hq r hr
   ·rcases hset k hk with rfl|⟨h1,h2⟩
    ·exact⟨hr2,hr0.2⟩
    ·exact m.rs k h1
  have m3:=m2.go i2 (elB kx.a kx.b kx.c) (out:=(ks.set j {kx with s:=2}).filter (elB kx.a kx.b kx.c)) (.refl _)
  refine⟨m3,fun x hx y hy h1 h2 h3=>?_,fun k hne=>?_⟩
  ·obtain⟨hx1,hx2⟩:=List.mem_filter.1 hx
   obtain⟨hy1,hy2⟩:=List.mem_filter.1 hy
   rcases hset y hy1 with rfl|⟨hy3,hy4⟩
   ·refine Int.not_lt.1 fun hlt=>?_
    have hlt:x.c<kx.c:=hlt
    have h1:kx.a=x.a:=h1
    have h2:kx.b=x.b:=h2
    unfold elB at hx2
    rw[decide_eq_true h1.symm,decide_eq_true h2.symm,decide_eq_true hlt]at hx2
    cases hx2
   ·rcases hset x hx1 with rfl|⟨hx3,hx4⟩
    ·have h1:y.a=kx.a:=h1
     have h2:y.b=kx.b:=h2
     have hlt:=Q4 hc hst y hy3 h1 h2 h3
     unfold elB at hy2
     rw[decide_eq_true h1,decide_eq_true h2,decide_eq_true hlt]at hy2
     cases hy2
    ·exact hc x hx3 y hy3 h1 h2 h3
  ·rw[List.mem_filter]
   constructor
   ·rintro⟨h1,_⟩
    rcases hset k h1 with rfl|⟨h2,_⟩
    ·exact absurd ⟨rfl,rfl⟩ hne
    ·exact h2
   ·intro h1
    refine⟨dR hj h1 fun h=>hne (by rw[h];exact⟨rfl,rfl⟩),?_⟩
    cases hq:elB kx.a kx.b kx.c k
    ·rfl
    ·unfold elB at hq
     rw[Bool.and_eq_true,Bool.and_eq_true]at hq
     exact absurd ⟨of_decide_eq_true hq.1.1,of_decide_eq_true hq.1.2⟩ hne
 ·obtain⟨hcut,hPl⟩:=OS hj
  obtain⟨rfl,rfl,rfl⟩:=habc
  have hkm:=List.mem_of_getElem? hj
  have hp3:=i.lt kx hkm
  have hnd:=i.nd
  have hsub:∀ k∈ks.take j++ks.drop (j+1),k∈ks∧k.p≠kx.p:=fun k hk=>by
   have hkk:k∈ks:=by
    rcases List.mem_append.1 hk with h|h
    ·exact List.mem_of_mem_take h
    ·exact List.mem_of_mem_drop h
   refine⟨hkk,fun hp=>?_⟩
   have e:=De hnd hkk hkm hp
   rw[hcut]at hnd
   have pm:(ks.take j++kx::ks.drop (j+1)).Perm (kx::(ks.take j++ks.drop (j+1))):=List.perm_middle
   have kn:=(pm.map Kt.plc).nodup_iff.1 hnd
   rw[List.map_cons,List.nodup_cons]at kn
   exact kn.1 (List.mem_map.2 ⟨k,hk,hp⟩)
  refine⟨m.cut (fun k hk=>⟨(hsub k hk).1,fun h=>(hsub k hk).2 (List.mem_singleton.1 h)⟩) (fun p hp=>List.mem_append.1 ((GY _).mem_iff.1 hp)) (fun p hp=>by rw[List.mem_singleton.1 hp];exact hp3),fun x hx y hy=>hc x (hsub x hx).1 y (hsub y hy).1,fun k hne=>⟨fun h=>(hsub k h).1,fun h=>?_⟩⟩
  rw[hcut]at h
  rcases List.mem_append.1 h with h|h
  ·exact List.mem_append_left _ h
  ·rcases List.mem_cons.1 h with h|h
   ·exact absurd ⟨by rw[h],by rw[h]⟩ hne
   ·exact List.mem_append_right _ h
 ·refine⟨by rw[M4];exact m.go i (drB a b c) (List.reverse_perm _),fun x hx y hy=>hc x (List.mem_filter.1 hx).1 y (List.mem_filter.1 hy).1,fun k hne=>?_⟩
  rw[List.mem_filter]
  refine⟨fun h=>h.1,fun h=>⟨h,?_⟩⟩
  cases hq:drB a b c k
  ·rfl
  ·unfold drB at hq
   rw[Bool.and_eq_true,Bool.and_eq_true]at hq
   exact absurd ⟨of_decide_eq_true hq.1.1,of_decide_eq_true hq.1.2⟩ hne
end
end
noncomputable section
open Go
set_option maxRecDepth 100000
theorem Xa{F:Nat→Option Kc}:∀ {ks:List Kt},(∀ k∈ks,F k.p=some k.core)→(ks.map Kt.plc).filterMap F=ks.map Kt.core
 |[],_=>rfl
 |k::ks,h=>by
  show(k.p::ks.map Kt.plc).filterMap F=_
  rw[List.filterMap_cons_some (h k List.mem_cons_self),Xa fun x hx=>h x (List.mem_cons_of_mem _ hx),List.map_cons]
theorem TA{F:Nat→Option Kc}:∀ {fr:List Nat},(∀ p∈fr,F p=none)→fr.filterMap F=[]
 |[],_=>rfl
 |p::fr,h=>by rw[List.filterMap_cons_none (h p List.mem_cons_self),TA fun x hx=>h x (List.mem_cons_of_mem _ hx)]
theorem oW:List.range 8=[0,1,2,3,4,5,6,7]:=rfl
def kM(c:Kc):Int×Int×Int:=(c.a,c.b,c.c)
theorem Ks(ks:List Kt):ks.map Kt.key=(ks.map Kt.core).map kM:=by rw[List.map_map];rfl
theorem Ea{ks ks0:List Kt}(pm:(ks0.map Kt.core).Perm (ks.map Kt.core)){x:Kt}(hx:x∈ks0):∃ y∈ks,y.core=x.core:=List.mem_map.1 (pm.mem_iff.1 (List.mem_map.2 ⟨x,hx,rfl⟩))
section
variable {h h' h0:Hp}{A:At}{T M:List Nat}{c0 m k p n bl bd bm bc tb:Nat}{arm:Int}{ks ks0:List Kt}{fr:List Nat}{lv fv:Value}
theorem Med.find(i:InvS ks fr)(md:Med T M ks fr):(kcs T M 8).Perm (ks.map Kt.core)∧bads T M 8=[]∧∀ p∈mrk T M 8,∃ k∈ks,k.p=p:=by
 have hold:=fun (k:Kt) (hk:k∈ks)=>Pe (p:=k.p) (md.rs k hk).1 (md.rs k hk).2 (md.hd k hk) (md.dt k hk)
 have hemp:=fun (p:Nat) (hp:p∈fr)=>XT (T:=T) md.len (show 3 * p<24 by have:=md.pl p hp;omega) (md.bl p hp)
 have hall:∀ p∈List.range 8,(∃ k∈ks,k.p=p)∨p∈fr:=fun p hp=>by
  rw[oW]at hp
  rcases List.mem_append.1 (i.plc.mem_iff.2 hp)with h|h
  ·obtain⟨k,hk,hkp⟩:=List.mem_map.1 h
   exact .inl ⟨k,hk,hkp⟩
  ·exact .inr h
 refine⟨?_,List.filter_eq_nil_iff.2 fun p hp hb=>?_,fun p hp=>?_⟩
 ·have h1:(kcs T M 8).Perm ((ks.map Kt.plc++fr).filterMap fun p=>(lkN T M p).map (U5 M p)):=by
   unfold kcs
   rw[oW]
   exact(i.plc.symm).filterMap _
  rw[List.filterMap_append,Xa (fun k hk=>by
   obtain⟨_,h2,h3,_⟩:=hold k hk
   rw[h2]
   exact congrArg some h3),TA (fun p hp=>by rw[(hemp p hp).1];rfl),List.append_nil]at h1
  exact h1
 ·rcases hall p hp with ⟨k,hk,rfl⟩|h
  ·rw[(hold k hk).2.2.2]at hb;cases hb
  ·rw[(hemp p h).2]at hb;cases hb
 ·obtain⟨h1,h2⟩:=List.mem_filter.1 hp
  rcases hall p h1 with h|h
  ·exact h
  ·rw[(hemp p h).1,(hemp p h).2]at h2
   cases h2
theorem Med.cnt(i:InvS ks fr)(md:Med T M ks fr)(hc:Com ks)(h0:ks0.map Kt.core=kcs T M 8):Cnt ks0:=by
 have pm:(ks0.map Kt.core).Perm (ks.map Kt.core):=by rw[h0];exact(md.find i).1
 refine⟨fun x hx y hy hh=>?_,by rw[Ks];exact(pm.map kM).nodup_iff.2 (by rw[← Ks];exact i.key)⟩
 obtain⟨x',hx',ex⟩:=Ea pm hx
 obtain⟨y',hy',ey⟩:=Ea pm hy
 obtain⟨x1,x2,x3,x4,x5,x6⟩:=Fa ex
 obtain⟨y1,y2,y3,y4,y5,y6⟩:=Fa ey
 obtain⟨g1,g2,g3,g4,g5⟩:=hh
 have hle:=hc x' hx' y' hy' (by rw[y1,x1,g1]) (by rw[y2,x2,g2]) (by rw[y4,g4])
 have hcc:y'.c=x'.c:=by
  rw[y3,x3]at hle ⊢
  rcases g5 with g5|g5
  ·omega
  ·exact g5.1
 have:=De i.key hy' hx' (by
  show(y'.a,y'.b,y'.c)=(x'.a,x'.b,x'.c)
  rw[hcc,y1,x1,g1,y2,x2,g2])
 rw[this]at y6
 exact g3 (y6.symm.trans x6)
theorem QU(W:h.Wf)(d:Dk h bd bm bc 24 M c0 [] arm false)(Rt:h.Row tb 0 (T.map wv))(hT:TblOk T)(htb:tb≠bd∧tb≠bm∧tb≠bc)(i:InvS ks fr)(md:Med T M ks fr)(hc:Com ks)(ha:Bk arm (k+60)):
  ∃ h' bs c1 arm' lv fv ks3,call AD (m+8) 16 [pt bd,pt tb,.int .i64 100] h=.ok (.tuple ⟨[pt bs,.int .i64 0]⟩) h'∧Fx (fun b=>b=bd∨b=bm∨b=bc) h h'∧
   Sl h' ⟨bs,bd,bm,bc,tb,24⟩ T M c1 arm' ks3 (freeL ks3 8) lv fv 0 false∧(ks3.map Kt.core).Perm (ks.map Kt.core)∧h.next≤bs∧Bk arm' k:=by
 obtain⟨z1,z2,z3⟩:=md.find i
 have hlen:(kcs T M (24 / 3)).length≤12:=by
  show(kcs T M 8).length≤12
  have:=i.len
  rw[z1.length_eq,List.length_map];omega
 obtain⟨h',bs,c1,arm',lv,fv,ks3,ks0,k1,f1,s1,hks0,hks3,hbs,a1⟩:=Yb (m:=m) (k:=k) W d Rt hT (by omega) htb (fun ks0 h0=>md.cnt i hc h0) hlen ha
 have hks0:ks0.map Kt.core=kcs T M 8:=hks0
 have pm:(ks3.map Kt.core).Perm (ks.map Kt.core):=by
  rw[hks3]
  exact((IR ks0).map Kt.core).trans (by rw[hks0];exact z1)
 have ho:outL ks3 (mrk T M 8) 8=[]:=List.filter_eq_nil_iff.2 fun p hp hb=>by
  rw[Bool.and_eq_true]at hb
  obtain⟨k,hk,hkp⟩:=z3 p (of_decide_eq_true hb.2)
  obtain⟨y,hy,ey⟩:=Ea pm.symm hk
  have hyp:=(Fa ey).2.2.2.2.2
  have:(ks3.any fun x=>decide (x.p=p))=true:=List.any_eq_true.2 ⟨y,hy,decide_eq_true (hyp.trans hkp)⟩
  rw[this]at hb
  cases hb.1
 have s1:Sl h' ⟨bs,bd,bm,bc,tb,24⟩ T (GC M (outL ks3 (mrk T M 8) 8)) c1 arm' ks3 (freeL ks3 8) lv fv (bads T M 8).length false:=s1
 rw[ho,z2]at s1
 exact⟨h',bs,c1,arm',lv,fv,ks3,k1,f1,s1,pm,hbs,a1⟩
theorem Za(W:h.Wf)(s:Sl h A T M c0 arm ks fr lv fv 0 false)(hA:A.n=24)(i:InvS ks fr)(md:Med T M ks fr)(hc:Com ks)(ha:Bk arm (k+60)):
  ∃ h' bs c1 arm' lv3 fv3 ks3,call AD (m+9) 23 [pt A.bd,pt A.tb] h=.ok (pt bs) h'∧Fx A.K h h'∧Sl h' A T M c1 arm' ks fr lv fv 0 false∧
   Sl h' ⟨bs,A.bd,A.bm,A.bc,A.tb,24⟩ T M c1 arm' ks3 (freeL ks3 8) lv3 fv3 0 false∧(ks3.map Kt.core).Perm (ks.map Kt.core)∧Bk arm' k:=by
 obtain⟨b0,bd,bm,bc,tb,n⟩:=A
 have hA:n=24:=hA
 subst hA
 have nt:=s.ne.2.2.2.1
 obtain⟨h',bs,c1,arm',lv3,fv3,ks3,k1,f1,s1,pm,_,a1⟩:=QU (m:=m) (k:=k) W s.dk s.tab s.tok ⟨fun h=>nt (.inr (.inl h)),fun h=>nt (.inr (.inr (.inl h))),fun h=>nt (.inr (.inr (.inr h)))⟩ i md hc ha
 refine⟨h',bs,c1,arm',lv3,fv3,ks3,?_,f1,(s.sc.fx W f1).sl s1.dk,s1,pm,a1⟩
 have k1:call AD (m+8) 16 [pt bd,pt tb,.int .i64 100] h=.ok (.tuple ⟨[pt bs,.int .i64 0]⟩) h':=k1
 rw[iG rfl]
 unfold d23
 simp only[iN,Nat.reduceAdd,sT,Nat.reduceLT,Nat.reduceEqDiff,reduceIte,cA0,k1,BA,BL,BM,lV0]
def H33(one two:List Nat)(ks:List Kt):Prop:=(∃ k∈ks,k.a=3∧k.b=3∧k.c=5∧k.s=2∧k.l=one)∧(∃ k∈ks,k.a=3∧k.b=3∧k.c=8∧k.s=1∧k.l=two)∧∀ k∈ks,k.a=3→k.b=3→k.c=5∨k.c=8
theorem H33.core{one two:List Nat}(H:H33 one two ks)(pm:(ks0.map Kt.core).Perm (ks.map Kt.core)):H33 one two ks0:=by
 obtain⟨⟨x,hx,x1,x2,x3,x4,x5⟩,⟨y,hy,y1,y2,y3,y4,y5⟩,hz⟩:=H
 refine⟨?_,?_,fun k hk h1 h2=>?_⟩
 ·obtain⟨w,hw,ew⟩:=Ea pm.symm hx
  obtain⟨w1,w2,w3,w4,w5,_⟩:=Fa ew
  exact⟨w,hw,w1.trans x1,w2.trans x2,w3.trans x3,w4.trans x4,w5.trans x5⟩
 ·obtain⟨w,hw,ew⟩:=Ea pm.symm hy
  obtain⟨w1,w2,w3,w4,w5,_⟩:=Fa ew
  exact⟨w,hw,w1.trans y1,w2.trans y2,w3.trans y3,w4.trans y4,w5.trans y5⟩
 ·obtain⟨w,hw,ew⟩:=Ea pm hk
  obtain⟨w1,w2,w3,_⟩:=Fa ew
  rw[← w3]
  exact hz w hw (w1.trans h1) (w2.trans h2)
theorem H33.find{one two:List Nat}(H:H33 one two ks)(hn:(ks.map Kt.key).Nodup):∃ k5 k8,(k5∈ks∧k5.a=3∧k5.b=3∧k5.c=5∧k5.s=2∧k5.l=one)∧(k8∈ks∧k8.a=3∧k8.b=3∧k8.c=8∧k8.s=1∧k8.l=two)∧
  ks.find? (FO 3 3)=some k5∧ks.find? (Bg 3 3 5)=some k5∧ks.find? (Bg 3 3 8)=some k8:=by
 obtain⟨⟨x,hx,x1,x2,x3,x4,x5⟩,⟨y,hy,y1,y2,y3,y4,y5⟩,hz⟩:=H
 have kx:x.key=(3,3,5):=by show(x.a,x.b,x.c)=_;rw[x1,x2,x3]
 have ky:y.key=(3,3,8):=by show(y.a,y.b,y.c)=_;rw[y1,y2,y3]
 refine⟨x,y,⟨hx,x1,x2,x3,x4,x5⟩,⟨hy,y1,y2,y3,y4,y5⟩,?_,Im hn hx kx,Im hn hy ky⟩
 cases hf:ks.find? (FO 3 3)with
 |none=>
  refine absurd ?_ (List.find?_eq_none.1 hf x hx)
  unfold FO
  rw[decide_eq_true x1,decide_eq_true x2,decide_eq_true x4];rfl
 |some w=>
  have hw:=List.find?_some hf
  unfold FO at hw
  rw[Bool.and_eq_true,Bool.and_eq_true]at hw
  have w1:=of_decide_eq_true hw.1.1
  have w2:=of_decide_eq_true hw.1.2
  have w3:=of_decide_eq_true hw.2
  have hwm:=List.mem_of_find?_eq_some hf
  rcases hz w hwm w1 w2 with h|h
  ·rw[De hn hwm hx ((show w.key=(3,3,5)by show(w.a,w.b,w.c)=_;rw[w1,w2,h]).trans kx.symm)]
  ·have:=De hn hwm hy ((show w.key=(3,3,8)by show(w.a,w.b,w.c)=_;rw[w1,w2,h]).trans ky.symm)
   rw[this]at w3
   omega
theorem H33.turn{one two:List Nat}{ks':List Kt}{a b:Int}(H:H33 one two ks)(hne:¬ (a=3∧b=3))(hm:∀ k,¬ (k.a=a∧k.b=b)→(k∈ks'↔k∈ks)):H33 one two ks':=by
 have go:∀ k:Kt,k.a=3→k.b=3→(k∈ks'↔k∈ks):=fun k h1 h2=>hm k fun h=>hne ⟨h.1.symm.trans h1,h.2.symm.trans h2⟩
 obtain⟨⟨x,hx,x1,x2,x3⟩,⟨y,hy,y1,y2,y3⟩,hz⟩:=H
 exact⟨⟨x,(go x x1 x2).2 hx,x1,x2,x3⟩,⟨y,(go y y1 y2).2 hy,y1,y2,y3⟩,fun k hk h1 h2=>hz k ((go k h1 h2).1 hk) h1 h2⟩
theorem Med.tells(md:Med T M ks fr){x:Kt}(hx:x∈ks):IV T M x:=by
 obtain⟨h1,_,h3,_⟩:=Pe (p:=x.p) (md.rs x hx).1 (md.rs x hx).2 (md.hd x hx) (md.dt x hx)
 have h4:U5 M x.p _=x.core:=h3
 exact⟨_,h1,congrArg Kc.a h4,congrArg Kc.b h4,congrArg Kc.c h4,congrArg Kc.s h4,congrArg Kc.l h4⟩
end
end
noncomputable section
open Go
set_option maxRecDepth 100000
theorem fF:apQ=BG (Ac 3 apB) apJ:=rfl
theorem WC:apR=Zd:=rfl
theorem fH:apZ=Ac 2 (Ax apR):=rfl
theorem fA:apM=fC:=rfl
theorem Nv:apK=UU:=rfl
theorem fD:apP=BG (Ac 1 apK) apI:=rfl
theorem RJ:apL=WA:=rfl
theorem fG:apS=BG (Ac 0 (Ax apL)) apE:=rfl
theorem XA:d4=d4h:=rfl
theorem dw:BJ HM.zero 2=[.pointer none,.pointer none]:=by kernel_rfl
section
variable {F:CallF}{e:Env}{h h':Hp}{A A':At}{T M one two:List Nat}{c0 c0' bad m k p n i:Nat}{arm arm':Int}{ks ks3:List Kt}{fr fr3:List Nat}{lv fv lv3 fv3 w u1 u2 sv:Value}{a b c z:Int}
theorem Vs(W:h.Wf){g1 g2:O}{r q:Nat}(h1:g1 e=pt r)(h2:g2 e=pt q):Ah 2 (BJ HM.zero 2) [(0,1,g1),(1,1,g2)] F e h=.ok (.slice (some ⟨h.next,0,none⟩) 2 2) (h.pushRow 0 [pt r,pt q]):=by
 have c1:∀ r:Nat,cellsOf (pt r)=[pt r]:=fun r=>rfl
 rw[Ca,dw,A6 (hk:=by rw[h1];rfl),h1,A6 (hk:=by rw[h2];rfl),h2]
 simp only[c1,List.length_singleton,List.length_cons,List.length_nil,over,List.take,List.drop,List.append_eq,List.nil_append,List.cons_append,Nat.reduceAdd,Nat.reduceLeDiff,if_true,CL,reduceIte]
 rw[DA W];rfl
theorem YY{x y z s:Int}{s':Nat}(h:BO (cellsOf (B7 x y z s' w))=true):oneCell w=true:=by
 have h:(bif oneCell w then true else false)=true:=h
 cases hq:oneCell w
 ·rw[hq]at h;cases h
 ·rfl
theorem Xg{ks:List Kt}{x:Kt}(hf:ks.find? (Bg a b c)=some x):∃ j:Nat,ks[j]? =some x∧E6 (Bg a b c) 0 ks=(j:Int):=by
 rcases C9 (Bg a b c) ks 0 with ⟨e1,_⟩|⟨j,k,e1,e2,e3⟩
 ·rw[e1]at hf;cases hf
 ·rw[e1]at hf
  cases hf
  exact⟨j,e2,by rw[e3,Nat.zero_add]⟩
def bS(j:Nat):Prop:=j=0∨j=1∨j=2∨j=7∨j=8∨j=9∨j=11∨j=87∨j=88∨j=89
theorem Wn{r:Nat}(W:h.Wf)(s:Sl h A T M c0 arm ks fr lv fv bad false)(hn:(ks.map Kt.key).Nodup)(H:H33 one two ks)(ht:∀ x∈ks,IV T M x)(hp:∀ x∈ks,3 * x.p+3≤A.n)(U1:h.Vals u1 (one.map bv))(U2:h.Vals u2 (two.map bv))(b1:∀ x∈one,x<256)(b2:∀ x∈two,x<256)
  (hix:idxSR 1 sv (.int .i64 (i:Int)) h=.ok (.pointer (some ⟨r,i,none⟩)) h)(hld:load1 ⟨r,i,none⟩ h=.ok (pt A.bs) h)(s0:AB 0 e=u1)(s1:AB 1 e=u2)(s87:AB 87 e=sv)(s89:AB 89 e=.int .i64 (i:Int)):
  ∃ e' h',apB (call AD (m+10)) e h=.norm e' h'∧h.Ext h'∧∀ j,bS j→AB j e'=AB j e:=by
 have hkl:=s.le.1
 obtain⟨k5,k8,⟨m5,a5,b5,c5,s5,l5⟩,⟨m8,a8,b8,c8,s8,l8⟩,f1,f2,f3⟩:=H.find hn
 obtain⟨h1,v1,k1,x1,_,o1,g1⟩:=bo (m:=m+5) W s.row s.ls.ks (fun y hy=>⟨(s.all y hy).1,(s.all y hy).2.1⟩) hkl 3 3
 rw[f1]at k1
 obtain⟨w1,rfl,V1⟩:=g1 k5 f1
 have ow1:=YY (s:=0) o1
 rw[a5,b5,c5,s5]at k1
 rw[l5]at V1
 have al1:=fun (F:CallF) (e:Env)=>Bd (F:=F) (e:=e) x1.wf (n:=5) (t:=CV)
 have Ra:=Hp.Row.alloc x1.wf EX (show(A0 0 0 0 0 nilS).length=5 from rfl)
 have y2:h1.Ext (h1.push (.cells CV 5 0)):=(Hp.Ext.refl x1.wf).push _
 generalize h1.push (.cells CV 5 0)=h2 at al1 Ra y2
 obtain⟨st1,_,y3,R3,_⟩:=IM x1.wf y2 (Nat.le_refl _) Ra rfl (a:=3) (b:=3) (c:=5) (s:=2) ow1
 generalize h2.wr h1.next 0 (A0 3 3 5 2 w1)=h3 at st1 y3 R3
 have x3:=x1.trans y3
 have s3:=s.ext W x3
 obtain⟨h4,v2,k2,y4,_,o2,g2⟩:=bH (m:=m+5) x3.wf s3.row s3.ls.ks (fun y hy=>⟨(s3.all y hy).1,(s3.all y hy).2.1⟩) hkl 3 3 8
 rw[f3]at k2
 obtain⟨w2,rfl,V2⟩:=g2 k8 f3
 have ow2:=YY (s:=0) o2
 rw[a8,b8,c8,s8]at k2
 rw[l8]at V2
 have x4:=x3.trans y4
 have al2:=fun (F:CallF) (e:Env)=>Bd (F:=F) (e:=e) x4.wf (n:=5) (t:=CV)
 have Rb:=Hp.Row.alloc x4.wf EX (show(A0 0 0 0 0 nilS).length=5 from rfl)
 have y5:h4.Ext (h4.push (.cells CV 5 0)):=(Hp.Ext.refl x4.wf).push _
 generalize h4.push (.cells CV 5 0)=h5 at al2 Rb y5
 obtain⟨st2,_,y6,R6,_⟩:=IM x4.wf y5 (Nat.le_refl _) Rb rfl (a:=3) (b:=3) (c:=8) (s:=1) ow2
 generalize h5.wr h4.next 0 (A0 3 3 8 1 w2)=h6 at st2 y6 R6
 have x6:=x4.trans y6
 have s6:=s.ext W x6
 obtain⟨_,_,l2,_,l4,_⟩:=B4 ((R3.ext x3.wf y4).ext x4.wf y6)
 obtain⟨_,_,_,q3,q4,_⟩:=B4 R6
 have k3:=eU (n:=m+9) (((V1.ext x1.wf y3).ext x3.wf y4).ext x4.wf y6) (U1.ext W x6) b1 b1
 rw[decide_eq_true rfl]at k3
 have k4:=eU (n:=m+9) (V2.ext x4.wf y6) (U2.ext W x6) b2 b2
 rw[decide_eq_true rfl]at k4
 obtain⟨j5,hj5,hi5⟩:=Xg f2
 obtain⟨j8,hj8,hi8⟩:=Xg f3
 obtain⟨h7,r5,k5',y7,t5⟩:=Q1 (m:=m+4) x6.wf s6 hj5 hi5 ⟨a5,b5,c5⟩ (hp k5 m5)
 have hr5:=t5.2 (ht k5 m5)
 subst hr5
 have s7:=s6.ext x6.wf y7
 obtain⟨h8,r8,k8',y8,t8⟩:=Q1 (m:=m+4) y7.wf s7 hj8 hi8 ⟨a8,b8,c8⟩ (hp k8 m8)
 have hr8:=t8.2 (ht k8 m8)
 subst hr8
 have n5:iNe 5 5=false:=Cm rfl
 have n1:iNe ((1:Nat):Int) 1=false:=Cm rfl
 have k1:call AD (m+10) 17 [pt A.bs,.int .i64 3,.int .i64 3] h=.ok (.tuple ⟨[B7 3 3 5 2 w1,.bool true]⟩) h1:=k1
 have k2:call AD (m+10) 18 [pt A.bs,.int .i64 3,.int .i64 3,.int .i64 8] h3=.ok (.tuple ⟨[B7 3 3 8 1 w2,.bool true]⟩) h4:=k2
 have k3:call AD (m+10) 24 [w1,u1] h6=.ok (.bool true) h6:=k3
 have k4:call AD (m+10) 24 [w2,u2] h6=.ok (.bool true) h6:=k4
 have k5':call AD (m+10) 15 [pt A.bs,.int .i64 3,.int .i64 3,.int .i64 5] h6=.ok (.bool true) h7:=k5'
 have k8':call AD (m+10) 15 [pt A.bs,.int .i64 3,.int .i64 3,.int .i64 8] h7=.ok (.bool true) h8:=k8'
 have hrun:∃ e',apB (call AD (m+10)) e h=.norm e' h8∧∀ j,bS j→AB j e'=AB j e:=by
  unfold apB
  simp only[sT,Nat.reduceLT,Nat.reduceEqDiff,reduceIte,gD,Az,s87,s89,hix,AM,AP,hld,cA0,k1,BA,BL,BM,al1,AX,st1,k2,al2,st2,Bt,Br,Bool.not_true,AJ,AN,Nat.zero_add,l2,AL,AK,n5,l4,s0,k3,q3,n1,q4,s1,k4,k5',k8']
  refine⟨_,rfl,fun j hj=>?_⟩
  rcases hj with rfl|rfl|rfl|rfl|rfl|rfl|rfl|rfl|rfl|rfl<;>simp only[AG,Nat.reduceLT,Nat.reduceEqDiff,reduceIte]
 obtain⟨e',r1,r2⟩:=hrun
 exact⟨e',h8,r1,(x6.trans y7).trans y8,r2⟩
def kp7(j:Nat):Prop:=j=0∨j=1∨j=2∨j=7∨j=8∨j=9∨j=11
theorem kN{j:Nat}(h:kp7 j):bS j:=by
 rcases h with h|h|h|h|h|h|h
 ·exact .inl h
 ·exact .inr (.inl h)
 ·exact .inr (.inr (.inl h))
 ·exact .inr (.inr (.inr (.inl h)))
 ·exact .inr (.inr (.inr (.inr (.inl h))))
 ·exact .inr (.inr (.inr (.inr (.inr (.inl h)))))
 ·exact .inr (.inr (.inr (.inr (.inr (.inr (.inl h))))))
theorem lT{r:Nat}(W:h.Wf)(s:Sl h A T M c0 arm ks fr lv fv bad false)(s':Sl h A' T M c0' arm' ks3 fr3 lv3 fv3 0 false)(hn:(ks.map Kt.key).Nodup)(hn':(ks3.map Kt.key).Nodup)(H:H33 one two ks)(H':H33 one two ks3)(ht:∀ x∈ks,IV T M x)(ht':∀ x∈ks3,IV T M x)(hp:∀ x∈ks,3 * x.p+3≤A.n)(hp':∀ x∈ks3,3 * x.p+3≤A'.n)
  (U1:h.Vals u1 (one.map bv))(U2:h.Vals u2 (two.map bv))(b1:∀ x∈one,x<256)(b2:∀ x∈two,x<256)(R:h.Row r 0 [pt A.bs,pt A'.bs])(s0:AB 0 e=u1)(s1:AB 1 e=u2)(s87:AB 87 e=.slice (some ⟨r,0,none⟩) 2 2)(s88:AB 88 e=.int .i64 ((2:Nat):Int))(s89:AB 89 e=.int .i64 ((0:Nat):Int)):
  ∃ e' h',apZ (call AD (m+10)) e h=.norm e' h'∧h.Ext h'∧∀ j,kp7 j→AB j e'=AB j e:=by
 have run:∃ e' h',Ax apR (call AD (m+10)) e h=.exit 2 e' h'∧h.Ext h'∧∀ j,kp7 j→AB j e'=AB j e:=by
  refine BZ (I:=fun i e' h'=>h.Ext h'∧(∀ j,kp7 j→AB j e'=AB j e)∧AB 87 e'=.slice (some ⟨r,0,none⟩) 2 2∧AB 88 e'=.int .i64 ((2:Nat):Int)∧AB 89 e'=.int .i64 (i:Int))
   (Q:=fun x=>∃ e' h',x=.exit 2 e' h'∧h.Ext h'∧∀ j,kp7 j→AB j e'=AB j e) 2 (by omega) (fun i e' h' ⟨x',hk,t87,t88,t89⟩=>?_) ⟨.refl W,fun _ _=>rfl,s87,s88,s89⟩
  have W':=x'.wf
  have t0:=(hk 0 (.inl rfl)).trans s0
  have t1:=(hk 1 (.inr (.inl rfl))).trans s1
  by_cases hi:i<2
  ·left
   have c1:iLt (i:Int) ((2:Nat):Int)=true:=E8 hi
   obtain⟨e1,p1,u0,u1',u87,u88,u89,hk1⟩:∃ e1,apR (call AD (m+10)) e' h'=apQ (call AD (m+10)) e1 h'∧AB 0 e1=u1∧AB 1 e1=u2∧AB 87 e1=.slice (some ⟨r,0,none⟩) 2 2∧AB 88 e1=.int .i64 ((2:Nat):Int)∧AB 89 e1=.int .i64 (i:Int)∧∀ j,kp7 j→AB j e1=AB j e':=by
    rw[WC]
    unfold Zd
    simp only[sT,Nat.reduceLT,Nat.reduceEqDiff,reduceIte,AL,AK,t89,t88,c1]
    refine⟨_,rfl,by simp[AG,t0],by simp[AG,t1],by simp[AG,t87],by simp[AG,t88],by simp[AG,t89],fun j hj=>?_⟩
    rcases hj with rfl|rfl|rfl|rfl|rfl|rfl|rfl<;>simp only[AG,Nat.reduceLT,Nat.reduceEqDiff,reduceIte]
   have hix:idxSR 1 (.slice (some ⟨r,0,none⟩) 2 2) (.int .i64 (i:Int)) h'=.ok (.pointer (some ⟨r,i,none⟩)) h':=Lu hi
   have ck:∃ e2 h2,apB (call AD (m+10)) e1 h'=.norm e2 h2∧h'.Ext h2∧∀ j,bS j→AB j e2=AB j e1:=by
    rcases (show i=0∨i=1 by omega)with rfl|rfl
    ·exact Wn W' (s.ext W x') hn H ht hp (U1.ext W x') (U2.ext W x') b1 b2 hix ((R.ext W x').load1 (off:=0) (by show 0<2;omega)) u0 u1' u87 u89
    ·exact Wn W' (s'.ext W x') hn' H' ht' hp' (U1.ext W x') (U2.ext W x') b1 b2 hix ((R.ext W x').load1 (off:=1) (by show 1<2;omega)) u0 u1' u87 u89
   obtain⟨e2,h2,r1,y2,k2⟩:=ck
   have a3:=CQ (i:=i) (h:=h2) (by omega)
   have t89:=(k2 89 (.inr (.inr (.inr (.inr (.inr (.inr (.inr (.inr (.inr rfl)))))))))).trans u89
   have t88:=(k2 88 (.inr (.inr (.inr (.inr (.inr (.inr (.inr (.inr (.inl rfl)))))))))).trans u88
   have t87:=(k2 87 (.inr (.inr (.inr (.inr (.inr (.inr (.inr (.inl rfl))))))))).trans u87
   obtain⟨e3,p3,v87,v88,v89,k3⟩:∃ e3,apJ (call AD (m+10)) e2 h2=.norm e3 h2∧AB 87 e3=.slice (some ⟨r,0,none⟩) 2 2∧AB 88 e3=.int .i64 ((2:Nat):Int)∧AB 89 e3=.int .i64 ((i+1:Nat):Int)∧∀ j,kp7 j→AB j e3=AB j e2:=by
    unfold apJ
    simp only[sT,Nat.reduceLT,Nat.reduceEqDiff,reduceIte,BK,t89,a3]
    refine⟨_,rfl,by simp[AG,t87],by simp[AG,t88],by simp[AG],fun j hj=>?_⟩
    rcases hj with rfl|rfl|rfl|rfl|rfl|rfl|rfl<;>simp only[AG,Nat.reduceLT,Nat.reduceEqDiff,reduceIte]
   refine⟨hi,e3,h2,?_,x'.trans y2,fun j hj=>((k3 j hj).trans ((k2 j (kN hj)).trans (hk1 j hj))).trans (hk j hj),v87,v88,v89⟩
   rw[p1,fF]
   simp only[BH,Aw,r1,DE,BB,p3]
  ·right
   have c1:iLt (i:Int) ((2:Nat):Int)=false:=DI (by omega)
   obtain⟨e2,r1,k2⟩:∃ e2,apR (call AD (m+10)) e' h'=.exit 2 e2 h'∧∀ j,kp7 j→AB j e2=AB j e':=by
    rw[WC]
    unfold Zd
    simp only[sT,Nat.reduceLT,Nat.reduceEqDiff,reduceIte,AL,AK,t89,t88,c1]
    refine⟨_,rfl,fun j hj=>?_⟩
    rcases hj with rfl|rfl|rfl|rfl|rfl|rfl|rfl<;>simp only[AG,Nat.reduceLT,Nat.reduceEqDiff,reduceIte]
   rw[r1]
   exact⟨rfl,e2,h',rfl,x',fun j hj=>(k2 j hj).trans (hk j hj)⟩
 obtain⟨e',h',r1,x',hk⟩:=run
 refine⟨e',h',?_,x',hk⟩
 rw[fH]
 simp only[Aw,r1,A1]
end
end
noncomputable section
open Go
set_option maxRecDepth 100000
def Ga(h:Hp)(A:At)(T one two:List Nat)(k:Nat):Prop:=∃ M c0 arm ks fr lv fv,Sl h A T M c0 arm ks fr lv fv 0 false∧InvS ks fr∧Med T M ks fr∧Com ks∧H33 one two ks∧Bk arm k
theorem IV.core{T M:List Nat}{x y:Kt}(t:IV T M x)(h:x.core=y.core):IV T M y:=by
 obtain⟨h1,h2,h3,h4,h5,h6⟩:=Fa h
 obtain⟨ns,t1,t2,t3,t4,t5,t6⟩:=t
 rw[h6]at t1 t6
 exact⟨ns,t1,t2.trans h1,t3.trans h2,t4.trans h3,t5.trans h4,t6.trans h5⟩
theorem d8:Bv .mt 0 (opL 0 0 0 0 0 nilS nilS)=some ZY:=by kernel_rfl
section
variable {F:CallF}{e:Env}{h h' h0 g:Hp}{A:At}{T M one two:List Nat}{c0 m k p n bl i:Nat}{arm:Int}{ks ks3:List Kt}{fr:List Nat}{v lv fv lv3 fv3 w u u1 u2:Value}{kd a b c no z:Int}{l:List Nat}
theorem qv(W0:h.Wf)(x:h.Ext g){r:Nat}(hr:h.next≤r){L:List Value}(R:g.Row r 0 L)(hL:L.length=7)(hu:oneCell u=true)(hw:oneCell w=true):
  storeR 7 (pt r) (opV kd a b c no u w) g=.ok noRes (g.wr r 0 (opL kd a b c no u w))∧h.Ext (g.wr r 0 (opL kd a b c no u w))∧(g.wr r 0 (opL kd a b c no u w)).Row r 0 (opL kd a b c no u w):=by
 have h256:256≤r:=by have:=W0.big;omega
 have ho:0+(opL kd a b c no u w).length≤L.length:=by rw[hL];exact Nat.le_refl _
 have h1:BO (opL kd a b c no u w)=true:=by
  show(bif oneCell u then(bif oneCell w then true else false)else false)=true
  rw[hu,hw];rfl
 have st:=R.storeR (n:=7) (off:=0) x.wf h256 (v:=opV kd a b c no u w) rfl ho h1
 have wr:=R.wr_self x.wf ho
 rw[HE (show L.length=(opL kd a b c no u w).length from hL)]at wr
 exact⟨st,R.wr_ext x hr ho,wr⟩
theorem Zc{r:Nat}(W0:h0.Wf)(x0:h0.Ext h)(hD0:∀ b,A.D b→h0.next≤b)(hA:A.n=24)(G:Ga h A T one two (k+100))(U1:h0.Vals u1 (one.map bv))(U2:h0.Vals u2 (two.map bv))(b1:∀ x∈one,x<256)(b2:∀ x∈two,x<256)(V:h0.VE u (l.map bv))(hlb:∀ x∈l,x<256)(hl:l.length≤150)(hne:¬ (a=3∧b=3))(R12:h.Row r 0 (opL kd a b c no u w))
  (s0:AB 0 e=u1)(s1:AB 1 e=u2)(s7:AB 7 e=pt A.tb)(s8:AB 8 e=pt A.bd)(s9:AB 9 e=pt A.bs)(s12:AB 12 e=pt r):
  ∃ e' h',apM (call AD (m+10)) e h=.norm e' h'∧h0.Ext h'∧(∀ j,kp7 j→AB j e'=AB j e)∧Ga h' A T one two k:=by
 obtain⟨M,c0,arm,ks,fr,lv,fv,s,iv,md,hc,H,ha⟩:=G
 have W:=x0.wf
 have hln:=iv.len
 have ld:loadN 7 ⟨r,0,none⟩ h=.ok (opV kd a b c no u w) h:=R12.loadN (off:=0) (n:=7) (by show 0+7≤7;omega)
 have step:∃ z h2 M2 c2 arm2 ks2 fr2 lv2 fv2,call AD (m+10) 22 [pt A.bs,opV kd a b c no u w] h=.ok (.int .i64 z) h2∧Fx A.D h h2∧Sl h2 A T M2 c2 arm2 ks2 fr2 lv2 fv2 0 false∧InvS ks2 fr2∧Med T M2 ks2 fr2∧Com ks2∧H33 one two ks2∧Bk arm2 (k+60):=by
  rcases ai (m:=m) (k:=k+60) W s (V.ext W0 x0) hlb (by omega) (by omega) (by omega) (fun x hx=>by rw[hA];exact iv.lt x hx) iv.nd (ha.le (by omega)) kd a b c no w with ⟨z,h2,c2,arm2,lv2,fv2,hq,k3,f2,s2,a2⟩|⟨ks',fr',M',h2,c2,arm2,lv2,fv2,ht,k3,f2,s2,a2⟩
  ·exact⟨z,h2,M,c2,arm2,ks,fr,lv2,fv2,k3,f2,s2,iv,md,hc,H,a2⟩
  ·obtain⟨iv',_⟩:=JL iv ht
   obtain⟨md',hc',hm⟩:=JM iv md hc ht
   exact⟨0,h2,M',c2,arm2,ks',fr',lv2,fv2,k3,f2,s2,iv',md',hc',H.turn hne hm,a2⟩
 obtain⟨z,h2,M2,c2,arm2,ks2,fr2,lv2,fv2,k2,f2,s2,iv2,md2,hc2,H2,a2⟩:=step
 obtain⟨h3,bs,c3,arm3,lv3,fv3,ks3,k3,f3,s3,s3',pm,a3⟩:=Za (m:=m+1) (k:=k) f2.wf s2 hA iv2 md2 hc2 a2
 have k3:call AD (m+10) 23 [pt A.bd,pt A.tb] h2=.ok (pt bs) h3:=k3
 have x2:=Fx.xtF x0 f2 hD0
 have x3:=Fx.xtF x2 (f3.mono fun b hb=>.inr hb) hD0
 have sl:=fun (F:CallF) (e:Env) (h1:AB 9 e=pt A.bs) (h2:AB 86 e=pt bs)=>Vs (F:=F) f3.wf h1 h2
 have y4:=(Hp.Ext.refl f3.wf).pushRow 0 [pt A.bs,pt bs]
 have R4:=Hp.Row.new f3.wf 0 [pt A.bs,pt bs]
 generalize h3.pushRow 0 [pt A.bs,pt bs]=h4 at sl y4 R4
 have x4:=x3.trans y4
 have s4:=s3.ext f3.wf y4
 have kn3:(ks3.map Kt.key).Nodup:=by rw[Ks];exact(pm.map kM).nodup_iff.2 (by rw[← Ks];exact iv2.key)
 have tl3:∀ x∈ks3,IV T M2 x:=fun x hx=>by
  obtain⟨y,hy,ey⟩:=Ea pm hx
  exact(md2.tells hy).core ey
 have pl3:∀ x∈ks3,3 * x.p+3≤24:=fun x hx=>by
  obtain⟨y,hy,ey⟩:=Ea pm hx
  rw[← (Fa ey).2.2.2.2.2]
  exact iv2.lt y hy
 obtain⟨e1,p1,t0,t1,t87,t88,t89,k1⟩:∃ e1,apM (call AD (m+10)) e h=apZ (call AD (m+10)) e1 h4∧AB 0 e1=u1∧AB 1 e1=u2∧AB 87 e1=.slice (some ⟨h3.next,0,none⟩) 2 2∧AB 88 e1=.int .i64 ((2:Nat):Int)∧AB 89 e1=.int .i64 ((0:Nat):Int)∧∀ j,kp7 j→AB j e1=AB j e:=by
  rw[fA]
  unfold fC
  simp only[sT,Nat.reduceLT,Nat.reduceEqDiff,reduceIte,Aq,Ao,s12,ld,cA0,s9,k2,s8,s7,k3,sl,Ae,Dt]
  refine⟨_,rfl,by simp[AG,s0],by simp[AG,s1],by simp[AG],by simp[AG],by simp[AG],fun j hj=>?_⟩
  rcases hj with rfl|rfl|rfl|rfl|rfl|rfl|rfl<;>simp only[AG,Nat.reduceLT,Nat.reduceEqDiff,reduceIte]
 obtain⟨e2,h5,r1,y5,k5⟩:=lT (m:=m) x4.wf s4 (s3'.ext f3.wf y4) iv2.key kn3 H2 (H2.core pm) (fun x hx=>md2.tells hx) tl3 (fun x hx=>by rw[hA];exact iv2.lt x hx) pl3 (U1.ext W0 x4) (U2.ext W0 x4) b1 b2 R4 t0 t1 t87 t88 t89
 exact⟨e2,h5,p1.trans r1,x4.trans y5,fun j hj=>(k5 j hj).trans (k1 j hj),M2,c3,arm3,ks2,fr2,lv2,fv2,s4.ext x4.wf y5,iv2,md2,hc2,H2,a3⟩
theorem Zb(W0:h0.Wf)(x0:h0.Ext h)(hD0:∀ b,A.D b→h0.next≤b)(hA:A.n=24)(G:Ga h A T one two (k+100))(U1:h0.Vals u1 (one.map bv))(U2:h0.Vals u2 (two.map bv))(b1:∀ x∈one,x<256)(b2:∀ x∈two,x<256)(O:OpsS h0 v n 25)(hi:i<n)(hi25:i<25)
  (s0:AB 0 e=u1)(s1:AB 1 e=u2)(s2:AB 2 e=v)(s7:AB 7 e=pt A.tb)(s8:AB 8 e=pt A.bd)(s9:AB 9 e=pt A.bs)(s11:AB 11 e=.int .i64 (i:Int)):
  ∃ e' h',GH 1 (apK (call AD (m+10)) e h)=.norm e' h'∧h0.Ext h'∧(∀ j,kp7 j→AB j e'=AB j e)∧Ga h' A T one two k:=by
 have W:=x0.wf
 obtain⟨r,kd,a,b,c,no,u,w,l,hop,V,hlb,ou,ow⟩:=O.get i hi hi25
 obtain⟨q1,q2,_⟩:=hop h x0
 have al:=fun (F:CallF) (e:Env)=>Bd (F:=F) (e:=e) W (n:=7) (t:=ZY)
 have Ra:=Hp.Row.alloc W d8 (show(opL 0 0 0 0 0 nilS nilS).length=7 from rfl)
 have y1:h.Ext (h.push (.cells ZY 7 0)):=(Hp.Ext.refl W).push _
 generalize h.push (.cells ZY 7 0)=h1 at al Ra y1
 obtain⟨st,y2,R2⟩:=qv W y1 (Nat.le_refl _) Ra rfl (kd:=kd) (a:=a) (b:=b) (c:=c) (no:=no) ou ow
 generalize h1.wr h.next 0 (opL kd a b c no u w)=h2 at st y2 R2
 obtain⟨_,l1,l2,_,l5⟩:=F6 R2
 have vl:=V.bl h2
 have x2:=x0.trans y2
 obtain⟨M,c0,arm,ks,fr,lv,fv,s,iv,md,hc,H,ha⟩:=G
 have s':=s.ext W y2
 have skip:(∃ e',apK (call AD (m+10)) e h=.exit 1 e' h2∧∀ j,kp7 j→AB j e'=AB j e)→∃ e' h',GH 1 (apK (call AD (m+10)) e h)=.norm e' h'∧h0.Ext h'∧(∀ j,kp7 j→AB j e'=AB j e)∧Ga h' A T one two k:=fun⟨e',r1,r2⟩=>
  ⟨e',h2,by rw[r1,A1],x2,r2,M,c0,arm,ks,fr,lv,fv,s',iv,md,hc,H,ha.le (by omega)⟩
 by_cases h150:150<l.length
 ·have c1:iGt (l.length:Int) 150=true:=E4 (by omega)
  refine skip ?_
  rw[Nv]
  unfold UU
  simp only[sT,Nat.reduceLT,Nat.reduceEqDiff,reduceIte,gD,Az,s2,s11,q1,Aq,Ao,q2,al,AX,st,AJ,AN,Nat.zero_add,AM,AP,l5,Ae,vl,AL,AK,c1]
  refine⟨_,rfl,fun j hj=>?_⟩
  rcases hj with rfl|rfl|rfl|rfl|rfl|rfl|rfl<;>simp only[AG,Nat.reduceLT,Nat.reduceEqDiff,reduceIte]
 ·have c1:iGt (l.length:Int) 150=false:=Ee (by omega)
  have go:¬ (a=3∧b=3)→(∃ e',apK (call AD (m+10)) e h=apM (call AD (m+10)) e' h2∧AB 12 e'=pt h.next∧∀ j,kp7 j→AB j e'=AB j e)→∃ e' h',GH 1 (apK (call AD (m+10)) e h)=.norm e' h'∧h0.Ext h'∧(∀ j,kp7 j→AB j e'=AB j e)∧Ga h' A T one two k:=fun hne ⟨e',r1,r2,r3⟩=>by
   obtain⟨e3,h3,g1,g2,g3,g4⟩:=Zc (m:=m) W0 x2 hD0 hA ⟨M,c0,arm,ks,fr,lv,fv,s',iv,md,hc,H,ha⟩ U1 U2 b1 b2 V hlb (by omega) hne R2 ((r3 0 (.inl rfl)).trans s0) ((r3 1 (.inr (.inl rfl))).trans s1) ((r3 7 (.inr (.inr (.inr (.inl rfl))))).trans s7) ((r3 8 (.inr (.inr (.inr (.inr (.inl rfl)))))).trans s8) ((r3 9 (.inr (.inr (.inr (.inr (.inr (.inl rfl))))))).trans s9) r2
   exact⟨e3,h3,by rw[r1,g1,DE],g2,fun j hj=>(g3 j hj).trans (r3 j hj),g4⟩
  rcases Gv a 3 with ⟨c2,e2⟩|⟨c2,e2⟩
  ·rcases Gv b 3 with ⟨c3,e3⟩|⟨c3,e3⟩
   ·refine skip ?_
    rw[Nv]
    unfold UU
    simp only[sT,Nat.reduceLT,Nat.reduceEqDiff,reduceIte,gD,Az,s2,s11,q1,Aq,Ao,q2,al,AX,st,AJ,AN,Nat.zero_add,AM,AP,l5,Ae,vl,AL,AK,c1,l1,c2,l2,c3]
    refine⟨_,rfl,fun j hj=>?_⟩
    rcases hj with rfl|rfl|rfl|rfl|rfl|rfl|rfl<;>simp only[AG,Nat.reduceLT,Nat.reduceEqDiff,reduceIte]
   ·refine go (fun h=>e3 h.2) ?_
    rw[Nv]
    unfold UU
    simp only[sT,Nat.reduceLT,Nat.reduceEqDiff,reduceIte,gD,Az,s2,s11,q1,Aq,Ao,q2,al,AX,st,AJ,AN,Nat.zero_add,AM,AP,l5,Ae,vl,AL,AK,c1,l1,c2,l2,c3]
    refine⟨_,rfl,by simp[AG],fun j hj=>?_⟩
    rcases hj with rfl|rfl|rfl|rfl|rfl|rfl|rfl<;>simp only[AG,Nat.reduceLT,Nat.reduceEqDiff,reduceIte]
  ·refine go (fun h=>e2 h.1) ?_
   rw[Nv]
   unfold UU
   simp only[sT,Nat.reduceLT,Nat.reduceEqDiff,reduceIte,gD,Az,s2,s11,q1,Aq,Ao,q2,al,AX,st,AJ,AN,Nat.zero_add,AM,AP,l5,Ae,vl,AL,AK,c1,l1,c2]
   refine⟨_,rfl,by simp[AG],fun j hj=>?_⟩
   rcases hj with rfl|rfl|rfl|rfl|rfl|rfl|rfl<;>simp only[AG,Nat.reduceLT,Nat.reduceEqDiff,reduceIte]
theorem Ze(W0:h0.Wf)(x0:h0.Ext h)(hD0:∀ b,A.D b→h0.next≤b)(hA:A.n=24)(G:Ga h A T one two 2500)(U1:h0.Vals u1 (one.map bv))(U2:h0.Vals u2 (two.map bv))(b1:∀ x∈one,x<256)(b2:∀ x∈two,x<256)(O:OpsS h0 v n 25)
  (s0:AB 0 e=u1)(s1:AB 1 e=u2)(s2:AB 2 e=v)(s7:AB 7 e=pt A.tb)(s8:AB 8 e=pt A.bd)(s9:AB 9 e=pt A.bs)(s11:AB 11 e=.int .i64 ((0:Nat):Int)):
  ∃ e' h',Ax apL (call AD (m+10)) e h=.exit 0 e' h'∧h0.Ext h':=by
 refine BZ (I:=fun i e' h'=>h0.Ext h'∧AB 0 e'=u1∧AB 1 e'=u2∧AB 2 e'=v∧AB 7 e'=pt A.tb∧AB 8 e'=pt A.bd∧AB 9 e'=pt A.bs∧AB 11 e'=.int .i64 (i:Int)∧Ga h' A T one two (100 * (25 - i)))
  (Q:=fun x=>∃ e' h',x=.exit 0 e' h'∧h0.Ext h') 25 (by omega) (fun i e' h' ⟨x',t0,t1,t2,t7,t8,t9,t11,G⟩=>?_) ⟨x0,s0,s1,s2,s7,s8,s9,s11,G⟩
 have ln:=O.len h'
 by_cases hin:i<n
 ·have c1:=E8 hin
  by_cases hi25:i<25
  ·left
   have c2:iLt (i:Int) 25=true:=Hw (by omega)
   obtain⟨e1,p1,k1⟩:∃ e1,apL (call AD (m+10)) e' h'=apP (call AD (m+10)) e1 h'∧∀ j,kp7 j→AB j e1=AB j e':=by
    rw[RJ]
    unfold WA
    simp only[sT,Nat.reduceLT,Nat.reduceEqDiff,reduceIte,gD,Ae,t2,ln,AL,AK,t11,c1,c2]
    refine⟨_,rfl,fun j hj=>?_⟩
    rcases hj with rfl|rfl|rfl|rfl|rfl|rfl|rfl<;>simp only[AG,Nat.reduceLT,Nat.reduceEqDiff,reduceIte]
   have K:=fun (j:Nat) (hj:kp7 j) (x:Value) (hx:AB j e'=x)=>(k1 j hj).trans hx
   obtain⟨e2,h2,r1,x2,k2,G2⟩:=Zb (m:=m) (k:=100 * (25 - (i+1))) W0 x' hD0 hA (by rw[show 100 * (25 - (i+1))+100=100 * (25 - i)by omega];exact G) U1 U2 b1 b2 O hin hi25 (K 0 (.inl rfl) _ t0) (K 1 (.inr (.inl rfl)) _ t1) (K 2 (.inr (.inr (.inl rfl))) _ t2) (K 7 (.inr (.inr (.inr (.inl rfl)))) _ t7) (K 8 (.inr (.inr (.inr (.inr (.inl rfl))))) _ t8) (K 9 (.inr (.inr (.inr (.inr (.inr (.inl rfl)))))) _ t9) (K 11 (.inr (.inr (.inr (.inr (.inr (.inr rfl)))))) _ t11)
   have K2:=fun (j:Nat) (hj:kp7 j) (x:Value) (hx:AB j e'=x)=>(k2 j hj).trans (K j hj x hx)
   have a3:=CQ (i:=i) (h:=h2) (by omega)
   have t0:=K2 0 (.inl rfl) _ t0
   have t1:=K2 1 (.inr (.inl rfl)) _ t1
   have t2:=K2 2 (.inr (.inr (.inl rfl))) _ t2
   have t7:=K2 7 (.inr (.inr (.inr (.inl rfl)))) _ t7
   have t8:=K2 8 (.inr (.inr (.inr (.inr (.inl rfl))))) _ t8
   have t9:=K2 9 (.inr (.inr (.inr (.inr (.inr (.inl rfl)))))) _ t9
   have t11:=K2 11 (.inr (.inr (.inr (.inr (.inr (.inr rfl)))))) _ t11
   obtain⟨e3,p3,v0,v1,v2,v7,v8,v9,v11⟩:∃ e3,apI (call AD (m+10)) e2 h2=.norm e3 h2∧AB 0 e3=u1∧AB 1 e3=u2∧AB 2 e3=v∧AB 7 e3=pt A.tb∧AB 8 e3=pt A.bd∧AB 9 e3=pt A.bs∧AB 11 e3=.int .i64 ((i+1:Nat):Int):=by
    unfold apI
    simp only[sT,Nat.reduceLT,Nat.reduceEqDiff,reduceIte,BK,t11,a3]
    exact⟨_,rfl,by simp[AG,t0,t1,t2,t7,t8,t9]⟩
   refine⟨hi25,e3,h2,?_,x2,v0,v1,v2,v7,v8,v9,v11,G2⟩
   rw[p1,fD]
   simp only[BH,Aw,r1,BB,p3]
  ·right
   have c2:iLt (i:Int) 25=false:=E5 (by omega)
   obtain⟨e2,r1⟩:∃ e2,apL (call AD (m+10)) e' h'=.exit 0 e2 h':=by
    rw[RJ]
    unfold WA
    simp only[sT,Nat.reduceLT,Nat.reduceEqDiff,reduceIte,gD,Ae,t2,ln,AL,AK,t11,c1,c2]
    exact⟨_,rfl⟩
   rw[r1]
   exact⟨rfl,e2,h',rfl,x'⟩
 ·right
  have c1:=DI (show n≤i by omega)
  obtain⟨e2,r1⟩:∃ e2,apL (call AD (m+10)) e' h'=.exit 0 e2 h':=by
   rw[RJ]
   unfold WA
   simp only[sT,Nat.reduceLT,Nat.reduceEqDiff,reduceIte,gD,Ae,t2,ln,AL,AK,t11,c1]
   exact⟨_,rfl⟩
  rw[r1]
  exact⟨rfl,e2,h',rfl,x'⟩
end
end
noncomputable section
open Go
set_option maxRecDepth 100000
section
variable {F:CallF}{e:Env}{h h':Hp}{A:At}{T one two:List Nat}{c0 m k p n bl tb:Nat}{arm':Int}{ks3:List Kt}{fr3:List Nat}{v u1 u2:Value}{l:List Nat}
theorem kI:InvS [] [0,1,2,3,4,5,6,7]:=⟨List.nodup_nil,.refl _⟩
theorem oC:Med T OQ [] [0,1,2,3,4,5,6,7]:=by
 refine⟨List.length_replicate,fun k hk=>(by cases hk),fun k hk=>(by cases hk),fun p _ r _=>Qo,fun k hk=>(by cases hk),fun p hp=>?_⟩
 simp only[List.mem_cons,List.not_mem_nil,or_false]at hp
 omega
theorem SS(W:h.Wf)(Rt:h.Row tb 0 (T.map wv))(hT:TblOk T):
  ∃ h' bs bd bm bc lv fv c1 arm',call AD (m+9) 10 [pt tb,.int .i64 24] h=.ok (.tuple ⟨[pt bd,pt bs,.bool true]⟩) h'∧h.Ext h'∧Sl h' ⟨bs,bd,bm,bc,tb,24⟩ T OQ c1 arm' [] [0,1,2,3,4,5,6,7] lv fv 0 false∧h.next≤bs∧h.next≤bd∧h.next≤bm∧h.next≤bc∧Bk arm' k:=by
 obtain⟨h1,bd,bm,bc,k1,x1,d,l1,l2,l3⟩:=ag (m:=m+7) (n:=24) W (by omega)
 have htb:=Rt.lt W
 have d:Dk h1 bd bm bc 24 OQ 0 [] (-1) false:=d
 obtain⟨h2,bs,c1,arm',lv,fv,ks3,k2,f2,s2,pm,l4,ha⟩:=QU (m:=m) (k:=k) x1.wf d (Rt.ext W x1) hT ⟨by omega,by omega,by omega⟩ kI (oC (T:=T)) (fun x hx=>by cases hx) (qk _)
 have hk:ks3=[]:=List.map_eq_nil_iff.1 (List.perm_nil.1 pm)
 subst hk
 have s2:Sl h2 ⟨bs,bd,bm,bc,tb,24⟩ T OQ c1 arm' [] [0,1,2,3,4,5,6,7] lv fv 0 false:=s2
 have k2:call AD (m+8) 16 [pt bd,pt tb,.int .i64 100] h1=.ok (.tuple ⟨[pt bs,.int .i64 0]⟩) h2:=k2
 have k1:call AD (m+8) 35 [.int .i64 24] h=.ok (.tuple ⟨[pt bd,.int .i64 0]⟩) h1:=k1
 have x2:h.Ext h2:=Fx.extF x1 f2 fun b hb=>by rcases hb with rfl|rfl|rfl<;>assumption
 refine⟨h2,bs,bd,bm,bc,lv,fv,c1,arm',?_,x2,s2,Nat.le_trans x1.next l4,l1,l2,l3,ha⟩
 have c0:iEq 0 0=true:=CN rfl
 rw[iC rfl]
 unfold d10
 simp only[iN,Nat.reduceAdd,sT,Nat.reduceLT,Nat.reduceEqDiff,reduceIte,gD,cA0,k1,BA,BL,BM,k2,AL,AK,c0,BX,Lj]
theorem dP{c:Int}{n:Nat}(hc:c=5∨c=8)(hn:n≤100):rightS 3 3 c 1 n=true:=decide_eq_true ⟨by omega,by omega,by omega,by omega,by omega,by omega,.inl rfl,by omega⟩
theorem eQ{c:Int}(hc:c=5∨c=8)(hl:l.length≤100):¬ (rightS 3 3 c 1 l.length=false∨100<l.length):=by
 rintro (h|h)
 ·rw[dP hc hl]at h
  cases h
 ·omega
theorem oU(hl:l.length≤100):Eg [] 8 3 3 5 l=none:=by
 unfold Eg
 rw[if_neg (eQ (.inl rfl) hl)]
 rfl
theorem oV{x:Kt}(hl:l.length≤100)(ha:x.a=3)(hb:x.b=3)(hc:x.c=5)(hs:x.s=2){q:Nat}(hq:q≠0):Eg [x] q 3 3 8 l=none:=by
 have h1:Bg 3 3 8 x=false:=by
  unfold Bg
  rw[hc,show decide ((5:Int)=8)=false from rfl,Bool.and_false]
 have h2:FO 3 3 x=true:=by
  unfold FO
  rw[decide_eq_true ha,decide_eq_true hb,decide_eq_true hs];rfl
 have h3:Bx 3 3 8 [x]=false:=by
  unfold Bx
  rw[List.find?_cons_of_pos h2]
  show decide (8≤x.c)=false
  rw[hc];rfl
 unfold Eg
 rw[if_neg (eQ (.inr rfl) hl),List.find?_cons_of_neg (by rw[h1];decide)]
 show(if Bx 3 3 8 [x]=true then some 61 else if q=0 then some 62 else none)=none
 rw[h3,if_neg (by decide),if_neg hq]
theorem np{x:Kt}(hs:x.s=1)(hk:Bg 3 3 5 x=true):Hu [x] 3 3 5=none:=by
 have h2:FO 3 3 x=false:=by
  unfold FO
  rw[show decide (x.s=2)=false from decide_eq_false (by omega),Bool.and_false]
 have h3:Bx 3 3 5 [x]=false:=by
  unfold Bx
  rw[List.find?_cons_of_neg (by rw[h2];decide)];rfl
 unfold Hu
 rw[List.find?_cons_of_pos hk]
 show(if x.s=2 then some 0 else if Bx 3 3 5 [x]=true then some 61 else none)=none
 rw[if_neg (by omega),h3,if_neg (by decide)]
theorem WD(W:h.Wf)(U1:h.Vals u1 (one.map bv))(U2:h.Vals u2 (two.map bv))(b1:∀ x∈one,x<256)(b2:∀ x∈two,x<256)(O:OpsS h v n 25):∃ h',call AD (m+11) 4 [u1,u2,v] h=.ok (.bool true) h'∧h.Ext h':=by
 have ln1:=U1.bl h
 have ln2:=U2.bl h
 have aw:=LR (bs:=AD) (n:=m+9) (f:=8) Oz (h:=h)
 by_cases h1:100<one.length
 ·have c1:iGt (one.length:Int) 100=true:=E4 (by omega)
  refine⟨h,?_,.refl W⟩
  rw[WY rfl,XA]
  unfold d4h
  simp only[iN,Nat.reduceAdd,sT,Nat.reduceLT,Nat.reduceEqDiff,reduceIte,gD,Ae,ln1,AL,AK,c1,cA0,aw,lV0]
 have c1:iGt (one.length:Int) 100=false:=Ee (by omega)
 by_cases h2:100<two.length
 ·have c2:iGt (two.length:Int) 100=true:=E4 (by omega)
  refine⟨h,?_,.refl W⟩
  rw[WY rfl,XA]
  unfold d4h
  simp only[iN,Nat.reduceAdd,sT,Nat.reduceLT,Nat.reduceEqDiff,reduceIte,gD,Ae,ln1,ln2,AL,AK,c1,c2,cA0,aw,lV0]
 have c2:iGt (two.length:Int) 100=false:=Ee (by omega)
 have k9:call AD (m+10) 9 [] h=.ok (.agg ⟨Mb⟩) h:=Uj (n:=m+9) ZD
 obtain⟨T,hTl,hT⟩:=de
 rw[hTl]at k9
 have hz:dj.zero.length=256:=by kernel_rfl
 have f9:=fun (F:CallF) (e:Env)=>Bd (F:=F) (e:=e) (n:=256) (t:=Oo) W
 have y2:=(Hp.Ext.refl W).push (.cells Oo 256 0)
 have R9:(h.push (.cells Oo 256 0)).Row h.next 0 dj.zero:=Hp.Row.alloc W d6 hz
 generalize h.push (.cells Oo 256 0)=g2 at f9 y2 R9
 obtain⟨st,y3,R9'⟩:=lI W y2 (Nat.le_refl _) R9 hz hT.1
 generalize g2.wr h.next 0 (T.map wv)=h3 at st y3 R9'
 obtain⟨h4,bs,bd,bm,bc,lv,fv,c4,arm4,k4,x4,s4,l1,l2,l3,l4,a4⟩:=SS (m:=m+1) (k:=2600) y3.wf R9' hT
 have k4:call AD (m+10) 10 [pt h.next,.int .i64 24] h3=.ok (.tuple ⟨[pt bd,pt bs,.bool true]⟩) h4:=k4
 have x04:=y3.trans x4
 have hD0:∀ b,At.D ⟨bs,bd,bm,bc,h.next,24⟩ b→h.next≤b:=fun b hb=>by
  have:=y3.next
  rcases hb with h1|h1|h1|h1<;>rw[h1]
  ·show h.next≤bs;omega
  ·show h.next≤bd;omega
  ·show h.next≤bm;omega
  ·show h.next≤bc;omega
 have e5:Eg [] [0,1,2,3,4,5,6,7].length 3 3 5 one=none:=oU (by omega)
 rcases MP (m:=m+2) (k:=2590) x04.wf s4 (a:=3) (b:=3) (c:=5) (.inl (U1.ext W x04)) b1 (by omega) (Nat.zero_le _) a4 with ⟨z,_,hzz,_⟩|⟨_,p1,fr1,h5,c5,arm5,lv5,fv5,q1,hfr1,k5,f5,s5,hq1,a5⟩
 ·rw[e5]at hzz;cases hzz
 have t1:UR T OQ [] [0,1,2,3,4,5,6,7] 1 3 3 5 one (C2 T OQ p1 one (headL T 3 3 5 1 one)) [q1] fr1:=.inl ⟨.inl rfl,e5,p1,q1,hfr1,rfl,hq1,rfl⟩
 obtain⟨iv1,_⟩:=JL kI t1
 obtain⟨md1,hc1,_⟩:=JM kI oC (fun x hx=>by cases hx) t1
 have s5:Sl h5 ⟨bs,bd,bm,bc,h.next,24⟩ T (C2 T OQ p1 one (headL T 3 3 5 1 one)) c5 arm5 [q1] fr1 lv5 fv5 0 false:=s5
 have x5:=Fx.xtF x04 f5 hD0
 have g1:q1.a=3:=congrArg Kc.a hq1
 have g2:q1.b=3:=congrArg Kc.b hq1
 have g3:q1.c=5:=congrArg Kc.c hq1
 have g4:q1.s=1:=congrArg Kc.s hq1
 have g5:q1.l=one:=congrArg Kc.l hq1
 have hf1:Bg 3 3 5 q1=true:=Jk (by show(q1.a,q1.b,q1.c)=_;rw[g1,g2,g3])
 have hln1:=iv1.len
 rcases PA (m:=m+2) (k:=2570) x5.wf s5 (a:=3) (b:=3) (c:=5) (by omega) (fun x hx=>iv1.lt x hx) iv1.nd a5 with ⟨z,_,hzz,_⟩|⟨_,j,kx,h6,c6,arm6,lv6,fv6,hj,habc,hs1,hfd,hst,k6,f6,s6,a6⟩
 ·rw[np g4 hf1]at hzz;cases hzz
 have t2:UR T (C2 T OQ p1 one (headL T 3 3 5 1 one)) [q1] fr1 5 3 3 5 [] _ _ _:=.inr (.inl ⟨.inl rfl,j,kx,hj,habc,hst,rfl,rfl,rfl⟩)
 obtain⟨iv2,_⟩:=JL iv1 t2
 obtain⟨md2,hc2,_⟩:=JM iv1 md1 hc1 t2
 have hj0:j=0:=by
  have:j< [q1].length:=(List.getElem?_eq_some_iff.1 hj).1
  have:j<1:=this
  omega
 subst hj0
 have hkx:q1=kx:=Option.some.inj hj
 subst hkx
 have x6:=Fx.xtF x5 f6 hD0
 have eX:([q1].set 0 {q1 with s:=2}).filter (fun k=> !elB 3 3 5 k)=[{q1 with s:=2}]:=by
  show [({q1 with s:=2}:Kt)].filter (fun k=> !elB 3 3 5 k)=_
  rw[List.filter_cons_of_pos (by
   unfold elB
   rw[show decide ((q1.c:Int)<5)=false from decide_eq_false (by omega),Bool.and_false];rfl)]
  rfl
 rw[eX]at s6 iv2 md2 hc2
 have hln2:=iv2.len
 generalize frE fr1 (([q1].set 0 {q1 with s:=2}).filter (elB 3 3 5))=fr2 at s6 iv2 md2 hln2
 generalize GC (Fv (C2 T OQ p1 one (headL T 3 3 5 1 one)) q1.p (headL T 3 3 5 2 q1.l)) ((([q1].set 0 {q1 with s:=2}).filter (elB 3 3 5)).map fun x:Kt=>x.p)=M2 at s6 md2
 generalize hX:({q1 with s:=2}:Kt)=X at s6 iv2 md2 hc2 hln2
 have y1:X.a=3:=by rw[← hX];exact g1
 have y2':X.b=3:=by rw[← hX];exact g2
 have y3':X.c=5:=by rw[← hX];exact g3
 have y4:X.s=2:=by rw[← hX]
 have y5:X.l=one:=by rw[← hX];exact g5
 have hln2:1+fr2.length=8:=hln2
 have e8:Eg [X] fr2.length 3 3 8 two=none:=oV (by omega) y1 y2' y3' y4 (by omega)
 rcases MP (m:=m+2) (k:=2560) x6.wf s6 (a:=3) (b:=3) (c:=8) (.inl (U2.ext W x6)) b2 (by omega) (by show 1≤10;omega) a6 with ⟨z,_,hzz,_⟩|⟨_,p3,fr3,h7,c7,arm7,lv7,fv7,q3,hfr3,k7,f7,s7,hq3,a7⟩
 ·rw[e8]at hzz;cases hzz
 have t3:UR T M2 [X] fr2 1 3 3 8 two (C2 T M2 p3 two (headL T 3 3 8 1 two)) (DS ([X]++[q3])) fr3:=.inl ⟨.inl rfl,e8,p3,q3,hfr3,rfl,hq3,rfl⟩
 obtain⟨iv3,_⟩:=JL iv2 t3
 obtain⟨md3,hc3,_⟩:=JM iv2 md2 hc2 t3
 have x7:=Fx.xtF x6 f7 hD0
 have hmem:∀ k,k∈DS ([X]++[q3])↔k=X∨k=q3:=fun k=>by rw[GA,List.mem_append,List.mem_singleton,List.mem_singleton]
 have H3:H33 one two (DS ([X]++[q3])):=by
  refine⟨⟨X,(hmem X).2 (.inl rfl),y1,y2',y3',y4,y5⟩,⟨q3,(hmem q3).2 (.inr rfl),congrArg Kc.a hq3,congrArg Kc.b hq3,congrArg Kc.c hq3,congrArg Kc.s hq3,congrArg Kc.l hq3⟩,fun k hk _ _=>?_⟩
  rcases (hmem k).1 hk with rfl|rfl
  ·exact .inl y3'
  ·exact .inr (congrArg Kc.c hq3)
 have c00:iNe 0 0=false:=Cm rfl
 have k5:call AD (m+10) 11 [pt bs,.int .i64 3,.int .i64 3,.int .i64 5,u1] h4=.ok (.int .i64 0) h5:=k5
 have k6:call AD (m+10) 12 [pt bs,.int .i64 3,.int .i64 3,.int .i64 5] h5=.ok (.int .i64 0) h6:=k6
 have k7:call AD (m+10) 11 [pt bs,.int .i64 3,.int .i64 3,.int .i64 8,u2] h6=.ok (.int .i64 0) h7:=k7
 have pre:∃ e1,d4h (call AD (m+10)) (AQ e0 0 [u1,u2,v]) h=apS (call AD (m+10)) e1 h7∧AB 0 e1=u1∧AB 1 e1=u2∧AB 2 e1=v∧AB 7 e1=pt h.next∧AB 8 e1=pt bd∧AB 9 e1=pt bs∧AB 11 e1=.int .i64 ((0:Nat):Int):=by
  unfold d4h
  simp only[iN,Nat.reduceAdd,sT,Nat.reduceLT,Nat.reduceEqDiff,reduceIte,gD,Ae,ln1,ln2,AL,AK,c1,c2,cA0,k9,f9,AX,st,k4,BA,BL,BM,CZ,Bt,Br,Bool.not_true,k5,c00,k6,k7]
  exact⟨_,rfl,by simp[AG]⟩
 obtain⟨e1,pr1,t0,t1',t2',t7,t8,t9,t11⟩:=pre
 obtain⟨e2,h8,r1,x8⟩:=Ze (m:=m) (A:=⟨bs,bd,bm,bc,h.next,24⟩) (T:=T) W x7 hD0 rfl ⟨_,c7,arm7,_,fr3,lv7,fv7,s7,iv3,md3,hc3,H3,a7.le (by omega)⟩ U1 U2 b1 b2 O t0 t1' t2' t7 t8 t9 t11
 have aw:=LR (bs:=AD) (n:=m+9) (f:=8) Oz (h:=h8)
 refine⟨h8,?_,x8⟩
 rw[WY rfl,XA,pr1,fG]
 simp only[BH,Aw,r1,A1,BB]
 unfold apE
 simp only[sT,Nat.reduceLT,Nat.reduceEqDiff,reduceIte,cA0,aw,lV0]
end
end
end Go.Proofs.YtedbmmfebjfibaaGreat
namespace Go.Proofs.YtedbmmfebjfibaaGreat.slotsApart
noncomputable section
open Go Go.ChangeShapes Go.WideShapes Go.ChangeAt Go.RowKit
set_option linter.unusedVariables false
theorem own:ownKnob Tryz.prog.godebug=none:=by kernel_rfl
theorem ON:laidOutB Tryz.prog=true:=by kernel_rfl
theorem jI:Tryz.prog.cellsOf 4=1:=by kernel_rfl
theorem RT:Tryz.prog.cellsOf 5=1:=by kernel_rfl
theorem Z4:Tryz.prog.cellsOf 54=7:=by kernel_rfl
theorem O6{l:List Int}(h:∀ z∈l,(Lit.int .u8 z).wf=true):∃ m:List Nat,ints .u8 l=m.map bv∧∀ x∈m,x<256:=by
 refine⟨l.map Int.toNat,?_,fun x hx=>?_⟩
 ·unfold ints
  rw[List.map_map]
  refine List.map_congr_left fun z hz=>?_
  have:=bounds_u8 (h z hz)
  show Value.int .u8 z=.int .u8 ((z.toNat:Nat):Int)
  rw[Int.toNat_of_nonneg this.1]
 ·obtain⟨z,hz,rfl⟩:=List.mem_map.1 hx
  have:=bounds_u8 (h z hz)
  omega
theorem Ht{P:Program}{W:World}{base t e:Nat}{v:Value}(ht:P.underlying t=some (.slice e))(h:Value.okWide P W .any base t v):Cell.okWide P W .any base t v:=by
 unfold Value.okWide at h
 rw[ht]at h
 exact h
theorem slc{H:Type}{enc:TypeId×Value→H}{P:Program}{W:World}{base t e:Nat}{v:Value}{x:DataW H}{p:List MemPlace}(ht:P.underlying t=some (.slice e))(h:Value.okWide P W .any base t v)(tx:DataW.Trod enc P W 0 (fun _=>true) true t v x p):
  ∃ fuel,DataW.trod enc P W 0 (fun _=>true) true fuel t [v]=some (x,p):=by
 have h':Cell.okWide P W .any base t v:=by
  unfold Value.okWide at h
  rw[ht]at h
  exact h
 obtain⟨fuel,hf⟩:=tx
 refine⟨fuel,?_⟩
 rcases MY ht h' with rfl|⟨a,n,c,rfl,_⟩<;>exact hf
section
variable {H:Type}{enc:TypeId×Value→H}{w:World}
theorem qn(m:Nat)(l:List Value)(y:DataW H×List MemPlace)(hl:l.length=1)(h:DataW.trod enc Tryz.prog w 0 (fun _=>true) true m 5 l=some y)(_:∀ b off,MemPlace.cell b off∈y.2→w.frozen? ⟨b,off,none⟩=false):QB l:=by
 obtain⟨a0,e0,_,hw⟩:=DataW.trod_int Tryz.underlying5 h
 have:=bounds_u8 hw
 subst e0
 exact⟨a0.toNat,by
  show [Value.int .u8 a0]=[Value.int .u8 ((a0.toNat:Nat):Int)]
  rw[Int.toNat_of_nonneg this.1],by omega⟩
theorem qo(m:Nat)(l:List Value)(y:DataW H×List MemPlace)(hl:l.length=1)(h:DataW.trod enc Tryz.prog w 0 (fun _=>true) true m 4 l=some y)(_:∀ b off,MemPlace.cell b off∈y.2→w.frozen? ⟨b,off,none⟩=false):QL l:=by
 obtain⟨a0,e0,_⟩:=DataW.trod_bool Tryz.underlying4 h
 exact⟨a0,e0⟩
theorem SC{n:Nat}{l:List Value}(h:l.length=n+1):∃ a l',l=a::l'∧l'.length=n:=by
 cases l with
 |nil=>cases h
 |cons a l'=>exact⟨a,l',rfl,Nat.succ.inj h⟩
theorem qt{l:List Value}(h:l.length=7):∃ c0 c1 c2 c3 c4 c5 c6,l=[c0,c1,c2,c3,c4,c5,c6]:=by
 obtain⟨c0,l0,rfl,h0⟩:=SC h
 obtain⟨c1,l1,rfl,h1⟩:=SC h0
 obtain⟨c2,l2,rfl,h2⟩:=SC h1
 obtain⟨c3,l3,rfl,h3⟩:=SC h2
 obtain⟨c4,l4,rfl,h4⟩:=SC h3
 obtain⟨c5,l5,rfl,h5⟩:=SC h4
 obtain⟨c6,l6,rfl,h6⟩:=SC h5
 obtain rfl:=List.eq_nil_of_length_eq_zero h6
 exact⟨c0,c1,c2,c3,c4,c5,c6,rfl⟩
set_option maxRecDepth 100000 in
theorem qp(m:Nat)(l:List Value)(y:DataW H×List MemPlace)(hl:l.length=7)(h:DataW.trod enc Tryz.prog w 0 (fun _=>true) true m 54 l=some y)(hfz:∀ b off,MemPlace.cell b off∈y.2→w.frozen? ⟨b,off,none⟩=false):∃ x:OD,l=x.cells∧V5 w x:=by
 obtain⟨c0,c1,c2,c3,c4,c5,c6,rfl⟩:=qt hl
 obtain⟨ys,k,_,rfl,_,hys,hfs⟩:=DataW.trod_struct Tryz.underlying54 h
 have hys:ys.length=7:=hys
 have g0:=hfs 0 _ rfl
 have g1:=hfs 1 _ rfl
 have g2:=hfs 2 _ rfl
 have g3:=hfs 3 _ rfl
 have g4:=hfs 4 _ rfl
 have g5:=hfs 5 _ rfl
 have g6:=hfs 6 _ rfl
 have g0:DataW.trod enc Tryz.prog w 0 (fun _=>true) true k 3 [c0]=some (ys[0]'(by omega)):=g0.trans (List.getElem?_eq_getElem _)
 have g1:DataW.trod enc Tryz.prog w 0 (fun _=>true) true k 3 [c1]=some (ys[1]'(by omega)):=g1.trans (List.getElem?_eq_getElem _)
 have g2:DataW.trod enc Tryz.prog w 0 (fun _=>true) true k 3 [c2]=some (ys[2]'(by omega)):=g2.trans (List.getElem?_eq_getElem _)
 have g3:DataW.trod enc Tryz.prog w 0 (fun _=>true) true k 3 [c3]=some (ys[3]'(by omega)):=g3.trans (List.getElem?_eq_getElem _)
 have g4:DataW.trod enc Tryz.prog w 0 (fun _=>true) true k 3 [c4]=some (ys[4]'(by omega)):=g4.trans (List.getElem?_eq_getElem _)
 have g5:DataW.trod enc Tryz.prog w 0 (fun _=>true) true k 22 [c5]=some (ys[5]'(by omega)):=g5.trans (List.getElem?_eq_getElem _)
 have g6:DataW.trod enc Tryz.prog w 0 (fun _=>true) true k 52 [c6]=some (ys[6]'(by omega)):=g6.trans (List.getElem?_eq_getElem _)
 obtain⟨a0,e0,_⟩:=DataW.trod_int Tryz.underlying3 g0
 obtain⟨a1,e1,_⟩:=DataW.trod_int Tryz.underlying3 g1
 obtain⟨a2,e2,_⟩:=DataW.trod_int Tryz.underlying3 g2
 obtain⟨a3,e3,_⟩:=DataW.trod_int Tryz.underlying3 g3
 obtain⟨a4,e4,_⟩:=DataW.trod_int Tryz.underlying3 g4
 have hB:=Og Tryz.underlying22 RT (by omega) (Q:=QB) qn g5 (fun b off hm=>hfz b off (List.mem_flatMap.2 ⟨_,List.getElem_mem (by omega),hm⟩))
 have hL:=Og Tryz.underlying52 jI (by omega) (Q:=QL) qo g6 (fun b off hm=>hfz b off (List.mem_flatMap.2 ⟨_,List.getElem_mem (by omega),hm⟩))
 cases e0;cases e1;cases e2;cases e3;cases e4
 exact⟨⟨a0,a1,a2,a3,a4,c5,c6⟩,rfl,hB,hL⟩
end
set_option maxRecDepth 100000 in
theorem lX{H:Type}{enc:TypeId×Value→H}(x y o:Value)(w:World){base:Nat}{d1 d2 d3:DataW H}{p1 p2 p3:List MemPlace}(hx:Value.okWide Tryz.prog w .any base 22 x)(hy:Value.okWide Tryz.prog w .any base 22 y)(ho:Value.okWide Tryz.prog w .any base 51 o)
  (tx:DataW.Trod enc Tryz.prog w 0 (fun _=>true) true 22 x d1 p1)(fx:∀ b off,MemPlace.cell b off∈p1→w.frozen? ⟨b,off,none⟩=false)
  (t_y:DataW.Trod enc Tryz.prog w 0 (fun _=>true) true 22 y d2 p2)(fy:∀ b off,MemPlace.cell b off∈p2→w.frozen? ⟨b,off,none⟩=false)
  (to_:DataW.Trod enc Tryz.prog w 0 (fun _=>true) true 51 o d3 p3)(fo:∀ b off,MemPlace.cell b off∈p3→w.frozen? ⟨b,off,none⟩=false):
  Calls Tryz.prog 4 #[x,y,o] w fun e w'=>e=.returned (.bool true)∧Below w.heap.size w w':=by
 obtain⟨fuelx,hfx⟩:=slc Tryz.underlying22 hx tx
 obtain⟨bs1,hbs1,I1⟩:=TY Tryz.underlying22 Tryz.underlying5 RT (Ht Tryz.underlying22 hx) hfx fx
 obtain⟨m1,hm1,hmb1⟩:=O6 hbs1
 obtain⟨u1,q1,Z1,i1,i2,i3⟩:=I1.rel 0
 obtain⟨fuely,hfy⟩:=slc Tryz.underlying22 hy t_y
 obtain⟨bs2,hbs2,I2⟩:=TY Tryz.underlying22 Tryz.underlying5 RT (Ht Tryz.underlying22 hy) hfy fy
 obtain⟨m2,hm2,hmb2⟩:=O6 hbs2
 obtain⟨u2,q2,Z2,j1,j2,j3⟩:=I2.rel 1
 obtain⟨fuel,hf⟩:=slc Tryz.underlying51 ho to_
 obtain⟨n,Ls,R⟩:=Og Tryz.underlying51 Z4 (by omega) (Q:=fun l=>∃ x:OD,l=x.cells∧V5 w x) qp hf fo
 obtain⟨u,q,L0,qs,Zs,l1,l2,r1,r2,r3⟩:=lE R 2 3 25
 have h256:(ints .u8 Z1::ints .u8 Z2::L0::Zs).length≤256:=by simp only[List.length_cons];omega
 have W0:(inH (ints .u8 Z1::ints .u8 Z2::L0::Zs)).Wf:=Xi h256
 have V1:=i3 _ (Ko h256 (i:=0) rfl)
 have V2:=j3 _ (Ko h256 (i:=1) rfl)
 rw[hm1]at V1
 rw[hm2]at V2
 have O:=r3 _ W0 (Ko h256 (i:=2) rfl) (fun j L e=>Ko h256 (i:=j+3) e)
 obtain⟨h',hr,hx'⟩:=WD (m:=53) W0 V1 V2 hmb1 hmb2 O
 obtain⟨g1,g2⟩:=r1 (NL (q1::q2::q::qs)) rfl (fun j q' e=>by
  show((q1::q2::q::qs)[j+3]?).getD none=q'
  have e:(q1::q2::q::qs)[j+3]? =some q':=e
  rw[e];rfl)
 refine dQ Wk hr hx' rfl (.cons (i2 _ rfl) (.cons (j2 _ rfl) (.cons g2 .nil))) (Yw (ps:=q1::q2::q::qs) h256 (by simp only[List.length_cons];omega) fun i q' L e1 e2=>?_)
 match i,e1,e2 with
 |0,e1,e2=>cases e1;cases e2;exact i1.irel (Lr _ _ _)
 |1,e1,e2=>cases e1;cases e2;exact j1.irel (Lr _ _ _)
 |2,e1,e2=>cases e1;cases e2;exact g1
 |i+3,e1,e2=>
  obtain⟨s1,s2⟩:=r2 i q' L e1 e2
  exact s1.irel (s2 _)
set_option maxRecDepth 100000 in
theorem kQ(os:Os)(started:os.Started)(H:Type)(enc:TypeId×Value→H):
  ReturnsInHanded {} Tryz.checked os 4 .any (Rows.slotsApartSpec.pre6 enc Tryz.prog Tryz.f4 Rows.slotsApartRow.domain false) (Rows.slotsApartSpec.post enc Tryz.prog Tryz.f4 false true false false):=by
 refine returnsInHanded_of_change (C:=Tryz.checked) own started (by kernel_rfl) Tryz.func4
  (ChangeSpec.witness6 (enc:=enc) (C:=Tryz.checked) false ⟨#[],#[.slice none 0 0,.slice none 0 0,.slice none 0 0],[]⟩ 8 (by kernel_rfl) (by kernel_rfl) (by kernel_rfl) (by kernel_rfl)) ?_
 intro W base args ds gs before hval0 hW hcnd _
 have hval:∀ (j:Nat) t v,Tryz.f4.params[j]? =some t→args[j]? =some v→Value.okWide Tryz.prog W .any base t v:=hval0
 have hW':=hW
 obtain⟨p,q,hA0,hV,rfl,hfz,hnd⟩:=hW
 have hA:DataW.TrodAll enc Tryz.prog W 0 (fun _=>true) true Tryz.f4.params.toList args.toList ds p:=hA0
 rw[Tryz.params4]at hA hval
 obtain⟨v0,vs0,d0,ds0,p0,q0,hargs,rfl,rfl,h0,r0⟩:=trodAll_cons hA
 obtain⟨v1,vs1,d1,ds1,p1,q1,rfl,rfl,rfl,h1,r1⟩:=trodAll_cons r0
 obtain⟨v2,vs2,d2,ds2,p2,q2,rfl,rfl,rfl,h2,r2⟩:=trodAll_cons r1
 obtain⟨rfl,rfl,rfl⟩:=trodAll_nil r2
 obtain rfl:args= #[v0,v1,v2]:=by cases args;simp_all
 obtain⟨rfl,rfl⟩:=trodVars_none hV
 clear hA0 hval0
 simp only[List.append_nil]at hW' hfz
 have hlt:∀ x∈p0++(p1++p2),x.block<W.heap.size:=fun x hx=>hW'.lt x hx
 have i0:∀ x∈p0,x∈p0++(p1++p2):=fun x hx=>List.mem_append_left _ hx
 have i1:∀ x∈p1,x∈p0++(p1++p2):=fun x hx=>List.mem_append_right _ (List.mem_append_left _ hx)
 have i2:∀ x∈p2,x∈p0++(p1++p2):=fun x hx=>List.mem_append_right _ (List.mem_append_right _ hx)
 refine(lX v0 v1 v2 W (hval 0 22 v0 rfl rfl) (hval 1 22 v1 rfl rfl) (hval 2 51 v2 rfl rfl) h0 (fun b off hm=>hfz b off (i0 _ hm)) h1 (fun b off hm=>hfz b off (i1 _ hm)) h2 (fun b off hm=>hfz b off (i2 _ hm))).mono fun e W' ⟨he,hb⟩=>?_
 subst he
 refine⟨_,rfl,Mq (pa:=p0++(p1++p2)) (pv:=[]) hW' (fun _ _ _=>(trodAll_cons_mk (shut_bool Tryz.underlying4 _) trodAll_mk0)) (fun sp hsp=>?_) (fun _ _=>rfl) (by simp) hb (ok_one (by kernel_rfl) rfl (okWide_bool_mk Tryz.underlying4 _))⟩
 have s0:=WideElems.Trod_stays ON (by kernel_rfl) (of_decide_eq_true (by kernel_rfl)) h0 (fun x hx=>hb.same (hlt x (i0 x hx))) (fun x hx=>hsp x (i0 x hx))
 have s1:=WideElems.Trod_stays ON (by kernel_rfl) (of_decide_eq_true (by kernel_rfl)) h1 (fun x hx=>hb.same (hlt x (i1 x hx))) (fun x hx=>hsp x (i1 x hx))
 have s2:=WideElems.Trod_stays ON (by kernel_rfl) (of_decide_eq_true (by kernel_rfl)) h2 (fun x hx=>hb.same (hlt x (i2 x hx))) (fun x hx=>hsp x (i2 x hx))
 have:=trodAll_cons_mk s0 (trodAll_cons_mk s1 (trodAll_cons_mk s2 (trodAll_mk0 (enc:=enc) (P:=Tryz.prog) (w:=W') (base:=0) (spare:=sp) (held:=true))))
 rw[List.append_nil]at this
 exact this
theorem over:Rows.slotsApartRow.holds Tryz.pinned (OpenSpec.ofChange Rows.slotsApartSpec):=
 OpenClaim.holds_of_wide 4 Tryz.f4 rfl rfl rfl rfl rfl rfl rfl ⟨rfl,rfl,rfl,rfl,rfl⟩ rfl rfl rfl rfl rfl (by kernel_rfl) Tryz.func4 (by kernel_rfl)
  (of_decide_eq_true (by kernel_rfl)) (by unfold Func.isWrapper;first|(rw[if_pos (by decide +kernel)];kernel_rfl)|(rw[if_neg (by decide +kernel)];exact⟨rfl,rfl⟩))
  (fun os started H enc _=>kQ os started H enc)
theorem proved:Rows.SlotsApartSaid:=
 over
#print axioms proved
end
end Go.Proofs.YtedbmmfebjfibaaGreat.slotsApart

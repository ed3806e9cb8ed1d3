/-
  Part ZJ of what Lawsn stands on: printed by program, names and spaces cut.
-/
import Derived.Test.YtedbmmfebjfibaaGreatZI
import Derived.Shelf.SlIterI.Nil
import Derived.Shelf.SortM.Plain
import Derived.Shelf.SortM.SortNone
set_option linter.unusedSimpArgs false
set_option linter.unusedVariables false
namespace Go.Proofs.YtedbmmfebjfibaaGreat
noncomputable section
open Go Go.Proofs Go.RowKit Go.Shelf Go.Maps Go.MapKept Go.ChangeShapes
def bC(m:Nat):List Nat→List Nat
 |[]=>[m]
 |x::l=>match Nat.ble m x with
  |true=>m::x::l
  |false=>x::bC m l
def Ej:List Nat→List Nat
 |[]=>[]
 |x::l=>bC x (Ej l)
def UQ:List Nat→Bool
 |[]=>true
 |x::l=>(match l with
  |[]=>true
  |y::_=>Nat.blt x y) && UQ l
def Ri:Value→Option Nat
 |.int k n=>match k,n with
  |.i64,.ofNat m=>some m
  |_,_=>none
 |_=>none
def PY(clk:Nat):List Ent→Nat→Option (List Nat)
 |[],_=>some []
 |e::l,lo=>match Ri e.key with
  |some m=>match Nat.blt m 9223372036854775808 && (Nat.ble lo e.born && Nat.blt e.born clk)with
   |true=>match PY clk l (Nat.succ e.born)with
    |some r=>some (m::r)
    |none=>none
   |false=>none
  |none=>none
def zv(m:Nat):Value:=.int .i64 (.ofNat m)
def Iy(t:Nat)(h:Hp):List Nat→R
 |[]=>.ok (.slice none 0 0) h
 |x::l=>match UQ (x::l)with
  |true=>forceN (BB (x::l)) fun n=>newRow h (Nat.succ t) ((x::l).map zv) (FA n n)
  |false=>.no
def Kf(t:Nat)(h:Hp)(v:Value):R:=match v with
 |.map none=>.ok (.slice none 0 0) h
 |.map (some r)=>match Ba h r with
  |.ok es clk=>match Nat.ble (BB es) 1000000 with
   |true=>match PY clk es 0 with
    |some ks=>Iy t h (Ej ks)
    |none=>.no
   |false=>.no
  |.no=>.no
 |_=>.no
def Ix(t:Nat)(a:Addr)(h:Hp):R:=match Nat.beq a.off 0 && Nat.ble 256 a.block with
 |true=>match rowOf h a.block with
  |.ok c s e=>match Nat.beq e 0 && Nat.blt 0 s with
   |true=>Kf t h (c.get 0)
   |false=>.no
  |.no=>.no
 |false=>.no
def Ke(Ks:List Nat)(t:Nat)(args:List Value)(h:Hp):R:=match args with
 |[v]=>match v with
  |.func fn f c=>match fn with
   |.func g=>match memN g Ks with
    |true=>match f.toList with
     |[]=>match c.toList with
      |[p]=>match p with
       |.pointer (some a)=>Ix t a h
       |_=>.no
      |_=>.no
     |_::_=>.no
    |false=>.no
   |_=>.no
  |_=>.no
 |_=>.no
def Sj(Ks:List Nat)(t:Nat):Body:=⟨[.x (fun _=>Ke Ks t)],cNo⟩
theorem M1(m:Nat):∀ l:List Nat,(bC m l).Perm (m::l)
 |[]=>.refl _
 |x::l=>by
  unfold bC
  split
  ·exact .refl _
  ·exact((M1 m l).cons x).trans (.swap m x l)
theorem GM:∀ l:List Nat,(Ej l).Perm l
 |[]=>.refl _
 |x::l=>(M1 x _).trans ((GM l).cons x)
theorem I9:∀ {l:List Nat},UQ l=true→l.Pairwise (· < ·)
 |[],_=>.nil
 |x::l,h=>by
  unfold UQ at h
  rw[Bool.and_eq_true]at h
  have hl:=I9 h.2
  refine List.pairwise_cons.2 ⟨fun y hy=>?_,hl⟩
  cases l with
  |nil=>cases hy
  |cons z l=>
   have h1:x<z:=BH.1 h.1
   rcases List.mem_cons.1 hy with rfl|hy
   ·exact h1
   ·exact Nat.lt_trans h1 ((List.pairwise_cons.1 hl).1 y hy)
theorem lX{a b:Nat}(h:zv a=zv b):a=b:=by
 unfold zv at h
 injection h with _ h
 injection h
theorem Qj{ks:List Nat}(h:UQ (Ej ks)=true):((ks.map Int.ofNat).mergeSort leI).map encZ=(Ej ks).map zv:=by
 have hp:=I9 h
 have h1:(ks.map Int.ofNat).mergeSort leI=((Ej ks).map Int.ofNat).mergeSort leI:=mergeSort_of_perm_i ((GM ks).symm.map _)
 have h2:((Ej ks).map Int.ofNat).Pairwise (fun a b=>leI a b=true):=List.pairwise_map.2 (hp.imp fun {a b} hab=>by
  simp only[leI,decide_eq_true_eq]
  exact Int.ofNat_le.2 (Nat.le_of_lt hab))
 rw[h1,List.mergeSort_of_pairwise h2,List.map_map]
 rfl
structure SortedSays (P:Program)(S K t:Nat):Prop where
 nil:∀ (w:World) (b:Nat),b<w.heap.size→w.cell? ⟨b,0,none⟩=some (.map none)→
  Calls P S #[.func (.func K) #[] #[.pointer (some ⟨b,0,none⟩)]] w fun e w'=>e=.returned (.slice none 0 0)∧Below w.heap.size w w'
 map:∀ (w:World) (b r:Nat) (es:Array MapEntry) (clk:Nat) (ks:List Nat),b<w.heap.size→w.cell? ⟨b,0,none⟩=some (.map (some r))→w.heap[r]? =some (.map es clk)→es.size≤1000000→Stamped es clk→
  es.toList.map (·.key)=ks.map zv→(∀ k∈ks,k<9223372036854775808)→
  Calls P S #[.func (.func K) #[] #[.pointer (some ⟨b,0,none⟩)]] w fun e w'=>∃ v,e=.returned v∧w'.ownsRow w.heap.size t 1 v ks.length (((ks.map Int.ofNat).mergeSort leI).map encZ)∧(v=.slice none 0 0↔ks=[])∧Below w.heap.size w w'
def Xb:Value→Int
 |.int _ q=>q
 |_=>0
theorem oE{m:Nat}(h:m<9223372036854775808):(Lit.int .i64 (Int.ofNat m)).wf=true:=by
 simp[Lit.wf,IntKind.min,IntKind.max,IntKind.signed,IntKind.bits]
 omega
theorem SS{P:Program}{ρ ρ':Ren}(L:SlLaysZI.n6 P ρ)(L':SlLaysZI.n10 P ρ')(hsort:∀ m,AnyZI.SortsIn P ρ Fence.wide m)
  (e9:∀ args w,(callFunc (ρ.f 9) args).run P w=.ok (.enter (ρ.f 9) args) w)(eg:∀ args w,(callFunc (ρ'.f 10) args).run P w=.ok (.enter (ρ'.f 10) args) w):SortedSays P (ρ.f 6) (ρ'.f 10) (ρ.t 26) where
 nil:=fun w b hb hc=>by
  have hseq:SeqGives Fence.wide 2 P (ρ'.f 10) #[.pointer (some ⟨b,0,none⟩)] encZ (fun ss:List Int=>ss=[]) 0 w:=AnyZI.keys_gives_nil L' Fence.wide 2 trivial rfl b w hb hc
  have cS:=AnyZI.sorted_in L Fence.wide 5 trivial trivial trivial trivial rfl (by omega) (hsort _) e9 (ρ'.f 10) #[.pointer (some ⟨b,0,none⟩)] trivial eg _ 0 (Nat.zero_le _) (by omega) w hseq
  refine(callsIn_wide.1 cS).mono ?_
  rintro e w' ⟨v,ss,rfl,rfl,hrow,hnil,hbl⟩
  exact⟨by rw[hnil.2 rfl],hbl⟩
 map:=fun w b r es clk ks hb hc hr hsz hst hk hlt=>by
  let R:Value→Option (DataW Unit×List MemPlace):=fun _=>some (.nil,[])
  have hkey:∀ x∈es.toList,∃ m,x.key=zv m∧m<9223372036854775808:=fun x hx=>by
   have:x.key∈ks.map zv:=hk ▸ List.mem_map_of_mem hx
   obtain⟨m,hm,he⟩:=List.mem_map.1 this
   exact⟨m,he.symm,hlt m hm⟩
  have hrd:∀ x∈es.toList,∀ m,x.key=zv m→m<9223372036854775808→Go.WideElems.rd P (ρ'.t 26) R x=some (.int .i64 (Int.ofNat m),.nil):=fun x hx m he hm=>by
   unfold Go.WideElems.rd
   rw[he,zv,keyOf_int_mk L'.t26 (oE hm)]
   rfl
  have hown:w.ownsMap P (ρ'.t 26) R r es.size (.map ((es.toList.map (Go.WideElems.rg P (ρ'.t 26) R)).foldr DataW.insert [])):=
   ⟨es,clk,hr,⟨by unfold maxLen;omega,hst,fun x hx=>by
    obtain⟨m,he,hm⟩:=hkey x hx
    exact⟨_,hrd x hx m he hm⟩⟩,Nat.le_refl _,rfl⟩
  have hlen:Maps.size (DataW.map ((es.toList.map (Go.WideElems.rg P (ρ'.t 26) R)).foldr DataW.insert []))=es.size:=by
   show((es.toList.map (Go.WideElems.rg P (ρ'.t 26) R)).foldr DataW.insert []).length=_
   rw[(Go.WideShapes.sorted_perm _).length_eq]
   simp
  have hper:(intKeys (DataW.map ((es.toList.map (Go.WideElems.rg P (ρ'.t 26) R)).foldr DataW.insert []))).Perm (ks.map Int.ofNat):=by
   show(((es.toList.map (Go.WideElems.rg P (ρ'.t 26) R)).foldr DataW.insert []).map fun p=>Go.intOf p.1).Perm _
   refine((Go.WideShapes.sorted_perm _).map _).trans ?_
   have e1:ks.map Int.ofNat=es.toList.map fun x=>Xb x.key:=by
    have:(es.toList.map (·.key)).map Xb=(ks.map zv).map Xb:=by rw[hk]
    rw[List.map_map,List.map_map]at this
    exact this.symm
   have e2:(es.toList.map (Go.WideElems.rg P (ρ'.t 26) R)).map (fun p=>Go.intOf p.1)=es.toList.map fun x=>Xb x.key:=by
    rw[List.map_map]
    refine List.map_congr_left fun x hx=>?_
    obtain⟨m,he,hm⟩:=hkey x hx
    show Go.intOf (Go.WideElems.rg P (ρ'.t 26) R x).1=Xb x.key
    unfold Go.WideElems.rg
    rw[hrd x hx m he hm,he]
    rfl
   rw[e1,e2]
  have hseq:=AnyZI.keys_gives L' Fence.wide 2 trivial rfl (by omega) b r es.size _ w hb hc hown
  have cS:=AnyZI.sorted_in L Fence.wide 5 trivial trivial trivial trivial rfl (by omega) (hsort _) e9 (ρ'.f 10) #[.pointer (some ⟨b,0,none⟩)] trivial eg _ _ (by rw[hlen];unfold maxLen;omega) (by rw[hlen];omega) w hseq
  refine(callsIn_wide.1 cS).mono ?_
  rintro e w' ⟨v,ss,rfl,hS,hrow,hnil,hbl⟩
  have hp:ss.Perm (ks.map Int.ofNat):=hS.trans hper
  have hl:ss.length=ks.length:=by rw[hp.length_eq];simp
  refine⟨v,rfl,?_,hnil.trans ?_,hbl⟩
  ·have h1:ss.mergeSort leI=(ks.map Int.ofNat).mergeSort leI:=mergeSort_of_perm_i hp
   rw[← hl,← h1];exact hrow
  ·constructor
   ·rintro rfl
    simp only[List.length_nil]at hl
    exact List.eq_nil_of_length_eq_zero hl.symm
   ·rintro rfl
    exact List.eq_nil_of_length_eq_zero hl
section
variable {P:Program}{ty:TTy}{φ:Phi}{E:Nat→Prop}{h h':Hp}{w w':World}{v:Value}
theorem RelW.below(H:RelW ty φ E h w)(hb:Below w.heap.size w w'):RelW ty φ E h w'∧Evo φ h w φ h w':=
 ⟨{dom:=fun i p e=>⟨(H.dom i p e).1,Nat.lt_of_lt_of_le (H.dom i p e).2 hb.size⟩
   inj:=H.inj
   row:=fun i p e hE=>(by rw[hb.block _ (H.dom i p e).2];exact H.row i p e hE)
   fresh:=H.fresh
   kind:=H.kind
   inp:=H.inp},
  {le:=.refl _
   new:=fun _ _ e=>.inl e
   next:=Nat.le_refl _
   size:=hb.size
   tape:=hb.tape
   os:=hb.os
   output:=hb.output
   frame:=fun k hk _=>hb.block k hk
   back:=fun i p e hl _=>⟨i,p,e,hl,rfl,rfl,.inl rfl⟩
   kept:=fun _ _ _=>rfl
   low:=Nat.le_refl _
   high:=Nat.le_refl _
   shape:=fun _ _=>.refl _
   only:=fun _ _ _=>rfl
   all:=fun _ h1 h2=>absurd h2 (Nat.not_lt.2 h1)}⟩
theorem U7{u u':Value}{m:Nat}(hn:Ri u=some m)(hr:RelV φ u u'):u'=zv m:=by
 unfold Ri at hn
 split at hn
 ·split at hn
  ·cases hn;cases hr;rfl
  ·cases hn
 ·cases hn
theorem PZ{clk:Nat}:∀ {es:List Ent} {es':List MapEntry} {lo:Nat} {ks:List Nat},PY clk es lo=some ks→RelE φ es es'→
  es'.map (·.key)=ks.map zv∧(∀ k∈ks,k<9223372036854775808)∧(∀ x∈es',lo≤x.born∧x.born<clk)∧(es'.map (·.born)).Nodup
 |[],es',lo,ks,hk,he=>by
  cases he
  cases hk
  exact⟨rfl,(fun k hk=>by cases hk),(fun x hx=>by cases hx),.nil⟩
 |e::es,es',lo,ks,hk,he=>by
  cases he with
  |@cons k k' v v' b _ l' hkey hv ht=>
  unfold PY at hk
  split at hk
  case h_2=>cases hk
  rename_i m hm
  split at hk
  case h_2=>cases hk
  rename_i hb
  simp only[Bool.and_eq_true]at hb
  split at hk
  case h_2=>cases hk
  rename_i r hr
  cases hk
  obtain⟨h1,h2,h3,h4⟩:=PZ hr ht
  have b1:lo≤b:=Al.1 hb.2.1
  have b2:b<clk:=BH.1 hb.2.2
  refine⟨?_,fun x hx=>?_,fun x hx=>?_,?_⟩
  ·simp only[List.map_cons,h1,U7 hm hkey]
  ·rcases List.mem_cons.1 hx with rfl|hx
   ·exact BH.1 hb.1
   ·exact h2 x hx
  ·rcases List.mem_cons.1 hx with rfl|hx
   ·exact⟨b1,b2⟩
   ·have:=h3 x hx
    have h5:b+1≤x.born:=this.1
    exact⟨by omega,this.2⟩
  ·rw[List.map_cons,List.nodup_cons]
   refine⟨fun hx=>?_,h4⟩
   obtain⟨x,hx,he⟩:=List.mem_map.1 hx
   have h5:b+1≤x.born:=(h3 x hx).1
   have he:x.born=b:=he
   omega
theorem Qk{Ks:List Nat}{t:Nat}{args:List Value}(hr:Ke Ks t args h=.ok v h'):∃ g a,args=[.func (.func g) ⟨[]⟩ ⟨[.pointer (some a)]⟩]∧memN g Ks=true∧Ix t a h=.ok v h':=by
 unfold Ke at hr
 split at hr
 case h_2=>cases hr
 split at hr
 case h_2=>cases hr
 rename_i fn f c
 split at hr
 case h_2=>cases hr
 rename_i g
 split at hr
 case h_2=>cases hr
 rename_i hm
 split at hr
 case h_2=>cases hr
 rename_i hf
 split at hr
 case h_2=>cases hr
 rename_i p hc
 split at hr
 case h_2=>cases hr
 rename_i a
 refine⟨g,a,?_,hm,hr⟩
 have e1:f=⟨[]⟩:=Array.ext' hf
 have e2:c=⟨[.pointer (some a)]⟩:=Array.ext' hc
 rw[e1,e2]
theorem SR(H:RelW ty φ nil h w){t:Nat}{ti:TI}(hty:ty.get t=some ti)(hs:ti.size=1){ks:List Nat}(hk:Iy t h (Ej ks)=.ok v h')(hb:Below w.heap.size w w'){v':Value}
  (ho:w'.ownsRow w.heap.size t 1 v' ks.length (((ks.map Int.ofNat).mergeSort leI).map encZ))(hn:v'=.slice none 0 0↔ks=[]):
  ∃ ψ,RelV ψ v v'∧RelW ty ψ nil h' w'∧Evo φ h w ψ h' w':=by
 have hpl:=(GM ks).length_eq
 unfold Iy at hk
 split at hk
 ·rename_i he
  cases hk
  rw[he]at hpl
  have:ks=[]:=List.eq_nil_of_length_eq_zero hpl.symm
  rw[hn.2 this]
  exact⟨φ,.slice0,H.below hb⟩
 ·rename_i x l he
  split at hk
  case h_2=>cases hk
  rename_i hasc
  rw[← he]at hasc hk
  rw[Ai,BQ,hpl]at hk
  have hpos:0<ks.length:=by rw[← hpl,he];simp
  rw[Qj hasc]at ho
  obtain⟨_,⟨_,h0⟩|⟨g,cap,cur,rfl,hg,hgb,hcap,_,hcs,htake⟩⟩:=ho
  ·omega
  unfold newRow at hk
  split at hk
  case h_2=>cases hk
  rename_i c hset
  unfold CE at hk
  rw[Ai]at hk
  obtain⟨bl,hbl,hk'⟩:=Fp hk
  cases hk'
  have hlen:BB ((Ej ks).map zv)=ks.length:=by rw[BQ,List.length_map,hpl]
  rw[hlen]at hbl
  rw[Nat.mul_one]at hcs htake
  let p:Pl:={blk:=g,off:=0,sz:=ks.length,room:=cap,es:=1}
  have hsame:∀ k,k<w.heap.size→w'.heap[k]? =w.heap[k]?:=hb.block
  have hgl:g<w'.heap.size:=(Array.getElem?_eq_some_iff.1 hgb).1
  have hB:RelB ty (φ.put h.next p) p (.cells c ks.length (Nat.succ t)) w'.heap[p.blk]?:=by
   show RelB ty (φ.put h.next p) p (.cells c ks.length (Nat.succ t)) w'.heap[g]?
   rw[hgb]
   refine .cells {kind:=⟨rfl,.inr ⟨t,ti,rfl,hty,hs.symm⟩⟩,room:=hcap,fits:=(by show 0+cap≤cur.size;omega),loose:=.inl (.inl rfl),cell:=fun j hj=>?_}
   have hj2:j<((Ej ks).map zv).length:=by rw[List.length_map,hpl];exact hj
   have e1:=H9 hset j hj2
   rw[e1]
   refine⟨((Ej ks).map zv).getD j undef,?_,?_⟩
   ·show cur[0+j]? =_
    rw[Nat.zero_add,← Array.getElem?_toList]
    have e2:(cur.toList.take ks.length)[j]? =((Ej ks).map zv)[j]?:=by rw[htake]
    rw[List.getElem?_take,if_pos hj]at e2
    rw[e2,List.getD_eq_getElem?_getD,List.getElem?_eq_getElem hj2]
    rfl
   ·rw[List.getD_eq_getElem?_getD,List.getElem?_eq_getElem hj2]
    show RelV _ (((Ej ks).map zv)[j]) _
    rw[List.getElem_map]
    exact .int _ _
  refine⟨φ.put h.next p,?_,H.new hbl hb.size hgl (fun j q e _=>by have:=(H.dom j q e).2;show q.blk≠g;omega) (fun k hk _=>hsame k hk) hB,.made H hbl hg hb.size hsame hb.tape hb.os hb.output⟩
  refine .slice (Nat.le_refl _) ⟨rfl,rfl,p,Phi.put_self _ _ _,rfl,.inl ⟨hpos,rfl,.inr ⟨?_,hcap,?_⟩⟩⟩
  ·show 0+ks.length * 1=ks.length
   omega
  ·show 0+cap * 1≤cap
   omega
theorem Ql{S t:Nat}{Ks:List Nat}{ti:TI}(hS:∃ fn,P.funcs[S]? =some fn∧fn.name≠"runtime.NumGoroutine" ∧fn.body.isNone=false)(hc:∀ K,memN K Ks=true→SortedSays P S K t)
  (hty:ty.get t=some ti)(hs:ti.size=1):Hg P ty S (Sj Ks t):=fun F args h v h' _ hr=>⟨hS,fun φ w args' hrel H=>by
 have hr:Ke Ks t args h=.ok v h':=hr
 obtain⟨g,a,rfl,hg,hr⟩:=Qk hr
 obtain⟨cn,cm⟩:=hc g hg
 cases hrel with
 |cons hv hn=>
 cases hn
 cases hv with
 |func _ h1 h2=>
 cases h1
 cases h2 with
 |cons hp hn=>
 cases hn
 cases hp with
 |@ptr _ a' ha=>
 obtain⟨s1,s2,p,hp,hbl,ho⟩:=ha
 unfold Ix at hr
 split at hr
 case h_2=>cases hr
 rename_i hq
 rw[Bool.and_eq_true]at hq
 have q1:=Ap.1 hq.1
 have q2:=Al.1 hq.2
 split at hr
 case h_2=>cases hr
 rename_i c s e hrow
 split at hr
 case h_2=>cases hr
 rename_i hq3
 rw[Bool.and_eq_true]at hq3
 have q3:=Ap.1 hq3.1
 have q4:=BH.1 hq3.2
 subst q3
 have hoff:p.off=0:=by
  rcases (H.kind a.block p c s 0 hp (Cx hrow)).2 with ⟨_,_,_,h0|h0⟩|⟨_,_,h0,_⟩
  ·exact h0
  ·have:=H.inp a.block p hp h0
   omega
  ·omega
 have ea:a'=⟨p.blk,0,none⟩:=by
  obtain⟨ab,ao,asp⟩:=a'
  simp only at s2 hbl ho
  subst s2;subst hbl
  congr 1
  omega
 subst ea
 obtain⟨cs,tt,fr,hw,R⟩:=H.rowAt hp (fun h=>h) hrow
 obtain⟨x,hx,hxr⟩:=R.cell 0 q4
 rw[hoff,Nat.zero_add]at hx
 have hcell:w.cell? ⟨p.blk,0,none⟩=some x:=by rw[HE hw];exact hx
 have hpb:=(H.dom _ _ hp).2
 generalize c.get 0=y at hr hxr
 unfold Kf at hr
 split at hr
 ·cases hxr
  cases hr
  refine(cn w p.blk hpb hcell).mono ?_
  rintro e w' ⟨rfl,hb⟩
  exact⟨_,φ,rfl,.slice0,H.below hb⟩
 ·rename_i r
  cases hxr with
  |map hq=>
  rename_i q
  split at hr
  case h_2=>cases hr
  rename_i es clk hes
  split at hr
  case h_2=>cases hr
  rename_i hsz
  split at hr
  case h_2=>cases hr
  rename_i ks hks
  obtain⟨es',hwm,hre⟩:=H.entsAt hq (fun h=>h) hes
  obtain⟨k1,k2,k3,k4⟩:=PZ hks hre
  have hl:es'.length≤1000000:=by
   have:=Al.1 hsz
   rw[BQ]at this
   have e2:es'.length=es.length:=by
    clear hes hwm hks k1 k2 k3 k4 hsz this
    induction hre with
    |nil=>rfl
    |cons _ _ _ ih=>simp only[List.length_cons,ih]
   omega
  have hnd:ks.Nodup:=by
   have hasc:UQ (Ej ks)=true:=by
    cases he:Ej ks with
    |nil=>rfl
    |cons x l=>
     rw[he]at hr
     unfold Iy at hr
     split at hr
     ·rename_i e;cases e
     ·rename_i e
      cases e
      split at hr
      ·assumption
      ·cases hr
   have:=(I9 hasc).imp fun {a b} (hab:a<b)=>Nat.ne_of_lt hab
   exact(GM ks).nodup_iff.1 this
  have hst:Stamped ⟨es'⟩ clk:=⟨fun x hx=>(k3 x hx).2,k4,by
   show(es'.map (·.key)).Nodup
   rw[k1]
   exact List.pairwise_map.2 (hnd.imp fun {a b} hab e=>hab (lX e))⟩
  refine(cm w p.blk q.blk ⟨es'⟩ clk ks hpb hcell hwm hl hst k1 k2).mono ?_
  rintro e w' ⟨v',rfl,ho,hn,hb⟩
  obtain⟨ψ,r1,r2,r3⟩:=SR H hty hs hr hb ho hn
  exact⟨v',ψ,rfl,r1,r2,r3⟩
 ·cases hr⟩
end
end
end Go.Proofs.YtedbmmfebjfibaaGreat
set_option maxRecDepth 100000
namespace Go.Proofs.YtedbmmfebjfibaaGreat
noncomputable section
open Go Go.Proofs Go.RowKit Go.Maps Go.Sort Go.Shelf
def IY:Ren:=⟨fun| 7=>67| 10=>94|n=>n,fun| 23=>96| 26=>3| 3=>100| 28=>111| 0=>0| 27=>110| 33=>105| 4=>4|n=>n,fun n=>n⟩
theorem Xg:SlLaysZI.n7 Tryz.prog IY where
 mixed:=by kernel_rfl
 f7:=⟨Tryz.f67.name,by decide,Tryz.func67.trans (congrArg some (by kernel_rfl))⟩
 f10:=⟨Tryz.f94.name,by decide,Tryz.func94.trans (congrArg some (by kernel_rfl))⟩
 t0:=Tryz.underlying0
 a0:=Tryz.isAgg0
 z0:=Tryz.sizeOf0
 v0:=Tryz.zeroValue0
 t4:=Tryz.underlying4
 a4:=Tryz.isAgg4
 z4:=Tryz.sizeOf4
 v4:=Tryz.zeroValue4
 t23:=Tryz.underlying96
 a23:=Tryz.isAgg96
 z23:=Tryz.sizeOf96
 v23:=Tryz.zeroValue96
 t26:=Tryz.underlying3
 a26:=Tryz.isAgg3
 z26:=Tryz.sizeOf3
 v26:=Tryz.zeroValue3
 t27:=Tryz.underlying110
 a27:=Tryz.isAgg110
 z27:=Tryz.sizeOf110
 v27:=Tryz.zeroValue110
 t28:=Tryz.underlying111
 a28:=Tryz.isAgg111
 z28:=Tryz.sizeOf111
 v28:=Tryz.zeroValue111
 t33:=Tryz.underlying105
 a33:=Tryz.isAgg105
 z33:=Tryz.sizeOf105
 v33:=Tryz.zeroValue105
def Fb:Ren:=⟨fun| 6=>66| 8=>93| 9=>82| 11=>113| 13=>78| 12=>108| 23=>105| 24=>106| 14=>119| 15=>120| 16=>121| 17=>122| 18=>123| 19=>124| 20=>125| 21=>126| 22=>127| 25=>129| 26=>115| 27=>116| 28=>130| 29=>131| 30=>107| 31=>132|n=>n,fun| 26=>3| 28=>111| 24=>62| 0=>0| 3=>3| 37=>114| 48=>25| 50=>116| 4=>4| 40=>136| 39=>135| 45=>140| 5=>5| 9=>9| 51=>152| 55=>156| 57=>164| 58=>165| 33=>105|n=>n,fun n=>n⟩
theorem U4:SlLaysZI.n6 Tryz.prog Fb where
 mixed:=by kernel_rfl
 f6:=⟨Tryz.f66.name,by decide,Tryz.func66.trans (congrArg some (by kernel_rfl))⟩
 f8:=⟨Tryz.f93.name,by decide,Tryz.func93.trans (congrArg some (by kernel_rfl))⟩
 f11:=⟨Tryz.f113.name,by decide,Tryz.func113.trans (congrArg some (by kernel_rfl))⟩
 t0:=Tryz.underlying0
 a0:=Tryz.isAgg0
 z0:=Tryz.sizeOf0
 v0:=Tryz.zeroValue0
 t24:=Tryz.underlying62
 a24:=Tryz.isAgg62
 z24:=Tryz.sizeOf62
 v24:=Tryz.zeroValue62
 t26:=Tryz.underlying3
 a26:=Tryz.isAgg3
 z26:=Tryz.sizeOf3
 v26:=Tryz.zeroValue3
 t28:=Tryz.underlying111
 a28:=Tryz.isAgg111
 z28:=Tryz.sizeOf111
 v28:=Tryz.zeroValue111
 i26:=by kernel_rfl
def Pe:Ren:=⟨fun| 5=>82| 8=>78| 7=>108| 19=>105| 20=>106| 10=>119| 11=>120| 12=>121| 13=>122| 14=>123| 15=>124| 16=>125| 17=>126| 18=>127| 30=>129| 31=>115| 32=>116| 33=>130| 34=>131| 35=>107| 40=>132|n=>n,fun| 23=>62| 25=>3| 3=>3| 32=>114| 22=>62| 0=>0| 44=>25| 46=>116| 4=>4| 36=>136| 35=>135| 41=>140| 5=>5| 9=>9| 53=>152| 57=>156| 63=>164| 64=>165|n=>n,fun n=>n⟩
theorem TY:SlLaysM.n5 Tryz.prog Pe where
 mixed:=by kernel_rfl
 f5:=⟨Tryz.f82.name,by decide,Tryz.func82.trans (congrArg some (by kernel_rfl))⟩
 f7:=⟨Tryz.f108.name,by decide,Tryz.func108.trans (congrArg some (by kernel_rfl))⟩
 f8:=Tryz.func78.trans (congrArg some (by kernel_rfl))
 f10:=⟨Tryz.f119.name,by decide,Tryz.func119.trans (congrArg some (by kernel_rfl))⟩
 f11:=⟨Tryz.f120.name,by decide,Tryz.func120.trans (congrArg some (by kernel_rfl))⟩
 f12:=⟨Tryz.f121.name,by decide,Tryz.func121.trans (congrArg some (by kernel_rfl))⟩
 f13:=⟨Tryz.f122.name,by decide,Tryz.func122.trans (congrArg some (by kernel_rfl))⟩
 f14:=⟨Tryz.f123.name,by decide,Tryz.func123.trans (congrArg some (by kernel_rfl))⟩
 f15:=⟨Tryz.f124.name,by decide,Tryz.func124.trans (congrArg some (by kernel_rfl))⟩
 f16:=⟨Tryz.f125.name,by decide,Tryz.func125.trans (congrArg some (by kernel_rfl))⟩
 f17:=⟨Tryz.f126.name,by decide,Tryz.func126.trans (congrArg some (by kernel_rfl))⟩
 f18:=⟨Tryz.f127.name,by decide,Tryz.func127.trans (congrArg some (by kernel_rfl))⟩
 f19:=Tryz.func105.trans (congrArg some (by kernel_rfl))
 f20:=Tryz.func106.trans (congrArg some (by kernel_rfl))
 f30:=⟨Tryz.f129.name,by decide,Tryz.func129.trans (congrArg some (by kernel_rfl))⟩
 f31:=Tryz.func115.trans (congrArg some (by kernel_rfl))
 f32:=Tryz.func116.trans (congrArg some (by kernel_rfl))
 f33:=⟨Tryz.f130.name,by decide,Tryz.func130.trans (congrArg some (by kernel_rfl))⟩
 f34:=⟨Tryz.f131.name,by decide,Tryz.func131.trans (congrArg some (by kernel_rfl))⟩
 f35:=⟨Tryz.f107.name,by decide,Tryz.func107.trans (congrArg some (by kernel_rfl))⟩
 f40:=⟨Tryz.f132.name,by decide,Tryz.func132.trans (congrArg some (by kernel_rfl))⟩
 t0:=Tryz.underlying0
 a0:=Tryz.isAgg0
 z0:=Tryz.sizeOf0
 v0:=Tryz.zeroValue0
 t3:=Tryz.underlying3
 a3:=Tryz.isAgg3
 z3:=Tryz.sizeOf3
 v3:=Tryz.zeroValue3
 t4:=Tryz.underlying4
 a4:=Tryz.isAgg4
 z4:=Tryz.sizeOf4
 v4:=Tryz.zeroValue4
 t5:=Tryz.underlying5
 a5:=Tryz.isAgg5
 z5:=Tryz.sizeOf5
 v5:=Tryz.zeroValue5
 t9:=Tryz.underlying9
 a9:=Tryz.isAgg9
 z9:=Tryz.sizeOf9
 v9:=Tryz.zeroValue9
 t22:=Tryz.underlying62
 a22:=Tryz.isAgg62
 z22:=Tryz.sizeOf62
 v22:=Tryz.zeroValue62
 t23:=Tryz.underlying62
 a23:=Tryz.isAgg62
 z23:=Tryz.sizeOf62
 v23:=Tryz.zeroValue62
 t25:=Tryz.underlying3
 a25:=Tryz.isAgg3
 z25:=Tryz.sizeOf3
 v25:=Tryz.zeroValue3
 t32:=Tryz.underlying114
 a32:=Tryz.isAgg114
 z32:=Tryz.sizeOf114
 v32:=Tryz.zeroValue114
 t35:=Tryz.underlying135
 a35:=Tryz.isAgg135
 z35:=Tryz.sizeOf135
 v35:=Tryz.zeroValue135
 t36:=Tryz.underlying136
 a36:=Tryz.isAgg136
 z36:=Tryz.sizeOf136
 v36:=Tryz.zeroValue136
 t41:=Tryz.underlying140
 a41:=Tryz.isAgg140
 z41:=Tryz.sizeOf140
 v41:=Tryz.zeroValue140
 t44:=Tryz.underlying25
 a44:=Tryz.isAgg25
 z44:=Tryz.sizeOf25
 v44:=Tryz.zeroValue25
 t46:=Tryz.underlying116
 a46:=Tryz.isAgg116
 z46:=Tryz.sizeOf116
 v46:=Tryz.zeroValue116
 t53:=Tryz.underlying152
 a53:=Tryz.isAgg152
 z53:=Tryz.sizeOf152
 v53:=Tryz.zeroValue152
 t57:=Tryz.underlying156
 a57:=Tryz.isAgg156
 z57:=Tryz.sizeOf156
 v57:=Tryz.zeroValue156
 t63:=Tryz.underlying164
 a63:=Tryz.isAgg164
 z63:=Tryz.sizeOf164
 v63:=Tryz.zeroValue164
 t64:=Tryz.underlying165
 a64:=Tryz.isAgg165
 z64:=Tryz.sizeOf165
 v64:=Tryz.zeroValue165
theorem lD(m:Nat):AnyZI.SortsIn Tryz.prog Fb Fence.wide m:=
 ⟨fun blk off cap ss W hH hblk hsz=>callsIn_wide.2 (AnyM.slices_Sort_int TY blk off cap ss W hH hblk hsz),
  fun p cap W=>callsIn_wide.2 (AnyM.slices_Sort_int_none TY p cap W)⟩
theorem oY:SortedSays Tryz.prog 66 94 3:=SS (ρ:=Fb) (ρ':=IY) U4 {Xg with} lD (enters_of Tryz.func82 (by kernel_rfl) rfl) (enters_of Tryz.func94 (by kernel_rfl) rfl)
theorem Xp{a b:String}(h:(a == b)=false):a≠b:=by simpa using h
def bS:Body:=Sj [94] 3
theorem Vj:Hg Tryz.prog ty 66 bS:=Ql (ti:=ty3) ⟨Tryz.f66,Tryz.func66,Xp (by kernel_rfl),rfl⟩ (fun K hK=>by
 have hK:=Ib.1 hK
 simp only[List.mem_cons,List.not_mem_nil,or_false]at hK
 rcases hK with rfl
 ·exact oY) (by kernel_rfl) rfl
end
end Go.Proofs.YtedbmmfebjfibaaGreat
namespace Go.Proofs.YtedbmmfebjfibaaGreat
noncomputable section
open Go
theorem oS:BX Tryz.prog ty 66 bS:=Or.inr (.inr Vj)
theorem Ak{a b:String}(h:(a == b)=false):a≠b:=by simpa using h
theorem o5:BX Tryz.prog ty 5 b5:=Or.inl ⟨Tryz.f5,al5,Tryz.func5,Ak (by kernel_rfl),nW⟩
theorem o8:BX Tryz.prog ty 8 b8:=Or.inl ⟨Tryz.f8,al8,Tryz.func8,Ak (by kernel_rfl),nX⟩
theorem o9:BX Tryz.prog ty 9 b9:=Or.inl ⟨Tryz.f9,al9,Tryz.func9,Ak (by kernel_rfl),nY⟩
theorem o10:BX Tryz.prog ty 10 b10:=Or.inl ⟨Tryz.f10,la,Tryz.func10,Ak (by kernel_rfl),eo⟩
theorem o11:BX Tryz.prog ty 11 b11:=Or.inl ⟨Tryz.f11,lc,Tryz.func11,Ak (by kernel_rfl),et⟩
theorem o12:BX Tryz.prog ty 12 b12:=Or.inl ⟨Tryz.f12,lg,Tryz.func12,Ak (by kernel_rfl),eu⟩
theorem o16:BX Tryz.prog ty 16 b16:=Or.inl ⟨Tryz.f16,li,Tryz.func16,Ak (by kernel_rfl),ex⟩
theorem o17:BX Tryz.prog ty 17 b17:=Or.inl ⟨Tryz.f17,ll,Tryz.func17,Ak (by kernel_rfl),ey⟩
theorem o19:BX Tryz.prog ty 19 b19:=Or.inl ⟨Tryz.f19,lm,Tryz.func19,Ak (by kernel_rfl),ez⟩
theorem o20:BX Tryz.prog ty 20 b20:=Or.inl ⟨Tryz.f20,lq,Tryz.func20,Ak (by kernel_rfl),fA⟩
theorem o21:BX Tryz.prog ty 21 b21:=Or.inl ⟨Tryz.f21,lr,Tryz.func21,Ak (by kernel_rfl),fC⟩
theorem o22:BX Tryz.prog ty 22 b22:=Or.inl ⟨Tryz.f22,lw,Tryz.func22,Ak (by kernel_rfl),fD⟩
theorem o24:BX Tryz.prog ty 24 b24:=Or.inl ⟨Tryz.f24,lx,Tryz.func24,Ak (by kernel_rfl),fF⟩
theorem o25:BX Tryz.prog ty 25 b25:=Or.inl ⟨Tryz.f25,ly,Tryz.func25,Ak (by kernel_rfl),fG⟩
theorem o26:BX Tryz.prog ty 26 b26:=Or.inl ⟨Tryz.f26,lz,Tryz.func26,Ak (by kernel_rfl),fH⟩
theorem o27:BX Tryz.prog ty 27 b27:=Or.inl ⟨Tryz.f27,l7,Tryz.func27,Ak (by kernel_rfl),fI⟩
theorem o28:BX Tryz.prog ty 28 b28:=Or.inl ⟨Tryz.f28,l8,Tryz.func28,Ak (by kernel_rfl),fJ⟩
theorem o29:BX Tryz.prog ty 29 b29:=Or.inl ⟨Tryz.f29,mA,Tryz.func29,Ak (by kernel_rfl),fL⟩
theorem o30:BX Tryz.prog ty 30 b30:=Or.inl ⟨Tryz.f30,mB,Tryz.func30,Ak (by kernel_rfl),fM⟩
theorem o32:BX Tryz.prog ty 32 b32:=Or.inl ⟨Tryz.f32,mC,Tryz.func32,Ak (by kernel_rfl),fN⟩
theorem o35:BX Tryz.prog ty 35 b35:=Or.inl ⟨Tryz.f35,mD,Tryz.func35,Ak (by kernel_rfl),fO⟩
theorem o36:BX Tryz.prog ty 36 b36:=Or.inl ⟨Tryz.f36,mE,Tryz.func36,Ak (by kernel_rfl),fP⟩
theorem o37:BX Tryz.prog ty 37 b37:=Or.inl ⟨Tryz.f37,mF,Tryz.func37,Ak (by kernel_rfl),fQ⟩
theorem o38:BX Tryz.prog ty 38 b38:=Or.inl ⟨Tryz.f38,mG,Tryz.func38,Ak (by kernel_rfl),fR⟩
theorem o39:BX Tryz.prog ty 39 b39:=Or.inl ⟨Tryz.f39,mH,Tryz.func39,Ak (by kernel_rfl),fT⟩
theorem o40:BX Tryz.prog ty 40 b40:=Or.inl ⟨Tryz.f40,mI,Tryz.func40,Ak (by kernel_rfl),fU⟩
theorem o41:BX Tryz.prog ty 41 b41:=Or.inl ⟨Tryz.f41,mJ,Tryz.func41,Ak (by kernel_rfl),fV⟩
theorem o42:BX Tryz.prog ty 42 b42:=Or.inl ⟨Tryz.f42,mK,Tryz.func42,Ak (by kernel_rfl),fX⟩
theorem o43:BX Tryz.prog ty 43 b43:=Or.inl ⟨Tryz.f43,mL,Tryz.func43,Ak (by kernel_rfl),fY⟩
theorem o44:BX Tryz.prog ty 44 b44:=Or.inl ⟨Tryz.f44,mM,Tryz.func44,Ak (by kernel_rfl),fZ⟩
theorem o45:BX Tryz.prog ty 45 b45:=Or.inl ⟨Tryz.f45,mN,Tryz.func45,Ak (by kernel_rfl),fa⟩
theorem o46:BX Tryz.prog ty 46 b46:=Or.inl ⟨Tryz.f46,mO,Tryz.func46,Ak (by kernel_rfl),fb⟩
theorem o47:BX Tryz.prog ty 47 b47:=Or.inl ⟨Tryz.f47,mP,Tryz.func47,Ak (by kernel_rfl),fc⟩
theorem o48:BX Tryz.prog ty 48 b48:=Or.inl ⟨Tryz.f48,mQ,Tryz.func48,Ak (by kernel_rfl),fd⟩
theorem o49:BX Tryz.prog ty 49 b49:=Or.inl ⟨Tryz.f49,mR,Tryz.func49,Ak (by kernel_rfl),fe⟩
theorem o50:BX Tryz.prog ty 50 b50:=Or.inl ⟨Tryz.f50,mS,Tryz.func50,Ak (by kernel_rfl),ff⟩
theorem o51:BX Tryz.prog ty 51 b51:=Or.inl ⟨Tryz.f51,mT,Tryz.func51,Ak (by kernel_rfl),fg⟩
theorem o52:BX Tryz.prog ty 52 b52:=Or.inl ⟨Tryz.f52,mU,Tryz.func52,Ak (by kernel_rfl),fh⟩
theorem o53:BX Tryz.prog ty 53 b53:=Or.inl ⟨Tryz.f53,mV,Tryz.func53,Ak (by kernel_rfl),fj⟩
theorem o54:BX Tryz.prog ty 54 b54:=Or.inl ⟨Tryz.f54,mW,Tryz.func54,Ak (by kernel_rfl),fk⟩
theorem o55:BX Tryz.prog ty 55 b55:=Or.inl ⟨Tryz.f55,mX,Tryz.func55,Ak (by kernel_rfl),fl⟩
theorem o56:BX Tryz.prog ty 56 b56:=Or.inl ⟨Tryz.f56,mY,Tryz.func56,Ak (by kernel_rfl),fp⟩
theorem o57:BX Tryz.prog ty 57 b57:=Or.inl ⟨Tryz.f57,mZ,Tryz.func57,Ak (by kernel_rfl),fq⟩
theorem o58:BX Tryz.prog ty 58 b58:=Or.inl ⟨Tryz.f58,ma,Tryz.func58,Ak (by kernel_rfl),fu⟩
theorem o59:BX Tryz.prog ty 59 b59:=Or.inl ⟨Tryz.f59,mc,Tryz.func59,Ak (by kernel_rfl),fw⟩
theorem o60:BX Tryz.prog ty 60 b60:=Or.inl ⟨Tryz.f60,md,Tryz.func60,Ak (by kernel_rfl),fy⟩
theorem o61:BX Tryz.prog ty 61 b61:=Or.inl ⟨Tryz.f61,me,Tryz.func61,Ak (by kernel_rfl),fz⟩
theorem o62:BX Tryz.prog ty 62 b62:=Or.inl ⟨Tryz.f62,mf,Tryz.func62,Ak (by kernel_rfl),f0⟩
theorem o63:BX Tryz.prog ty 63 b63:=Or.inl ⟨Tryz.f63,mg,Tryz.func63,Ak (by kernel_rfl),gA⟩
theorem o64:BX Tryz.prog ty 64 b64:=Or.inl ⟨Tryz.f64,mh,Tryz.func64,Ak (by kernel_rfl),gB⟩
theorem o65:BX Tryz.prog ty 65 b65:=Or.inl ⟨Tryz.f65,mi,Tryz.func65,Ak (by kernel_rfl),gC⟩
theorem o67:BX Tryz.prog ty 67 b67:=Or.inl ⟨Tryz.f67,mj,Tryz.func67,Ak (by kernel_rfl),gE⟩
theorem o68:BX Tryz.prog ty 68 b68:=Or.inl ⟨Tryz.f68,ml,Tryz.func68,Ak (by kernel_rfl),gF⟩
theorem o69:BX Tryz.prog ty 69 b69:=Or.inl ⟨Tryz.f69,mo,Tryz.func69,Ak (by kernel_rfl),gG⟩
theorem o70:BX Tryz.prog ty 70 b70:=Or.inl ⟨Tryz.f70,mq,Tryz.func70,Ak (by kernel_rfl),gH⟩
theorem o71:BX Tryz.prog ty 71 b71:=Or.inl ⟨Tryz.f71,mr,Tryz.func71,Ak (by kernel_rfl),gI⟩
theorem o72:BX Tryz.prog ty 72 b72:=Or.inl ⟨Tryz.f72,mu,Tryz.func72,Ak (by kernel_rfl),gJ⟩
theorem o73:BX Tryz.prog ty 73 b73:=Or.inl ⟨Tryz.f73,mw,Tryz.func73,Ak (by kernel_rfl),gK⟩
theorem o74:BX Tryz.prog ty 74 b74:=Or.inl ⟨Tryz.f74,my,Tryz.func74,Ak (by kernel_rfl),gL⟩
theorem o75:BX Tryz.prog ty 75 b75:=Or.inl ⟨Tryz.f75,mz,Tryz.func75,Ak (by kernel_rfl),gM⟩
theorem o76:BX Tryz.prog ty 76 b76:=Or.inl ⟨Tryz.f76,m8,Tryz.func76,Ak (by kernel_rfl),gN⟩
theorem o77:BX Tryz.prog ty 77 b77:=Or.inl ⟨Tryz.f77,nB,Tryz.func77,Ak (by kernel_rfl),gO⟩
theorem o78:BX Tryz.prog ty 78 b78:=Or.inl ⟨Tryz.f78,nC,Tryz.func78,Ak (by kernel_rfl),gP⟩
theorem o79:BX Tryz.prog ty 79 b79:=Or.inl ⟨Tryz.f79,nE,Tryz.func79,Ak (by kernel_rfl),gQ⟩
theorem o80:BX Tryz.prog ty 80 b80:=Or.inl ⟨Tryz.f80,nF,Tryz.func80,Ak (by kernel_rfl),gR⟩
theorem o81:BX Tryz.prog ty 81 b81:=Or.inl ⟨Tryz.f81,nG,Tryz.func81,Ak (by kernel_rfl),gS⟩
theorem o82:BX Tryz.prog ty 82 b82:=Or.inl ⟨Tryz.f82,nH,Tryz.func82,Ak (by kernel_rfl),gT⟩
theorem o83:BX Tryz.prog ty 83 b83:=Or.inl ⟨Tryz.f83,nI,Tryz.func83,Ak (by kernel_rfl),gU⟩
theorem o84:BX Tryz.prog ty 84 b84:=Or.inl ⟨Tryz.f84,nJ,Tryz.func84,Ak (by kernel_rfl),gV⟩
theorem o85:BX Tryz.prog ty 85 b85:=Or.inl ⟨Tryz.f85,nL,Tryz.func85,Ak (by kernel_rfl),gW⟩
theorem o86:BX Tryz.prog ty 86 b86:=Or.inl ⟨Tryz.f86,nM,Tryz.func86,Ak (by kernel_rfl),gX⟩
theorem o87:BX Tryz.prog ty 87 b87:=Or.inl ⟨Tryz.f87,nN,Tryz.func87,Ak (by kernel_rfl),gY⟩
theorem o88:BX Tryz.prog ty 88 b88:=Or.inl ⟨Tryz.f88,nO,Tryz.func88,Ak (by kernel_rfl),gZ⟩
theorem o89:BX Tryz.prog ty 89 b89:=Or.inl ⟨Tryz.f89,nP,Tryz.func89,Ak (by kernel_rfl),ga⟩
theorem o90:BX Tryz.prog ty 90 b90:=Or.inl ⟨Tryz.f90,nQ,Tryz.func90,Ak (by kernel_rfl),gb⟩
theorem o91:BX Tryz.prog ty 91 b91:=Or.inl ⟨Tryz.f91,nR,Tryz.func91,Ak (by kernel_rfl),gc⟩
theorem o92:BX Tryz.prog ty 92 b92:=Or.inl ⟨Tryz.f92,nS,Tryz.func92,Ak (by kernel_rfl),gd⟩
theorem o95:BX Tryz.prog ty 95 b95:=Or.inl ⟨Tryz.f95,nT,Tryz.func95,Ak (by kernel_rfl),ge⟩
theorem o96:BX Tryz.prog ty 96 b96:=Or.inl ⟨Tryz.f96,nU,Tryz.func96,Ak (by kernel_rfl),gf⟩
theorem o97:BX Tryz.prog ty 97 b97:=Or.inl ⟨Tryz.f97,nV,Tryz.func97,Ak (by kernel_rfl),gh⟩
theorem oF:BX Tryz.prog ty 106 US:=Or.inl ⟨Tryz.f106,d8,Tryz.func106,Ak (by kernel_rfl),ZY⟩
theorem oG:BX Tryz.prog ty 107 UT:=Or.inl ⟨Tryz.f107,eA,Tryz.func107,Ak (by kernel_rfl),ZZ⟩
theorem oH:BX Tryz.prog ty 108 UU:=Or.inl ⟨Tryz.f108,eB,Tryz.func108,Ak (by kernel_rfl),Za⟩
theorem oI:BX Tryz.prog ty 109 UV:=Or.inl ⟨Tryz.f109,eC,Tryz.func109,Ak (by kernel_rfl),Zb⟩
theorem oJ:BX Tryz.prog ty 110 UW:=Or.inl ⟨Tryz.f110,eD,Tryz.func110,Ak (by kernel_rfl),Zc⟩
theorem oK:BX Tryz.prog ty 111 UX:=Or.inl ⟨Tryz.f111,eE,Tryz.func111,Ak (by kernel_rfl),Zd⟩
theorem oL:BX Tryz.prog ty 112 UY:=Or.inl ⟨Tryz.f112,eF,Tryz.func112,Ak (by kernel_rfl),Ze⟩
theorem oM:BX Tryz.prog ty 119 UZ:=Or.inl ⟨Tryz.f119,eG,Tryz.func119,Ak (by kernel_rfl),Zf⟩
theorem oN:BX Tryz.prog ty 125 Ua:=Or.inl ⟨Tryz.f125,eH,Tryz.func125,Ak (by kernel_rfl),Zg⟩
theorem Au(i:Nat):BX Tryz.prog ty i As:=Or.inr (.inl rfl)
set_option maxRecDepth 100000 in
def F3:FT:=(.nd As (.nd As (.nd As (.nd As (.nd As (.nd As (.nd b63 (.nd As .mt .mt) .mt) (.nd b95 .mt .mt)) (.nd b47 (.nd b79 (.nd As .mt .mt) .mt) (.nd UX .mt .mt))) (.nd As (.nd b39 (.nd b71 (.nd As .mt .mt) .mt) (.nd As .mt .mt)) (.nd b55 (.nd b87 .mt .mt) (.nd UZ .mt .mt)))) (.nd b11 (.nd b19 (.nd b35 (.nd b67 (.nd As .mt .mt) .mt) (.nd As .mt .mt)) (.nd b51 (.nd b83 (.nd As .mt .mt) .mt) (.nd As .mt .mt))) (.nd b27 (.nd b43 (.nd b75 (.nd As .mt .mt) .mt) (.nd UT .mt .mt)) (.nd b59 (.nd b91 .mt .mt) (.nd As .mt .mt))))) (.nd b5 (.nd b9 (.nd b17 (.nd As (.nd b65 (.nd As .mt .mt) .mt) (.nd b97 .mt .mt)) (.nd b49 (.nd b81 (.nd As .mt .mt) .mt) (.nd As .mt .mt))) (.nd b25 (.nd b41 (.nd b73 (.nd As .mt .mt) .mt) (.nd As .mt .mt)) (.nd b57 (.nd b89 .mt .mt) (.nd As .mt .mt)))) (.nd As (.nd b21 (.nd b37 (.nd b69 (.nd As .mt .mt) .mt) (.nd As .mt .mt)) (.nd b53 (.nd b85 .mt .mt) (.nd As .mt .mt))) (.nd b29 (.nd b45 (.nd b77 (.nd As .mt .mt) .mt) (.nd UV .mt .mt)) (.nd b61 (.nd As .mt .mt) (.nd Ua .mt .mt)))))) (.nd As (.nd As (.nd b8 (.nd b16 (.nd b32 (.nd b64 (.nd As .mt .mt) .mt) (.nd b96 .mt .mt)) (.nd b48 (.nd b80 (.nd As .mt .mt) .mt) (.nd UY .mt .mt))) (.nd b24 (.nd b40 (.nd b72 (.nd As .mt .mt) .mt) (.nd As .mt .mt)) (.nd b56 (.nd b88 .mt .mt) (.nd As .mt .mt)))) (.nd b12 (.nd b20 (.nd b36 (.nd b68 (.nd As .mt .mt) .mt) (.nd As .mt .mt)) (.nd b52 (.nd b84 (.nd As .mt .mt) .mt) (.nd As .mt .mt))) (.nd b28 (.nd b44 (.nd b76 (.nd As .mt .mt) .mt) (.nd UU .mt .mt)) (.nd b60 (.nd b92 .mt .mt) (.nd As .mt .mt))))) (.nd As (.nd b10 (.nd As (.nd As (.nd bS (.nd As .mt .mt) .mt) (.nd As .mt .mt)) (.nd b50 (.nd b82 (.nd As .mt .mt) .mt) (.nd As .mt .mt))) (.nd b26 (.nd b42 (.nd b74 (.nd As .mt .mt) .mt) (.nd US .mt .mt)) (.nd b58 (.nd b90 .mt .mt) (.nd As .mt .mt)))) (.nd As (.nd b22 (.nd b38 (.nd b70 (.nd As .mt .mt) .mt) (.nd As .mt .mt)) (.nd b54 (.nd b86 .mt .mt) (.nd As .mt .mt))) (.nd b30 (.nd b46 (.nd b78 (.nd As .mt .mt) .mt) (.nd UW .mt .mt)) (.nd b62 (.nd As .mt .mt) (.nd As .mt .mt)))))))
set_option maxRecDepth 100000 in
theorem Q5:FT.All (BX Tryz.prog ty) F3 id:=⟨Au _,⟨Au _,⟨Au _,⟨Au _,⟨Au _,⟨Au _,⟨o63,⟨Au _,trivial,trivial⟩,trivial⟩,⟨o95,trivial,trivial⟩⟩,⟨o47,⟨o79,⟨Au _,trivial,trivial⟩,trivial⟩,⟨oK,trivial,trivial⟩⟩⟩,⟨Au _,⟨o39,⟨o71,⟨Au _,trivial,trivial⟩,trivial⟩,⟨Au _,trivial,trivial⟩⟩,⟨o55,⟨o87,trivial,trivial⟩,⟨oM,trivial,trivial⟩⟩⟩⟩,⟨o11,⟨o19,⟨o35,⟨o67,⟨Au _,trivial,trivial⟩,trivial⟩,⟨Au _,trivial,trivial⟩⟩,⟨o51,⟨o83,⟨Au _,trivial,trivial⟩,trivial⟩,⟨Au _,trivial,trivial⟩⟩⟩,⟨o27,⟨o43,⟨o75,⟨Au _,trivial,trivial⟩,trivial⟩,⟨oG,trivial,trivial⟩⟩,⟨o59,⟨o91,trivial,trivial⟩,⟨Au _,trivial,trivial⟩⟩⟩⟩⟩,⟨o5,⟨o9,⟨o17,⟨Au _,⟨o65,⟨Au _,trivial,trivial⟩,trivial⟩,⟨o97,trivial,trivial⟩⟩,⟨o49,⟨o81,⟨Au _,trivial,trivial⟩,trivial⟩,⟨Au _,trivial,trivial⟩⟩⟩,⟨o25,⟨o41,⟨o73,⟨Au _,trivial,trivial⟩,trivial⟩,⟨Au _,trivial,trivial⟩⟩,⟨o57,⟨o89,trivial,trivial⟩,⟨Au _,trivial,trivial⟩⟩⟩⟩,⟨Au _,⟨o21,⟨o37,⟨o69,⟨Au _,trivial,trivial⟩,trivial⟩,⟨Au _,trivial,trivial⟩⟩,⟨o53,⟨o85,trivial,trivial⟩,⟨Au _,trivial,trivial⟩⟩⟩,⟨o29,⟨o45,⟨o77,⟨Au _,trivial,trivial⟩,trivial⟩,⟨oI,trivial,trivial⟩⟩,⟨o61,⟨Au _,trivial,trivial⟩,⟨oN,trivial,trivial⟩⟩⟩⟩⟩⟩,⟨Au _,⟨Au _,⟨o8,⟨o16,⟨o32,⟨o64,⟨Au _,trivial,trivial⟩,trivial⟩,⟨o96,trivial,trivial⟩⟩,⟨o48,⟨o80,⟨Au _,trivial,trivial⟩,trivial⟩,⟨oL,trivial,trivial⟩⟩⟩,⟨o24,⟨o40,⟨o72,⟨Au _,trivial,trivial⟩,trivial⟩,⟨Au _,trivial,trivial⟩⟩,⟨o56,⟨o88,trivial,trivial⟩,⟨Au _,trivial,trivial⟩⟩⟩⟩,⟨o12,⟨o20,⟨o36,⟨o68,⟨Au _,trivial,trivial⟩,trivial⟩,⟨Au _,trivial,trivial⟩⟩,⟨o52,⟨o84,⟨Au _,trivial,trivial⟩,trivial⟩,⟨Au _,trivial,trivial⟩⟩⟩,⟨o28,⟨o44,⟨o76,⟨Au _,trivial,trivial⟩,trivial⟩,⟨oH,trivial,trivial⟩⟩,⟨o60,⟨o92,trivial,trivial⟩,⟨Au _,trivial,trivial⟩⟩⟩⟩⟩,⟨Au _,⟨o10,⟨Au _,⟨Au _,⟨oS,⟨Au _,trivial,trivial⟩,trivial⟩,⟨Au _,trivial,trivial⟩⟩,⟨o50,⟨o82,⟨Au _,trivial,trivial⟩,trivial⟩,⟨Au _,trivial,trivial⟩⟩⟩,⟨o26,⟨o42,⟨o74,⟨Au _,trivial,trivial⟩,trivial⟩,⟨oF,trivial,trivial⟩⟩,⟨o58,⟨o90,trivial,trivial⟩,⟨Au _,trivial,trivial⟩⟩⟩⟩,⟨Au _,⟨o22,⟨o38,⟨o70,⟨Au _,trivial,trivial⟩,trivial⟩,⟨Au _,trivial,trivial⟩⟩,⟨o54,⟨o86,trivial,trivial⟩,⟨Au _,trivial,trivial⟩⟩⟩,⟨o30,⟨o46,⟨o78,⟨Au _,trivial,trivial⟩,trivial⟩,⟨oJ,trivial,trivial⟩⟩,⟨o62,⟨Au _,trivial,trivial⟩,⟨Au _,trivial,trivial⟩⟩⟩⟩⟩⟩⟩
theorem eP:Cc Tryz.prog ty:=lG (by kernel_rfl) (by kernel_rfl)
theorem Ma(n:Nat):C0 Tryz.prog ty (call F3 n):=IH eP (by kernel_rfl) Q5 n
end
noncomputable section
open Go
set_option maxHeartbeats 0 in
theorem UR:YL (call F3 64 8 [] He)=true:=by kernel_rfl
theorem Q2:Hg Tryz.prog ty 8 JB:=Vr ⟨Tryz.f8,Tryz.func8,Ak (by kernel_rfl),by kernel_rfl⟩ (Yp Ma UR)
theorem oA:BX Tryz.prog ty 8 JB:=Or.inr (.inr Q2)
open Go.RowKit Go.WideShapes Go.ChangeShapes
set_option maxRecDepth 100000
def eO(L:List Value)(args:List Value)(h:Hp):R:=match args with
 |[]=>.ok (.agg ⟨L⟩) h
 |_::_=>.no
def MY(L:List Value):Body:=⟨[.x (fun _=>eO L)],cNo⟩
def isW:Value→Bool
 |.int .u32 n=>decide (0≤n) && decide (n<4294967296)
 |_=>false
def YK:R→Bool
 |.ok (.agg ⟨l⟩) _=>l.all isW && Nat.beq l.length 256
 |_=>false
def kH:R→List Value
 |.ok (.agg ⟨l⟩) _=>l
 |_=>[]
def MG:List Value:=kH (call F3 64 9 [] He)
set_option maxHeartbeats 0 in
theorem de:YK (call F3 64 9 [] He)=true:=by kernel_rfl
theorem Ny{v:Value}(h:isW v=true):∃ n:Nat,v=.int .u32 (n:Int)∧n<4294967296:=by
 unfold isW at h
 split at h
 ·rename_i n
  simp only[Bool.and_eq_true,decide_eq_true_eq]at h
  obtain⟨m,rfl⟩:=Int.eq_ofNat_of_zero_le h.1
  exact⟨m,rfl,by omega⟩
 ·cases h
theorem SW:∃ h',call F3 64 9 [] He=.ok (.agg ⟨MG⟩) h'∧MG.length=256∧∀ v∈MG,isW v=true:=by
 have h:=de
 unfold MG
 generalize call F3 64 9 [] He=r at h
 unfold YK at h
 split at h
 ·rename_i l h'
  simp only[Bool.and_eq_true,List.all_eq_true]at h
  exact⟨h',rfl,Nat.eq_of_beq_eq_true h.2,h.1⟩
 ·cases h
theorem Pr{φ:Phi}:∀ {L L':List Value},RelL φ L L'→(∀ v∈L,isW v=true)→L'=L
 |_,_,.nil,_=>rfl
 |_,_,.cons (v:=v) h t,hL=>by
  rw[Pr t fun x hx=>hL x (List.mem_cons_of_mem _ hx)]
  obtain⟨n,rfl,_⟩:=Ny (hL v List.mem_cons_self)
  cases h;rfl
theorem Ps(φ:Phi):∀ {L:List Value},(∀ v∈L,isW v=true)→RelL φ L L
 |[],_=>.nil
 |v::L,h=>by
  obtain⟨n,rfl,_⟩:=Ny (h v List.mem_cons_self)
  exact .cons (.int _ _) (Ps φ fun x hx=>h x (List.mem_cons_of_mem _ hx))
theorem Vq(w:World):Calls Tryz.prog 9 #[] w fun e w'=>e=.returned (.agg ⟨MG⟩)∧Below w.heap.size w w':=by
 obtain⟨h',hr,_,hw⟩:=SW
 obtain⟨_,hc⟩:=Ma _ 9 [] He _ h' hr
 refine(hc kZ w [] .nil (NQ ty w)).mono fun e w' ⟨v',ψ,he,hv,_,ev⟩=>?_
 cases hv with
 |agg hl=>
  rw[Pr hl hw]at he
  exact⟨he,⟨ev.os,ev.tape,ev.output,ev.size,fun k hk=>ev.frame k hk fun i p hp=>by cases hp⟩⟩
theorem U9{P:Program}{ty:TTy}{f:Nat}{L:List Value}(hL:∀ v∈L,isW v=true)(hS:∃ fn,P.funcs[f]? =some fn∧fn.name≠"runtime.NumGoroutine" ∧fn.body.isNone=false)(hc:∀ w:World,Calls P f #[] w fun e w'=>e=.returned (.agg ⟨L⟩)∧Below w.heap.size w w'):Hg P ty f (MY L):=fun F args h v h' _ hr=>⟨hS,fun φ w args' hrel H=>by
 have hr:eO L args h=.ok v h':=hr
 cases args with
 |cons a l=>cases hr
 |nil=>
  cases hr
  cases hrel
  exact(hc w).mono fun e w' ⟨he,hb⟩=>⟨_,φ,he,.agg (Ps φ hL),(GG H hb).1,(GG H hb).2⟩⟩
theorem Y8:Hg Tryz.prog ty 9 (MY MG):=U9 (SW.choose_spec.2.2) ⟨Tryz.f9,Tryz.func9,Ak (by kernel_rfl),by kernel_rfl⟩ Vq
theorem oT:BX Tryz.prog ty 9 (MY MG):=Or.inr (.inr Y8)
theorem Ug{bs:FT}{n f:Nat}{L:List Value}(hb:bs.get f=some (MY L)){h:Hp}:call bs (Nat.succ n) f [] h=.ok (.agg ⟨L⟩) h:=by
 rw[An hb];rfl
end
noncomputable section
open Go
set_option maxRecDepth 100000 in
def AF:FT:=(.nd As (.nd As (.nd As (.nd As (.nd As (.nd As (.nd b63 (.nd As .mt .mt) .mt) (.nd b95 .mt .mt)) (.nd b47 (.nd b79 (.nd As .mt .mt) .mt) (.nd UX .mt .mt))) (.nd As (.nd b39 (.nd b71 (.nd As .mt .mt) .mt) (.nd As .mt .mt)) (.nd b55 (.nd b87 .mt .mt) (.nd UZ .mt .mt)))) (.nd b11 (.nd b19 (.nd b35 (.nd b67 (.nd As .mt .mt) .mt) (.nd As .mt .mt)) (.nd b51 (.nd b83 (.nd As .mt .mt) .mt) (.nd As .mt .mt))) (.nd b27 (.nd b43 (.nd b75 (.nd As .mt .mt) .mt) (.nd UT .mt .mt)) (.nd b59 (.nd b91 .mt .mt) (.nd As .mt .mt))))) (.nd b5 (.nd (MY MG) (.nd b17 (.nd As (.nd b65 (.nd As .mt .mt) .mt) (.nd b97 .mt .mt)) (.nd b49 (.nd b81 (.nd As .mt .mt) .mt) (.nd As .mt .mt))) (.nd b25 (.nd b41 (.nd b73 (.nd As .mt .mt) .mt) (.nd As .mt .mt)) (.nd b57 (.nd b89 .mt .mt) (.nd As .mt .mt)))) (.nd As (.nd b21 (.nd b37 (.nd b69 (.nd As .mt .mt) .mt) (.nd As .mt .mt)) (.nd b53 (.nd b85 .mt .mt) (.nd As .mt .mt))) (.nd b29 (.nd b45 (.nd b77 (.nd As .mt .mt) .mt) (.nd UV .mt .mt)) (.nd b61 (.nd As .mt .mt) (.nd Ua .mt .mt)))))) (.nd As (.nd As (.nd JB (.nd b16 (.nd b32 (.nd b64 (.nd As .mt .mt) .mt) (.nd b96 .mt .mt)) (.nd b48 (.nd b80 (.nd As .mt .mt) .mt) (.nd UY .mt .mt))) (.nd b24 (.nd b40 (.nd b72 (.nd As .mt .mt) .mt) (.nd As .mt .mt)) (.nd b56 (.nd b88 .mt .mt) (.nd As .mt .mt)))) (.nd b12 (.nd b20 (.nd b36 (.nd b68 (.nd As .mt .mt) .mt) (.nd As .mt .mt)) (.nd b52 (.nd b84 (.nd As .mt .mt) .mt) (.nd As .mt .mt))) (.nd b28 (.nd b44 (.nd b76 (.nd As .mt .mt) .mt) (.nd UU .mt .mt)) (.nd b60 (.nd b92 .mt .mt) (.nd As .mt .mt))))) (.nd As (.nd b10 (.nd As (.nd As (.nd bS (.nd As .mt .mt) .mt) (.nd As .mt .mt)) (.nd b50 (.nd b82 (.nd As .mt .mt) .mt) (.nd As .mt .mt))) (.nd b26 (.nd b42 (.nd b74 (.nd As .mt .mt) .mt) (.nd US .mt .mt)) (.nd b58 (.nd b90 .mt .mt) (.nd As .mt .mt)))) (.nd As (.nd b22 (.nd b38 (.nd b70 (.nd As .mt .mt) .mt) (.nd As .mt .mt)) (.nd b54 (.nd b86 .mt .mt) (.nd As .mt .mt))) (.nd b30 (.nd b46 (.nd b78 (.nd As .mt .mt) .mt) (.nd UW .mt .mt)) (.nd b62 (.nd As .mt .mt) (.nd As .mt .mt)))))))
set_option maxRecDepth 100000 in
theorem Ud:FT.All (BX Tryz.prog ty) AF id:=⟨Au _,⟨Au _,⟨Au _,⟨Au _,⟨Au _,⟨Au _,⟨o63,⟨Au _,trivial,trivial⟩,trivial⟩,⟨o95,trivial,trivial⟩⟩,⟨o47,⟨o79,⟨Au _,trivial,trivial⟩,trivial⟩,⟨oK,trivial,trivial⟩⟩⟩,⟨Au _,⟨o39,⟨o71,⟨Au _,trivial,trivial⟩,trivial⟩,⟨Au _,trivial,trivial⟩⟩,⟨o55,⟨o87,trivial,trivial⟩,⟨oM,trivial,trivial⟩⟩⟩⟩,⟨o11,⟨o19,⟨o35,⟨o67,⟨Au _,trivial,trivial⟩,trivial⟩,⟨Au _,trivial,trivial⟩⟩,⟨o51,⟨o83,⟨Au _,trivial,trivial⟩,trivial⟩,⟨Au _,trivial,trivial⟩⟩⟩,⟨o27,⟨o43,⟨o75,⟨Au _,trivial,trivial⟩,trivial⟩,⟨oG,trivial,trivial⟩⟩,⟨o59,⟨o91,trivial,trivial⟩,⟨Au _,trivial,trivial⟩⟩⟩⟩⟩,⟨o5,⟨oT,⟨o17,⟨Au _,⟨o65,⟨Au _,trivial,trivial⟩,trivial⟩,⟨o97,trivial,trivial⟩⟩,⟨o49,⟨o81,⟨Au _,trivial,trivial⟩,trivial⟩,⟨Au _,trivial,trivial⟩⟩⟩,⟨o25,⟨o41,⟨o73,⟨Au _,trivial,trivial⟩,trivial⟩,⟨Au _,trivial,trivial⟩⟩,⟨o57,⟨o89,trivial,trivial⟩,⟨Au _,trivial,trivial⟩⟩⟩⟩,⟨Au _,⟨o21,⟨o37,⟨o69,⟨Au _,trivial,trivial⟩,trivial⟩,⟨Au _,trivial,trivial⟩⟩,⟨o53,⟨o85,trivial,trivial⟩,⟨Au _,trivial,trivial⟩⟩⟩,⟨o29,⟨o45,⟨o77,⟨Au _,trivial,trivial⟩,trivial⟩,⟨oI,trivial,trivial⟩⟩,⟨o61,⟨Au _,trivial,trivial⟩,⟨oN,trivial,trivial⟩⟩⟩⟩⟩⟩,⟨Au _,⟨Au _,⟨oA,⟨o16,⟨o32,⟨o64,⟨Au _,trivial,trivial⟩,trivial⟩,⟨o96,trivial,trivial⟩⟩,⟨o48,⟨o80,⟨Au _,trivial,trivial⟩,trivial⟩,⟨oL,trivial,trivial⟩⟩⟩,⟨o24,⟨o40,⟨o72,⟨Au _,trivial,trivial⟩,trivial⟩,⟨Au _,trivial,trivial⟩⟩,⟨o56,⟨o88,trivial,trivial⟩,⟨Au _,trivial,trivial⟩⟩⟩⟩,⟨o12,⟨o20,⟨o36,⟨o68,⟨Au _,trivial,trivial⟩,trivial⟩,⟨Au _,trivial,trivial⟩⟩,⟨o52,⟨o84,⟨Au _,trivial,trivial⟩,trivial⟩,⟨Au _,trivial,trivial⟩⟩⟩,⟨o28,⟨o44,⟨o76,⟨Au _,trivial,trivial⟩,trivial⟩,⟨oH,trivial,trivial⟩⟩,⟨o60,⟨o92,trivial,trivial⟩,⟨Au _,trivial,trivial⟩⟩⟩⟩⟩,⟨Au _,⟨o10,⟨Au _,⟨Au _,⟨oS,⟨Au _,trivial,trivial⟩,trivial⟩,⟨Au _,trivial,trivial⟩⟩,⟨o50,⟨o82,⟨Au _,trivial,trivial⟩,trivial⟩,⟨Au _,trivial,trivial⟩⟩⟩,⟨o26,⟨o42,⟨o74,⟨Au _,trivial,trivial⟩,trivial⟩,⟨oF,trivial,trivial⟩⟩,⟨o58,⟨o90,trivial,trivial⟩,⟨Au _,trivial,trivial⟩⟩⟩⟩,⟨Au _,⟨o22,⟨o38,⟨o70,⟨Au _,trivial,trivial⟩,trivial⟩,⟨Au _,trivial,trivial⟩⟩,⟨o54,⟨o86,trivial,trivial⟩,⟨Au _,trivial,trivial⟩⟩⟩,⟨o30,⟨o46,⟨o78,⟨Au _,trivial,trivial⟩,trivial⟩,⟨oJ,trivial,trivial⟩⟩,⟨o62,⟨Au _,trivial,trivial⟩,⟨Au _,trivial,trivial⟩⟩⟩⟩⟩⟩⟩
theorem Wg(n:Nat):C0 Tryz.prog ty (call AF n):=IH eP (by kernel_rfl) Ud n
theorem WH:AF.get 8=some JB:=by kernel_rfl
theorem Y9:AF.get 9=some (MY MG):=by kernel_rfl
end
noncomputable section
open Go
set_option maxRecDepth 100000
theorem na{n:Nat}{args:List Value}{h:Hp}(hl:Nat.ble (BB args) 160=true):call AF (Nat.succ n) 5 args h=A4 [.t (AB 2)] (d5 (call AF n) (AV e0 0 args) h):=by
 have hb:AF.get 5=some b5:=by kernel_rfl
 rw[An hb]
 have hd:b5=⟨[.t (AB 2)],d5⟩:=by kernel_rfl
 rw[hd,Ae hl]
theorem gq{n:Nat}{args:List Value}{h:Hp}(hl:Nat.ble (BB args) 160=true):call AF (Nat.succ n) 10 args h=A4 [.t (AB 4),.t (AB 5),.t (AB 6)] (d10 (call AF n) (AV e0 0 args) h):=by
 have hb:AF.get 10=some b10:=by kernel_rfl
 rw[An hb]
 have hd:b10=⟨[.t (AB 4),.t (AB 5),.t (AB 6)],d10⟩:=by kernel_rfl
 rw[hd,Ae hl]
theorem Hl{n:Nat}{args:List Value}{h:Hp}(hl:Nat.ble (BB args) 160=true):call AF (Nat.succ n) 11 args h=A4 [.t (AB 10)] (d11 (call AF n) (AV e0 0 args) h):=by
 have hb:AF.get 11=some b11:=by kernel_rfl
 rw[An hb]
 have hd:b11=⟨[.t (AB 10)],d11⟩:=by kernel_rfl
 rw[hd,Ae hl]
theorem Ky{n:Nat}{args:List Value}{h:Hp}(hl:Nat.ble (BB args) 160=true):call AF (Nat.succ n) 12 args h=A4 [.t (AB 8)] (d12 (call AF n) (AV e0 0 args) h):=by
 have hb:AF.get 12=some b12:=by kernel_rfl
 rw[An hb]
 have hd:b12=⟨[.t (AB 8)],d12⟩:=by kernel_rfl
 rw[hd,Ae hl]
theorem gt{n:Nat}{args:List Value}{h:Hp}(hl:Nat.ble (BB args) 160=true):call AF (Nat.succ n) 16 args h=A4 [.t (AB 6),.t (AB 7)] (d16 (call AF n) (AV e0 0 args) h):=by
 have hb:AF.get 16=some b16:=by kernel_rfl
 rw[An hb]
 have hd:b16=⟨[.t (AB 6),.t (AB 7)],d16⟩:=by kernel_rfl
 rw[hd,Ae hl]
theorem gu{n:Nat}{args:List Value}{h:Hp}(hl:Nat.ble (BB args) 160=true):call AF (Nat.succ n) 20 args h=A4 [.t (AB 2)] (d20 (call AF n) (AV e0 0 args) h):=by
 have hb:AF.get 20=some b20:=by kernel_rfl
 rw[An hb]
 have hd:b20=⟨[.t (AB 2)],d20⟩:=by kernel_rfl
 rw[hd,Ae hl]
theorem gv{n:Nat}{args:List Value}{h:Hp}(hl:Nat.ble (BB args) 160=true):call AF (Nat.succ n) 21 args h=A4 [.t (AB 2)] (d21 (call AF n) (AV e0 0 args) h):=by
 have hb:AF.get 21=some b21:=by kernel_rfl
 rw[An hb]
 have hd:b21=⟨[.t (AB 2)],d21⟩:=by kernel_rfl
 rw[hd,Ae hl]
theorem Kz{n:Nat}{args:List Value}{h:Hp}(hl:Nat.ble (BB args) 160=true):call AF (Nat.succ n) 22 args h=A4 [.t (AB 4)] (d22 (call AF n) (AV e0 0 args) h):=by
 have hb:AF.get 22=some b22:=by kernel_rfl
 rw[An hb]
 have hd:b22=⟨[.t (AB 4)],d22⟩:=by kernel_rfl
 rw[hd,Ae hl]
theorem gx{n:Nat}{args:List Value}{h:Hp}(hl:Nat.ble (BB args) 160=true):call AF (Nat.succ n) 24 args h=A4 [.t (AB 4)] (d24 (call AF n) (AV e0 0 args) h):=by
 have hb:AF.get 24=some b24:=by kernel_rfl
 rw[An hb]
 have hd:b24=⟨[.t (AB 4)],d24⟩:=by kernel_rfl
 rw[hd,Ae hl]
theorem gy{n:Nat}{args:List Value}{h:Hp}(hl:Nat.ble (BB args) 160=true):call AF (Nat.succ n) 25 args h=A4 [.t (AB 4)] (d25 (call AF n) (AV e0 0 args) h):=by
 have hb:AF.get 25=some b25:=by kernel_rfl
 rw[An hb]
 have hd:b25=⟨[.t (AB 4)],d25⟩:=by kernel_rfl
 rw[hd,Ae hl]
theorem gz{n:Nat}{args:List Value}{h:Hp}(hl:Nat.ble (BB args) 160=true):call AF (Nat.succ n) 26 args h=A4 [] (d26 (call AF n) (AV e0 0 args) h):=by
 have hb:AF.get 26=some b26:=by kernel_rfl
 rw[An hb]
 have hd:b26=⟨[],d26⟩:=by kernel_rfl
 rw[hd,Ae hl]
theorem hJ{n:Nat}{args:List Value}{h:Hp}(hl:Nat.ble (BB args) 160=true):call AF (Nat.succ n) 27 args h=A4 [.t (AB 2)] (d27 (call AF n) (AV e0 0 args) h):=by
 have hb:AF.get 27=some b27:=by kernel_rfl
 rw[An hb]
 have hd:b27=⟨[.t (AB 2)],d27⟩:=by kernel_rfl
 rw[hd,Ae hl]
theorem Q8{n:Nat}{args:List Value}{h:Hp}(hl:Nat.ble (BB args) 160=true):call AF (Nat.succ n) 29 args h=A4 [.t (AB 8)] (d29 (call AF n) (AV e0 0 args) h):=by
 have hb:AF.get 29=some b29:=by kernel_rfl
 rw[An hb]
 have hd:b29=⟨[.t (AB 8)],d29⟩:=by kernel_rfl
 rw[hd,Ae hl]
theorem iA{n:Nat}{args:List Value}{h:Hp}(hl:Nat.ble (BB args) 160=true):call AF (Nat.succ n) 30 args h=A4 [.t (AB 8)] (d30 (call AF n) (AV e0 0 args) h):=by
 have hb:AF.get 30=some b30:=by kernel_rfl
 rw[An hb]
 have hd:b30=⟨[.t (AB 8)],d30⟩:=by kernel_rfl
 rw[hd,Ae hl]
theorem iB{n:Nat}{args:List Value}{h:Hp}(hl:Nat.ble (BB args) 160=true):call AF (Nat.succ n) 32 args h=A4 [.t (AB 4)] (d32 (call AF n) (AV e0 0 args) h):=by
 have hb:AF.get 32=some b32:=by kernel_rfl
 rw[An hb]
 have hd:b32=⟨[.t (AB 4)],d32⟩:=by kernel_rfl
 rw[hd,Ae hl]
theorem iC{n:Nat}{args:List Value}{h:Hp}(hl:Nat.ble (BB args) 160=true):call AF (Nat.succ n) 35 args h=A4 [.t (AB 2),.t (AB 3)] (d35 (call AF n) (AV e0 0 args) h):=by
 have hb:AF.get 35=some b35:=by kernel_rfl
 rw[An hb]
 have hd:b35=⟨[.t (AB 2),.t (AB 3)],d35⟩:=by kernel_rfl
 rw[hd,Ae hl]
theorem iD{n:Nat}{args:List Value}{h:Hp}(hl:Nat.ble (BB args) 160=true):call AF (Nat.succ n) 38 args h=A4 [.t (AB 2)] (d38 (call AF n) (AV e0 0 args) h):=by
 have hb:AF.get 38=some b38:=by kernel_rfl
 rw[An hb]
 have hd:b38=⟨[.t (AB 2)],d38⟩:=by kernel_rfl
 rw[hd,Ae hl]
theorem Hm{n:Nat}{args:List Value}{h:Hp}(hl:Nat.ble (BB args) 160=true):call AF (Nat.succ n) 39 args h=A4 [.t (AB 2)] (d39 (call AF n) (AV e0 0 args) h):=by
 have hb:AF.get 39=some b39:=by kernel_rfl
 rw[An hb]
 have hd:b39=⟨[.t (AB 2)],d39⟩:=by kernel_rfl
 rw[hd,Ae hl]
theorem iE{n:Nat}{args:List Value}{h:Hp}(hl:Nat.ble (BB args) 160=true):call AF (Nat.succ n) 40 args h=A4 [.t (AB 2)] (d40 (call AF n) (AV e0 0 args) h):=by
 have hb:AF.get 40=some b40:=by kernel_rfl
 rw[An hb]
 have hd:b40=⟨[.t (AB 2)],d40⟩:=by kernel_rfl
 rw[hd,Ae hl]
theorem iF{n:Nat}{args:List Value}{h:Hp}(hl:Nat.ble (BB args) 160=true):call AF (Nat.succ n) 41 args h=A4 [.t (AB 8)] (d41 (call AF n) (AV e0 0 args) h):=by
 have hb:AF.get 41=some b41:=by kernel_rfl
 rw[An hb]
 have hd:b41=⟨[.t (AB 8)],d41⟩:=by kernel_rfl
 rw[hd,Ae hl]
theorem Q9{n:Nat}{args:List Value}{h:Hp}(hl:Nat.ble (BB args) 160=true):call AF (Nat.succ n) 42 args h=A4 [.t (AB 4)] (d42 (call AF n) (AV e0 0 args) h):=by
 have hb:AF.get 42=some b42:=by kernel_rfl
 rw[An hb]
 have hd:b42=⟨[.t (AB 4)],d42⟩:=by kernel_rfl
 rw[hd,Ae hl]
theorem iG{n:Nat}{args:List Value}{h:Hp}(hl:Nat.ble (BB args) 160=true):call AF (Nat.succ n) 43 args h=A4 [.t (AB 8)] (d43 (call AF n) (AV e0 0 args) h):=by
 have hb:AF.get 43=some b43:=by kernel_rfl
 rw[An hb]
 have hd:b43=⟨[.t (AB 8)],d43⟩:=by kernel_rfl
 rw[hd,Ae hl]
theorem WX{n:Nat}{args:List Value}{h:Hp}(hl:Nat.ble (BB args) 160=true):call AF (Nat.succ n) 44 args h=A4 [.t (AB 4),.t (AB 5)] (d44 (call AF n) (AV e0 0 args) h):=by
 have hb:AF.get 44=some b44:=by kernel_rfl
 rw[An hb]
 have hd:b44=⟨[.t (AB 4),.t (AB 5)],d44⟩:=by kernel_rfl
 rw[hd,Ae hl]
theorem iH{n:Nat}{args:List Value}{h:Hp}(hl:Nat.ble (BB args) 160=true):call AF (Nat.succ n) 45 args h=A4 [.t (AB 6)] (d45 (call AF n) (AV e0 0 args) h):=by
 have hb:AF.get 45=some b45:=by kernel_rfl
 rw[An hb]
 have hd:b45=⟨[.t (AB 6)],d45⟩:=by kernel_rfl
 rw[hd,Ae hl]
theorem iI{n:Nat}{args:List Value}{h:Hp}(hl:Nat.ble (BB args) 160=true):call AF (Nat.succ n) 46 args h=A4 [.t (AB 4)] (d46 (call AF n) (AV e0 0 args) h):=by
 have hb:AF.get 46=some b46:=by kernel_rfl
 rw[An hb]
 have hd:b46=⟨[.t (AB 4)],d46⟩:=by kernel_rfl
 rw[hd,Ae hl]
theorem iJ{n:Nat}{args:List Value}{h:Hp}(hl:Nat.ble (BB args) 160=true):call AF (Nat.succ n) 47 args h=A4 [.t (AB 4)] (d47 (call AF n) (AV e0 0 args) h):=by
 have hb:AF.get 47=some b47:=by kernel_rfl
 rw[An hb]
 have hd:b47=⟨[.t (AB 4)],d47⟩:=by kernel_rfl
 rw[hd,Ae hl]
theorem JH{n:Nat}{args:List Value}{h:Hp}(hl:Nat.ble (BB args) 160=true):call AF (Nat.succ n) 48 args h=A4 [.t (AB 2)] (d48 (call AF n) (AV e0 0 args) h):=by
 have hb:AF.get 48=some b48:=by kernel_rfl
 rw[An hb]
 have hd:b48=⟨[.t (AB 2)],d48⟩:=by kernel_rfl
 rw[hd,Ae hl]
theorem RA{n:Nat}{args:List Value}{h:Hp}(hl:Nat.ble (BB args) 160=true):call AF (Nat.succ n) 49 args h=A4 [.t (AB 2)] (d49 (call AF n) (AV e0 0 args) h):=by
 have hb:AF.get 49=some b49:=by kernel_rfl
 rw[An hb]
 have hd:b49=⟨[.t (AB 2)],d49⟩:=by kernel_rfl
 rw[hd,Ae hl]
theorem WY{n:Nat}{args:List Value}{h:Hp}(hl:Nat.ble (BB args) 160=true):call AF (Nat.succ n) 50 args h=A4 [] (d50 (call AF n) (AV e0 0 args) h):=by
 have hb:AF.get 50=some b50:=by kernel_rfl
 rw[An hb]
 have hd:b50=⟨[],d50⟩:=by kernel_rfl
 rw[hd,Ae hl]
theorem iK{n:Nat}{args:List Value}{h:Hp}(hl:Nat.ble (BB args) 160=true):call AF (Nat.succ n) 51 args h=A4 [.t (AB 4)] (d51 (call AF n) (AV e0 0 args) h):=by
 have hb:AF.get 51=some b51:=by kernel_rfl
 rw[An hb]
 have hd:b51=⟨[.t (AB 4)],d51⟩:=by kernel_rfl
 rw[hd,Ae hl]
theorem iL{n:Nat}{args:List Value}{h:Hp}(hl:Nat.ble (BB args) 160=true):call AF (Nat.succ n) 52 args h=A4 [.t (AB 4)] (d52 (call AF n) (AV e0 0 args) h):=by
 have hb:AF.get 52=some b52:=by kernel_rfl
 rw[An hb]
 have hd:b52=⟨[.t (AB 4)],d52⟩:=by kernel_rfl
 rw[hd,Ae hl]
theorem WZ{n:Nat}{args:List Value}{h:Hp}(hl:Nat.ble (BB args) 160=true):call AF (Nat.succ n) 53 args h=A4 [.t (AB 4)] (d53 (call AF n) (AV e0 0 args) h):=by
 have hb:AF.get 53=some b53:=by kernel_rfl
 rw[An hb]
 have hd:b53=⟨[.t (AB 4)],d53⟩:=by kernel_rfl
 rw[hd,Ae hl]
theorem iM{n:Nat}{args:List Value}{h:Hp}(hl:Nat.ble (BB args) 160=true):call AF (Nat.succ n) 54 args h=A4 [.t (AB 2)] (d54 (call AF n) (AV e0 0 args) h):=by
 have hb:AF.get 54=some b54:=by kernel_rfl
 rw[An hb]
 have hd:b54=⟨[.t (AB 2)],d54⟩:=by kernel_rfl
 rw[hd,Ae hl]
theorem iO{n:Nat}{args:List Value}{h:Hp}(hl:Nat.ble (BB args) 160=true):call AF (Nat.succ n) 55 args h=A4 [.cN (AB 4) 6,.t (AB 5),.t (AB 6),.t (AB 7)] (d55 (call AF n) (AV e0 0 args) h):=by
 have hb:AF.get 55=some b55:=by kernel_rfl
 rw[An hb]
 have hd:b55=⟨[.cN (AB 4) 6,.t (AB 5),.t (AB 6),.t (AB 7)],d55⟩:=by kernel_rfl
 rw[hd,Ae hl]
theorem iP{n:Nat}{args:List Value}{h:Hp}(hl:Nat.ble (BB args) 160=true):call AF (Nat.succ n) 56 args h=A4 [.t (AB 2)] (d56 (call AF n) (AV e0 0 args) h):=by
 have hb:AF.get 56=some b56:=by kernel_rfl
 rw[An hb]
 have hd:b56=⟨[.t (AB 2)],d56⟩:=by kernel_rfl
 rw[hd,Ae hl]
theorem iQ{n:Nat}{args:List Value}{h:Hp}(hl:Nat.ble (BB args) 160=true):call AF (Nat.succ n) 57 args h=A4 [.t (AB 2)] (d57 (call AF n) (AV e0 0 args) h):=by
 have hb:AF.get 57=some b57:=by kernel_rfl
 rw[An hb]
 have hd:b57=⟨[.t (AB 2)],d57⟩:=by kernel_rfl
 rw[hd,Ae hl]
theorem iR{n:Nat}{args:List Value}{h:Hp}(hl:Nat.ble (BB args) 160=true):call AF (Nat.succ n) 58 args h=A4 [.t (AB 2)] (d58 (call AF n) (AV e0 0 args) h):=by
 have hb:AF.get 58=some b58:=by kernel_rfl
 rw[An hb]
 have hd:b58=⟨[.t (AB 2)],d58⟩:=by kernel_rfl
 rw[hd,Ae hl]
theorem iS{n:Nat}{args:List Value}{h:Hp}(hl:Nat.ble (BB args) 160=true):call AF (Nat.succ n) 59 args h=A4 [.t (AB 2)] (d59 (call AF n) (AV e0 0 args) h):=by
 have hb:AF.get 59=some b59:=by kernel_rfl
 rw[An hb]
 have hd:b59=⟨[.t (AB 2)],d59⟩:=by kernel_rfl
 rw[hd,Ae hl]
theorem iT{n:Nat}{args:List Value}{h:Hp}(hl:Nat.ble (BB args) 160=true):call AF (Nat.succ n) 60 args h=A4 [.t (AB 3)] (d60 (call AF n) (AV e0 0 args) h):=by
 have hb:AF.get 60=some b60:=by kernel_rfl
 rw[An hb]
 have hd:b60=⟨[.t (AB 3)],d60⟩:=by kernel_rfl
 rw[hd,Ae hl]
theorem iU{n:Nat}{args:List Value}{h:Hp}(hl:Nat.ble (BB args) 160=true):call AF (Nat.succ n) 61 args h=A4 [.t (AB 4)] (d61 (call AF n) (AV e0 0 args) h):=by
 have hb:AF.get 61=some b61:=by kernel_rfl
 rw[An hb]
 have hd:b61=⟨[.t (AB 4)],d61⟩:=by kernel_rfl
 rw[hd,Ae hl]
theorem iV{n:Nat}{args:List Value}{h:Hp}(hl:Nat.ble (BB args) 160=true):call AF (Nat.succ n) 62 args h=A4 [.t (AB 3)] (d62 (call AF n) (AV e0 0 args) h):=by
 have hb:AF.get 62=some b62:=by kernel_rfl
 rw[An hb]
 have hd:b62=⟨[.t (AB 3)],d62⟩:=by kernel_rfl
 rw[hd,Ae hl]
theorem iW{n:Nat}{args:List Value}{h:Hp}(hl:Nat.ble (BB args) 160=true):call AF (Nat.succ n) 63 args h=A4 [.t (AB 4)] (d63 (call AF n) (AV e0 0 args) h):=by
 have hb:AF.get 63=some b63:=by kernel_rfl
 rw[An hb]
 have hd:b63=⟨[.t (AB 4)],d63⟩:=by kernel_rfl
 rw[hd,Ae hl]
theorem iX{n:Nat}{args:List Value}{h:Hp}(hl:Nat.ble (BB args) 160=true):call AF (Nat.succ n) 64 args h=A4 [.t (AB 6)] (d64 (call AF n) (AV e0 0 args) h):=by
 have hb:AF.get 64=some b64:=by kernel_rfl
 rw[An hb]
 have hd:b64=⟨[.t (AB 6)],d64⟩:=by kernel_rfl
 rw[hd,Ae hl]
theorem iY{n:Nat}{args:List Value}{h:Hp}(hl:Nat.ble (BB args) 160=true):call AF (Nat.succ n) 65 args h=A4 [.cN (AB 2) 5] (d65 (call AF n) (AV e0 0 args) h):=by
 have hb:AF.get 65=some b65:=by kernel_rfl
 rw[An hb]
 have hd:b65=⟨[.cN (AB 2) 5],d65⟩:=by kernel_rfl
 rw[hd,Ae hl]
theorem ia{n:Nat}{args:List Value}{h:Hp}(hl:Nat.ble (BB args) 160=true):call AF (Nat.succ n) 68 args h=A4 [.t (AB 4)] (d68 (call AF n) (AV e0 0 args) h):=by
 have hb:AF.get 68=some b68:=by kernel_rfl
 rw[An hb]
 have hd:b68=⟨[.t (AB 4)],d68⟩:=by kernel_rfl
 rw[hd,Ae hl]
theorem Wa{n:Nat}{args:List Value}{h:Hp}(hl:Nat.ble (BB args) 160=true):call AF (Nat.succ n) 69 args h=A4 [.t (AB 4)] (d69 (call AF n) (AV e0 0 args) h):=by
 have hb:AF.get 69=some b69:=by kernel_rfl
 rw[An hb]
 have hd:b69=⟨[.t (AB 4)],d69⟩:=by kernel_rfl
 rw[hd,Ae hl]
theorem ib{n:Nat}{args:List Value}{h:Hp}(hl:Nat.ble (BB args) 160=true):call AF (Nat.succ n) 70 args h=A4 [.t (AB 5)] (d70 (call AF n) (AV e0 0 args) h):=by
 have hb:AF.get 70=some b70:=by kernel_rfl
 rw[An hb]
 have hd:b70=⟨[.t (AB 5)],d70⟩:=by kernel_rfl
 rw[hd,Ae hl]
theorem ic{n:Nat}{args:List Value}{h:Hp}(hl:Nat.ble (BB args) 160=true):call AF (Nat.succ n) 71 args h=A4 [.t (AB 4)] (d71 (call AF n) (AV e0 0 args) h):=by
 have hb:AF.get 71=some b71:=by kernel_rfl
 rw[An hb]
 have hd:b71=⟨[.t (AB 4)],d71⟩:=by kernel_rfl
 rw[hd,Ae hl]
theorem ie{n:Nat}{args:List Value}{h:Hp}(hl:Nat.ble (BB args) 160=true):call AF (Nat.succ n) 72 args h=A4 [.t (AB 4)] (d72 (call AF n) (AV e0 0 args) h):=by
 have hb:AF.get 72=some b72:=by kernel_rfl
 rw[An hb]
 have hd:b72=⟨[.t (AB 4)],d72⟩:=by kernel_rfl
 rw[hd,Ae hl]
theorem ig{n:Nat}{args:List Value}{h:Hp}(hl:Nat.ble (BB args) 160=true):call AF (Nat.succ n) 73 args h=A4 [.t (AB 4)] (d73 (call AF n) (AV e0 0 args) h):=by
 have hb:AF.get 73=some b73:=by kernel_rfl
 rw[An hb]
 have hd:b73=⟨[.t (AB 4)],d73⟩:=by kernel_rfl
 rw[hd,Ae hl]
theorem ii{n:Nat}{args:List Value}{h:Hp}(hl:Nat.ble (BB args) 160=true):call AF (Nat.succ n) 74 args h=A4 [.t (AB 3)] (d74 (call AF n) (AV e0 0 args) h):=by
 have hb:AF.get 74=some b74:=by kernel_rfl
 rw[An hb]
 have hd:b74=⟨[.t (AB 3)],d74⟩:=by kernel_rfl
 rw[hd,Ae hl]
theorem ij{n:Nat}{args:List Value}{h:Hp}(hl:Nat.ble (BB args) 160=true):call AF (Nat.succ n) 75 args h=A4 [.t (AB 6)] (d75 (call AF n) (AV e0 0 args) h):=by
 have hb:AF.get 75=some b75:=by kernel_rfl
 rw[An hb]
 have hd:b75=⟨[.t (AB 6)],d75⟩:=by kernel_rfl
 rw[hd,Ae hl]
theorem ik{n:Nat}{args:List Value}{h:Hp}(hl:Nat.ble (BB args) 160=true):call AF (Nat.succ n) 76 args h=A4 [.t (AB 2)] (d76 (call AF n) (AV e0 0 args) h):=by
 have hb:AF.get 76=some b76:=by kernel_rfl
 rw[An hb]
 have hd:b76=⟨[.t (AB 2)],d76⟩:=by kernel_rfl
 rw[hd,Ae hl]
theorem Wb{n:Nat}{args:List Value}{h:Hp}(hl:Nat.ble (BB args) 160=true):call AF (Nat.succ n) 77 args h=A4 [] (d77 (call AF n) (AV e0 0 args) h):=by
 have hb:AF.get 77=some b77:=by kernel_rfl
 rw[An hb]
 have hd:b77=⟨[],d77⟩:=by kernel_rfl
 rw[hd,Ae hl]
theorem im{n:Nat}{args:List Value}{h:Hp}(hl:Nat.ble (BB args) 160=true):call AF (Nat.succ n) 78 args h=A4 [.t (AB 2)] (d78 (call AF n) (AV e0 0 args) h):=by
 have hb:AF.get 78=some b78:=by kernel_rfl
 rw[An hb]
 have hd:b78=⟨[.t (AB 2)],d78⟩:=by kernel_rfl
 rw[hd,Ae hl]
theorem Wc{n:Nat}{args:List Value}{h:Hp}(hl:Nat.ble (BB args) 160=true):call AF (Nat.succ n) 79 args h=A4 [.t (AB 2)] (d79 (call AF n) (AV e0 0 args) h):=by
 have hb:AF.get 79=some b79:=by kernel_rfl
 rw[An hb]
 have hd:b79=⟨[.t (AB 2)],d79⟩:=by kernel_rfl
 rw[hd,Ae hl]
theorem io{n:Nat}{args:List Value}{h:Hp}(hl:Nat.ble (BB args) 160=true):call AF (Nat.succ n) 80 args h=A4 [.t (AB 4)] (d80 (call AF n) (AV e0 0 args) h):=by
 have hb:AF.get 80=some b80:=by kernel_rfl
 rw[An hb]
 have hd:b80=⟨[.t (AB 4)],d80⟩:=by kernel_rfl
 rw[hd,Ae hl]
theorem ip{n:Nat}{args:List Value}{h:Hp}(hl:Nat.ble (BB args) 160=true):call AF (Nat.succ n) 81 args h=A4 [.t (AB 6)] (d81 (call AF n) (AV e0 0 args) h):=by
 have hb:AF.get 81=some b81:=by kernel_rfl
 rw[An hb]
 have hd:b81=⟨[.t (AB 6)],d81⟩:=by kernel_rfl
 rw[hd,Ae hl]
theorem ir{n:Nat}{args:List Value}{h:Hp}(hl:Nat.ble (BB args) 160=true):call AF (Nat.succ n) 83 args h=A4 [.t (AB 2)] (d83 (call AF n) (AV e0 0 args) h):=by
 have hb:AF.get 83=some b83:=by kernel_rfl
 rw[An hb]
 have hd:b83=⟨[.t (AB 2)],d83⟩:=by kernel_rfl
 rw[hd,Ae hl]
theorem iu{n:Nat}{args:List Value}{h:Hp}(hl:Nat.ble (BB args) 160=true):call AF (Nat.succ n) 84 args h=A4 [.t (AB 4),.t (AB 5)] (d84 (call AF n) (AV e0 0 args) h):=by
 have hb:AF.get 84=some b84:=by kernel_rfl
 rw[An hb]
 have hd:b84=⟨[.t (AB 4),.t (AB 5)],d84⟩:=by kernel_rfl
 rw[hd,Ae hl]
theorem Nc{n:Nat}{args:List Value}{h:Hp}(hl:Nat.ble (BB args) 160=true):call AF (Nat.succ n) 85 args h=A4 [.t (AB 4)] (d85 (call AF n) (AV e0 0 args) h):=by
 have hb:AF.get 85=some b85:=by kernel_rfl
 rw[An hb]
 have hd:b85=⟨[.t (AB 4)],d85⟩:=by kernel_rfl
 rw[hd,Ae hl]
theorem iw{n:Nat}{args:List Value}{h:Hp}(hl:Nat.ble (BB args) 160=true):call AF (Nat.succ n) 86 args h=A4 [.t (AB 2)] (d86 (call AF n) (AV e0 0 args) h):=by
 have hb:AF.get 86=some b86:=by kernel_rfl
 rw[An hb]
 have hd:b86=⟨[.t (AB 2)],d86⟩:=by kernel_rfl
 rw[hd,Ae hl]
theorem K2{n:Nat}{args:List Value}{h:Hp}(hl:Nat.ble (BB args) 160=true):call AF (Nat.succ n) 87 args h=A4 [.cN (AB 4) 5,.t (AB 5),.t (AB 6),.t (AB 7)] (d87 (call AF n) (AV e0 0 args) h):=by
 have hb:AF.get 87=some b87:=by kernel_rfl
 rw[An hb]
 have hd:b87=⟨[.cN (AB 4) 5,.t (AB 5),.t (AB 6),.t (AB 7)],d87⟩:=by kernel_rfl
 rw[hd,Ae hl]
theorem Wd{n:Nat}{args:List Value}{h:Hp}(hl:Nat.ble (BB args) 160=true):call AF (Nat.succ n) 88 args h=A4 [.t (AB 6),.t (AB 7)] (d88 (call AF n) (AV e0 0 args) h):=by
 have hb:AF.get 88=some b88:=by kernel_rfl
 rw[An hb]
 have hd:b88=⟨[.t (AB 6),.t (AB 7)],d88⟩:=by kernel_rfl
 rw[hd,Ae hl]
theorem iz{n:Nat}{args:List Value}{h:Hp}(hl:Nat.ble (BB args) 160=true):call AF (Nat.succ n) 89 args h=A4 [.t (AB 3)] (d89 (call AF n) (AV e0 0 args) h):=by
 have hb:AF.get 89=some b89:=by kernel_rfl
 rw[An hb]
 have hd:b89=⟨[.t (AB 3)],d89⟩:=by kernel_rfl
 rw[hd,Ae hl]
theorem i6{n:Nat}{args:List Value}{h:Hp}(hl:Nat.ble (BB args) 160=true):call AF (Nat.succ n) 90 args h=A4 [.t (AB 3)] (d90 (call AF n) (AV e0 0 args) h):=by
 have hb:AF.get 90=some b90:=by kernel_rfl
 rw[An hb]
 have hd:b90=⟨[.t (AB 3)],d90⟩:=by kernel_rfl
 rw[hd,Ae hl]
theorem i7{n:Nat}{args:List Value}{h:Hp}(hl:Nat.ble (BB args) 160=true):call AF (Nat.succ n) 91 args h=A4 [.t (AB 4)] (d91 (call AF n) (AV e0 0 args) h):=by
 have hb:AF.get 91=some b91:=by kernel_rfl
 rw[An hb]
 have hd:b91=⟨[.t (AB 4)],d91⟩:=by kernel_rfl
 rw[hd,Ae hl]
theorem i9{n:Nat}{args:List Value}{h:Hp}(hl:Nat.ble (BB args) 160=true):call AF (Nat.succ n) 92 args h=A4 [.t (AB 4)] (d92 (call AF n) (AV e0 0 args) h):=by
 have hb:AF.get 92=some b92:=by kernel_rfl
 rw[An hb]
 have hd:b92=⟨[.t (AB 4)],d92⟩:=by kernel_rfl
 rw[hd,Ae hl]
theorem jA{n:Nat}{args:List Value}{h:Hp}(hl:Nat.ble (BB args) 160=true):call AF (Nat.succ n) 95 args h=A4 [.t (AB 4)] (d95 (call AF n) (AV e0 0 args) h):=by
 have hb:AF.get 95=some b95:=by kernel_rfl
 rw[An hb]
 have hd:b95=⟨[.t (AB 4)],d95⟩:=by kernel_rfl
 rw[hd,Ae hl]
theorem jB{n:Nat}{args:List Value}{h:Hp}(hl:Nat.ble (BB args) 160=true):call AF (Nat.succ n) 96 args h=A4 [.t (AB 2)] (d96 (call AF n) (AV e0 0 args) h):=by
 have hb:AF.get 96=some b96:=by kernel_rfl
 rw[An hb]
 have hd:b96=⟨[.t (AB 2)],d96⟩:=by kernel_rfl
 rw[hd,Ae hl]
theorem We{n:Nat}{args:List Value}{h:Hp}(hl:Nat.ble (BB args) 160=true):call AF (Nat.succ n) 97 args h=A4 [] (d97 (call AF n) (AV e0 0 args) h):=by
 have hb:AF.get 97=some b97:=by kernel_rfl
 rw[An hb]
 have hd:b97=⟨[],d97⟩:=by kernel_rfl
 rw[hd,Ae hl]
theorem Zn{n:Nat}{args:List Value}{h:Hp}(hl:Nat.ble (BB args) 160=true):call AF (Nat.succ n) 106 args h=A4 [.t (AB 2)] (Z3 (call AF n) (AV e0 0 args) h):=by
 have hb:AF.get 106=some US:=by kernel_rfl
 rw[An hb]
 have hd:US=⟨[.t (AB 2)],Z3⟩:=by kernel_rfl
 rw[hd,Ae hl]
theorem Sq{n:Nat}{args:List Value}{h:Hp}(hl:Nat.ble (BB args) 160=true):call AF (Nat.succ n) 107 args h=A4 [.t (AB 2)] (Wr (call AF n) (AV e0 0 args) h):=by
 have hb:AF.get 107=some UT:=by kernel_rfl
 rw[An hb]
 have hd:UT=⟨[.t (AB 2)],Wr⟩:=by kernel_rfl
 rw[hd,Ae hl]
theorem KJ{n:Nat}{args:List Value}{h:Hp}(hl:Nat.ble (BB args) 160=true):call AF (Nat.succ n) 109 args h=A4 [.t (AB 4)] (Z6 (call AF n) (AV e0 0 args) h):=by
 have hb:AF.get 109=some UV:=by kernel_rfl
 rw[An hb]
 have hd:UV=⟨[.t (AB 4)],Z6⟩:=by kernel_rfl
 rw[hd,Ae hl]
theorem Nb{n:Nat}{args:List Value}{h:Hp}(hl:Nat.ble (BB args) 160=true):call AF (Nat.succ n) 110 args h=A4 [.t (AB 4),.t (AB 5)] (Uj (call AF n) (AV e0 0 args) h):=by
 have hb:AF.get 110=some UW:=by kernel_rfl
 rw[An hb]
 have hd:UW=⟨[.t (AB 4),.t (AB 5)],Uj⟩:=by kernel_rfl
 rw[hd,Ae hl]
theorem Sr{n:Nat}{args:List Value}{h:Hp}(hl:Nat.ble (BB args) 160=true):call AF (Nat.succ n) 111 args h=A4 [.t (AB 4),.t (AB 5),.t (AB 6)] (Z7 (call AF n) (AV e0 0 args) h):=by
 have hb:AF.get 111=some UX:=by kernel_rfl
 rw[An hb]
 have hd:UX=⟨[.t (AB 4),.t (AB 5),.t (AB 6)],Z7⟩:=by kernel_rfl
 rw[hd,Ae hl]
theorem Zp{n:Nat}{args:List Value}{h:Hp}(hl:Nat.ble (BB args) 160=true):call AF (Nat.succ n) 112 args h=A4 [.t (AB 2)] (Z8 (call AF n) (AV e0 0 args) h):=by
 have hb:AF.get 112=some UY:=by kernel_rfl
 rw[An hb]
 have hd:UY=⟨[.t (AB 2)],Z8⟩:=by kernel_rfl
 rw[hd,Ae hl]
end
noncomputable section
open Go
set_option maxRecDepth 100000
theorem eU:BI ty5.zero 1=[.int .u8 0]:=by kernel_rfl
theorem jX:d72=AE (AC 4) (AD (kV (.slice none 0 0))) (A2 (AY 0 (Az MI)) ZK):=rfl
theorem Vv{F:CallF}{h0 h:Hp}{k:Nat}(x0:h0.Ext h)(hk:h0.next≤k)(hk2:k≤h.next){v:Value}{l:List Nat}(o:h.Own k 5 v (l.map bv))(hl:l.length≤1000000){N:Nat}(hN:N<18446744073709551616){e:Env}(s0:AB 0 e=v)(s1:AB 1 e=.int .u64 (N:Int)):
  ∃ e' h' v' xs m,Az MI F e h=.exit 0 e' h'∧AB 0 e'=v'∧AB 1 e'=.int .u64 ((m:Nat):Int)∧m<128∧l++B5 N=xs++[m]∧h0.Ext h'∧h'.Own k 5 v' (xs.map bv)∧h.next≤h'.next∧(∀ b el L,¬ blkV v b→h.Row b el L→h'.Row b el L∧¬ blkV v' b):=by
 have hten:=Jl hN
 refine Be (I:=fun i e' h'=>∃ v' xs m,AB 0 e'=v'∧AB 1 e'=.int .u64 ((m:Nat):Int)∧m<18446744073709551616∧l++B5 N=xs++B5 m∧i+(B5 m).length=(B5 N).length∧h0.Ext h'∧h'.Own k 5 v' (xs.map bv)∧h.next≤h'.next∧(∀ b el L,¬ blkV v b→h.Row b el L→h'.Row b el L∧¬ blkV v' b))
  (Q:=fun x=>∃ e' h' v' xs m,x=.exit 0 e' h'∧AB 0 e'=v'∧AB 1 e'=.int .u64 ((m:Nat):Int)∧m<128∧l++B5 N=xs++[m]∧h0.Ext h'∧h'.Own k 5 v' (xs.map bv)∧h.next≤h'.next∧(∀ b el L,¬ blkV v b→h.Row b el L→h'.Row b el L∧¬ blkV v' b)) 20 (by omega) (fun i e' h' ⟨v',xs,m,t0,t1,hm,hx,hi,x1,o1,hn,fr⟩=>?_)
  ⟨v,l,N,s0,s1,hN,rfl,Nat.zero_add _,x0,o,Nat.le_refl _,fun b el L hb r=>⟨r,hb⟩⟩
 have hlen:=congrArg List.length hx
 rw[List.length_append,List.length_append]at hlen
 by_cases h1:m<128
 ·right
  have c1:iGt (m:Int) 127=false:=by rw[Gh];simp;omega
  have hrun:MI F e' h'=.exit 0 (Env.set 6 (.bool false) e') h':=by
   unfold MI
   simp only[sT,Nat.reduceLT,Nat.reduceEqDiff,reduceIte,AO,AN,t1,c1]
  rw[hrun]
  refine⟨rfl,_,_,v',xs,m,rfl,by simp[AH,t0],by simp[AH,t1],h1,?_,x1,o1,hn,fr⟩
  rw[hx,Ee h1]
 ·left
  have W:=x1.wf
  have c1:iGt (m:Int) 127=true:=by rw[Gh];simp;omega
  have r1:Yk .u64 (.int .u64 (m:Int)) (.int .u64 128) h'=.ok (.int .u64 ((m % 128:Nat):Int)) h':=by rw[Tt (by omega)];rfl
  have a1:FD .u64 (.int .u64 ((m % 128:Nat):Int)) (.int .u64 128) h'=.ok (.int .u64 ((m % 128+128:Nat):Int)) h':=by
   have:IntKind.u64.wrap (((m % 128:Nat):Int)+128)=((m % 128+128:Nat):Int):=by
    rw[show((m % 128:Nat):Int)+128=((m % 128+128:Nat):Int)by omega];exact D4 (by omega)
   rw[EM,this]
  have v1:DQ .u8 (.int .u64 ((m % 128+128:Nat):Int)) h'=.ok (.int .u8 ((m % 128+128:Nat):Int)) h':=by
   rw[Ck,HY,Nat.mod_eq_of_lt (show m % 128+128<256 by omega)]
  have os:∀ e,AB 11 e=.int .u8 ((m % 128+128:Nat):Int)→AZ 1 (BI ty5.zero 1) [(0,1,AB 11)] F e h'=.ok (.slice (some ⟨h'.next,0,none⟩) 1 1) (h'.pushRow 0 [.int .u8 ((m % 128+128:Nat):Int)]):=fun e he=>by rw[eU];exact HT W he rfl rfl
  have hpos:=Vu (m / 128)
  rw[F1 (n:=m) (by omega)]at hi hlen hx
  rw[List.length_cons]at hi hlen
  obtain⟨h2,v2,a2,x2,o2,hn2,fr2⟩:=Im (eb:=1) (n:=((m % 128+128:Nat):Int)) (kd:=.u8) x1 hk (Nat.le_trans hk2 hn) o1 (by rw[List.length_map];omega)
  have d1:RI .u64 (.int .u64 (m:Int)) (.int .u64 128) h2=.ok (.int .u64 ((m / 128:Nat):Int)) h2:=by
   have:IntKind.u64.wrap ((m:Int).tdiv 128)=((m / 128:Nat):Int):=D4 (n:=m / 128) (by omega)
   rw[KL (by omega),this]
  have hrun:∃ e2,MI F e' h'=.norm e2 h2∧AB 0 e2=v2∧AB 1 e2=.int .u64 ((m / 128:Nat):Int):=by
   unfold MI
   simp only[sT,Nat.reduceLT,Nat.reduceEqDiff,reduceIte,AO,AN,t1,c1,OC,r1,BR,a1,CN,v1,os,BL,t0,a2,Ii,d1]
   exact⟨_,rfl,by simp[AH]⟩
  obtain⟨e2,b1,b2,b3⟩:=hrun
  refine⟨by omega,e2,h2,b1,v2,xs++[m % 128+128],m / 128,b2,b3,by omega,?_,by omega,x2,?_,by omega,fun b el L hb r=>?_⟩
  ·rw[hx];simp
  ·rw[List.map_append];exact o2
  ·obtain⟨r1,r2⟩:=fr b el L hb r
   exact fr2 b el L r2 r1
theorem dp{n:Nat}{h0 h:Hp}{k:Nat}(x0:h0.Ext h)(hk:h0.next≤k)(hk2:k≤h.next){v:Value}{l:List Nat}(o:h.Own k 5 v (l.map bv))(hl:l.length≤1000000){N:Nat}(hN:N<18446744073709551616):
  ∃ h' v',call AF (n+1) 72 [v,.int .u64 (N:Int)] h=.ok v' h'∧h0.Ext h'∧h'.Own k 5 v' ((l++B5 N).map bv)∧h.next≤h'.next∧(∀ b el L,¬ blkV v b→h.Row b el L→h'.Row b el L∧¬ blkV v' b):=by
 obtain⟨e1,h1,v1,xs,m,q1,s0,s1,hm,hx,x1,o1,hn,fr⟩:=Vv (F:=call AF n) x0 hk hk2 o hl hN (e:=Env.set 4 (.slice none 0 0) (Env.set 1 (.int .u64 (N:Int)) (Env.set 0 v e0))) (by simp[AH]) (by simp[AH])
 have W:=x1.wf
 have hten:=Jl hN
 have hlen:=congrArg List.length hx
 rw[List.length_append,List.length_append,List.length_singleton]at hlen
 have c1:DQ .u8 (.int .u64 (m:Int)) h1=.ok (.int .u8 (m:Int)) h1:=by
  rw[Ck,HY,Nat.mod_eq_of_lt (show m<256 by omega)]
 have os:∀ e,AB 18 e=.int .u8 (m:Int)→AZ 1 (BI ty5.zero 1) [(0,1,AB 18)] (call AF n) e h1=.ok (.slice (some ⟨h1.next,0,none⟩) 1 1) (h1.pushRow 0 [.int .u8 (m:Int)]):=fun e he=>by rw[eU];exact HT W he rfl rfl
 obtain⟨h2,v2,a2,x2,o2,hn2,fr2⟩:=Im (eb:=1) (n:=(m:Int)) (kd:=.u8) x1 hk (Nat.le_trans hk2 hn) o1 (by rw[List.length_map];omega)
 refine⟨h2,v2,?_,x2,?_,by omega,fun b el L hb r=>?_⟩
 ·rw[ie rfl,jX]
  simp only[iN,Nat.reduceAdd,AH,Nat.reduceLT,Nat.reduceEqDiff,reduceIte,F4,GD,Dv,Gl,BP,A1]
  rw[q1]
  simp only[A5,BJ]
  unfold ZK
  simp only[sT,Nat.reduceLT,Nat.reduceEqDiff,reduceIte,CN,s1,c1,os,BL,s0,a2,lV0]
 ·rw[hx,List.map_append];exact o2
 ·obtain⟨r1,r2⟩:=fr b el L hb r
  exact fr2 b el L r2 r1
def eV(l:List Nat)(p:Nat)(a b c:Int):Prop:=(∃ v j:Nat,FI 0 0 (l.drop p)=some (v,j)∧a=(v:Int)∧b=((p+j:Nat):Int)∧c=0)∨(FI 0 0 (l.drop p)=none∧c≠0)
def RN:C:=(AE (AC 22) (BD (AB 0))
(AE (AC 23) (AW iLt .i64 (AB 8) (AB 22))
(AS (AB 23)
(A2 (AY 1 (AE (AC 28) (BF 1 (AB 0) (AB 8))
(AE (AC 29) (AK (AB 28))
(AE (AC 32) (Bf Int.sub .i64 (AB 8) (AB 1))
(AE (AC 9) (AD (AB 29))
(AE (AC 10) (AD (AB 32))
(AE (AC 34) (AW iGt .i64 (AB 10) (kV (.int .i64 0)))
(cG (AB 34) true (AC 36) (AD (AB 9))
(cG (AB 34) true (AC 37) (AW iEq .u8 (AB 36) (kV (.int .u8 0)))
(AE (AC 38) (Aj (AB 34) (AB 37) (kV (.bool false)))
(cG (AB 38) false (AC 40) (AD (AB 10))
(cG (AB 38) false (AC 41) (AW iGt .i64 (AB 40) (kV (.int .i64 8)))
(cG (AB 38) false (AC 42) (AD (AB 41))
(cG (AB 42) true (AC 43) (AD (AB 9))
(cG (AB 42) true (AC 44) (AW iGt .u8 (AB 43) (kV (.int .u8 1)))
(cG (AB 38) false (AC 45) (Aj (AB 42) (AB 44) (kV (.bool false)))
(AE (AC 46) (Aj (AB 38) (kV (.bool true)) (AB 45))
(AS (AB 46)
(AE (AC 4) (AD (kV (.int .u64 0)))
(AE (AC 5) (AD (kV (.int .i64 0)))
(AE (AC 6) (AD (kV (.int .i64 10)))
Ad)))
(AE (AC 49) (OB .u8 (AB 9) (kV (.int .u8 128)))
(AE (AC 50) (CC .u64 (AB 49))
(AE (AC 52) (Bf Int.mul .i64 (kV (.int .i64 7)) (AB 10))
(AE (AC 53) (Lq .u64 (AB 50) (AB 52))
(AE (AC 54) (BZ .u64 (Ar .u64) (AB 7) (AB 53))
(AE (AC 7) (AD (AB 54))
(AE (AC 56) (AW iLt .u8 (AB 9) (kV (.int .u8 128)))
(AS (AB 56)
(AE (AC 59) (BZ .i64 (Ar .i64) (AB 8) (kV (.int .i64 1)))
(AE (AC 4) (AD (AB 7))
(AE (AC 5) (AD (AB 59))
(AE (AC 6) (AD (kV (.int .i64 0)))
Ad))))
AX))))))))))))))))))))))))))
(AE (AC 25) (BZ .i64 (Ar .i64) (AB 8) (kV (.int .i64 1)))
(AE (AC 8) (AD (AB 25))
AX)))
(BK 0))))
def Nn:C:=(AS (AB 46)
(AE (AC 4) (AD (kV (.int .u64 0)))
(AE (AC 5) (AD (kV (.int .i64 0)))
(AE (AC 6) (AD (kV (.int .i64 10)))
Ad)))
(AE (AC 49) (OB .u8 (AB 9) (kV (.int .u8 128)))
(AE (AC 50) (CC .u64 (AB 49))
(AE (AC 52) (Bf Int.mul .i64 (kV (.int .i64 7)) (AB 10))
(AE (AC 53) (Lq .u64 (AB 50) (AB 52))
(AE (AC 54) (BZ .u64 (Ar .u64) (AB 7) (AB 53))
(AE (AC 7) (AD (AB 54))
(AE (AC 56) (AW iLt .u8 (AB 9) (kV (.int .u8 128)))
(AS (AB 56)
(AE (AC 59) (BZ .i64 (Ar .i64) (AB 8) (kV (.int .i64 1)))
(AE (AC 4) (AD (AB 7))
(AE (AC 5) (AD (AB 59))
(AE (AC 6) (AD (kV (.int .i64 0)))
Ad))))
AX)))))))))
def jn(K:C):C:=(AE (AC 34) (AW iGt .i64 (AB 10) (kV (.int .i64 0)))
(cG (AB 34) true (AC 36) (AD (AB 9))
(cG (AB 34) true (AC 37) (AW iEq .u8 (AB 36) (kV (.int .u8 0)))
(AE (AC 38) (Aj (AB 34) (AB 37) (kV (.bool false)))
(cG (AB 38) false (AC 40) (AD (AB 10))
(cG (AB 38) false (AC 41) (AW iGt .i64 (AB 40) (kV (.int .i64 8)))
(cG (AB 38) false (AC 42) (AD (AB 41))
(cG (AB 42) true (AC 43) (AD (AB 9))
(cG (AB 42) true (AC 44) (AW iGt .u8 (AB 43) (kV (.int .u8 1)))
(cG (AB 38) false (AC 45) (Aj (AB 42) (AB 44) (kV (.bool false)))
(AE (AC 46) (Aj (AB 38) (kV (.bool true)) (AB 45))
K)))))))))))
theorem S9:RN=AE (AC 22) (BD (AB 0)) (AE (AC 23) (AW iLt .i64 (AB 8) (AB 22)) (AS (AB 23) (A2 (AY 1 (AE (AC 28) (BF 1 (AB 0) (AB 8)) (AE (AC 29) (AK (AB 28)) (AE (AC 32) (Bf Int.sub .i64 (AB 8) (AB 1)) (AE (AC 9) (AD (AB 29)) (AE (AC 10) (AD (AB 32)) (jn Nn))))))) (AE (AC 25) (BZ .i64 (Ar .i64) (AB 8) (kV (.int .i64 1))) (AE (AC 8) (AD (AB 25)) AX))) (BK 0))):=rfl
theorem av{K:C}{F:CallF}{h:Hp}{e:Env}{c i:Nat}{b1 b2 b3 b4:Bool}(s9:AB 9 e=.int .u8 (c:Int))(s10:AB 10 e=.int .i64 (i:Int))(i1:iGt (i:Int) 0=b1)(i2:iEq (c:Int) 0=b2)(i3:iGt (i:Int) 8=b3)(i4:iGt (c:Int) 1=b4):
  ∃ e',jn K F e h=K F e' h∧AB 46 e'=.bool ((b1 && b2) || (b3 && b4))∧AB 0 e'=AB 0 e∧AB 1 e'=AB 1 e∧AB 7 e'=AB 7 e∧AB 8 e'=AB 8 e∧AB 9 e'=AB 9 e∧AB 10 e'=AB 10 e:=by
 unfold jn
 cases b1<;>cases b2<;>cases b3<;>cases b4<;>
 ·simp only[sT,Nat.reduceLT,Nat.reduceEqDiff,reduceIte,gD,AO,AN,s9,s10,i1,i2,i3,i4]
  exact⟨_,rfl,by simp[AH],by simp[AH],by simp[AH],by simp[AH],by simp[AH],by simp only[AH,Nat.reduceLT,Nat.reduceEqDiff,reduceIte,s9],by simp only[AH,Nat.reduceLT,Nat.reduceEqDiff,reduceIte,s10]⟩
theorem QM{i:Nat}(hi:i≤9):2 ^ (7 * i)≤9223372036854775808:=by
 have:2 ^ (7 * i)≤2 ^ 63:=Nat.pow_le_pow_right (by omega) (by omega)
 have e:(2:Nat) ^ 63=9223372036854775808:=rfl
 omega
theorem XN{F:CallF}{h:Hp}{u:Value}{l:List Nat}{p:Nat}(V:h.Vals u (l.map bv))(hb:∀ x∈l,x<256)(hp:p≤l.length)(hl:l.length≤1000000){e:Env}(s0:AB 0 e=u)(s1:AB 1 e=.int .i64 (p:Int))(s7:AB 7 e=.int .u64 0)(s8:AB 8 e=.int .i64 (p:Int)):
  (∃ e',Az RN F e h=.exit 0 e' h∧FI 0 0 (l.drop p)=none)∨(∃ e' a b c,Az RN F e h=.ret e' h∧AB 4 e'=.int .u64 a∧AB 5 e'=.int .i64 b∧AB 6 e'=.int .i64 c∧eV l p a b c):=by
 have Vl:lenSR u h=.ok (.int .i64 (l.length:Int)) h:=by have:=V.len;rwa [List.length_map]at this
 refine Be (I:=fun i e' h'=>h'=h∧∃ acc:Nat,AB 0 e'=u∧AB 1 e'=.int .i64 (p:Int)∧AB 7 e'=.int .u64 (acc:Int)∧AB 8 e'=.int .i64 ((p+i:Nat):Int)∧acc<2 ^ (7 * i)∧i≤9∧p+i≤l.length∧FI 0 0 (l.drop p)=FI i acc (l.drop (p+i)))
  (Q:=fun x=>(∃ e',x=.exit 0 e' h∧FI 0 0 (l.drop p)=none)∨(∃ e' a b c,x=.ret e' h∧AB 4 e'=.int .u64 a∧AB 5 e'=.int .i64 b∧AB 6 e'=.int .i64 c∧eV l p a b c)) 20 (by omega) (fun i e' h' ⟨hh,acc,t0,t1,t7,t8,hacc,hi9,hpi,hu⟩=>?_)
  ⟨rfl,0,s0,s1,s7,s8,by decide,by omega,hp,rfl⟩
 subst hh
 by_cases hlt:p+i<l.length
 ·have hc:l.getD (p+i) 0<256:=hb _ (by rw[List.getD_eq_getElem?_getD,List.getElem?_eq_getElem hlt];exact List.getElem_mem hlt)
  have hd:l.drop (p+i)=l.getD (p+i) 0::l.drop (p+i+1):=by
   rw[List.drop_eq_getElem_cons hlt,List.getD_eq_getElem?_getD,List.getElem?_eq_getElem hlt];rfl
  have hel:(l.map bv).getD (p+i) noRes=.int .u8 ((l.getD (p+i) 0:Nat):Int):=by
   rw[List.getD_eq_getElem?_getD,List.getElem?_map,List.getD_eq_getElem?_getD,List.getElem?_eq_getElem hlt];rfl
  obtain⟨a,g1,g2⟩:=V.at (i:=p+i) (by rw[List.length_map];exact hlt)
  rw[hel]at g2
  rw[hd]at hu
  generalize l.getD (p+i) 0=c at hc g2 hu
  have c1:iLt ((p+i:Nat):Int) (l.length:Int)=true:=by rw[Cs];simp;omega
  have a2:FE Int.sub .i64 (.int .i64 ((p+i:Nat):Int)) (.int .i64 (p:Int)) h'=.ok (.int .i64 (i:Int)) h':=by
   have:Int.sub ((p+i:Nat):Int) (p:Int)=(i:Int):=by show((p+i:Nat):Int) - (p:Int)=i;omega
   rw[CO,this,Bg (by omega)]
  have a3:FD .i64 (.int .i64 ((p+i:Nat):Int)) (.int .i64 1) h'=.ok (.int .i64 ((p+(i+1):Nat):Int)) h':=by
   have:((p+i:Nat):Int)+1=((p+(i+1):Nat):Int):=by omega
   rw[EM,this,Bg (by omega)]
  have pre:∃ e2,RN F e' h'=Vf (Hj 1 (Nn F e2 h')) (AE (AC 25) (BZ .i64 (Ar .i64) (AB 8) (kV (.int .i64 1))) (AE (AC 8) (AD (AB 25)) AX)) F∧AB 46 e2=.bool ((decide (0<i) && decide (c=0)) || (decide (8<i) && decide (1<c)))∧AB 0 e2=u∧AB 1 e2=.int .i64 (p:Int)∧AB 7 e2=.int .u64 (acc:Int)∧AB 8 e2=.int .i64 ((p+i:Nat):Int)∧AB 9 e2=.int .u8 (c:Int)∧AB 10 e2=.int .i64 (i:Int):=by
   obtain⟨e2,q1,q2,q3,q4,q5,q6,q7,q8⟩:=av (K:=Nn) (F:=F) (h:=h') (e:=Env.set 10 (.int .i64 (i:Int)) (Env.set 9 (.int .u8 (c:Int)) (Env.set 32 (.int .i64 (i:Int)) (Env.set 29 (.int .u8 (c:Int)) (Env.set 28 (.pointer (some a)) (Env.set 23 (.bool true) (Env.set 22 (.int .i64 (l.length:Int)) e'))))))) (c:=c) (i:=i) (b1:=decide (0<i)) (b2:=decide (c=0)) (b3:=decide (8<i)) (b4:=decide (1<c))
    (by simp[AH]) (by simp[AH]) (by rw[Gh,decide_eq_decide];omega) (by rw[Dr,Bool.eq_iff_iff,beq_iff_eq,decide_eq_true_eq];omega) (by rw[Gh,decide_eq_decide];omega) (by rw[Gh,decide_eq_decide];omega)
   refine⟨e2,?_,q2,?_,?_,?_,?_,?_,?_⟩
   ·rw[S9]
    simp only[F4,IF,BP,A1,GD,Ho,Dv,Gl,AH,Nat.reduceLT,Nat.reduceEqDiff,reduceIte,Am,t0,Vl,AO,AN,t8,c1,A8,g1,AP,g2,Bz,t1,a2,q1]
   ·rw[q3];simp only[AH,Nat.reduceLT,Nat.reduceEqDiff,reduceIte];exact t0
   ·rw[q4];simp only[AH,Nat.reduceLT,Nat.reduceEqDiff,reduceIte];exact t1
   ·rw[q5];simp only[AH,Nat.reduceLT,Nat.reduceEqDiff,reduceIte];exact t7
   ·rw[q6];simp only[AH,Nat.reduceLT,Nat.reduceEqDiff,reduceIte];exact t8
   ·rw[q7];simp only[AH,Nat.reduceLT,Nat.reduceEqDiff,reduceIte]
   ·rw[q8];simp only[AH,Nat.reduceLT,Nat.reduceEqDiff,reduceIte]
  obtain⟨e2,p1,p46,p0,pp1,p7,p8,p9,p10⟩:=pre
  rw[FI]at hu
  by_cases hbad:(0<i∧c=0)∨(8<i∧1<c)
  ·right
   have hB:((decide (0<i) && decide (c=0)) || (decide (8<i) && decide (1<c)))=true:=by simpa using hbad
   rw[hB]at p46
   rw[if_pos hbad]at hu
   have hrun:∃ e3,Nn F e2 h'=.ret e3 h'∧AB 4 e3=.int .u64 0∧AB 5 e3=.int .i64 0∧AB 6 e3=.int .i64 10:=by
    unfold Nn
    simp only[sT,Nat.reduceLT,Nat.reduceEqDiff,reduceIte,p46]
    exact⟨_,rfl,by simp[AH]⟩
   obtain⟨e3,r1,r4,r5,r6⟩:=hrun
   rw[p1,r1,CB,Co]
   exact⟨rfl,.inr ⟨e3,0,0,10,rfl,r4,r5,r6,.inr ⟨hu,by omega⟩⟩⟩
  ·have hB:((decide (0<i) && decide (c=0)) || (decide (8<i) && decide (1<c)))=false:=by
    rw[← Bool.not_eq_true];simpa using hbad
   rw[hB]at p46
   rw[if_neg hbad]at hu
   have hle:acc+c % 128 * 2 ^ (7 * i)<2 ^ (7 * (i+1)):=by
    rw[L4]
    have h1:c % 128≤127:=by omega
    have h2:=Nat.mul_le_mul_right (2 ^ (7 * i)) h1
    omega
   have htop:c % 128 * 2 ^ (7 * i)≤9223372036854775808∧acc<9223372036854775808:=by
    have h3:=QM hi9
    refine⟨?_,by omega⟩
    rcases Nat.lt_or_ge i 9 with h4|h4
    ·have h5:2 ^ (7 * (i+1))≤9223372036854775808:=QM (by omega)
     omega
    ·have h5:c % 128≤1:=by omega
     have h6:=Nat.mul_le_mul_right (2 ^ (7 * i)) h5
     omega
   have m1:Yk .u8 (.int .u8 (c:Int)) (.int .u8 128) h'=.ok (.int .u8 ((c % 128:Nat):Int)) h':=by rw[Tt (by omega)];rfl
   have m2:DQ .u64 (.int .u8 ((c % 128:Nat):Int)) h'=.ok (.int .u64 ((c % 128:Nat):Int)) h':=by rw[Ck,D4 (by omega)]
   have m3:FE Int.mul .i64 (.int .i64 7) (.int .i64 (i:Int)) h'=.ok (.int .i64 ((7 * i:Nat):Int)) h':=by
    have:Int.mul 7 (i:Int)=((7 * i:Nat):Int):=by show(7:Int) * (i:Int)=_;omega
    rw[CO,this,Bg (by omega)]
   have m4:dS .u64 (.int .u64 ((c % 128:Nat):Int)) (.int .i64 ((7 * i:Nat):Int)) h'=.ok (.int .u64 ((c % 128 * 2 ^ (7 * i):Nat):Int)) h':=by
    have:min (7 * i) IntKind.u64.bits=7 * i:=Nat.min_eq_left (by show 7 * i≤64;omega)
    rw[dT,this,D4 (by omega)]
   have m5:FD .u64 (.int .u64 (acc:Int)) (.int .u64 ((c % 128 * 2 ^ (7 * i):Nat):Int)) h'=.ok (.int .u64 ((acc+c % 128 * 2 ^ (7 * i):Nat):Int)) h':=by
    rw[EM,← Int.natCast_add,D4 (by omega)]
   by_cases hsm:c<128
   ·right
    rw[if_pos hsm]at hu
    have c2:iLt (c:Int) 128=true:=by rw[Cs];simp;omega
    have hrun:∃ e3,Nn F e2 h'=.ret e3 h'∧AB 4 e3=.int .u64 ((acc+c % 128 * 2 ^ (7 * i):Nat):Int)∧AB 5 e3=.int .i64 ((p+(i+1):Nat):Int)∧AB 6 e3=.int .i64 0:=by
     unfold Nn
     simp only[sT,Nat.reduceLT,Nat.reduceEqDiff,reduceIte,p46,OC,p9,m1,CN,m2,Bz,p10,m3,Tj,m4,BR,p7,m5,AO,AN,c2,p8,a3]
     exact⟨_,rfl,by simp[AH]⟩
    obtain⟨e3,r1,r4,r5,r6⟩:=hrun
    rw[p1,r1,CB,Co]
    refine⟨rfl,.inr ⟨e3,_,_,_,rfl,r4,r5,r6,.inl ⟨_,_,hu,?_,rfl,rfl⟩⟩⟩
    rw[Nat.mod_eq_of_lt hsm]
   ·left
    rw[if_neg hsm]at hu
    have hi8:i≤8:=by omega
    have c2:iLt (c:Int) 128=false:=by rw[Cs];simp;omega
    have hrun:∃ e3,Nn F e2 h'=.norm e3 h'∧AB 0 e3=u∧AB 1 e3=.int .i64 (p:Int)∧AB 7 e3=.int .u64 ((acc+c % 128 * 2 ^ (7 * i):Nat):Int)∧AB 8 e3=.int .i64 ((p+i:Nat):Int):=by
     unfold Nn
     simp only[sT,Nat.reduceLT,Nat.reduceEqDiff,reduceIte,p46,OC,p9,m1,CN,m2,Bz,p10,m3,Tj,m4,BR,p7,m5,AO,AN,c2,p8,a3]
     exact⟨_,rfl,by simp[AH,p0,pp1,p8]⟩
    obtain⟨e3,r1,r0,rr1,r7,r8⟩:=hrun
    have hrun2:∃ e4,RN F e' h'=.norm e4 h'∧AB 0 e4=u∧AB 1 e4=.int .i64 (p:Int)∧AB 7 e4=.int .u64 ((acc+c % 128 * 2 ^ (7 * i):Nat):Int)∧AB 8 e4=.int .i64 ((p+(i+1):Nat):Int):=by
     rw[p1,r1]
     simp only[Df,BJ,F4,GD,BR,r8,Gl,a3,Dv,Kx,AH,Nat.reduceLT,Nat.reduceEqDiff,reduceIte]
     exact⟨_,rfl,by simp[AH,r0,rr1,r7]⟩
    obtain⟨e4,k1,k2,k3,k4,k5⟩:=hrun2
    exact⟨by omega,e4,h',k1,rfl,_,k2,k3,k4,k5,hle,by omega,by omega,hu⟩
 ·right
  have c1:iLt ((p+i:Nat):Int) (l.length:Int)=false:=by rw[Cs];simp;omega
  have hrun:∃ e2,RN F e' h'=.exit 0 e2 h':=by
   rw[S9]
   simp only[sT,Nat.reduceLT,Nat.reduceEqDiff,reduceIte,Am,t0,Vl,AO,AN,t8,c1]
   exact⟨_,rfl⟩
  obtain⟨e2,r1⟩:=hrun
  rw[r1]
  refine⟨rfl,.inl ⟨e2,rfl,?_⟩⟩
  rw[hu,List.drop_of_length_le (by omega)];rfl
def nl:C:=(AE (AC 4) (AD (kV (.int .u64 0))) (AE (AC 5) (AD (kV (.int .i64 0))) (AE (AC 6) (AD (kV (.int .i64 11))) Ad)))
theorem TB:LS=AE (AC 7) (AD (kV (.int .u64 0))) (AE (AC 8) (AD (AB 1)) (A2 (AY 0 (Az RN)) nl)):=rfl
theorem Sv:Z7=Sw:=rfl
theorem jp{n:Nat}{h:Hp}{u:Value}{l:List Nat}{p:Nat}(V:h.Vals u (l.map bv))(hb:∀ x∈l,x<256)(hp:p≤l.length)(hl:l.length≤1000000):
  ∃ a b c,call AF (n+1) 111 [u,.int .i64 (p:Int)] h=.ok (.tuple ⟨[.int .u64 a,.int .i64 b,.int .i64 c]⟩) h∧eV l p a b c:=by
 have Vl:lenSR u h=.ok (.int .i64 (l.length:Int)) h:=by have:=V.len;rwa [List.length_map]at this
 have c0:iLt (p:Int) 0=false:=by rw[Cs];simp
 have c1:iGt (p:Int) (l.length:Int)=false:=by rw[Gh];simp;omega
 have pre:∃ e1,Sw (call AF n) (AV e0 0 [u,.int .i64 (p:Int)]) h=LS (call AF n) e1 h∧AB 0 e1=u∧AB 1 e1=.int .i64 (p:Int):=by
  unfold Sw
  simp only[iN,Nat.reduceAdd,F4,IF,GD,Ga,Dv,Gl,AH,Nat.reduceLT,Nat.reduceEqDiff,reduceIte,gD,AO,AN,c0,Am,Vl,c1]
  exact⟨_,rfl,by simp[AH]⟩
 obtain⟨e1,p1,p2,p3⟩:=pre
 have H:=XN (F:=call AF n) (e:=Env.set 8 (.int .i64 (p:Int)) (Env.set 7 (.int .u64 0) e1)) V hb hp hl (by simp[AH,p2]) (by simp[AH,p3]) (by simp[AH]) (by simp[AH])
 rcases H with ⟨e2,q1,q2⟩|⟨e2,a,b,c,q1,q4,q5,q6,q7⟩
 ·refine⟨0,0,11,?_,.inr ⟨q2,by omega⟩⟩
  rw[Sr rfl,Sv,p1,TB]
  simp only[F4,GD,Dv,Gl,AH,Nat.reduceLT,Nat.reduceEqDiff,reduceIte,p3,BP,A1]
  rw[q1]
  simp only[A5,BJ]
  unfold nl
  simp only[sT,Nat.reduceLT,Nat.reduceEqDiff,reduceIte,Bp,LO]
 ·refine⟨a,b,c,?_,q7⟩
  rw[Sr rfl,Sv,p1,TB]
  simp only[F4,GD,Dv,Gl,AH,Nat.reduceLT,Nat.reduceEqDiff,reduceIte,p3,BP,A1]
  rw[q1]
  simp only[CB,Co]
  simp only[Bp,LO,q4,q5,q6]
end
noncomputable section
open Go
def OW(T:List Nat):Nat→List Nat→Nat
 |s,[]=>s
 |s,b::l=>OW T (Nat.xor (T.getD (Nat.xor (s % 256) b) 0) (s / 256)) l
def Ct(T l:List Nat):Nat:=4294967295 - OW T 4294967295 l
def TblOk(T:List Nat):Prop:=T.length=256∧∀ i,T.getD i 0<4294967296
theorem dr{a b:Nat}(ha:a<256)(hb:b<256):Nat.xor a b<256:=Nat.xor_lt_two_pow (n:=8) ha hb
theorem ZP{a b:Nat}(ha:a<4294967296)(hb:b<4294967296):Nat.xor a b<4294967296:=Nat.xor_lt_two_pow (n:=32) ha hb
theorem NS{T:List Nat}(hT:TblOk T){s:Nat}(hs:s<4294967296)(b:Nat):Nat.xor (T.getD (Nat.xor (s % 256) b) 0) (s / 256)<4294967296:=ZP (hT.2 _) (by omega)
theorem UF{T:List Nat}(hT:TblOk T):∀ (l:List Nat) (s:Nat),s<4294967296→OW T s l<4294967296
 |[],s,hs=>hs
 |b::l,s,hs=>UF hT l _ (NS hT hs b)
theorem Iz(T l:List Nat):Ct T l<4294967296:=by unfold Ct;omega
def G7(s:Nat):List Nat:=[s / 16777216 % 256,s / 65536 % 256,s / 256 % 256,s % 256]
def Ed(T l:List Nat):List Nat:=l++G7 (Ct T l)
theorem HV(T l:List Nat):(Ed T l).length=l.length+4:=by unfold Ed;rw[List.length_append];rfl
theorem dZ(s x:Nat)(h:x∈G7 s):x<256:=by
 unfold G7 at h
 simp only[List.mem_cons,List.mem_nil_iff,or_false]at h
 omega
theorem Qc{T l:List Nat}(h:∀ x∈l,x<256):∀ x∈Ed T l,x<256:=fun x hx=>by
 rcases List.mem_append.1 hx with h1|h1
 ·exact h x h1
 ·exact dZ _ x h1
def B8(ns:List Nat):List Nat:=ns.flatMap B5
theorem Ef(n:Nat)(ns:List Nat):B8 (n::ns)=B5 n++B8 ns:=rfl
theorem SZ(a b:List Nat):B8 (a++b)=B8 a++B8 b:=List.flatMap_append
theorem NT{ns:List Nat}:∀ x∈B8 ns,x<256:=fun x hx=>by
 obtain⟨n,_,h⟩:=List.mem_flatMap.1 hx
 exact ZJ n x h
theorem IC:∀ {ns:List Nat},(∀ v∈ns,v<18446744073709551616)→(B8 ns).length≤10 * ns.length
 |[],_=>Nat.le_refl _
 |n::ns,h=>by
  have h1:=Jl (h n List.mem_cons_self)
  have h2:=IC fun v hv=>h v (List.mem_cons_of_mem _ hv)
  rw[Ef,List.length_append,List.length_cons]
  omega
def OL(l:List Nat):List Nat:=l++List.replicate (60 - l.length) 0
theorem Ly{l:List Nat}(h:l.length≤60):(OL l).length=60:=by unfold OL;rw[List.length_append,List.length_replicate];omega
theorem To{l:List Nat}(h:∀ x∈l,x<256):∀ x∈OL l,x<256:=fun x hx=>by
 rcases List.mem_append.1 hx with h1|h1
 ·exact h x h1
 ·rw[List.eq_of_mem_replicate h1];decide
def MN(ns:List Nat):List Nat:=OL (B8 ns)
def rdN:Nat→List Nat→Nat→Option (List Nat×Nat)
 |0,_,p=>some ([],p)
 |k+1,l,p=>match FI 0 0 (l.drop p)with
  |none=>none
  |some (v,j)=>if v≤1099511627776 then(match rdN k l (p+j)with
   |none=>none
   |some (vs,q)=>some (v::vs,q))else none
theorem OP:∀ (ns:List Nat) (a r:List Nat),(∀ v∈ns,v≤1099511627776)→rdN ns.length (a++(B8 ns++r)) a.length=some (ns,a.length+(B8 ns).length)
 |[],a,r,_=>rfl
 |v::ns,a,r,h=>by
  have hv:=h v List.mem_cons_self
  rw[List.length_cons,rdN,List.drop_left,Ef,List.append_assoc,lJ (by omega)]
  simp only
  have:=OP ns (a++B5 v) r fun x hx=>h x (List.mem_cons_of_mem _ hx)
  rw[List.append_assoc,List.length_append]at this
  rw[if_pos hv,this]
  simp only[List.length_append,Nat.add_assoc]
theorem KX:∀ (k:Nat) (l:List Nat) (p:Nat) (ns:List Nat) (q:Nat),(∀ x∈l,x<256)→p≤l.length→rdN k l p=some (ns,q)→ns.length=k∧l.drop p=B8 ns++l.drop q∧q=p+(B8 ns).length∧q≤l.length∧∀ v∈ns,v≤1099511627776
 |0,l,p,ns,q,hb,hp,h=>by
  cases h
  exact⟨rfl,rfl,rfl,hp,fun v hv=>by cases hv⟩
 |k+1,l,p,ns,q,hb,hp,h=>by
  rw[rdN]at h
  cases hu:FI 0 0 (l.drop p)with
  |none=>rw[hu]at h;cases h
  |some vj=>
   obtain⟨v,j⟩:=vj
   rw[hu]at h
   simp only at h
   by_cases hv:v≤1099511627776
   ·rw[if_pos hv]at h
    have hbd:∀ x∈l.drop p,x<256:=fun x hx=>hb x (List.mem_of_mem_drop hx)
    have hj:=eT hbd hu
    rw[List.length_drop]at hj
    obtain⟨g1,g2,g3⟩:=ZH hbd hu
    cases hr:rdN k l (p+j)with
    |none=>rw[hr]at h;cases h
    |some y=>
     obtain⟨vs,q'⟩:=y
     rw[hr]at h
     cases h
     obtain⟨i1,i2,i3,i4,i5⟩:=KX k l (p+j) vs q hb (by omega) hr
     refine⟨by rw[List.length_cons,i1],?_,?_,i4,fun x hx=>?_⟩
     ·rw[g1,List.drop_drop,i2,Ef,List.append_assoc]
     ·rw[i3,Ef,List.length_append];omega
     ·rcases List.mem_cons.1 hx with rfl|hx
      ·exact hv
      ·exact i5 x hx
   ·rw[if_neg hv]at h;cases h
def B4(a b c:Int)(s n:Nat):Bool:=decide (0≤a∧a≤1099511627776∧0≤b∧b<255∧1≤c∧c≤1099511627776∧(s=1∨s=2)∧n≤65536)
def at6(ns:List Nat)(i:Nat):Nat:=ns.getD i 0
def EU(T l:List Nat):Option (List Nat):=if l.length<4 then none else if Ed T (l.take (l.length - 4))=l then some (l.take (l.length - 4))else none
def OG(ns:List Nat):Prop:=B4 (at6 ns 1) (at6 ns 2) (at6 ns 3) (min (at6 ns 0) 9) 0=true∧at6 ns 4≤65536∧at6 ns 5≤4294967295
def ci(ns:List Nat):Prop:=at6 ns 0≤2∧at6 ns 4≤65536∧at6 ns 5≤4294967295∧B4 (at6 ns 1) (at6 ns 2) (at6 ns 3) (at6 ns 0) 0=true
theorem cj{ns:List Nat}:OG ns↔ci ns:=by
 unfold OG ci B4
 simp only[decide_eq_true_eq]
 generalize at6 ns 0=s
 constructor
 ·rintro⟨⟨h1,h2,h3,h4,h5,h6,h7,h8⟩,h9,h10⟩
  exact⟨by omega,h9,h10,h1,h2,h3,h4,h5,h6,by omega,h8⟩
 ·rintro⟨h0,h9,h10,h1,h2,h3,h4,h5,h6,h7,h8⟩
  exact⟨⟨h1,h2,h3,h4,h5,h6,by omega,h8⟩,h9,h10⟩
def Kk(T l ns:List Nat):Prop:=∃ body q,EU T l=some body∧body.length=60∧rdN 6 body 0=some (ns,q)∧OG ns∧∀ x∈body.drop q,x=0
def qj(T l ns:List Nat):Prop:=∃ q,rdN 6 l 0=some (ns,q)∧ci ns∧Ed T (MN ns)=l
theorem I4{T l body:List Nat}(h:EU T l=some body):Ed T body=l∧body=l.take (l.length - 4):=by
 unfold EU at h
 split at h
 ·cases h
 ·split at h
  ·rename_i h2
   cases h
   exact⟨h2,rfl⟩
  ·cases h
theorem Oa(T body:List Nat):EU T (Ed T body)=some body:=by
 have h1:(Ed T body).take ((Ed T body).length - 4)=body:=by
  rw[HV,Nat.add_sub_cancel]
  unfold Ed
  exact List.take_left
 unfold EU
 rw[h1,if_neg (by rw[HV];omega),if_pos rfl]
theorem ZT{l:List Nat}(h:∀ x∈l,x=0):l=List.replicate l.length 0:=List.eq_replicate_iff.2 ⟨rfl,h⟩
theorem YY{T l ns:List Nat}(hb:∀ x∈l,x<256):Kk T l ns↔qj T l ns:=by
 constructor
 ·rintro⟨body,q,h1,h2,h3,h4,h5⟩
  obtain⟨k1,k2⟩:=I4 h1
  have hbb:∀ x∈body,x<256:=fun x hx=>hb x (by rw[k2]at hx;exact List.mem_of_mem_take hx)
  obtain⟨g1,g2,g3,g4,g5⟩:=KX 6 body 0 ns q hbb (Nat.zero_le _) h3
  rw[List.drop_zero]at g2
  have hz:=ZT h5
  have hh:MN ns=body:=by
   unfold MN OL
   rw[show 60 - (B8 ns).length=(body.drop q).length by rw[List.length_drop];omega,← hz,← g2]
  refine⟨(B8 ns).length,?_,cj.1 h4,by rw[hh];exact k1⟩
  have:=OP ns [] (body.drop q++G7 (Ct T body)) g5
  rw[g1]at this
  rw[← k1]
  unfold Ed
  rw[List.nil_append,← List.append_assoc,← g2]at this
  simpa using this
 ·rintro⟨q,h1,h2,h3⟩
  obtain⟨g1,g2,g3,g4,g5⟩:=KX 6 l 0 ns q hb (Nat.zero_le _) h1
  have hlen:(B8 ns).length≤60:=by
   have:=IC (ns:=ns) fun v hv=>by have:=g5 v hv;omega
   omega
  refine⟨MN ns,(B8 ns).length,by rw[← h3];exact Oa T _,Ly hlen,?_,cj.2 h2,fun x hx=>?_⟩
  ·have:=OP ns [] (List.replicate (60 - (B8 ns).length) 0) g5
   rw[g1]at this
   unfold MN OL
   simpa using this
  ·unfold MN OL at hx
   rw[List.drop_left]at hx
   exact List.eq_of_mem_replicate hx
end
end Go.Proofs.YtedbmmfebjfibaaGreat

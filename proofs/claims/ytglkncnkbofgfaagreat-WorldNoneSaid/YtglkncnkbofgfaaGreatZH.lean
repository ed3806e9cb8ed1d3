/-
  Part ZH of what Lawwn stands on: printed by program, names and spaces cut.
-/
import Derived.Test.YtglkncnkbofgfaaGreatZG
import Derived.Shelf.SlIterI.Nil
import Derived.Shelf.SortM.Plain
import Derived.Shelf.SortM.SortNone
import Derived.ChangeSlices
import Derived.ChangeArms
import Derived.Laws.Externs
import Derived.Tactics2
import Derived.Deep.LoopGhost
import Derived.Shelf.Strings.IndexAnyAll
set_option linter.unusedSimpArgs false
set_option linter.unusedVariables false
namespace Go.Proofs.YtglkncnkbofgfaaGreat
noncomputable section
open Go Go.Proofs Go.RowKit Go.Shelf Go.Maps Go.MapKept Go.ChangeShapes
def UV(m:Nat):List Nat→List Nat
 |[]=>[m]
 |x::l=>match Nat.ble m x with
  |true=>m::x::l
  |false=>x::UV m l
def Ct:List Nat→List Nat
 |[]=>[]
 |x::l=>UV x (Ct l)
def NO:List Nat→Bool
 |[]=>true
 |x::l=>(match l with
  |[]=>true
  |y::_=>Nat.blt x y) && NO l
def Ls:Value→Option Nat
 |.int k n=>match k,n with
  |.i64,.ofNat m=>some m
  |_,_=>none
 |_=>none
def Mw(clk:Nat):List Ent→Nat→Option (List Nat)
 |[],_=>some []
 |e::l,lo=>match Ls e.key with
  |some m=>match Nat.blt m 9223372036854775808 && (Nat.ble lo e.born && Nat.blt e.born clk)with
   |true=>match Mw clk l (Nat.succ e.born)with
    |some r=>some (m::r)
    |none=>none
   |false=>none
  |none=>none
def zv(m:Nat):Value:=.int .i64 (.ofNat m)
def Gj(t:Nat)(h:Hp):List Nat→R
 |[]=>.ok (.slice none 0 0) h
 |x::l=>match NO (x::l)with
  |true=>forceN (Bk (x::l)) fun n=>newRow h (Nat.succ t) ((x::l).map zv) (DC n n)
  |false=>.no
def M9(t:Nat)(h:Hp)(v:Value):R:=match v with
 |.map none=>.ok (.slice none 0 0) h
 |.map (some r)=>match BB h r with
  |.ok es clk=>match Nat.ble (Bk es) 1000000 with
   |true=>match Mw clk es 0 with
    |some ks=>Gj t h (Ct ks)
    |none=>.no
   |false=>.no
  |.no=>.no
 |_=>.no
def JZ(t:Nat)(a:Addr)(h:Hp):R:=match Nat.beq a.off 0 && Nat.ble 256 a.block with
 |true=>match rowOf h a.block with
  |.ok c s e=>match Nat.beq e 0 && Nat.blt 0 s with
   |true=>M9 t h (c.get 0)
   |false=>.no
  |.no=>.no
 |false=>.no
def Gi(Ks:List Nat)(t:Nat)(args:List Value)(h:Hp):R:=match args with
 |[v]=>match v with
  |.func fn f c=>match fn with
   |.func g=>match memN g Ks with
    |true=>match f.toList with
     |[]=>match c.toList with
      |[p]=>match p with
       |.pointer (some a)=>JZ t a h
       |_=>.no
      |_=>.no
     |_::_=>.no
    |false=>.no
   |_=>.no
  |_=>.no
 |_=>.no
def Ma(Ks:List Nat)(t:Nat):Body:=⟨[.x (fun _=>Gi Ks t)],cNo⟩
theorem Ib(m:Nat):∀ l:List Nat,(UV m l).Perm (m::l)
 |[]=>.refl _
 |x::l=>by
  unfold UV
  split
  ·exact .refl _
  ·exact((Ib m l).cons x).trans (.swap m x l)
theorem Dn:∀ l:List Nat,(Ct l).Perm l
 |[]=>.refl _
 |x::l=>(Ib x _).trans ((Dn l).cons x)
theorem Fj:∀ {l:List Nat},NO l=true→l.Pairwise (· < ·)
 |[],_=>.nil
 |x::l,h=>by
  unfold NO at h
  rw[Bool.and_eq_true]at h
  have hl:=Fj h.2
  refine List.pairwise_cons.2 ⟨fun y hy=>?_,hl⟩
  cases l with
  |nil=>cases hy
  |cons z l=>
   have h1:x<z:=Al.1 h.1
   rcases List.mem_cons.1 hy with rfl|hy
   ·exact h1
   ·exact Nat.lt_trans h1 ((List.pairwise_cons.1 hl).1 y hy)
theorem iE{a b:Nat}(h:zv a=zv b):a=b:=by
 unfold zv at h
 injection h with _ h
 injection h
theorem K6{ks:List Nat}(h:NO (Ct ks)=true):((ks.map Int.ofNat).mergeSort leI).map encZ=(Ct ks).map zv:=by
 have hp:=Fj h
 have h1:(ks.map Int.ofNat).mergeSort leI=((Ct ks).map Int.ofNat).mergeSort leI:=mergeSort_of_perm_i ((Dn ks).symm.map _)
 have h2:((Ct ks).map Int.ofNat).Pairwise (fun a b=>leI a b=true):=List.pairwise_map.2 (hp.imp fun {a b} hab=>by
  simp only[leI,decide_eq_true_eq]
  exact Int.ofNat_le.2 (Nat.le_of_lt hab))
 rw[h1,List.mergeSort_of_pairwise h2,List.map_map]
 rfl
structure SortedSays (P:Program)(S K t:Nat):Prop where
 nil:∀ (w:World) (b:Nat),b<w.heap.size→w.cell? ⟨b,0,none⟩=some (.map none)→
  Calls P S #[.func (.func K) #[] #[.pointer (some ⟨b,0,none⟩)]] w fun e w'=>e=.returned (.slice none 0 0)∧Below w.heap.size w w'
 map:∀ (w:World) (b r:Nat) (es:Array MapEntry) (clk:Nat) (ks:List Nat),b<w.heap.size→w.cell? ⟨b,0,none⟩=some (.map (some r))→w.heap[r]? =some (.map es clk)→es.size≤1000000→Stamped es clk→
  es.toList.map (·.key)=ks.map zv→(∀ k∈ks,k<9223372036854775808)→
  Calls P S #[.func (.func K) #[] #[.pointer (some ⟨b,0,none⟩)]] w fun e w'=>∃ v,e=.returned v∧w'.ownsRow w.heap.size t 1 v ks.length (((ks.map Int.ofNat).mergeSort leI).map encZ)∧(v=.slice none 0 0↔ks=[])∧Below w.heap.size w w'
def Oy:Value→Int
 |.int _ q=>q
 |_=>0
theorem ju{m:Nat}(h:m<9223372036854775808):(Lit.int .i64 (Int.ofNat m)).wf=true:=by
 simp[Lit.wf,IntKind.min,IntKind.max,IntKind.signed,IntKind.bits]
 omega
theorem E6{P:Program}{ρ ρ':Ren}(L:SlLaysZI.n6 P ρ)(L':SlLaysZI.n10 P ρ')(hsort:∀ m,AnyZI.SortsIn P ρ Fence.wide m)
  (e9:∀ args w,(callFunc (ρ.f 9) args).run P w=.ok (.enter (ρ.f 9) args) w)(eg:∀ args w,(callFunc (ρ'.f 10) args).run P w=.ok (.enter (ρ'.f 10) args) w):SortedSays P (ρ.f 6) (ρ'.f 10) (ρ.t 26) where
 nil:=fun w b hb hc=>by
  have hseq:SeqGives Fence.wide 2 P (ρ'.f 10) #[.pointer (some ⟨b,0,none⟩)] encZ (fun ss:List Int=>ss=[]) 0 w:=AnyZI.keys_gives_nil L' Fence.wide 2 trivial rfl b w hb hc
  have cS:=AnyZI.sorted_in L Fence.wide 5 trivial trivial trivial trivial rfl (by omega) (hsort _) e9 (ρ'.f 10) #[.pointer (some ⟨b,0,none⟩)] trivial eg _ 0 (Nat.zero_le _) (by omega) w hseq
  refine(callsIn_wide.1 cS).mono ?_
  rintro e w' ⟨v,ss,rfl,rfl,hrow,hnil,hbl⟩
  exact⟨by rw[hnil.2 rfl],hbl⟩
 map:=fun w b r es clk ks hb hc hr hsz hst hk hlt=>by
  let R:Value→Option (DataW Unit×List MemPlace):=fun _=>some (.nil,[])
  have hkey:∀ x∈es.toList,∃ m,x.key=zv m∧m<9223372036854775808:=fun x hx=>by
   have:x.key∈ks.map zv:=hk ▸ List.mem_map_of_mem hx
   obtain⟨m,hm,he⟩:=List.mem_map.1 this
   exact⟨m,he.symm,hlt m hm⟩
  have hrd:∀ x∈es.toList,∀ m,x.key=zv m→m<9223372036854775808→Go.WideElems.rd P (ρ'.t 26) R x=some (.int .i64 (Int.ofNat m),.nil):=fun x hx m he hm=>by
   unfold Go.WideElems.rd
   rw[he,zv,keyOf_int_mk L'.t26 (ju hm)]
   rfl
  have hown:w.ownsMap P (ρ'.t 26) R r es.size (.map ((es.toList.map (Go.WideElems.rg P (ρ'.t 26) R)).foldr DataW.insert [])):=
   ⟨es,clk,hr,⟨by unfold maxLen;omega,hst,fun x hx=>by
    obtain⟨m,he,hm⟩:=hkey x hx
    exact⟨_,hrd x hx m he hm⟩⟩,Nat.le_refl _,rfl⟩
  have hlen:Maps.size (DataW.map ((es.toList.map (Go.WideElems.rg P (ρ'.t 26) R)).foldr DataW.insert []))=es.size:=by
   show((es.toList.map (Go.WideElems.rg P (ρ'.t 26) R)).foldr DataW.insert []).length=_
   rw[(Go.WideShapes.sorted_perm _).length_eq]
   simp
  have hper:(intKeys (DataW.map ((es.toList.map (Go.WideElems.rg P (ρ'.t 26) R)).foldr DataW.insert []))).Perm (ks.map Int.ofNat):=by
   show(((es.toList.map (Go.WideElems.rg P (ρ'.t 26) R)).foldr DataW.insert []).map fun p=>Go.intOf p.1).Perm _
   refine((Go.WideShapes.sorted_perm _).map _).trans ?_
   have e1:ks.map Int.ofNat=es.toList.map fun x=>Oy x.key:=by
    have:(es.toList.map (·.key)).map Oy=(ks.map zv).map Oy:=by rw[hk]
    rw[List.map_map,List.map_map]at this
    exact this.symm
   have e2:(es.toList.map (Go.WideElems.rg P (ρ'.t 26) R)).map (fun p=>Go.intOf p.1)=es.toList.map fun x=>Oy x.key:=by
    rw[List.map_map]
    refine List.map_congr_left fun x hx=>?_
    obtain⟨m,he,hm⟩:=hkey x hx
    show Go.intOf (Go.WideElems.rg P (ρ'.t 26) R x).1=Oy x.key
    unfold Go.WideElems.rg
    rw[hrd x hx m he hm,he]
    rfl
   rw[e1,e2]
  have hseq:=AnyZI.keys_gives L' Fence.wide 2 trivial rfl (by omega) b r es.size _ w hb hc hown
  have cS:=AnyZI.sorted_in L Fence.wide 5 trivial trivial trivial trivial rfl (by omega) (hsort _) e9 (ρ'.f 10) #[.pointer (some ⟨b,0,none⟩)] trivial eg _ _ (by rw[hlen];unfold maxLen;omega) (by rw[hlen];omega) w hseq
  refine(callsIn_wide.1 cS).mono ?_
  rintro e w' ⟨v,ss,rfl,hS,hrow,hnil,hbl⟩
  have hp:ss.Perm (ks.map Int.ofNat):=hS.trans hper
  have hl:ss.length=ks.length:=by rw[hp.length_eq];simp
  refine⟨v,rfl,?_,hnil.trans ?_,hbl⟩
  ·have h1:ss.mergeSort leI=(ks.map Int.ofNat).mergeSort leI:=mergeSort_of_perm_i hp
   rw[← hl,← h1];exact hrow
  ·constructor
   ·rintro rfl
    simp only[List.length_nil]at hl
    exact List.eq_nil_of_length_eq_zero hl.symm
   ·rintro rfl
    exact List.eq_nil_of_length_eq_zero hl
section
variable {P:Program}{ty:TTy}{φ:Phi}{E:Nat→Prop}{h h':Hp}{w w':World}{v:Value}
theorem RelW.below(H:RelW ty φ E h w)(hb:Below w.heap.size w w'):RelW ty φ E h w'∧Evo φ h w φ h w':=
 ⟨{dom:=fun i p e=>⟨(H.dom i p e).1,Nat.lt_of_lt_of_le (H.dom i p e).2 hb.size⟩
   inj:=H.inj
   row:=fun i p e hE=>(by rw[hb.block _ (H.dom i p e).2];exact H.row i p e hE)
   fresh:=H.fresh
   kind:=H.kind
   inp:=H.inp},
  {le:=.refl _
   new:=fun _ _ e=>.inl e
   next:=Nat.le_refl _
   size:=hb.size
   tape:=hb.tape
   os:=hb.os
   output:=hb.output
   frame:=fun k hk _=>hb.block k hk
   back:=fun i p e hl _=>⟨i,p,e,hl,rfl,rfl,.inl rfl⟩
   kept:=fun _ _ _=>rfl
   low:=Nat.le_refl _
   high:=Nat.le_refl _
   shape:=fun _ _=>.refl _
   only:=fun _ _ _=>rfl
   all:=fun _ h1 h2=>absurd h2 (Nat.not_lt.2 h1)}⟩
theorem Ni{u u':Value}{m:Nat}(hn:Ls u=some m)(hr:RelV φ u u'):u'=zv m:=by
 unfold Ls at hn
 split at hn
 ·split at hn
  ·cases hn;cases hr;rfl
  ·cases hn
 ·cases hn
theorem KK{clk:Nat}:∀ {es:List Ent} {es':List MapEntry} {lo:Nat} {ks:List Nat},Mw clk es lo=some ks→RelE φ es es'→
  es'.map (·.key)=ks.map zv∧(∀ k∈ks,k<9223372036854775808)∧(∀ x∈es',lo≤x.born∧x.born<clk)∧(es'.map (·.born)).Nodup
 |[],es',lo,ks,hk,he=>by
  cases he
  cases hk
  exact⟨rfl,(fun k hk=>by cases hk),(fun x hx=>by cases hx),.nil⟩
 |e::es,es',lo,ks,hk,he=>by
  cases he with
  |@cons k k' v v' b _ l' hkey hv ht=>
  unfold Mw at hk
  split at hk
  case h_2=>cases hk
  rename_i m hm
  split at hk
  case h_2=>cases hk
  rename_i hb
  simp only[Bool.and_eq_true]at hb
  split at hk
  case h_2=>cases hk
  rename_i r hr
  cases hk
  obtain⟨h1,h2,h3,h4⟩:=KK hr ht
  have b1:lo≤b:=Aq.1 hb.2.1
  have b2:b<clk:=Al.1 hb.2.2
  refine⟨?_,fun x hx=>?_,fun x hx=>?_,?_⟩
  ·simp only[List.map_cons,h1,Ni hm hkey]
  ·rcases List.mem_cons.1 hx with rfl|hx
   ·exact Al.1 hb.1
   ·exact h2 x hx
  ·rcases List.mem_cons.1 hx with rfl|hx
   ·exact⟨b1,b2⟩
   ·have:=h3 x hx
    have h5:b+1≤x.born:=this.1
    exact⟨by omega,this.2⟩
  ·rw[List.map_cons,List.nodup_cons]
   refine⟨fun hx=>?_,h4⟩
   obtain⟨x,hx,he⟩:=List.mem_map.1 hx
   have h5:b+1≤x.born:=(h3 x hx).1
   have he:x.born=b:=he
   omega
theorem K7{Ks:List Nat}{t:Nat}{args:List Value}(hr:Gi Ks t args h=.ok v h'):∃ g a,args=[.func (.func g) ⟨[]⟩ ⟨[.pointer (some a)]⟩]∧memN g Ks=true∧JZ t a h=.ok v h':=by
 unfold Gi at hr
 split at hr
 case h_2=>cases hr
 split at hr
 case h_2=>cases hr
 rename_i fn f c
 split at hr
 case h_2=>cases hr
 rename_i g
 split at hr
 case h_2=>cases hr
 rename_i hm
 split at hr
 case h_2=>cases hr
 rename_i hf
 split at hr
 case h_2=>cases hr
 rename_i p hc
 split at hr
 case h_2=>cases hr
 rename_i a
 refine⟨g,a,?_,hm,hr⟩
 have e1:f=⟨[]⟩:=Array.ext' hf
 have e2:c=⟨[.pointer (some a)]⟩:=Array.ext' hc
 rw[e1,e2]
theorem MB(H:RelW ty φ nil h w){t:Nat}{ti:TI}(hty:ty.get t=some ti)(hs:ti.size=1){ks:List Nat}(hk:Gj t h (Ct ks)=.ok v h')(hb:Below w.heap.size w w'){v':Value}
  (ho:w'.ownsRow w.heap.size t 1 v' ks.length (((ks.map Int.ofNat).mergeSort leI).map encZ))(hn:v'=.slice none 0 0↔ks=[]):
  ∃ ψ,RelV ψ v v'∧RelW ty ψ nil h' w'∧Evo φ h w ψ h' w':=by
 have hpl:=(Dn ks).length_eq
 unfold Gj at hk
 split at hk
 ·rename_i he
  cases hk
  rw[he]at hpl
  have:ks=[]:=List.eq_nil_of_length_eq_zero hpl.symm
  rw[hn.2 this]
  exact⟨φ,.slice0,H.below hb⟩
 ·rename_i x l he
  split at hk
  case h_2=>cases hk
  rename_i hasc
  rw[← he]at hasc hk
  rw[Ap,A4,hpl]at hk
  have hpos:0<ks.length:=by rw[← hpl,he];simp
  rw[K6 hasc]at ho
  obtain⟨_,⟨_,h0⟩|⟨g,cap,cur,rfl,hg,hgb,hcap,_,hcs,htake⟩⟩:=ho
  ·omega
  unfold newRow at hk
  split at hk
  case h_2=>cases hk
  rename_i c hset
  unfold Bt at hk
  rw[Ap]at hk
  obtain⟨bl,hbl,hk'⟩:=DN hk
  cases hk'
  have hlen:Bk ((Ct ks).map zv)=ks.length:=by rw[A4,List.length_map,hpl]
  rw[hlen]at hbl
  rw[Nat.mul_one]at hcs htake
  let p:Pl:={blk:=g,off:=0,sz:=ks.length,room:=cap,es:=1}
  have hsame:∀ k,k<w.heap.size→w'.heap[k]? =w.heap[k]?:=hb.block
  have hgl:g<w'.heap.size:=(Array.getElem?_eq_some_iff.1 hgb).1
  have hB:RelB ty (φ.put h.next p) p (.cells c ks.length (Nat.succ t)) w'.heap[p.blk]?:=by
   show RelB ty (φ.put h.next p) p (.cells c ks.length (Nat.succ t)) w'.heap[g]?
   rw[hgb]
   refine .cells {kind:=⟨rfl,.inr ⟨t,ti,rfl,hty,hs.symm⟩⟩,room:=hcap,fits:=(by show 0+cap≤cur.size;omega),loose:=.inl (.inl rfl),cell:=fun j hj=>?_}
   have hj2:j<((Ct ks).map zv).length:=by rw[List.length_map,hpl];exact hj
   have e1:=E4 hset j hj2
   rw[e1]
   refine⟨((Ct ks).map zv).getD j undef,?_,?_⟩
   ·show cur[0+j]? =_
    rw[Nat.zero_add,← Array.getElem?_toList]
    have e2:(cur.toList.take ks.length)[j]? =((Ct ks).map zv)[j]?:=by rw[htake]
    rw[List.getElem?_take,if_pos hj]at e2
    rw[e2,List.getD_eq_getElem?_getD,List.getElem?_eq_getElem hj2]
    rfl
   ·rw[List.getD_eq_getElem?_getD,List.getElem?_eq_getElem hj2]
    show RelV _ (((Ct ks).map zv)[j]) _
    rw[List.getElem_map]
    exact .int _ _
  refine⟨φ.put h.next p,?_,H.new hbl hb.size hgl (fun j q e _=>by have:=(H.dom j q e).2;show q.blk≠g;omega) (fun k hk _=>hsame k hk) hB,.made H hbl hg hb.size hsame hb.tape hb.os hb.output⟩
  refine .slice (Nat.le_refl _) ⟨rfl,rfl,p,Phi.put_self _ _ _,rfl,.inl ⟨hpos,rfl,.inr ⟨?_,hcap,?_⟩⟩⟩
  ·show 0+ks.length * 1=ks.length
   omega
  ·show 0+cap * 1≤cap
   omega
theorem K8{S t:Nat}{Ks:List Nat}{ti:TI}(hS:∃ fn,P.funcs[S]? =some fn∧fn.name≠"runtime.NumGoroutine" ∧fn.body.isNone=false)(hc:∀ K,memN K Ks=true→SortedSays P S K t)
  (hty:ty.get t=some ti)(hs:ti.size=1):DT P ty S (Ma Ks t):=fun F args h v h' _ hr=>⟨hS,fun φ w args' hrel H=>by
 have hr:Gi Ks t args h=.ok v h':=hr
 obtain⟨g,a,rfl,hg,hr⟩:=K7 hr
 obtain⟨cn,cm⟩:=hc g hg
 cases hrel with
 |cons hv hn=>
 cases hn
 cases hv with
 |func _ h1 h2=>
 cases h1
 cases h2 with
 |cons hp hn=>
 cases hn
 cases hp with
 |@ptr _ a' ha=>
 obtain⟨s1,s2,p,hp,hbl,ho⟩:=ha
 unfold JZ at hr
 split at hr
 case h_2=>cases hr
 rename_i hq
 rw[Bool.and_eq_true]at hq
 have q1:=Af.1 hq.1
 have q2:=Aq.1 hq.2
 split at hr
 case h_2=>cases hr
 rename_i c s e hrow
 split at hr
 case h_2=>cases hr
 rename_i hq3
 rw[Bool.and_eq_true]at hq3
 have q3:=Af.1 hq3.1
 have q4:=Al.1 hq3.2
 subst q3
 have hoff:p.off=0:=by
  rcases (H.kind a.block p c s 0 hp (BZ hrow)).2 with ⟨_,_,_,h0|h0⟩|⟨_,_,h0,_⟩
  ·exact h0
  ·have:=H.inp a.block p hp h0
   omega
  ·omega
 have ea:a'=⟨p.blk,0,none⟩:=by
  obtain⟨ab,ao,asp⟩:=a'
  simp only at s2 hbl ho
  subst s2;subst hbl
  congr 1
  omega
 subst ea
 obtain⟨cs,tt,fr,hw,R⟩:=H.rowAt hp (fun h=>h) hrow
 obtain⟨x,hx,hxr⟩:=R.cell 0 q4
 rw[hoff,Nat.zero_add]at hx
 have hcell:w.cell? ⟨p.blk,0,none⟩=some x:=by rw[FA hw];exact hx
 have hpb:=(H.dom _ _ hp).2
 generalize c.get 0=y at hr hxr
 unfold M9 at hr
 split at hr
 ·cases hxr
  cases hr
  refine(cn w p.blk hpb hcell).mono ?_
  rintro e w' ⟨rfl,hb⟩
  exact⟨_,φ,rfl,.slice0,H.below hb⟩
 ·rename_i r
  cases hxr with
  |map hq=>
  rename_i q
  split at hr
  case h_2=>cases hr
  rename_i es clk hes
  split at hr
  case h_2=>cases hr
  rename_i hsz
  split at hr
  case h_2=>cases hr
  rename_i ks hks
  obtain⟨es',hwm,hre⟩:=H.entsAt hq (fun h=>h) hes
  obtain⟨k1,k2,k3,k4⟩:=KK hks hre
  have hl:es'.length≤1000000:=by
   have:=Aq.1 hsz
   rw[A4]at this
   have e2:es'.length=es.length:=by
    clear hes hwm hks k1 k2 k3 k4 hsz this
    induction hre with
    |nil=>rfl
    |cons _ _ _ ih=>simp only[List.length_cons,ih]
   omega
  have hnd:ks.Nodup:=by
   have hasc:NO (Ct ks)=true:=by
    cases he:Ct ks with
    |nil=>rfl
    |cons x l=>
     rw[he]at hr
     unfold Gj at hr
     split at hr
     ·rename_i e;cases e
     ·rename_i e
      cases e
      split at hr
      ·assumption
      ·cases hr
   have:=(Fj hasc).imp fun {a b} (hab:a<b)=>Nat.ne_of_lt hab
   exact(Dn ks).nodup_iff.1 this
  have hst:Stamped ⟨es'⟩ clk:=⟨fun x hx=>(k3 x hx).2,k4,by
   show(es'.map (·.key)).Nodup
   rw[k1]
   exact List.pairwise_map.2 (hnd.imp fun {a b} hab e=>hab (iE e))⟩
  refine(cm w p.blk q.blk ⟨es'⟩ clk ks hpb hcell hwm hl hst k1 k2).mono ?_
  rintro e w' ⟨v',rfl,ho,hn,hb⟩
  obtain⟨ψ,r1,r2,r3⟩:=MB H hty hs hr hb ho hn
  exact⟨v',ψ,rfl,r1,r2,r3⟩
 ·cases hr⟩
end
end
end Go.Proofs.YtglkncnkbofgfaaGreat
set_option maxRecDepth 100000
namespace Go.Proofs.YtglkncnkbofgfaaGreat
noncomputable section
open Go Go.Proofs Go.RowKit Go.Maps Go.Sort Go.Shelf
def FO:Ren:=⟨fun| 7=>59| 10=>158|n=>n,fun| 23=>46| 26=>3| 3=>3| 28=>144| 0=>0| 27=>143| 33=>96| 4=>4|n=>n,fun n=>n⟩
theorem O1:SlLaysZI.n7 Tryz.prog FO where
 mixed:=by kernel_rfl
 f7:=⟨Tryz.f59.name,by decide,Tryz.func59.trans (congrArg some (by kernel_rfl))⟩
 f10:=⟨Tryz.f158.name,by decide,Tryz.func158.trans (congrArg some (by kernel_rfl))⟩
 t0:=Tryz.underlying0
 a0:=Tryz.isAgg0
 z0:=Tryz.sizeOf0
 v0:=Tryz.zeroValue0
 t4:=Tryz.underlying4
 a4:=Tryz.isAgg4
 z4:=Tryz.sizeOf4
 v4:=Tryz.zeroValue4
 t23:=Tryz.underlying46
 a23:=Tryz.isAgg46
 z23:=Tryz.sizeOf46
 v23:=Tryz.zeroValue46
 t26:=Tryz.underlying3
 a26:=Tryz.isAgg3
 z26:=Tryz.sizeOf3
 v26:=Tryz.zeroValue3
 t27:=Tryz.underlying143
 a27:=Tryz.isAgg143
 z27:=Tryz.sizeOf143
 v27:=Tryz.zeroValue143
 t28:=Tryz.underlying144
 a28:=Tryz.isAgg144
 z28:=Tryz.sizeOf144
 v28:=Tryz.zeroValue144
 t33:=Tryz.underlying96
 a33:=Tryz.isAgg96
 z33:=Tryz.sizeOf96
 v33:=Tryz.zeroValue96
def FP:Ren:=⟨fun| 7=>454| 10=>534|n=>n,fun| 23=>147| 26=>3| 3=>326| 28=>144| 0=>0| 27=>143| 33=>96| 4=>4|n=>n,fun n=>n⟩
theorem O2:SlLaysZI.n7 Tryz.prog FP where
 mixed:=by kernel_rfl
 f7:=⟨Tryz.f454.name,by decide,Tryz.func454.trans (congrArg some (by kernel_rfl))⟩
 f10:=⟨Tryz.f534.name,by decide,Tryz.func534.trans (congrArg some (by kernel_rfl))⟩
 t0:=Tryz.underlying0
 a0:=Tryz.isAgg0
 z0:=Tryz.sizeOf0
 v0:=Tryz.zeroValue0
 t4:=Tryz.underlying4
 a4:=Tryz.isAgg4
 z4:=Tryz.sizeOf4
 v4:=Tryz.zeroValue4
 t23:=Tryz.underlying147
 a23:=Tryz.isAgg147
 z23:=Tryz.sizeOf147
 v23:=Tryz.zeroValue147
 t26:=Tryz.underlying3
 a26:=Tryz.isAgg3
 z26:=Tryz.sizeOf3
 v26:=Tryz.zeroValue3
 t27:=Tryz.underlying143
 a27:=Tryz.isAgg143
 z27:=Tryz.sizeOf143
 v27:=Tryz.zeroValue143
 t28:=Tryz.underlying144
 a28:=Tryz.isAgg144
 z28:=Tryz.sizeOf144
 v28:=Tryz.zeroValue144
 t33:=Tryz.underlying96
 a33:=Tryz.isAgg96
 z33:=Tryz.sizeOf96
 v33:=Tryz.zeroValue96
def FQ:Ren:=⟨fun| 7=>243| 10=>395|n=>n,fun| 23=>220| 26=>3| 3=>236| 28=>144| 0=>0| 27=>143| 33=>96| 4=>4|n=>n,fun n=>n⟩
theorem O3:SlLaysZI.n7 Tryz.prog FQ where
 mixed:=by kernel_rfl
 f7:=⟨Tryz.f243.name,by decide,Tryz.func243.trans (congrArg some (by kernel_rfl))⟩
 f10:=⟨Tryz.f395.name,by decide,Tryz.func395.trans (congrArg some (by kernel_rfl))⟩
 t0:=Tryz.underlying0
 a0:=Tryz.isAgg0
 z0:=Tryz.sizeOf0
 v0:=Tryz.zeroValue0
 t4:=Tryz.underlying4
 a4:=Tryz.isAgg4
 z4:=Tryz.sizeOf4
 v4:=Tryz.zeroValue4
 t23:=Tryz.underlying220
 a23:=Tryz.isAgg220
 z23:=Tryz.sizeOf220
 v23:=Tryz.zeroValue220
 t26:=Tryz.underlying3
 a26:=Tryz.isAgg3
 z26:=Tryz.sizeOf3
 v26:=Tryz.zeroValue3
 t27:=Tryz.underlying143
 a27:=Tryz.isAgg143
 z27:=Tryz.sizeOf143
 v27:=Tryz.zeroValue143
 t28:=Tryz.underlying144
 a28:=Tryz.isAgg144
 z28:=Tryz.sizeOf144
 v28:=Tryz.zeroValue144
 t33:=Tryz.underlying96
 a33:=Tryz.isAgg96
 z33:=Tryz.sizeOf96
 v33:=Tryz.zeroValue96
def Br:Ren:=⟨fun| 6=>58| 8=>156| 9=>157| 11=>272| 13=>274| 12=>273| 23=>419| 24=>420| 14=>410| 15=>411| 16=>412| 17=>413| 18=>414| 19=>415| 20=>416| 21=>417| 22=>418| 25=>510| 26=>511| 27=>512| 28=>513| 29=>514| 30=>515| 31=>573|n=>n,fun| 26=>3| 28=>144| 24=>43| 0=>0| 3=>3| 37=>276| 48=>60| 50=>102| 4=>4| 40=>544| 39=>543| 45=>90| 5=>5| 9=>9| 51=>633| 55=>242| 57=>683| 58=>684| 33=>96|n=>n,fun n=>n⟩
theorem Fz:SlLaysZI.n6 Tryz.prog Br where
 mixed:=by kernel_rfl
 f6:=⟨Tryz.f58.name,by decide,Tryz.func58.trans (congrArg some (by kernel_rfl))⟩
 f8:=⟨Tryz.f156.name,by decide,Tryz.func156.trans (congrArg some (by kernel_rfl))⟩
 f11:=⟨Tryz.f272.name,by decide,Tryz.func272.trans (congrArg some (by kernel_rfl))⟩
 t0:=Tryz.underlying0
 a0:=Tryz.isAgg0
 z0:=Tryz.sizeOf0
 v0:=Tryz.zeroValue0
 t24:=Tryz.underlying43
 a24:=Tryz.isAgg43
 z24:=Tryz.sizeOf43
 v24:=Tryz.zeroValue43
 t26:=Tryz.underlying3
 a26:=Tryz.isAgg3
 z26:=Tryz.sizeOf3
 v26:=Tryz.zeroValue3
 t28:=Tryz.underlying144
 a28:=Tryz.isAgg144
 z28:=Tryz.sizeOf144
 v28:=Tryz.zeroValue144
 i26:=by kernel_rfl
def KM:Ren:=⟨fun| 5=>157| 8=>274| 7=>273| 19=>419| 20=>420| 10=>410| 11=>411| 12=>412| 13=>413| 14=>414| 15=>415| 16=>416| 17=>417| 18=>418| 30=>510| 31=>511| 32=>512| 33=>513| 34=>514| 35=>515| 40=>573|n=>n,fun| 23=>43| 25=>3| 3=>3| 32=>276| 22=>43| 0=>0| 44=>60| 46=>102| 4=>4| 36=>544| 35=>543| 41=>90| 5=>5| 9=>9| 53=>633| 57=>242| 63=>683| 64=>684|n=>n,fun n=>n⟩
theorem Mz:SlLaysM.n5 Tryz.prog KM where
 mixed:=by kernel_rfl
 f5:=⟨Tryz.f157.name,by decide,Tryz.func157.trans (congrArg some (by kernel_rfl))⟩
 f7:=⟨Tryz.f273.name,by decide,Tryz.func273.trans (congrArg some (by kernel_rfl))⟩
 f8:=Tryz.func274.trans (congrArg some (by kernel_rfl))
 f10:=⟨Tryz.f410.name,by decide,Tryz.func410.trans (congrArg some (by kernel_rfl))⟩
 f11:=⟨Tryz.f411.name,by decide,Tryz.func411.trans (congrArg some (by kernel_rfl))⟩
 f12:=⟨Tryz.f412.name,by decide,Tryz.func412.trans (congrArg some (by kernel_rfl))⟩
 f13:=⟨Tryz.f413.name,by decide,Tryz.func413.trans (congrArg some (by kernel_rfl))⟩
 f14:=⟨Tryz.f414.name,by decide,Tryz.func414.trans (congrArg some (by kernel_rfl))⟩
 f15:=⟨Tryz.f415.name,by decide,Tryz.func415.trans (congrArg some (by kernel_rfl))⟩
 f16:=⟨Tryz.f416.name,by decide,Tryz.func416.trans (congrArg some (by kernel_rfl))⟩
 f17:=⟨Tryz.f417.name,by decide,Tryz.func417.trans (congrArg some (by kernel_rfl))⟩
 f18:=⟨Tryz.f418.name,by decide,Tryz.func418.trans (congrArg some (by kernel_rfl))⟩
 f19:=Tryz.func419.trans (congrArg some (by kernel_rfl))
 f20:=Tryz.func420.trans (congrArg some (by kernel_rfl))
 f30:=⟨Tryz.f510.name,by decide,Tryz.func510.trans (congrArg some (by kernel_rfl))⟩
 f31:=Tryz.func511.trans (congrArg some (by kernel_rfl))
 f32:=Tryz.func512.trans (congrArg some (by kernel_rfl))
 f33:=⟨Tryz.f513.name,by decide,Tryz.func513.trans (congrArg some (by kernel_rfl))⟩
 f34:=⟨Tryz.f514.name,by decide,Tryz.func514.trans (congrArg some (by kernel_rfl))⟩
 f35:=⟨Tryz.f515.name,by decide,Tryz.func515.trans (congrArg some (by kernel_rfl))⟩
 f40:=⟨Tryz.f573.name,by decide,Tryz.func573.trans (congrArg some (by kernel_rfl))⟩
 t0:=Tryz.underlying0
 a0:=Tryz.isAgg0
 z0:=Tryz.sizeOf0
 v0:=Tryz.zeroValue0
 t3:=Tryz.underlying3
 a3:=Tryz.isAgg3
 z3:=Tryz.sizeOf3
 v3:=Tryz.zeroValue3
 t4:=Tryz.underlying4
 a4:=Tryz.isAgg4
 z4:=Tryz.sizeOf4
 v4:=Tryz.zeroValue4
 t5:=Tryz.underlying5
 a5:=Tryz.isAgg5
 z5:=Tryz.sizeOf5
 v5:=Tryz.zeroValue5
 t9:=Tryz.underlying9
 a9:=Tryz.isAgg9
 z9:=Tryz.sizeOf9
 v9:=Tryz.zeroValue9
 t22:=Tryz.underlying43
 a22:=Tryz.isAgg43
 z22:=Tryz.sizeOf43
 v22:=Tryz.zeroValue43
 t23:=Tryz.underlying43
 a23:=Tryz.isAgg43
 z23:=Tryz.sizeOf43
 v23:=Tryz.zeroValue43
 t25:=Tryz.underlying3
 a25:=Tryz.isAgg3
 z25:=Tryz.sizeOf3
 v25:=Tryz.zeroValue3
 t32:=Tryz.underlying276
 a32:=Tryz.isAgg276
 z32:=Tryz.sizeOf276
 v32:=Tryz.zeroValue276
 t35:=Tryz.underlying543
 a35:=Tryz.isAgg543
 z35:=Tryz.sizeOf543
 v35:=Tryz.zeroValue543
 t36:=Tryz.underlying544
 a36:=Tryz.isAgg544
 z36:=Tryz.sizeOf544
 v36:=Tryz.zeroValue544
 t41:=Tryz.underlying90
 a41:=Tryz.isAgg90
 z41:=Tryz.sizeOf90
 v41:=Tryz.zeroValue90
 t44:=Tryz.underlying60
 a44:=Tryz.isAgg60
 z44:=Tryz.sizeOf60
 v44:=Tryz.zeroValue60
 t46:=Tryz.underlying102
 a46:=Tryz.isAgg102
 z46:=Tryz.sizeOf102
 v46:=Tryz.zeroValue102
 t53:=Tryz.underlying633
 a53:=Tryz.isAgg633
 z53:=Tryz.sizeOf633
 v53:=Tryz.zeroValue633
 t57:=Tryz.underlying242
 a57:=Tryz.isAgg242
 z57:=Tryz.sizeOf242
 v57:=Tryz.zeroValue242
 t63:=Tryz.underlying683
 a63:=Tryz.isAgg683
 z63:=Tryz.sizeOf683
 v63:=Tryz.zeroValue683
 t64:=Tryz.underlying684
 a64:=Tryz.isAgg684
 z64:=Tryz.sizeOf684
 v64:=Tryz.zeroValue684
theorem MC(m:Nat):AnyZI.SortsIn Tryz.prog Br Fence.wide m:=
 ⟨fun blk off cap ss W hH hblk hsz=>callsIn_wide.2 (AnyM.slices_Sort_int Mz blk off cap ss W hH hblk hsz),
  fun p cap W=>callsIn_wide.2 (AnyM.slices_Sort_int_none Mz p cap W)⟩
theorem j9:SortedSays Tryz.prog 58 158 3:=E6 (ρ:=Br) (ρ':=FO) Fz {O1 with} MC (enters_of Tryz.func157 (by kernel_rfl) rfl) (enters_of Tryz.func158 (by kernel_rfl) rfl)
theorem kA:SortedSays Tryz.prog 58 534 3:=E6 (ρ:=Br) (ρ':=FP) Fz {O2 with} MC (enters_of Tryz.func157 (by kernel_rfl) rfl) (enters_of Tryz.func534 (by kernel_rfl) rfl)
theorem kB:SortedSays Tryz.prog 58 395 3:=E6 (ρ:=Br) (ρ':=FQ) Fz {O3 with} MC (enters_of Tryz.func157 (by kernel_rfl) rfl) (enters_of Tryz.func395 (by kernel_rfl) rfl)
theorem PE{a b:String}(h:(a == b)=false):a≠b:=by simpa using h
def bS:Body:=Ma [158,534,395] 3
theorem OC:DT Tryz.prog ty 58 bS:=K8 (ti:=ty3) ⟨Tryz.f58,Tryz.func58,PE (by kernel_rfl),rfl⟩ (fun K hK=>by
 have hK:=Cm.1 hK
 simp only[List.mem_cons,List.not_mem_nil,or_false]at hK
 rcases hK with rfl|rfl|rfl
 ·exact j9
 ·exact kA
 ·exact kB) (by kernel_rfl) rfl
end
end Go.Proofs.YtglkncnkbofgfaaGreat
set_option linter.unusedSimpArgs false
set_option linter.unusedVariables false
namespace Go.Proofs.YtglkncnkbofgfaaGreat
noncomputable section
open Go
def Ki(K:KS)(x:Ent):List Ent→Bool
 |[]=>true
 |y::l=>match Dy K x.key y.key with
  |some b=>bif b == Nat.beq x.born y.born then Ki K x l else false
  |none=>false
def Kk(K:KS)(es:List Ent):List Ent→Bool
 |[]=>true
 |x::l=>bif Ki K x es then Kk K es l else false
def Ic(a b:Value):Bool:=match a with
 |.int j x=>match b with
  |.int k y=>match DQ j k with
   |true=>iEq x y
   |false=>false
  |_=>false
 |_=>false
def JC:List Nat:=[2,3,4,5,6,8,9,11,12,13,14,15,16,17,18]
def B4(m f p:Value)(x:Ent):Env:=Env.set 10 (.tuple ⟨[x.key,x.val]⟩) (Env.set 7 p (Bv (Ce e0 0 [m,f]) JC))
def Oa(K:KS)(body:C)(F:CallF)(m f p:Value)(n mark:Nat)(bl:BT):List Ent→Option (List Ent)
 |[]=>some []
 |x::l=>match body F (B4 m f p x) {next:=n,low:=n,high:=0,mark:=mark,bl:=bl}with
  |.norm e1 h1=>bif Nat.ble n h1.low then(bif Ic (slotG 4 e1) x.key then(match slotG 16 e1 with
   |.bool d=>match Oa K body F m f p n mark bl l with
    |some r=>match d with
     |true=>some r
     |false=>some (x::r)
    |none=>none
   |_=>none)else none)else none
  |_=>none
def jd(K:KS)(body:C)(F:CallF)(r:Nat)(f:Value)(h:Hp)(es:List Ent)(c:Nat):R:=match h.bl.set h.next .dead with
 |some bl0=>match bl0.set r .dead with
  |some bld=>forceN (Nat.succ h.next) fun n=>match Oa K body F (.map (some r)) f (.pointer (some ⟨h.next,0,none⟩)) n h.mark bld es with
   |some es'=>Bp {next:=n,low:=h.low,high:=h.high,mark:=h.mark,bl:=bl0} r (.map es' c) DA
   |none=>.no
  |none=>.no
 |none=>.no
def fo(K:KS)(body:C)(F:CallF)(args:List Value)(h:Hp):R:=match args with
 |m::l=>match l with
  |f::l2=>match l2 with
   |[]=>match m with
    |.map (some r)=>match BB h r with
     |.ok es c=>bif Nat.ble 256 r then(bif Nat.blt r h.next then(bif CR c 0 es then(bif Kk K es es then jd K body F r f h es c else .no)else .no)else .no)else .no
     |.no=>.no
    |_=>.no
   |_::_=>.no
  |[]=>.no
 |[]=>.no
def ja(K:KS)(body:C):Body:=⟨[.x (fo K body)],cNo⟩
section
variable (mt ft kt vt bt:Nat)
def je:List Oper:=[⟨some 6,.move (.tmp 0),mt,"maps.go:70",#[],none⟩,⟨some 7,.range mt (.tmp 6),0,"maps.go:70",#[⟨0,.data⟩],none⟩]
def dnx:Oper:=⟨some 8,.next (.tmp 7) false,0,"maps.go:70",#[],none⟩
def dmo:Oper:=⟨some 9,.extract (.tmp 8) 0,bt,"maps.go:70",#[⟨0,.data⟩],none⟩
def dent:Oper:=⟨some 10,.entry (.tmp 7),0,"maps.go:70",#[],none⟩
def dop2:List Oper:=[⟨some 11,.extract (.tmp 10) 0,kt,"maps.go:70",#[⟨0,.data⟩],none⟩,
 ⟨some 12,.extract (.tmp 10) 1,vt,"maps.go:70",#[⟨0,.data⟩,⟨4,.gcOnly .lateStores⟩],none⟩,
 ⟨some 5,.alloc vt,0,"maps.go:70",#[],none⟩,
 ⟨some 4,.assign (.tmp 11),kt,"maps.go:70",#[⟨1,.data⟩,⟨0,.phase⟩,⟨1,.phase⟩,⟨2,.textOnly .lateStores⟩,⟨3,.phase⟩],none⟩,
 ⟨none,.store vt (.tmp 5) (.tmp 12),0,"maps.go:70",#[⟨3,.data⟩,⟨2,.data⟩,⟨4,.chain⟩,⟨0,.phase⟩,⟨1,.phase⟩,⟨2,.phase⟩,⟨3,.phase⟩,⟨4,.phase⟩],none⟩]
def dop3:List Oper:=[⟨some 13,.move (.tmp 1),ft,"maps.go:71",#[],none⟩,⟨some 14,.move (.tmp 4),kt,"maps.go:71",#[],none⟩,⟨some 15,.load vt (.tmp 5),vt,"maps.go:71",#[],none⟩,
 ⟨some 16,.call ⟨.value (.tmp 13),#[.tmp 14,.tmp 15],#[kt,vt]⟩,bt,"maps.go:71",#[⟨0,.data⟩,⟨1,.data⟩,⟨2,.data⟩],none⟩]
def dop4:List Oper:=[⟨some 17,.move (.tmp 0),mt,"maps.go:72",#[],none⟩,⟨some 18,.move (.tmp 4),kt,"maps.go:72",#[],none⟩,
 ⟨none,.call ⟨.builtin .delete,#[.tmp 17,.tmp 18],#[mt,kt]⟩,0,"maps.go:72",#[⟨0,.data⟩,⟨1,.data⟩],none⟩]
def Oe:Code:=.seq (.region 3 (dop3 ft kt vt bt).toArray false) (.cond (.tmp 16) (.region 4 (dop4 mt kt).toArray false) .skip)
def IP:Code:=.block 1 (.seq (.region 2 (dent::dop2 kt vt).toArray false) (Oe mt ft kt vt bt))
def IO:Code:=.seq (.region 1 #[dnx,dmo bt] false) (.seq (.cond (.tmp 9) .skip (.exit 0)) (IP mt ft kt vt bt))
def delCode:Code:=.seq (.region 0 (je mt).toArray false) (.block 0 (.loop (IO mt ft kt vt bt)))
end
theorem BT.set_any:∀ (t:BT) (i:Nat) (x y:Blk) (t':BT),t.set i x=some t'→∃ t'',t.set i y=some t''
 |.mt,0,x,y,t',h=>⟨_,rfl⟩
 |.mt,i+1,x,y,t',h=>by cases h
 |.nd v l r,0,x,y,t',h=>⟨_,rfl⟩
 |.nd v l r,i+1,x,y,t',h=>by
  rw[BT.set_nd_succ]at h ⊢
  split at h
  ·rename_i h0
   rw[if_pos h0]
   cases hs:l.set (i / 2) x with
   |none=>rw[hs]at h;cases h
   |some l'=>
    obtain⟨l2,hl2⟩:=BT.set_any l _ x y l' hs
    exact⟨_,by rw[hl2];rfl⟩
  ·rename_i h0
   rw[if_neg h0]
   cases hs:r.set (i / 2) x with
   |none=>rw[hs]at h;cases h
   |some r'=>
    obtain⟨r2,hr2⟩:=BT.set_any r _ x y r' hs
    exact⟨_,by rw[hr2];rfl⟩
theorem BT.again:∀ (t:BT) (i:Nat) (x y:Blk) (t':BT),t.set i x=some t'→∃ t'',t'.set i y=some t''
 |.mt,0,x,y,t',h=>by
  obtain rfl:BT.nd x .mt .mt=t':=Option.some.inj h
  exact⟨_,rfl⟩
 |.mt,i+1,x,y,t',h=>by cases h
 |.nd v l r,0,x,y,t',h=>by
  obtain rfl:BT.nd x l r=t':=Option.some.inj h
  exact⟨_,rfl⟩
 |.nd v l r,i+1,x,y,t',h=>by
  rw[BT.set_nd_succ]at h
  split at h
  ·rename_i h0
   cases hs:l.set (i / 2) x with
   |none=>rw[hs]at h;cases h
   |some l'=>
    rw[hs]at h
    obtain rfl:BT.nd v l' r=t':=Option.some.inj h
    obtain⟨l2,hl2⟩:=BT.again l _ x y l' hs
    exact⟨_,by rw[BT.set_nd_succ,if_pos h0,hl2];rfl⟩
  ·rename_i h0
   cases hs:r.set (i / 2) x with
   |none=>rw[hs]at h;cases h
   |some r'=>
    rw[hs]at h
    obtain rfl:BT.nd v l r'=t':=Option.some.inj h
    obtain⟨r2,hr2⟩:=BT.again r _ x y r' hs
    exact⟨_,by rw[BT.set_nd_succ,if_neg h0,hr2];rfl⟩
theorem Kj{K:KS}{x:Ent}:∀ {l:List Ent},Ki K x l=true→∀ y∈l,Dy K x.key y.key=some (Nat.beq x.born y.born)
 |z::l,h,y,hy=>by
  unfold Ki at h
  split at h
  ·rename_i b hb
   obtain⟨h1,h2⟩:=An h
   rcases List.mem_cons.1 hy with rfl|hy
   ·rw[hb,eq_of_beq h1]
   ·exact Kj h2 y hy
  ·cases h
theorem Kl{K:KS}{es:List Ent}:∀ {l:List Ent},Kk K es l=true→∀ x∈l,Ki K x es=true
 |z::l,h,x,hx=>by
  unfold Kk at h
  obtain⟨h1,h2⟩:=An h
  rcases List.mem_cons.1 hx with rfl|hx
  ·exact h1
  ·exact Kl h2 x hx
theorem Dj{clk:Nat}:∀ {es:List Ent} {lo:Nat},CR clk lo es=true→(es.map (·.born)).Nodup
 |[],_,_=>.nil
 |e::l,lo,h=>by
  unfold CR at h
  obtain⟨_,h⟩:=An h
  obtain⟨_,h⟩:=An h
  rw[List.map_cons,List.nodup_cons]
  refine⟨fun hm=>?_,Dj h⟩
  obtain⟨y,hy,he⟩:=List.mem_map.1 hm
  have h1:e.born+1≤y.born:=(Cq h y hy).1
  have he:y.born=e.born:=he
  omega
theorem LN{a b:Nat}(h:a≠b):Nat.beq a b=false:=by
 cases hb:Nat.beq a b with
 |false=>rfl
 |true=>exact absurd (Af.1 hb) h
theorem IK{K:KS}{x:Ent}:∀ {l:List Ent},(∀ y∈l,Dy K x.key y.key=some (Nat.beq x.born y.born))→(l.map (·.born)).Nodup→LU K x.key l=some (l.filter fun y=> !Nat.beq x.born y.born)
 |[],_,_=>rfl
 |y::l,h,hn=>by
  rw[List.map_cons,List.nodup_cons]at hn
  unfold LU
  rw[h y List.mem_cons_self,List.filter_cons]
  cases hb:Nat.beq x.born y.born with
  |true=>
   have hxy:=Af.1 hb
   have:l.filter (fun y=> !Nat.beq x.born y.born)=l:=List.filter_eq_self.2 fun z hz=>by
    have hne:x.born≠z.born:=fun he=>hn.1 (by rw[← hxy,he];exact List.mem_map_of_mem (f:=(·.born)) hz)
    rw[LN hne];rfl
   simp[this]
  |false=>
   have ih:=IK (fun y hy=>h y (List.mem_cons_of_mem _ hy)) hn.2
   rw[ih]
   simp
theorem Ow{a b:Value}(h:Ic a b=true):∃ j n,a=.int j n∧b=.int j n:=by
 unfold Ic at h
 split at h
 ·split at h
  ·split at h
   ·rename_i hk
    rw[Fx]at h
    exact⟨_,_,rfl,by rw[Cr hk,eq_of_beq h]⟩
   ·cases h
  ·cases h
 ·cases h
theorem Me{K:KS}{body:C}{F:CallF}{m f p:Value}{n mark:Nat}{bl:BT}:∀ {es r:List Ent},(es.map (·.born)).Nodup→Oa K body F m f p n mark bl es=some r→
  ∃ d:Nat→Bool,r=es.filter (fun x=> !d x.born)∧∀ x∈es,∃ e1 h1,body F (B4 m f p x) {next:=n,low:=n,high:=0,mark:=mark,bl:=bl}=.norm e1 h1∧n≤h1.low∧Ic (slotG 4 e1) x.key=true∧slotG 16 e1=.bool (d x.born)
 |[],r,_,hr=>by cases hr;exact⟨fun _=>false,rfl,fun x hx=>by cases hx⟩
 |x::l,r,hnd,hr=>by
  rw[List.map_cons,List.nodup_cons]at hnd
  unfold Oa at hr
  split at hr
  case h_2=>cases hr
  rename_i e1 h1 hb
  cases hl:Nat.ble n h1.low with
  |false=>rw[hl]at hr;cases hr
  |true=>
   rw[hl]at hr
   simp only[cond_true]at hr
   cases hi:Ic (slotG 4 e1) x.key with
   |false=>rw[hi]at hr;cases hr
   |true=>
    rw[hi]at hr
    simp only[cond_true]at hr
    split at hr
    case h_2=>cases hr
    rename_i dx hdx
    split at hr
    case h_2=>cases hr
    rename_i r' hr'
    obtain⟨d,hd,hall⟩:=Me hnd.2 hr'
    have hne:∀ y∈l,y.born≠x.born:=fun y hy he=>hnd.1 (by rw[← he];exact List.mem_map_of_mem (f:=(·.born)) hy)
    refine⟨fun b=>if b=x.born then dx else d b,?_,fun y hy=>?_⟩
    ·have e2:l.filter (fun y=> !(if y.born=x.born then dx else d y.born))=r':=by
      rw[hd]
      refine List.filter_congr fun y hy=>?_
      rw[if_neg (hne y hy)]
     rw[List.filter_cons,e2]
     cases dx with
     |true=>cases hr;simp
     |false=>cases hr;simp
    ·rcases List.mem_cons.1 hy with rfl|hy
     ·exact⟨e1,h1,hb,Aq.1 hl,hi,by show _=Value.bool (if _=_ then _ else _);rw[if_pos rfl];exact hdx⟩
     ·obtain⟨e2,h2,q1,q2,q3,q4⟩:=hall y hy
      exact⟨e2,h2,q1,q2,q3,by show _=Value.bool (if _=_ then _ else _);rw[if_neg (hne y hy)];exact q4⟩
section
variable {P:Program}{ty:TTy}{φ ψ:Phi}{h g:Hp}{w w':World}
theorem RelW.keep(H:RelW ty φ nil h w)(hs:∀ i p,φ i=some p→p.blk<w'.heap.size∧(Live h i→w'.heap[p.blk]? =w.heap[p.blk]?)):RelW ty φ nil h w' where
 dom:=fun i p hp=>⟨(H.dom i p hp).1,(hs i p hp).1⟩
 inj:=H.inj
 row:=fun i p hp hE=>by
  by_cases hd:h.bl.get i=.dead
  ·rw[hd];exact .dead
  ·rw[(hs i p hp).2 hd];exact H.row i p hp hE
 fresh:=H.fresh
 kind:=H.kind
 inp:=H.inp
theorem RelW.less2(H:RelW ty φ nil h w)(hn:g.next=h.next)(hg:∀ i,g.bl.get i=.dead∨g.bl.get i=h.bl.get i):RelW ty φ nil g w where
 dom:=fun i p hp=>by rw[hn];exact H.dom i p hp
 inj:=fun i j p q hp hq _ _ hi hj hio hpq=>H.inj i j p q hp hq id id
  (fun hd=>(hg i).elim (fun h2=>hi h2) (fun h2=>hi (h2.trans hd))) (fun hd=>(hg j).elim (fun h2=>hj h2) (fun h2=>hj (h2.trans hd))) hio hpq
 row:=fun i p hp _=>by
  rcases hg i with h2|h2
  ·rw[h2];exact .dead
  ·rw[h2];exact H.row i p hp id
 fresh:=fun i hi=>by
  rcases hg i with h2|h2
  ·exact h2
  ·rw[h2];exact H.fresh i (hn ▸ hi)
 kind:=fun i p c s e hp hc=>by
  rcases hg i with h2|h2
  ·rw[h2]at hc;cases hc
  ·exact H.kind i p c s e hp (h2 ▸ hc)
 inp:=H.inp
theorem RelE.filter{p:Nat→Bool}:∀ {l:List Ent} {l':List MapEntry},RelE φ l l'→RelE φ (l.filter fun x=>p x.born) (l'.filter fun x=>p x.born)
 |_,_,.nil=>.nil
 |_,_,.cons (b:=b) hk hv t=>by
  rw[List.filter_cons,List.filter_cons]
  show RelE φ (if p b=true then _ else _) (if p b=true then _ else _)
  cases p b with
  |true=>exact .cons hk hv (RelE.filter t)
  |false=>exact RelE.filter t
theorem RelW.sub(H:RelW ty ψ nil h w)(hle:φ.Le ψ)(hb:∀ i p,φ i=some p→∃ p2 o2,RelB ty φ p2 (h.bl.get i) o2):RelW ty φ nil h w where
 dom:=fun i p hp=>H.dom i p (hle i p hp)
 inj:=fun i j p q hp hq=>H.inj i j p q (hle i p hp) (hle j q hq)
 row:=fun i p hp hE=>by
  obtain⟨p2,o2,h2⟩:=hb i p hp
  exact(H.row i p (hle i p hp) hE).cut (fun b p hp ⟨q,hq⟩=>by
   have:=hle b q hq
   rw[hp]at this;cases this
   exact hq) h2
 fresh:=H.fresh
 kind:=fun i p c s e hp=>H.kind i p c s e (hle i p hp)
 inp:=fun i p hp=>H.inp i p (hle i p hp)
theorem HB:∀ {l:List Ent} {x:Ent},(l.map (·.born)).Nodup→x∈l→Dw x.born l=some x
 |y::l,x,hn,hx=>by
  rw[List.map_cons,List.nodup_cons]at hn
  unfold Dw
  rcases List.mem_cons.1 hx with rfl|hx
  ·rw[Nat.beq_refl];rfl
  ·have hne:y.born≠x.born:=fun he=>hn.1 (by rw[he];exact List.mem_map_of_mem (f:=(·.born)) hx)
   rw[LN hne]
   exact HB hn.2 hx
end
structure DelIs (P:Program)(ty:TTy)(g mt ft kt vt bt:Nat)(K:KS)(body:C):Prop where
 fn:∃ fn,P.funcs[g]? =some fn∧fn.name≠"runtime.NumGoroutine" ∧fn.body=some (delCode mt ft kt vt bt)∧fn.results= #[]∧fn.ntmps=19
 map:∃ d,P.underlying mt=some (.map kt d)
 body:opsC ty [] (dent::dop2 kt vt) (fun σ=>codeC ty [] (.region 3 (dop3 ft kt vt bt).toArray false) σ none) [] (dop2 kt vt) []=body
 del:codeC ty [] (.region 4 (dop4 mt kt).toArray false) [] none=cOp (slotT 17) (oMove (slotG 0)) (cOp (slotT 18) (oMove (slotG 4)) (cDo (oDelete K (slotG 17) (slotG 18)) cNorm))
section
variable {P:Program}{ty:TTy}
structure Ds (ty:TTy)(φ:Phi)(w:World)(h0:Hp)(r qb ib c:Nat)(m f p:Value)(es:List Ent)(d:Nat→Bool)(seen:List Nat)(ak:Act)(wk:World):Prop where
 size:ak.tmps.size=19
 defs:ak.defers=[]
 s0:RelV φ m (ak.tmps.getD 0 undef)
 s1:RelV φ f (ak.tmps.getD 1 undef)
 s7:RelV φ p (ak.tmps.getD 7 undef)
 rel:∃ bl,h0.bl.set r (.map (es.filter fun x=> !(seen.contains x.born && d x.born)) c)=some bl∧RelW ty φ nil {next:=h0.next,low:=h0.next,high:=0,mark:=h0.mark,bl:=bl} wk
 iter:wk.heap[ib]? =some (.mapIter (some qb) c ⟨seen⟩ c)
 grow:w.heap.size≤wk.heap.size
 same:∀ j,j<w.heap.size→j≠qb→wk.heap[j]? =w.heap[j]?
 tape:wk.tape=w.tape
 os:wk.os=w.os
 output:wk.output=w.output
theorem Ds.put{φ:Phi}{w:World}{h0:Hp}{r qb ib c:Nat}{m f p:Value}{es:List Ent}{d:Nat→Bool}{seen:List Nat}{ak:Act}{wk:World}(D:Ds ty φ w h0 r qb ib c m f p es d seen ak wk){t:Nat}(ht:t≠0∧t≠1∧t≠7)(v:Value):Ds ty φ w h0 r qb ib c m f p es d seen (ak.put (some t) v) wk:=
 {D with
  size:=by rw[BX];exact D.size
  defs:=by rw[B8];exact D.defs
  s0:=by rw[BV,if_neg (fun h=>ht.1 (Option.some.inj h.1))];exact D.s0
  s1:=by rw[BV,if_neg (fun h=>ht.2.1 (Option.some.inj h.1))];exact D.s1
  s7:=by rw[BV,if_neg (fun h=>ht.2.2 (Option.some.inj h.1))];exact D.s7}
def ABw:Walk:=⟨7,8,9,0,[8,9,10,11,12,5,4,13,14,15,16,17,18],[]⟩
theorem Oc(mt ft kt vt bt:Nat):WalkIs [] (IO mt ft kt vt bt) ABw 1 dnx (dmo bt) (IP mt ft kt vt bt) where
 code:=rfl
 op1:=rfl
 dst1:=rfl
 grd1:=rfl
 op2:=rfl
 dst2:=rfl
 grd2:=rfl
 ne:=by decide
 itA:=rfl
 nxA:=rfl
 moA:=rfl
 itL:=by decide
 nxL:=by decide
 moL:=by decide
 ws:=rfl
 itW:=by decide
 few:=by decide
 rs:=fun d hd=>by cases hd
theorem Bb(m f p:Value)(x:Ent)(t:Nat)(ht:t<208):(B4 m f p x).get t=if t=10 then .tuple ⟨[x.key,x.val]⟩else if t=7 then p else if t∈JC then .chan none else if t=0 then m else if t=1 then f else noRes:=by
 unfold B4
 rw[Env.get_set _ _ _ _ (by decide) ht,Env.get_set _ _ _ _ (by decide) ht,DY _ _ _ (by decide) ht,Hr [m,f] e0 0 t (by simp) ht,Of ht]
 by_cases h1:t=10
 ·rw[if_pos h1,if_pos h1]
 ·rw[if_neg h1,if_neg h1]
  by_cases h2:t=7
  ·rw[if_pos h2,if_pos h2]
  ·rw[if_neg h2,if_neg h2]
   by_cases h3:t∈JC
   ·rw[if_pos h3,if_pos h3]
   ·rw[if_neg h3,if_neg h3]
    by_cases h4:t=0
    ·subst h4;rfl
    ·rw[if_neg h4]
     by_cases h5:t=1
     ·subst h5;rfl
     ·rw[if_neg h5,if_neg (by simp only[List.length_cons,List.length_nil];omega)]
theorem IL{t:Nat}(h10:t≠10)(h7:t≠7)(hS:t∉JC)(h0:t≠0)(h1:t≠1):19≤t:=by
 rcases Nat.lt_or_ge t 19 with h|h
 ·exfalso
  have:t=0∨t=1∨t=2∨t=3∨t=4∨t=5∨t=6∨t=7∨t=8∨t=9∨t=10∨t=11∨t=12∨t=13∨t=14∨t=15∨t=16∨t=17∨t=18:=by omega
  rcases this with h|h|h|h|h|h|h|h|h|h|h|h|h|h|h|h|h|h|h<;>subst h<;>first|exact h10 rfl|exact h7 rfl|exact h0 rfl|exact h1 rfl|exact hS (by decide)
 ·exact h
theorem KA{ak:Act}(hs:ak.tmps.size=19){t:Nat}(h:19≤t):ak.tmps.getD t undef=undef:=by
 rw[Array.getD_eq_getD_getElem?,Array.getElem?_eq_none (by omega)];rfl
theorem NV{w:World}{ib qb c:Nat}{seen:List Nat}{es:List MapEntry}{s:Nat}{x:MapEntry}(hw:w.heap[ib]? =some (.mapIter (some qb) c ⟨seen++[s]⟩ c))(hm:w.heap[qb]? =some (.map ⟨es⟩ c))(hf:es.find? (fun e=>e.born == s)=some x):
  (Instr.entry (.pointer (some ⟨ib,0,none⟩))).run P w=.ok (.tuple #[x.key,x.val]) w:=by
 have hback:(⟨seen++[s]⟩:Array Nat).back? =some s:=by simp[Array.back?_eq_getElem?]
 have hfind:(⟨es⟩:Array MapEntry).find? (fun e=>e.born == s)=some x:=by rw[← hf];simp
 simp only[Instr.entry,Sem.run_bind,A0 hw rfl,Result.andThen_ok,hback,A0 hm rfl,bne_self_eq_false,Bool.false_eq_true,if_false,hfind,Sem.run_pure]
theorem B2{t:BT}{i:Nat}{x:Blk}{t':BT}(h:t.set i x=some t'){j:Nat}(hj:j≠i):t'.get j=t.get j:=by rw[BT.get_set _ _ _ _ h,if_neg hj]
theorem DP{t:BT}{i:Nat}{x:Blk}{t':BT}(h:t.set i x=some t'):t'.get i=x:=by rw[BT.get_set _ _ _ _ h,if_pos rfl]
theorem IM(hT:BJ P ty){F:CallF}(hF:BI P ty F)(hm:P.follows .mixedOrders=true){g mt ft kt vt bt:Nat}{K:KS}{body:C}(D:DelIs P ty g mt ft kt vt bt K body)
  {φ:Phi}{w:World}{h0:Hp}{r c:Nat}{q pI:Pl}{m f p:Value}{es:List Ent}{d:Nat→Bool}{bld:BT}
  (hm0:m=.map (some r))(hq:φ r=some q)(hqw:q.blk<w.heap.size)(hdom:∀ i x,φ i=some x→i<h0.next∧(x.blk<w.heap.size∨(x=pI∧h0.bl.get i=.dead)))(hib:w.heap.size≤pI.blk)
  (hp:∀ ak:Act,RelV φ p (ak.tmps.getD 7 undef)→ak.eval (.tmp 7)=.pointer (some ⟨pI.blk,0,none⟩))(h256:256≤r)(hrn:r<h0.next)
  (hbld:h0.bl.set r .dead=some bld)(hris:CR c 0 es=true)(honl:Kk K es es=true)
  (hrounds:∀ x∈es,∃ e1 h1,body F (B4 m f p x) {next:=h0.next,low:=h0.next,high:=0,mark:=h0.mark,bl:=bld}=.norm e1 h1∧h0.next≤h1.low∧Ic (slotG 4 e1) x.key=true∧slotG 16 e1=.bool (d x.born))
  {Q:Exit→Act→World→Prop}(hover:∀ seen ak wk,Ds ty φ w h0 r q.blk pI.blk c m f p es d seen ak wk→(∀ x∈es,x.born∈seen)→Q (.exit 0) ak wk)
  (K0:Act→World→Prop)(seen:List Nat)(ak:Act)(wk:World)(S:Ds ty φ w h0 r q.blk pI.blk c m f p es d seen ak wk)
  (hK:∀ x∈es,x.born∉seen→∀ a2 w2,Ds ty φ w h0 r q.blk pI.blk c m f p es d (seen++[x.born]) a2 w2→K0 a2 w2):
  (IO mt ft kt vt bt).wp P (Exit.then K0 Q) ak wk:=by
 obtain⟨bl,hbl,HR⟩:=S.rel
 generalize hesk:(es.filter fun x=> !(seen.contains x.born && d x.born))=esk at hbl
 have hsub:∀ x∈esk,x∈es:=fun x hx=>by rw[← hesk]at hx;exact(List.mem_filter.1 hx).1
 have hnd:(esk.map (·.born)).Nodup:=by
  rw[← hesk]
  exact(List.filter_sublist.map _).nodup (Dj hris)
 have hents:BB ({next:=h0.next,low:=h0.next,high:=0,mark:=h0.mark,bl:=bl}:Hp) r=.ok esk c:=by
  show UH (bl.get r)=_
  rw[DP hbl];rfl
 obtain⟨es',hmk,hre⟩:=HR.entsAt hq (fun h=>h) hents
 have hborn:∀ x∈es',x.born<c:=fun x hx=>by
  obtain⟨y,hy,he⟩:=Fa hre hx
  rw[← he];exact(Cq hris y (hsub y hy)).2
 have hibk:pI.blk<wk.heap.size:=(Array.getElem?_eq_some_iff.1 S.iter).1
 have hqi:q.blk≠pI.blk:=by omega
 show(Code.seq (.region 1 #[dnx,dmo bt] false) (.seq (.cond (.tmp 9) .skip (.exit 0)) (IP mt ft kt vt bt))).wp P (Exit.then K0 Q) ak wk
 refine wp_seq (Iu (Oc mt ft kt vt bt) (pb:=pI.blk) (mb:=q.blk) (clk:=c) (seen:=seen) (es:=es') (hp ak S.s7) (by rw[S.size];decide) S.iter hmk hborn (fun hall=>?_) (fun x' hx' hns w1 e1 e2 e3 e4=>?_))
 ·show(Code.seq (.cond (.tmp 9) .skip (.exit 0)) (IP mt ft kt vt bt)).wp P (Exit.then K0 Q) ((ak.put (some 8) (.tuple #[.bool false])).put (some 9) (.bool false)) wk
  refine wp_seq (wp_cond_false ?_ (wp_exit ?_))
  ·rw[Gg,if_pos ⟨rfl,by rw[BX,S.size];decide⟩]
  ·refine hover seen _ wk ((S.put (by decide) _).put (by decide) _) fun x hx=>?_
   by_cases hs:x.born∈seen
   ·exact hs
   ·have hxk:x∈esk:=by
     rw[← hesk]
     refine List.mem_filter.2 ⟨hx,?_⟩
     have:seen.contains x.born=false:=by simpa using hs
     rw[this];rfl
    obtain⟨x',hx',he⟩:=Ho hre hxk
    rw[← he];exact hall x' hx'
 ·show(Code.seq (.cond (.tmp 9) .skip (.exit 0)) (IP mt ft kt vt bt)).wp P (Exit.then K0 Q) ((ak.put (some 8) (.tuple #[.bool true,x'.key,x'.val])).put (some 9) (.bool true)) w1
  obtain⟨x,hxk,hxb⟩:=Fa hre hx'
  have hxe:=hsub x hxk
  have S1:=(S.put (t:=8) (by decide) (.tuple #[.bool true,x'.key,x'.val])).put (t:=9) (by decide) (.bool true)
  generalize hag:(ak.put (some 8) (.tuple #[.bool true,x'.key,x'.val])).put (some 9) (.bool true)=a1 at S1
  have ht9:a1.eval (.tmp 9)=.bool true:=by rw[← hag,Gg,if_pos ⟨rfl,by rw[BX,S.size];decide⟩]
  have hws1:w1.heap.size=wk.heap.size:=by rw[e1];simp
  have hit1:w1.heap[pI.blk]? =some (.mapIter (some q.blk) c ⟨seen++[x'.born]⟩ c):=by
   rw[e1,Array.getElem?_setIfInBounds,if_pos rfl,if_pos hibk]
  have hoth1:∀ j,j≠pI.blk→w1.heap[j]? =wk.heap[j]?:=fun j hj=>by rw[e1,Array.getElem?_setIfInBounds,if_neg (Ne.symm hj)]
  have blk_ne:∀ i pl,φ i=some pl→h0.bl.get i≠.dead→pl.blk<w.heap.size:=fun i pl hi hl=>((hdom i pl hi).2).resolve_right fun h=>hl h.2
  have live0:∀ (l:List Ent) (b:BT),h0.bl.set r (.map l c)=some b→∀ i,i≠r→b.get i=h0.bl.get i:=fun l b hb i hi=>B2 hb hi
  have keepTo:∀ (lo hi mk:Nat) (wn:World),w1.heap.size≤wn.heap.size→(∀ j,j<w.heap.size→wn.heap[j]? =wk.heap[j]?)→RelW ty φ nil {next:=h0.next,low:=lo,high:=hi,mark:=mk,bl:=bl} wn:=fun lo hi mk wn hs hj=>
   RelW.of_bl (HR.keep (w':=wn) fun i pl hi=>⟨Nat.lt_of_lt_of_le (HR.dom i pl hi).2 (by omega),fun hl=>by
    have hl:bl.get i≠.dead:=hl
    by_cases hir:i=r
    ·subst hir;rw[hq]at hi;cases hi;exact hj _ hqw
    ·rw[live0 _ _ hbl i hir]at hl;exact hj _ (blk_ne i pl hi hl)⟩) rfl rfl
  have HR1:=keepTo h0.next 0 h0.mark w1 (Nat.le_refl _) fun j hj=>hoth1 j (by omega)
  refine wp_seq (wp_cond_true ht9 (wp_skip ?_))
  show(IP mt ft kt vt bt).wp P (Exit.then K0 Q) a1 w1
  refine wp_block (wp_seq (wp_region_list ?_))
  have hmk1:w1.heap[q.blk]? =some (.map ⟨es'⟩ c):=by rw[hoth1 _ hqi];exact hmk
  obtain⟨x2,hf2,hkr,hvr⟩:=G9 hre (HB hnd hxk)
  have hrun1:=NV (P:=P) hit1 hmk1 (by rw[← hxb];exact hf2)
  have hx1:execOp a1.eval dent=(do pure (.value (← Instr.entry (a1.eval (.tmp 7))))):=rfl
  generalize hQ2:(Exit.then ((Oe mt ft kt vt bt).wp P (Exit.inBlock 1 (Exit.then K0 Q))) (Exit.inBlock 1 (Exit.then K0 Q)))=Q2
  have hgoal:wpList P (dent::dop2 kt vt).toArray Q2 (dop2 kt vt) (a1.put (some 10) (.tuple #[x2.key,x2.val])) w1→wpList P (dent::dop2 kt vt).toArray Q2 (dent::dop2 kt vt) a1 w1:=fun h=>by
   rw[show wpList P (dent::dop2 kt vt).toArray Q2 (dent::dop2 kt vt) a1 w1=(if Region.wanted dent (yielded (dent::dop2 kt vt).toArray a1.tmps)then dent.wp P a1 w1 (wpList P (dent::dop2 kt vt).toArray Q2 (dop2 kt vt)) Q2∨(dent.asks P a1 w1∧LetsOut Q2)else wpList P (dent::dop2 kt vt).toArray Q2 (dop2 kt vt) (a1.put dent.dst undef) w1)from rfl]
   rw[if_pos (Cf rfl _)]
   refine .inl ?_
   unfold Oper.wp
   rw[hx1,hp a1 S1.s7,Sem.run_bind,hrun1,Result.andThen_ok,Sem.run_pure,Oper.upon_value]
   exact h
  refine hgoal ?_
  have S2:=S1.put (t:=10) (by decide) (.tuple #[x2.key,x2.val])
  have h10:(a1.put (some 10) (.tuple #[x2.key,x2.val])).tmps.getD 10 undef=.tuple #[x2.key,x2.val]:=by
   rw[BV,if_pos ⟨rfl,by rw[S1.size];decide⟩]
  generalize (a1.put (some 10) (.tuple #[x2.key,x2.val]))=a2 at S2 h10
  obtain⟨e5,h5,hb5,hlow,h4,h16⟩:=hrounds x hxe
  rw[← D.body]at hb5
  let Hb:Hp:={next:=h0.next,low:=h0.next,high:=0,mark:=h0.mark,bl:=bld}
  have HRb:RelW ty φ nil Hb w1:=HR1.less2 rfl fun i=>by
   by_cases hir:i=r
   ·left;show bld.get i=_;rw[hir];exact DP hbld
   ·right;show bld.get i=bl.get i;rw[B2 hbld hir,B2 hbl hir]
  have HAb:AR 19 φ (rhoOf [] [] (B4 m f p x)) a2:=CT.2 ⟨S2.size,S2.defs,fun t ht _=>by
   rw[Bb _ _ _ _ t ht]
   by_cases q1:t=10
   ·rw[if_pos q1,q1,h10];exact .tuple (.cons hkr (.cons hvr .nil))
   ·rw[if_neg q1]
    by_cases q2:t=7
    ·rw[if_pos q2,q2];exact S2.s7
    ·rw[if_neg q2]
     by_cases q3:t∈JC
     ·rw[if_pos q3];exact .unk
     ·rw[if_neg q3]
      by_cases q4:t=0
      ·rw[if_pos q4,q4];exact S2.s0
      ·rw[if_neg q4]
       by_cases q5:t=1
       ·rw[if_pos q5,q5];exact S2.s1
       ·rw[if_neg q5,KA S2.size (IL q1 q2 q3 q4 q5)]
        exact .tuple .nil⟩
  have hkeep:BA JC body:=by
   rw[← D.body]
   refine EY (fun σ=>BD _ (fun y hy=>?_) (fun _ h=>by cases h)) _ _ _ (fun o ho y hy=>?_)
   ·have hy:y∈[13,14,15,16]:=hy
    simp only[List.mem_cons,List.not_mem_nil,or_false]at hy
    rcases hy with rfl|rfl|rfl|rfl<;>decide
   ·have:=G5 hy _ ho
    have hy:y∈[11,12,5,4]:=this
    simp only[List.mem_cons,List.not_mem_nil,or_false]at hy
    rcases hy with rfl|rfl|rfl|rfl<;>decide
  have hag5:Ag JC (B4 m f p x) e5:=by
   have:=hkeep F (B4 m f p x) Hb
   rw[← D.body,hb5]at this;exact this
  obtain⟨ρ,HH,V,run,T,σ',e',tr,q1,q2,q3,q4,q5⟩:=Gd hT hF (dop2 kt vt) [] [] (B4 m f p x) Hb _ (fun j o _=>.plain ty o) (.nil []) hb5 (fun h=>by cases h)
  have hN2:∀ o∈dop2 kt vt,∀ y,o.dst=some y→y<19:=fun o ho y hy=>by
   have:=G5 hy _ ho
   have hy:y∈[11,12,5,4]:=this
   simp only[List.mem_cons,List.not_mem_nil,or_false]at hy
   rcases hy with rfl|rfl|rfl|rfl<;>decide
  refine Gl (Q:=Q2) (φ:=φ) (dop2 kt vt) tr hN2 (by rw[q2];exact HRb) (by rw[q1];exact HAb) fun _ ψ a3 w3 r1 r2 r3=>?_
  rw[← hQ2]
  show(Oe mt ft kt vt bt).wp P (Exit.inBlock 1 (Exit.then K0 Q)) a3 w3
  rw[q3]at r2
  refine wp_seq (Bi hT hF hm (.region 3 (dop3 ft kt vt bt).toArray false) q5 (fun h=>by cases h) rfl ψ w3 a3 q4 r1 r2 _ {go:=(fun _ h=>by cases h),norm:=fun _ e6 h6 χ a4 w4 g hx=>?_,exit:=(fun _ _ _ _ _ _ _ hx=>by cases hx),ret:=(fun _ _ _ _ _ _ hx=>by cases hx)})
  cases hx
  rw[q2]at r3
  have evo:Evo φ Hb w1 χ h5 w4:=r3.trans g.evo
  obtain⟨g1,g2,g3⟩:=CT.1 g.ar
  have hfr:∀ j,j<w1.heap.size→w4.heap[j]? =w1.heap[j]?:=fun j hj=>evo.frame j hj fun i pl hi _ hl _ _=>by
   have:=(hdom i pl hi).1
   omega
  have hcut:∀ {v v' v'':Value},RelV χ v v'→RelV φ v v''→RelV φ v v':=fun {v v' v''} h1 h2=>RelV.cut (χ:=φ) (fun b pl hb ⟨y,hy⟩=>by
   have:=evo.le b y hy
   rw[hb]at this;cases this
   exact hy) h1 h2
  have at5:∀ t,t<208→t∉JC→RelV χ ((B4 m f p x).get t) (a4.tmps.getD t undef):=fun t ht hS=>by rw[← hag5 t ht hS];exact g3 t ht rfl
  have c0:RelV φ m (a4.tmps.getD 0 undef):=hcut (by have:=at5 0 (by decide) (by decide);rw[Bb _ _ _ _ 0 (by decide)]at this;exact this) S2.s0
  have c1:RelV φ f (a4.tmps.getD 1 undef):=hcut (by have:=at5 1 (by decide) (by decide);rw[Bb _ _ _ _ 1 (by decide)]at this;exact this) S2.s1
  have c7:RelV φ p (a4.tmps.getD 7 undef):=hcut (by have:=at5 7 (by decide) (by decide);rw[Bb _ _ _ _ 7 (by decide)]at this;exact this) S2.s7
  have hw4:w1.heap.size≤w4.heap.size:=evo.size
  have hold:∀ j,j<w.heap.size→w4.heap[j]? =wk.heap[j]?:=fun j hj=>by rw[hfr j (by have:=S.grow;omega),hoth1 j (by omega)]
  have HR4:=keepTo h0.next 0 h0.mark w4 hw4 hold
  have hit4:w4.heap[pI.blk]? =some (.mapIter (some q.blk) c ⟨seen++[x'.born]⟩ c):=by rw[hfr _ (by omega)];exact hit1
  have h16r:=g3 16 (by decide) rfl
  rw[← BG 16 (by decide),h16]at h16r
  have hev16:a4.eval (.tmp 16)=.bool (d x.born):=h16r.bool_inv
  have hnx:x.born∉seen:=by rw[hxb];exact hns
  have same4:∀ j,j<w.heap.size→j≠q.blk→w4.heap[j]? =w.heap[j]?:=fun j hj hjq=>by rw[hold j hj];exact S.same j hj hjq
  cases hdx:d x.born with
  |false=>
   rw[hdx]at hev16
   refine wp_cond_false hev16 (wp_skip ?_)
   show K0 a4 w4
   refine hK x hxe hnx a4 w4 {size:=g1,defs:=g2,s0:=c0,s1:=c1,s7:=c7,rel:=⟨bl,?_,HR4⟩,iter:=by rw[hxb];exact hit4,grow:=by have:=S.grow;omega,same:=same4,tape:=evo.tape.trans (e2.trans S.tape),os:=evo.os.trans (e3.trans S.os),output:=evo.output.trans (e4.trans S.output)}
   have e9:(es.filter fun y=> !((seen++[x.born]).contains y.born && d y.born))=esk:=by
    rw[← hesk]
    refine List.filter_congr fun y hy=>?_
    by_cases hyx:y.born=x.born
    ·rw[hyx,hdx];simp
    ·have:(seen++[x.born]).contains y.born=seen.contains y.born:=by simp[hyx]
     rw[this]
   rw[e9];exact hbl
  |true=>
   rw[hdx]at hev16
   refine wp_cond_true hev16 ?_
   obtain⟨j4,n4,i1,i2⟩:=Ow h4
   have hkey4:RelV φ x.key (a4.tmps.getD 4 undef):=by
    have:=g3 4 (by decide) rfl
    rw[← BG 4 (by decide),i1]at this
    rw[i2]
    generalize a4.tmps.getD 4 undef=v4 at this
    cases this
    exact .int _ _
   let eT:Env:=Env.set 4 x.key (Env.set 10 (.chan none) (B4 m f p x))
   have hTg:∀ t,t<208→eT.get t=if t=4 then x.key else if t=10 then .chan none else(B4 m f p x).get t:=fun t ht=>by
    show(Env.set 4 x.key (Env.set 10 (.chan none) (B4 m f p x))).get t=_
    rw[Env.get_set _ _ _ _ (by decide) ht,Env.get_set _ _ _ _ (by decide) ht]
   have HAT:AR 19 φ (rhoOf [] [] eT) a4:=CT.2 ⟨g1,g2,fun t ht _=>by
    rw[hTg t ht]
    by_cases q1:t=4
    ·rw[if_pos q1,q1];exact hkey4
    ·rw[if_neg q1]
     by_cases q2:t=10
     ·rw[if_pos q2];exact .unk
     ·rw[if_neg q2,Bb _ _ _ _ t ht,if_neg q2]
      by_cases q3:t=7
      ·rw[if_pos q3,q3];exact c7
      ·rw[if_neg q3]
       by_cases q4:t∈JC
       ·rw[if_pos q4];exact .unk
       ·rw[if_neg q4]
        by_cases q5:t=0
        ·rw[if_pos q5,q5];exact c0
        ·rw[if_neg q5]
         by_cases q6:t=1
         ·rw[if_pos q6,q6];exact c1
         ·rw[if_neg q6,KA g1 (IL q2 q3 q4 q5 q6)]
          exact .tuple .nil⟩
   have honx:=Kj (Kl honl x hxe)
   have hfit:Ck K x.key=true:=by
    have:=honx x hxe
    unfold Dy at this
    cases hf:Ck K x.key with
    |true=>rfl
    |false=>rw[hf]at this;cases this
   have hde:LU K x.key esk=some (esk.filter fun y=> !Nat.beq x.born y.born):=IK (fun y hy=>honx y (hsub y hy)) hnd
   obtain⟨bl2,hbl2⟩:=BT.again h0.bl r _ (.map (esk.filter fun y=> !Nat.beq x.born y.born) c) bl hbl
   let HD:Hp:={next:=h0.next,low:=h0.next,high:=0,mark:=h0.mark,bl:=bl}
   let HD2:Hp:={next:=h0.next,low:=A7 h0.next r,high:=BR 0 r,mark:=h0.mark,bl:=bl2}
   have t0:slotG 0 eT=m:=by rw[BG 0 (by decide),hTg 0 (by decide),if_neg (by decide),if_neg (by decide),Bb _ _ _ _ 0 (by decide)];rfl
   let eU:Env:=Env.set 18 x.key (Env.set 17 m eT)
   have hrun4:codeC ty [] (.region 4 (dop4 mt kt).toArray false) [] none F eT HD=.norm eU HD2:=by
    rw[D.del]
    have f1:oMove (slotG 0) F eT HD=.ok m HD:=by
     show moveR (slotG 0 eT) HD=_
     rw[Cn,t0]
    rw[I8 f1,CD 17 (by decide)]
    have f2:oMove (slotG 4) F (Env.set 17 m eT) HD=.ok x.key HD:=by
     show moveR (slotG 4 (Env.set 17 m eT)) HD=_
     rw[Cn,BG 4 (by decide),Env.get_set _ _ _ _ (by decide) (by decide),if_neg (by decide),hTg 4 (by decide),if_pos rfl]
    rw[I8 f2,CD 18 (by decide)]
    have g17:slotG 17 eU=.map (some r):=by
     rw[BG 17 (by decide),Env.get_set _ _ _ _ (by decide) (by decide),if_neg (by decide),Env.get_set _ _ _ _ (by decide) (by decide),if_pos rfl,hm0]
    have g18:slotG 18 eU=x.key:=by
     rw[BG 18 (by decide),Env.get_set _ _ _ _ (by decide) (by decide),if_pos rfl]
    have f3:oDelete K (slotG 17) (slotG 18) F eU HD=.ok noRes HD2:=by
     show GX K (slotG 17 eU) (slotG 18 eU) HD=_
     rw[g17,g18]
     unfold GX
     rw[hfit]
     simp only
     rw[hents]
     simp only
     rw[hde]
     simp only
     unfold Bp
     rw[Aq.2 h256,cond_true]
     show(match bl.set r _ with|some bl=>_|none=>R.no)=_
     rw[hbl2]
     simp only[Ap]
     rfl
    show cDo (oDelete K (slotG 17) (slotG 18)) cNorm F eU HD=_
    unfold cDo
    rw[f3]
    rfl
   refine Bi hT hF hm (.region 4 (dop4 mt kt).toArray false) hrun4 (fun h=>by cases h) rfl φ w4 a4 (.nil []) HR4 HAT _ {go:=(fun _ h=>by cases h),norm:=fun _ e7 h7 ψ4 a5 w5 g' hx=>?_,exit:=(fun _ _ _ _ _ _ _ hx=>by cases hx),ret:=(fun _ _ _ _ _ _ hx=>by cases hx)}
   cases hx
   show K0 a5 w5
   obtain⟨k1,k2,k3⟩:=CT.1 g'.ar
   have hcut2:∀ {v v' v'':Value},RelV ψ4 v v'→RelV φ v v''→RelV φ v v':=fun {v v' v''} h1 h2=>RelV.cut (χ:=φ) (fun b pl hb ⟨y,hy⟩=>by
    have:=g'.evo.le b y hy
    rw[hb]at this;cases this
    exact hy) h1 h2
   have eUg:∀ t,t<208→t≠17→t≠18→t≠4→t≠10→eU.get t=(B4 m f p x).get t:=fun t ht h1 h2 h3 h4=>by
    show(Env.set 18 x.key (Env.set 17 m eT)).get t=_
    rw[Env.get_set _ _ _ _ (by decide) ht,if_neg h2,Env.get_set _ _ _ _ (by decide) ht,if_neg h1,hTg t ht,if_neg h3,if_neg h4]
   have hfr5:∀ j,j<w4.heap.size→j≠q.blk→w5.heap[j]? =w4.heap[j]?:=fun j hj hjq=>g'.evo.frame j hj fun i pl hi _ hl hh _ hb=>by
    have hl:A7 h0.next r≤i:=hl
    have hh:i≤BR 0 r:=hh
    rw[A2]at hl
    rw[A9]at hh
    have:i=r:=by omega
    subst this
    rw[hq]at hi;cases hi
    exact hjq hb.symm
   obtain⟨bl3,hbl3⟩:=BT.set_any h0.bl r .dead (.map (es.filter fun y=> !((seen++[x.born]).contains y.born && d y.born)) c) bld hbld
   have e9:(es.filter fun y=> !((seen++[x.born]).contains y.born && d y.born))=esk.filter fun y=> !Nat.beq x.born y.born:=by
    rw[← hesk,List.filter_filter]
    refine List.filter_congr fun y hy=>?_
    by_cases hyx:y.born=x.born
    ·rw[hyx,hdx,Nat.beq_refl];simp
    ·have h1:(seen++[x.born]).contains y.born=seen.contains y.born:=by simp[hyx]
     rw[h1,LN (fun h=>hyx h.symm)];simp
   have HS:RelW ty φ nil HD2 w5:=g'.rel.sub g'.evo.le fun i pl hi=>by
    by_cases hir:i=r
    ·subst hir
     refine⟨pl,some (.map ⟨es'.filter fun y=> !Nat.beq x.born y.born⟩ c),?_⟩
     show RelB ty φ pl (bl2.get i) _
     rw[DP hbl2]
     exact .map (RelE.filter (p:=fun b=> !Nat.beq x.born b) hre)
    ·refine⟨pl,w4.heap[pl.blk]?,?_⟩
     show RelB ty φ pl (bl2.get i) _
     rw[B2 hbl2 hir]
     exact HR4.row i pl hi (fun h=>h)
   refine hK x hxe hnx a5 w5 {size:=k1,defs:=k2,s0:=?_,s1:=?_,s7:=?_,rel:=⟨bl3,hbl3,HS.less2 rfl fun i=>.inr ?_⟩,iter:=?_,grow:=?_,same:=fun j hj hjq=>?_,tape:=g'.evo.tape.trans (evo.tape.trans (e2.trans S.tape)),os:=g'.evo.os.trans (evo.os.trans (e3.trans S.os)),output:=g'.evo.output.trans (evo.output.trans (e4.trans S.output))}
   ·have:=k3 0 (by decide) rfl
    rw[eUg 0 (by decide) (by decide) (by decide) (by decide) (by decide),Bb _ _ _ _ 0 (by decide)]at this
    exact hcut2 this c0
   ·have:=k3 1 (by decide) rfl
    rw[eUg 1 (by decide) (by decide) (by decide) (by decide) (by decide),Bb _ _ _ _ 1 (by decide)]at this
    exact hcut2 this c1
   ·have:=k3 7 (by decide) rfl
    rw[eUg 7 (by decide) (by decide) (by decide) (by decide) (by decide),Bb _ _ _ _ 7 (by decide)]at this
    exact hcut2 this c7
   ·show bl3.get i=bl2.get i
    by_cases hir:i=r
    ·rw[hir,DP hbl3,DP hbl2,e9]
    ·rw[B2 hbl3 hir,B2 hbl2 hir,B2 hbl hir]
   ·rw[hfr5 _ (by omega) (Ne.symm hqi),hxb];exact hit4
   ·have:=S.grow
    have:=g'.evo.size
    omega
   ·rw[hfr5 j (by have:=S.grow;omega) hjq];exact same4 j hj hjq
theorem G7{p q:Ent→Bool}(h:∀ x,p x=true→q x=true):∀ l:List Ent,(l.filter p).length≤(l.filter q).length
 |[]=>Nat.le_refl _
 |x::l=>by
  have ih:=G7 h l
  rw[List.filter_cons,List.filter_cons]
  cases hp:p x with
  |true=>rw[h x hp];simpa using ih
  |false=>
   cases q x with
   |true=>simp;omega
   |false=>simpa using ih
theorem G8{p q:Ent→Bool}(h:∀ x,p x=true→q x=true){y:Ent}(hq:q y=true)(hp:p y=false):∀ {l:List Ent},y∈l→(l.filter p).length+1≤(l.filter q).length
 |x::l,hm=>by
  rw[List.filter_cons,List.filter_cons]
  rcases List.mem_cons.1 hm with rfl|hm
  ·rw[hq,hp]
   have:=G7 h l
   simp;omega
  ·have ih:=G8 h hq hp hm
   cases hx:p x with
   |true=>rw[h x hx];simpa using ih
   |false=>
    cases q x with
    |true=>simp;omega
    |false=>simpa using ih
theorem Ob(hT:BJ P ty)(hm:P.follows .mixedOrders=true){g mt ft kt vt bt:Nat}{K:KS}{body:C}(D:DelIs P ty g mt ft kt vt bt K body):DT P ty g (ja K body):=fun F args h v h' hF hr=>by
 obtain⟨fn,hfn,hname,hbody,hres,hnt⟩:=D.fn
 refine⟨⟨fn,hfn,hname,by rw[hbody];rfl⟩,fun φ w args' hrel H=>?_⟩
 have hr:fo K body F args h=.ok v h':=hr
 cases hrel with
 |nil=>cases hr
 |@cons m m' l l' hmr t=>
 cases t with
 |nil=>cases hr
 |@cons f f' l2 l2' hfr t=>
 cases t with
 |cons _ _=>cases hr
 |nil=>
 unfold fo at hr
 simp only at hr
 cases hmr<;>first|(cases hr;done)|skip
 rename_i r q hq _
 simp only at hr
 cases hents:BB h r with
 |no=>rw[hents]at hr;cases hr
 |ok es c=>
 rw[hents]at hr
 simp only at hr
 obtain⟨h256,hr⟩:=Au hr
 obtain⟨hrn,hr⟩:=Au hr
 obtain⟨hris,hr⟩:=Au hr
 obtain⟨honl,hr⟩:=Au hr
 have h256:=Aq.1 h256
 have hrn:=Al.1 hrn
 unfold jd at hr
 cases hb0:h.bl.set h.next .dead with
 |none=>rw[hb0]at hr;cases hr
 |some bl0=>
 rw[hb0]at hr
 simp only at hr
 cases hbd:bl0.set r .dead with
 |none=>rw[hbd]at hr;cases hr
 |some bld=>
 rw[hbd]at hr
 simp only[Ap]at hr
 cases hdr:Oa K body F (.map (some r)) f (.pointer (some ⟨h.next,0,none⟩)) (Nat.succ h.next) h.mark bld es with
 |none=>rw[hdr]at hr;cases hr
 |some es2=>
 rw[hdr]at hr
 simp only at hr
 obtain⟨bl2,_,hbl2,hk⟩:=CN hr
 cases hk
 obtain⟨d,hes2,hrounds⟩:=Me (Dj hris) hdr
 obtain⟨es',hwm,hre⟩:=H.entsAt hq (fun h=>h) hents
 have hqw:=(H.dom r q hq).2
 let h0:Hp:={next:=Nat.succ h.next,low:=h.low,high:=h.high,mark:=h.mark,bl:=bl0}
 let pI:Pl:={blk:=w.heap.size,off:=0,sz:=0,room:=0,es:=1}
 let φ0:Phi:=φ.put h.next pI
 let w0:World:={w with heap:=w.heap.push (.mapIter (some q.blk) c ⟨[]⟩ c)}
 have hs0:w0.heap.size=w.heap.size+1:=by simp[w0]
 have hsame0:∀ k,k<w.heap.size→w0.heap[k]? =w.heap[k]?:=fun k hk=>by
  show(w.heap.push _)[k]? =_
  rw[Array.getElem?_push_lt hk,Array.getElem?_eq_getElem hk]
 have hit0:w0.heap[w.heap.size]? =some (.mapIter (some q.blk) c ⟨[]⟩ c):=by show(w.heap.push _)[w.heap.size]? =_;simp
 have hb0g:∀ i,bl0.get i=if i=h.next then .dead else h.bl.get i:=fun i=>BT.get_set _ _ _ _ hb0 i
 have HN:RelW ty φ0 nil h0 w0:=H.new hb0 (by omega) (by show w.heap.size<_;omega) (fun j x e _=>by have:=(H.dom j x e).2;show _≠w.heap.size;omega) (fun k hk _=>hsame0 k hk) (by
  show RelB ty φ0 pI .dead _
  exact .dead)
 have hq0:φ0 r=some q:=Phi.put_le H.none_next r q hq
 have hdom0:∀ i x,φ0 i=some x→i<h0.next∧(x.blk<w.heap.size∨(x=pI∧h0.bl.get i=.dead)):=fun i x hx=>by
  rcases Phi.put_cases hx with ⟨rfl,rfl⟩|⟨_,hx⟩
  ·exact⟨Nat.lt_succ_self _,.inr ⟨rfl,by show bl0.get _=_;rw[hb0g,if_pos rfl]⟩⟩
  ·exact⟨Nat.lt_succ_of_lt (H.dom i x hx).1,.inl (H.dom i x hx).2⟩
 have hp0:∀ ak:Act,RelV φ0 (.pointer (some ⟨h.next,0,none⟩)) (ak.tmps.getD 7 undef)→ak.eval (.tmp 7)=.pointer (some ⟨pI.blk,0,none⟩):=fun ak h1=>by
  obtain⟨a2,ha2,hr2⟩:=h1.ptr_inv
  obtain⟨p2,hp2,rfl⟩:=hr2.eq
  have hps:φ0 h.next=some pI:=Phi.put_self _ _ _
  have hp2:φ0 h.next=some p2:=hp2
  rw[hps]at hp2;cases hp2
  exact ha2
 refine calls_of_wp hfn hbody ?_
 rw[hnt]
 let a0:Act:={tmps:=(⟨[.map (some q.blk),f']⟩:Array Value)++Array.replicate 17 undef,defers:=[]}
 show(Code.seq (.region 0 (je mt).toArray false) (.block 0 (.loop (IO mt ft kt vt bt)))).wp P (bodyPost P fn _) a0 w
 have ha0:a0.tmps.size=19:=by simp[a0]
 have ht0:a0.tmps.getD 0 undef=.map (some q.blk):=by simp[a0]
 have ht1:a0.tmps.getD 1 undef=f':=by simp[a0]
 have hd0:a0.defers=[]:=rfl
 clear_value a0
 generalize hQ:(bodyPost P fn fun en w'=>∃ v' ψ,en=.returned v'∧RelV ψ noRes v'∧RelW ty ψ nil {next:=Nat.succ h.next,low:=A7 h.low r,high:=BR h.high r,mark:=h.mark,bl:=bl2} w'∧Evo φ h w ψ {next:=Nat.succ h.next,low:=A7 h.low r,high:=BR h.high r,mark:=h.mark,bl:=bl2} w')=Q0
 refine wp_seq (wp_region_list ?_)
 obtain⟨dt,hdt⟩:=D.map
 have hrange:(Instr.range mt (.map (some q.blk))).run P w=.ok (.pointer (some ⟨w.heap.size,0,none⟩)) w0:=by
  simp only[Instr.range,Sem.run_bind,run_underlying hdt,Result.andThen_ok,A0 hwm rfl,Sem.run_pure,run_newObj]
  rfl
 have one:∀ (all:Array Oper) (o:Oper) (rest:List Oper) (a:Act) (w1:World) (Q:Exit→Act→World→Prop),o.guard=none→o.wp P a w1 (wpList P all Q rest) Q→wpList P all Q (o::rest) a w1:=fun all o rest a w1 Q hg h=>by
  rw[show wpList P all Q (o::rest) a w1=(if Region.wanted o (yielded all a.tmps)then o.wp P a w1 (wpList P all Q rest) Q∨(o.asks P a w1∧LetsOut Q)else wpList P all Q rest (a.put o.dst undef) w1)from rfl]
  rw[if_pos (Cf hg _)]
  exact .inl h
 have e0:a0.eval (.tmp 0)=.map (some q.blk):=(show ∀ a:Act,a.eval (.tmp 0)=a.tmps.getD 0 undef from fun _=>rfl) a0 |>.trans ht0
 refine one _ _ _ _ _ _ rfl ?_
 unfold Oper.wp
 rw[show execOp a0.eval ⟨some 6,.move (.tmp 0),mt,"maps.go:70",#[],none⟩=pure (.value (a0.eval (.tmp 0)))from rfl,Sem.run_pure,Oper.upon_value]
 refine one _ _ _ _ _ _ rfl ?_
 unfold Oper.wp
 have h6:(a0.put (some 6) (a0.eval (.tmp 0))).eval (.tmp 6)=.map (some q.blk):=by rw[Gg,if_pos ⟨rfl,by rw[ha0];decide⟩,e0]
 rw[show execOp (a0.put (some 6) (a0.eval (.tmp 0))).eval ⟨some 7,.range mt (.tmp 6),0,"maps.go:70",#[⟨0,.data⟩],none⟩=(do pure (.value (← Instr.range mt ((a0.put (some 6) (a0.eval (.tmp 0))).eval (.tmp 6)))))from rfl]
 rw[h6,Sem.run_bind,hrange,Result.andThen_ok,Sem.run_pure,Oper.upon_value]
 show(Code.block 0 (.loop (IO mt ft kt vt bt))).wp P Q0 ((a0.put (some 6) (a0.eval (.tmp 0))).put (some 7) (.pointer (some ⟨w.heap.size,0,none⟩))) w0
 have S0:Ds ty φ0 w h0 r q.blk pI.blk c (.map (some r)) f (.pointer (some ⟨h.next,0,none⟩)) es d [] ((a0.put (some 6) (a0.eval (.tmp 0))).put (some 7) (.pointer (some ⟨w.heap.size,0,none⟩))) w0:=by
  have e1:(es.filter fun x=> !(([]:List Nat).contains x.born && d x.born))=es:=List.filter_eq_self.2 fun x _=>rfl
  obtain⟨blS,hblS⟩:=BT.set_any bl0 r .dead (.map es c) bld hbd
  refine {size:=by rw[BX,BX];exact ha0,defs:=by rw[B8,B8,hd0],s0:=?_,s1:=?_,s7:=?_,rel:=⟨blS,by rw[e1];exact hblS,?_⟩,iter:=hit0,grow:=by omega,same:=fun j hj _=>hsame0 j hj,tape:=rfl,os:=rfl,output:=rfl}
  ·rw[BV,if_neg (fun h=>by cases h.1),BV,if_neg (fun h=>by cases h.1)]
   rw[ht0]
   exact .map hq0
  ·rw[BV,if_neg (fun h=>by cases h.1),BV,if_neg (fun h=>by cases h.1)]
   rw[ht1]
   exact hfr.mono (Phi.put_le H.none_next)
  ·rw[BV,if_pos ⟨rfl,by rw[BX,ha0];decide⟩]
   exact Gf (p:=pI) (Phi.put_self _ _ _) rfl
  ·refine HN.less2 rfl fun i=>.inr ?_
   show blS.get i=bl0.get i
   by_cases hir:i=r
   ·rw[hir,DP hblS,hb0g,if_neg (by omega)]
    exact(CQ hents).symm
   ·rw[B2 hblS hir]
 have hover:∀ seen ak wk,Ds ty φ0 w h0 r q.blk pI.blk c (.map (some r)) f (.pointer (some ⟨h.next,0,none⟩)) es d seen ak wk→(∀ x∈es,x.born∈seen)→Exit.inBlock 0 Q0 (.exit 0) ak wk:=fun seen ak wk S hall=>by
  show(if(0:Nat)=0 then Q0 .normal ak wk else Q0 (.exit 0) ak wk)
  rw[if_pos rfl,← hQ]
  obtain⟨bl,hbl,HR⟩:=S.rel
  have e1:(es.filter fun x=> !(seen.contains x.born && d x.born))=es2:=by
   rw[hes2]
   refine List.filter_congr fun x hx=>?_
   have:seen.contains x.born=true:=by simpa using hall x hx
   rw[this];rfl
  rw[e1]at hbl
  have hbl:bl0.set r (.map es2 c)=some bl:=hbl
  rw[hbl2]at hbl
  cases hbl
  have hres2:(Go.results fn ak.tmps).run P wk=.ok noRes wk:=by
   rw[Hq,hres]
   simp
   rfl
  have hbg:∀ i,bl2.get i=if i=r then .map es2 c else if i=h.next then .dead else h.bl.get i:=fun i=>by
   rw[BT.get_set _ _ _ _ hbl2,hb0g]
  have hrl:h.bl.get r=.map es c:=CQ hents
  refine⟨S.defs,noRes,hres2,noRes,φ0,rfl,.tuple .nil,HR.of_bl rfl rfl,?_⟩
  exact {
   le:=Phi.put_le H.none_next
   new:=fun i x hx=>by
    rcases Phi.put_cases hx with ⟨rfl,rfl⟩|⟨_,hx⟩
    ·exact .inr (Nat.le_refl _)
    ·exact .inl hx
   next:=Nat.le_succ _
   size:=S.grow
   tape:=S.tape
   os:=S.os
   output:=S.output
   frame:=fun j hj hf=>S.same j hj fun hjq=>by
    cases hin:q.inp with
    |true=>have:=H.inp r q hq hin;omega
    |false=>exact hf r q hq hin (by show A7 _ _≤_;rw[A2];exact Nat.min_le_right _ _) (by show _≤BR _ _;rw[A9];exact Nat.le_max_right _ _) (by unfold Live;rw[hrl];intro h;cases h) hjq.symm
   back:=fun i x hx hl hlt=>by
    rcases Phi.put_cases hx with ⟨rfl,rfl⟩|⟨hne,hx⟩
    ·exact absurd hlt (Nat.lt_irrefl _)
    ·refine⟨i,x,hx,?_,rfl,rfl,.inl rfl⟩
     have hl:bl2.get i≠.dead:=hl
     intro hd
     rw[hbg]at hl
     by_cases hir:i=r
     ·have hd:h.bl.get i=.dead:=hd
      rw[hir,hrl]at hd;cases hd
     ·rw[if_neg hir,if_neg hne]at hl
      exact hl hd
   kept:=fun i hi hio=>by
    show bl2.get i=_
    have hio:i<A7 h.low r∨BR h.high r<i:=hio
    rw[A2,A9]at hio
    rw[hbg,if_neg (by omega),if_neg (by omega)]
   low:=by show A7 _ _≤_;rw[A2];exact Nat.min_le_left _ _
   high:=by show _≤BR _ _;rw[A9];exact Nat.le_max_left _ _
   shape:=fun i hi=>by
    show ShapeLe _ (bl2.get i)
    rw[hbg]
    by_cases hir:i=r
    ·rw[if_pos hir,hir,hrl];exact .inr trivial
    ·rw[if_neg hir,if_neg (by omega)];exact .refl _
   only:=fun i hi h1=>by
    show bl2.get i=_
    rw[hbg,if_neg (fun e=>by rw[e,hq]at h1;cases h1),if_neg (by omega)]
   all:=fun i h1 h2=>⟨pI,by
    have h2:i<h.next+1:=h2
    have:i=h.next:=by omega
    rw[this];exact Phi.put_self _ _ _⟩}
 have main:∀ (n:Nat) (seen:List Nat) (ak:Act) (wk:World),(es.filter fun x=> !seen.contains x.born).length≤n→Ds ty φ0 w h0 r q.blk pI.blk c (.map (some r)) f (.pointer (some ⟨h.next,0,none⟩)) es d seen ak wk→
   Code.rounds P (IO mt ft kt vt bt) (Exit.inBlock 0 Q0) (n+1) ak wk:=by
  intro n
  induction n with
  |zero=>
   intro seen ak wk hcnt S
   refine IM hT hF hm D rfl hq0 hqw hdom0 (Nat.le_refl _) hp0 h256 (Nat.lt_succ_of_lt hrn) hbd hris honl hrounds hover _ seen ak wk S fun x hx hns a2 w2 _=>?_
   exfalso
   have:x∈es.filter (fun x=> !seen.contains x.born):=List.mem_filter.2 ⟨hx,by simpa using hns⟩
   have:=List.length_pos_of_mem this
   omega
  |succ n ih=>
   intro seen ak wk hcnt S
   refine IM hT hF hm D rfl hq0 hqw hdom0 (Nat.le_refl _) hp0 h256 (Nat.lt_succ_of_lt hrn) hbd hris honl hrounds hover _ seen ak wk S fun x hx hns a2 w2 S2=>ih _ a2 w2 ?_ S2
   have:=G8 (p:=fun y=> !(seen++[x.born]).contains y.born) (q:=fun y=> !seen.contains y.born) (fun y h=>by
    simp only[Bool.not_eq_true',List.contains_eq_mem,decide_eq_false_iff_not]at h ⊢
    exact fun h2=>h (List.mem_append_left _ h2)) (by simpa using hns) (by simp) hx
   omega
 exact wp_block (wp_loop_rounds (es.length+1) (main es.length [] _ w0 (List.length_filter_le _ _) S0))
end
end
noncomputable section
open Go
def ZA:C:=opsC ty [] (dent::dop2 3 233) (fun σ=>codeC ty [] (.region 3 (dop3 271 3 233 4).toArray false) σ none) [] (dop2 3 233) []
def bD:Body:=ja ⟨false,[.i .i64]⟩ ZA
theorem PD{a b:String}(h:(a == b)=false):a≠b:=by simpa using h
theorem jc:DelIs Tryz.prog ty 149 221 271 3 233 4 ⟨false,[.i .i64]⟩ ZA where
 fn:=⟨Tryz.f149,Tryz.func149,PD (by kernel_rfl),by kernel_rfl,by kernel_rfl,by kernel_rfl⟩
 map:=⟨_,Tryz.underlying221⟩
 body:=rfl
 del:=by kernel_rfl
theorem fp(hT:BJ Tryz.prog ty):DT Tryz.prog ty 149 bD:=Ob hT (by kernel_rfl) jc
end
noncomputable section
open Go
section
variable {F:CallF}{e:Env}{h h':Hp}{x y:O}
structure Hp.Wf (h:Hp):Prop where
 big:256≤h.next
 has:∀ i,i<h.next→h.bl.has i
 fresh:∀ i,h.next≤i→h.bl.get i=.dead
def Hp.push(h:Hp)(o:Blk):Hp:={next:=Nat.succ h.next,low:=h.low,high:=h.high,mark:=h.mark,bl:=h.bl.lay h.next o}
def Hp.put(h:Hp)(b:Nat)(o:Blk):Hp:={next:=h.next,low:=A7 h.low b,high:=BR h.high b,mark:=h.mark,bl:=h.bl.lay b o}
theorem N5(W:h.Wf){b:Nat}(h256:256≤b)(hb:b<h.next){o:Blk}{K:Hp→R}:Bp h b o K=K (h.put b o):=by
 unfold Bp
 rw[BT.lay_is fun j hj=>W.has j (Nat.lt_trans hj hb),Aq.2 h256]
 simp only[Ap];rfl
theorem Hp.Wf.push_get(W:h.Wf)(o:Blk)(i:Nat):(h.push o).bl.get i=if i=h.next then o else h.bl.get i:=BT.lay_get (fun j hj=>W.has j hj) i
theorem Hp.Wf.put_get(W:h.Wf){b:Nat}(hb:b<h.next)(o:Blk)(i:Nat):(h.put b o).bl.get i=if i=b then o else h.bl.get i:=BT.lay_get (fun j hj=>W.has j (Nat.lt_trans hj hb)) i
theorem Hp.Wf.push(W:h.Wf)(o:Blk):(h.push o).Wf where
 big:=Nat.le_succ_of_le W.big
 has:=fun i hi=>BT.lay_has (fun j hj=>W.has j hj) i (by
  have hi:i<h.next+1:=hi
  rcases Nat.lt_or_ge i h.next with h1|h1
  ·exact .inr (W.has i h1)
  ·exact .inl (by omega))
 fresh:=fun i hi=>by
  have hi:h.next+1≤i:=hi
  rw[W.push_get o i,if_neg (by omega)]
  exact W.fresh i (by omega)
theorem Hp.Wf.put(W:h.Wf){b:Nat}(hb:b<h.next)(o:Blk):(h.put b o).Wf where
 big:=W.big
 has:=fun i hi=>BT.lay_has (fun j hj=>W.has j (Nat.lt_trans hj hb)) i (.inr (W.has i hi))
 fresh:=fun i hi=>by
  have hi:h.next≤i:=hi
  rw[W.put_get hb o i,if_neg (by omega)]
  exact W.fresh i hi
structure Hp.Ext (h h':Hp):Prop where
 next:h.next≤h'.next
 get:∀ i,i<h.next→h'.bl.get i=h.bl.get i
 low:min h.low h.next≤h'.low
 wf:h'.Wf
theorem Hp.Ext.refl(W:h.Wf):h.Ext h:=⟨Nat.le_refl _,fun _ _=>rfl,Nat.min_le_left _ _,W⟩
theorem Hp.Ext.trans{h₁ h₂ h₃:Hp}(a:h₁.Ext h₂)(b:h₂.Ext h₃):h₁.Ext h₃ where
 next:=Nat.le_trans a.next b.next
 get:=fun i hi=>by rw[b.get i (Nat.lt_of_lt_of_le hi a.next),a.get i hi]
 low:=by have:=a.low;have:=b.low;have:=a.next;omega
 wf:=b.wf
theorem Hp.Ext.push(a:h.Ext h')(o:Blk):h.Ext (h'.push o) where
 next:=Nat.le_succ_of_le a.next
 get:=fun i hi=>by rw[a.wf.push_get,if_neg (by have:=a.next;omega),a.get i hi]
 low:=a.low
 wf:=a.wf.push o
theorem Hp.Ext.put(a:h.Ext h'){b:Nat}(h1:h.next≤b)(hb:b<h'.next)(o:Blk):h.Ext (h'.put b o) where
 next:=a.next
 get:=fun i hi=>by rw[a.wf.put_get hb,if_neg (by omega),a.get i hi]
 low:=by
  show _≤A7 h'.low b
  rw[A2]
  have:=a.low;omega
 wf:=a.wf.put hb o
def VT.Is(t:VT)(l:List Value):Prop:=∀ i,i<l.length→t.has i∧t.get i=l.getD i noRes
theorem F5:∀ (vs:List Value) (t:VT) (l:List Value) (i:Nat),t.Is l→i+vs.length≤l.length∨i=l.length→∃ t',BW t i vs=some t'∧t'.Is (l.take i++vs++l.drop (i+vs.length))
 |[],t,l,i,ht,hi=>⟨t,rfl,by simpa using ht⟩
 |v::vs,t,l,i,ht,hi=>by
  have hi':i≤l.length:=by simp only[List.length_cons]at hi;omega
  have hh:∀ j,j<i→t.has j:=fun j hj=>(ht j (by omega)).1
  have h1:(t.lay i v).Is (l.take i++[v]++l.drop (i+1)):=fun j hj=>by
   have hl:(l.take i).length=i:=by simp;omega
   refine⟨VT.lay_has hh j ?_,?_⟩
   ·by_cases hji:j=i
    ·exact .inl hji
    ·right
     refine(ht j ?_).1
     simp only[List.length_append,List.length_cons,List.length_nil,List.length_drop,List.length_take]at hj
     omega
   ·rw[VT.lay_get hh]
    by_cases hji:j=i
    ·rw[if_pos hji,hji,List.getD_eq_getElem?_getD,List.append_assoc,List.getElem?_append_right (by omega)]
     simp[hl]
    ·rw[if_neg hji]
     have hjl:j<l.length:=by
      simp only[List.length_append,List.length_cons,List.length_nil,List.length_drop,List.length_take]at hj
      omega
     rw[(ht j hjl).2,List.getD_eq_getElem?_getD,List.getD_eq_getElem?_getD]
     congr 1
     rcases Nat.lt_or_ge j i with h2|h2
     ·rw[List.append_assoc,List.getElem?_append_left (by omega),List.getElem?_take,if_pos h2]
     ·rw[List.getElem?_append_right (by simp only[List.length_append,hl,List.length_cons,List.length_nil];omega),List.getElem?_drop]
      congr 1
      simp only[List.length_append,hl,List.length_cons,List.length_nil];omega
  have hlen:(l.take i++[v]++l.drop (i+1)).length=max l.length (i+1):=by
   simp only[List.length_append,List.length_cons,List.length_nil,List.length_drop,List.length_take];omega
  obtain⟨t',h2,h3⟩:=F5 vs (t.lay i v) _ (i+1) h1 (by simp only[List.length_cons]at hi;omega)
  refine⟨t',?_,?_⟩
  ·show(match t.set i v with|some t'=>BW t' (Nat.succ i) vs|none=>none)=_
   rw[VT.lay_is hh];exact h2
  ·have e:(l.take i++[v]++l.drop (i+1)).take (i+1)++vs++(l.take i++[v]++l.drop (i+1)).drop (i+1+vs.length)=l.take i++(v::vs)++l.drop (i+(v::vs).length):=by
    have hl:(l.take i++[v]).length=i+1:=by simp;omega
    rw[List.take_left' hl]
    have e2:i+1+vs.length=(l.take i++[v]).length+vs.length:=by rw[hl]
    rw[e2,List.drop_length_add_append,List.drop_drop]
    have e3:i+1+vs.length=i+(v::vs).length:=by simp only[List.length_cons];omega
    rw[e3];simp
   rw[e]at h3;exact h3
theorem js:VT.mt.Is []:=fun i h=>by cases h
def ofL(l:List Value):VT:=(BW .mt 0 l).getD .mt
theorem Ph(l:List Value):BW .mt 0 l=some (ofL l)∧(ofL l).Is l:=by
 obtain⟨t',h1,h2⟩:=F5 l .mt [] 0 js (.inr rfl)
 unfold ofL
 rw[h1]
 refine⟨rfl,?_⟩
 simpa using h2
theorem VT.Is.of{t:VT}{l:List Value}(h:BW .mt 0 l=some t):t.Is l:=by
 have:=Ph l
 rw[h]at this
 rw[Option.some.inj this.1];exact this.2
def Hp.Row(h:Hp)(b el:Nat)(l:List Value):Prop:=∃ c,h.bl.get b=.cells c l.length el∧c.Is l
def Hp.pushRow(h:Hp)(el:Nat)(l:List Value):Hp:=h.push (.cells (ofL l) l.length el)
theorem Hp.Row.lt(W:h.Wf){b el:Nat}{l:List Value}(r:h.Row b el l):b<h.next:=by
 obtain⟨c,hc,_⟩:=r
 rcases Nat.lt_or_ge b h.next with h1|h1
 ·exact h1
 ·rw[W.fresh b h1]at hc;cases hc
theorem Hp.Row.new(W:h.Wf)(el:Nat)(l:List Value):(h.pushRow el l).Row h.next el l:=⟨ofL l,by unfold Hp.pushRow;rw[W.push_get,if_pos rfl],(Ph l).2⟩
theorem Hp.Row.ext{b el:Nat}{l:List Value}(r:h.Row b el l)(W:h.Wf)(x:h.Ext h'):h'.Row b el l:=by
 have:=r.lt W
 obtain⟨c,hc,hl⟩:=r
 exact⟨c,(x.get b this).trans hc,hl⟩
theorem Hp.Row.push{b el:Nat}{l:List Value}(r:h.Row b el l)(W:h.Wf)(o:Blk):(h.push o).Row b el l:=r.ext W ((Hp.Ext.refl W).push o)
theorem Hp.Ext.pushRow(a:h.Ext h')(el:Nat)(l:List Value):h.Ext (h'.pushRow el l):=a.push _
theorem Hp.Row.rowOf{b el:Nat}{l:List Value}(r:h.Row b el l):∃ c,rowOf h b=.ok c l.length el∧c.Is l:=by
 obtain⟨c,hc,hl⟩:=r
 exact⟨c,by unfold Go.Proofs.YtglkncnkbofgfaaGreat.rowOf;rw[hc];rfl,hl⟩
theorem Hp.Row.load1{b el off:Nat}{l:List Value}(r:h.Row b el l)(ho:off<l.length):load1 ⟨b,off,none⟩ h=.ok (l.getD off noRes) h:=by
 obtain⟨c,hc,hl⟩:=r.rowOf
 unfold Go.Proofs.YtglkncnkbofgfaaGreat.load1
 simp only[hc]
 rw[Al.2 ho]
 simp only[A6,(hl off ho).2]
theorem Is.rowL{c:VT}{l:List Value}(hl:c.Is l)(off n:Nat)(ho:off+n≤l.length):rowL c off n=(l.drop off).take n:=by
 refine List.ext_getElem? fun i=>?_
 unfold Go.Proofs.YtglkncnkbofgfaaGreat.rowL
 rw[List.getElem?_map,List.getElem?_take,List.getElem?_drop]
 by_cases hi:i<n
 ·rw[if_pos hi,List.getElem?_range hi]
  have:=(hl (off+i) (by omega)).2
  rw[List.getD_eq_getElem?_getD,List.getElem?_eq_getElem (by omega)]at this
  show some (c.get (off+i))=_
  rw[this,List.getElem?_eq_getElem (by omega)];rfl
 ·rw[if_neg hi,List.getElem?_eq_none (by simpa using hi)];rfl
theorem Hp.Row.loadN{b el off n:Nat}{l:List Value}(r:h.Row b el l)(ho:off+n≤l.length):loadN n ⟨b,off,none⟩ h=.ok (.agg ⟨(l.drop off).take n⟩) h:=by
 obtain⟨c,hc,hl⟩:=r.rowOf
 unfold Go.Proofs.YtglkncnkbofgfaaGreat.loadN
 simp only[hc,Nat.add_eq]
 rw[Aq.2 ho]
 simp only[cond_true,Db,List.append_nil,Is.rowL hl off n ho]
theorem Hp.Row.src{b el off n c:Nat}{l:List Value}(r:h.Row b el l)(ho:off+n≤l.length){sl:Nat}{k:List Value→R}:A8 h 1 (.slice (some ⟨b,off,none⟩) sl c) n k=k ((l.drop off).take n):=by
 obtain⟨cc,hc,hl⟩:=r.rowOf
 unfold A8
 simp only[hc]
 have e:Nat.mul n 1=n:=Nat.mul_one n
 rw[e]
 simp only[Nat.add_eq]
 rw[Aq.2 ho]
 simp only[cond_true,Db,List.append_nil,Is.rowL hl off n ho]
def Hp.wr(h:Hp)(b off:Nat)(vs:List Value):Hp:=match rowOf h b with
 |.ok c s e=>h.put b (.cells ((BW c off vs).getD c) s e)
 |.no=>h
def over(l:List Value)(off:Nat)(vs:List Value):List Value:=l.take off++vs++l.drop (off+vs.length)
theorem Km{l vs:List Value}{off:Nat}(ho:off+vs.length≤l.length):(over l off vs).length=l.length:=by
 unfold over
 simp only[List.length_append,List.length_take,List.length_drop];omega
theorem Hp.Row.wr_is{b el off:Nat}{l vs:List Value}(r:h.Row b el l)(ho:off+vs.length≤l.length):∃ c,c.Is (over l off vs)∧h.wr b off vs=h.put b (.cells c (over l off vs).length el)∧
  ∀ (W:h.Wf) (h256:256≤b) (h1:Bn vs=true) (K:Hp→R),Bq ⟨b,off,none⟩ vs h K=K (h.wr b off vs):=by
 obtain⟨c,hc,hl⟩:=r.rowOf
 obtain⟨c',h2,h3⟩:=F5 vs c l off hl (.inl ho)
 have e:h.wr b off vs=h.put b (.cells c' l.length el):=by
  unfold Hp.wr
  rw[hc]
  simp only[h2,Option.getD_some]
 refine⟨c',h3,by rw[Km ho];exact e,fun W h256 h1 K=>?_⟩
 unfold Bq
 simp only[hc,Nat.add_eq]
 rw[A4,Aq.2 ho,h1]
 simp only[cond_true,h2]
 rw[e,N5 W h256 (r.lt W)]
theorem Hp.Row.store{b el off:Nat}{l vs:List Value}(r:h.Row b el l)(W:h.Wf)(h256:256≤b)(ho:off+vs.length≤l.length)(h1:Bn vs=true)(K:Hp→R):Bq ⟨b,off,none⟩ vs h K=K (h.wr b off vs):=by
 obtain⟨_,_,_,h4⟩:=r.wr_is ho
 exact h4 W h256 h1 K
def O7(v:Value)(h:Hp):R:=match Ca v with
 |.ok a=>load1 a h
 |.no=>.no
theorem KR{a:Addr}:O7 (.pointer (some a)) h=load1 a h:=rfl
theorem Hp.Row.alloc(W:h.Wf){n:Nat}{t:VT}{l:List Value}(ht:BW .mt 0 l=some t)(hn:l.length=n):(h.push (.cells t n 0)).Row h.next 0 l:=⟨t,by rw[W.push_get,if_pos rfl,hn],.of ht⟩
theorem UU{n es b off i:Nat}(hi:i<n):H7 n es (.ok ⟨b,off,none⟩) (.ok i) h=.ok (.pointer (some ⟨b,off+i * es,none⟩)) h:=by
 show Bool.rec (motive:=fun _=>R) .no (FZ ⟨b,off,none⟩ (Nat.mul i es) h) (Nat.blt i n)=_
 rw[Al.2 hi]
 exact Ap _ _
def Ov(es:Nat)(s i:Value)(h:Hp):R:=match s with
 |.slice (some a) n _=>H7 n es (.ok a) (CW i) h
 |_=>.no
theorem KG{n c es b off i:Nat}{k:IntKind}(hi:i<n):Ov es (.slice (some ⟨b,off,none⟩) n c) (.int k (i:Int)) h=.ok (.pointer (some ⟨b,off+i * es,none⟩)) h:=UU hi
def ZH(v:Value)(h:Hp):R:=match v with
 |.slice _ n _=>.ok (.int .i64 (.ofNat n)) h
 |.chan (some _)=>.ok (.int .i64 (.ofNat 0)) h
 |_=>.no
end
end
noncomputable section
open Go
section
variable {F:CallF}{e:Env}{h h':Hp}{x y:O}
def bv(n:Nat):Value:=.int .u8 (n:Int)
theorem Gw:∀ l:List Nat,CP (l.map bv)=some (l.map UInt8.ofNat)
 |[]=>rfl
 |n::l=>by
  show(match CP (l.map bv)with|some bs=>forceN n fun n=>some (UInt8.ofNat n::bs)|none=>none)=_
  rw[Gw l]
  exact Ap _ _
def Hp.Bytes(h:Hp)(v:Value)(l:List Nat):Prop:=(v=.slice none 0 0∧l=[])∨∃ b off c el L,v=.slice (some ⟨b,off,none⟩) l.length c∧h.Row b el L∧off+l.length≤L.length∧(L.drop off).take l.length=l.map bv
theorem Hp.Bytes.ext{v:Value}{l:List Nat}(b:h.Bytes v l)(W:h.Wf)(x:h.Ext h'):h'.Bytes v l:=by
 rcases b with ⟨h1,h2⟩|⟨b,off,c,el,L,h1,h2,h3,h4⟩
 ·exact .inl ⟨h1,h2⟩
 ·exact .inr ⟨b,off,c,el,L,h1,h2.ext W x,h3,h4⟩
theorem Hp.Bytes.src{v:Value}{l:List Nat}(b:h.Bytes v l){n:Nat}(hn:n=l.length)(k:List Value→R):A8 h 1 v n k=k (l.map bv):=by
 subst hn
 rcases b with ⟨h1,h2⟩|⟨b,off,c,el,L,h1,h2,h3,h4⟩
 ·rw[h1,h2];rfl
 ·rw[h1,h2.src h3,h4]
theorem Hp.Bytes.shape{v:Value}{l:List Nat}(b:h.Bytes v l):∃ a c,v=.slice a l.length c:=by
 rcases b with ⟨h1,h2⟩|⟨b,off,c,el,L,h1,h2,h3,h4⟩
 ·exact⟨none,0,by rw[h1,h2];rfl⟩
 ·exact⟨_,_,h1⟩
def AF0(v:Value)(h:Hp):R:=match v with
 |.slice a n c=>A8 h 1 (.slice a n c) n fun cs=>match CP cs with
  |some bs=>.ok (.string ⟨⟨bs⟩⟩) h
  |none=>.no
 |.chan r=>match r with
  |some _=>.ok (.string ⟨⟨[]⟩⟩) h
  |none=>.no
 |_=>.no
theorem Hp.Bytes.str{v:Value}{l:List Nat}(b:h.Bytes v l):AF0 v h=.ok (.string ⟨⟨l.map UInt8.ofNat⟩⟩) h:=by
 obtain⟨a,c,rfl⟩:=b.shape
 show A8 h 1 (.slice a l.length c) l.length (fun cs=>match CP cs with
  |some bs=>.ok (.string ⟨⟨bs⟩⟩) h
  |none=>.no)=_
 rw[b.src rfl,Gw]
theorem Hp.Bytes.len{v:Value}{l:List Nat}(b:h.Bytes v l):ZH v h=.ok (.int .i64 (l.length:Int)) h:=by
 obtain⟨a,c,rfl⟩:=b.shape;rfl
theorem Hp.Bytes.at{v:Value}{l:List Nat}(b:h.Bytes v l){i:Nat}(hi:i<l.length):∃ a,Ov 1 v (.int .i64 (i:Int)) h=.ok (.pointer (some a)) h∧O7 (.pointer (some a)) h=.ok (bv (l.getD i 0)) h:=by
 rcases b with ⟨h1,h2⟩|⟨b,off,c,el,L,h1,h2,h3,h4⟩
 ·rw[h2]at hi;cases hi
 ·refine⟨⟨b,off+i * 1,none⟩,by rw[h1];exact KG hi,?_⟩
  rw[KR,h2.load1 (by omega)]
  have:=congrArg (fun m=>m[i]?) h4
  simp only[List.getElem?_take,List.getElem?_drop,if_pos hi,List.getElem?_map]at this
  rw[List.getD_eq_getElem?_getD,Nat.mul_one,this,List.getD_eq_getElem?_getD,List.getElem?_eq_getElem hi];rfl
def Hp.quiet(h:Hp):Hp:={next:=h.next,low:=h.next,high:=0,mark:=h.mark,bl:=h.bl}
def Hp.back(h h':Hp):Hp:={next:=h'.next,low:=A7 h.low h'.low,high:=BR h.high h'.high,mark:=h.mark,bl:=h'.bl}
theorem Hp.Wf.quiet(W:h.Wf):h.quiet.Wf:=⟨W.big,W.has,W.fresh⟩
theorem Hp.Row.same{b el:Nat}{l:List Value}(r:h.Row b el l)(hb:h'.bl=h.bl):h'.Row b el l:=by
 obtain⟨c,hc,hl⟩:=r
 exact⟨c,by rw[hb];exact hc,hl⟩
theorem Hp.Ext.back(x:h.quiet.Ext h'):h.Ext (h.back h') where
 next:=x.next
 get:=x.get
 low:=by
  show _≤A7 h.low h'.low
  rw[A2]
  have h1:min h.next h.next≤h'.low:=x.low
  omega
 wf:=⟨x.wf.big,x.wf.has,x.wf.fresh⟩
theorem Hp.Ext.quiet{h0:Hp}(x:h0.Ext h):h0.Ext h.quiet:=⟨x.next,x.get,by show _≤h.next;have:=x.next;omega,x.wf.quiet⟩
end
end
noncomputable section
open Go Go.RowKit Go.WideShapes Go.ChangeShapes
def MV(W:World)(a:Addr)(L:List Value):Prop:=∃ cs t fr,W.heap[a.block]? =some (.cells cs t fr)∧(∀ j,j<L.length→cs[a.off+j]? =some (L.getD j noRes))∧∀ j,j<L.length→¬ (fr.1≤a.off+j∧a.off+j<fr.2)
def ge(a:Addr)(c:Nat):Pl:={blk:=a.block,off:=if c=0 then 0 else a.off,sz:=c,room:=c,es:=1,inp:=true}
theorem MV.lt{W:World}{a:Addr}{L:List Value}(h:MV W a L):a.block<W.heap.size:=by
 obtain⟨cs,t,fr,hb,_⟩:=h
 exact(Array.getElem?_eq_some_iff.1 hb).1
theorem Pq{φ:Phi}{a:Addr}{n c i:Nat}(hs:a.spot=none)(hn:n≤c)(hp:φ i=some (ge a c)):RelV φ (.slice (some ⟨i,0,none⟩) n c) (.slice (some a) n c):=by
 refine .slice hn ⟨rfl,hs,_,hp,rfl,?_⟩
 rcases Nat.eq_zero_or_pos c with h|h
 ·exact .inr ⟨h,.inl h⟩
 ·refine .inl ⟨h,?_,.inl rfl⟩
  show a.off=(if c=0 then 0 else a.off)+0
  rw[if_neg (by omega),Nat.add_zero]
def HM(k:IntKind)(Z:List Int):List Value:=Z.map (.int k)
def OM(k:IntKind)(W:World)(v:Value)(zs:List Int):Prop:=(v=.slice none 0 0∧zs=[])∨∃ (a:Addr) (n c:Nat) (Z:List Int),v=.slice (some a) n c∧n≤c∧a.spot=none∧Z.length=c∧zs=Z.take n∧MV W a (HM k Z)
def Hp.Vals(h:Hp)(v:Value)(xs:List Value):Prop:=(v=.slice none 0 0∧xs=[])∨∃ b off c el L,v=.slice (some ⟨b,off,none⟩) xs.length c∧h.Row b el L∧off+xs.length≤L.length∧(L.drop off).take xs.length=xs
def yI(W:World)(L:List Value)(q:Option Pl):Prop:=q=none∨∃ a,q=some (ge a L.length)∧MV W a L
theorem OM.rel{k:IntKind}{W:World}{v:Value}{zs:List Int}(b:OM k W v zs)(i:Nat):∃ (u:Value) (q:Option Pl) (Z:List Int),yI W (HM k Z) q∧(∀ φ:Phi,φ i=q→RelV φ u v)∧(∀ h:Hp,h.Row i 0 (HM k Z)→h.Vals u (HM k zs)):=by
 rcases b with ⟨rfl,rfl⟩|⟨a,n,c,Z,rfl,hn,hs,hZ,rfl,hr⟩
 ·exact⟨.slice none 0 0,none,[],.inl rfl,fun _ _=>.slice0,fun _ _=>.inl ⟨rfl,rfl⟩⟩
 ·have hlen:(HM k Z).length=c:=by unfold HM;rw[List.length_map];exact hZ
  have hlen2:(HM k (Z.take n)).length=n:=by unfold HM;rw[List.length_map,List.length_take];omega
  refine⟨.slice (some ⟨i,0,none⟩) n c,some (ge a (HM k Z).length),Z,.inr ⟨a,rfl,hr⟩,fun φ hφ=>Pq hs hn (by rw[hφ,hlen]),fun h hrow=>.inr ⟨i,0,c,0,HM k Z,?_,hrow,?_,?_⟩⟩
  ·rw[hlen2]
  ·rw[hlen2,hlen];omega
  ·rw[hlen2,List.drop_zero];unfold HM;rw[List.map_take]
end
noncomputable section
open Go Go.RowKit Go.ChangeShapes
section
variable {F:CallF}{e:Env}{h h':Hp}{x y:O}
theorem Hp.Vals.ext{v:Value}{l:List Value}(b:h.Vals v l)(W:h.Wf)(x:h.Ext h'):h'.Vals v l:=by
 rcases b with h1|⟨b,off,c,el,L,h1,h2,h3⟩
 ·exact .inl h1
 ·exact .inr ⟨b,off,c,el,L,h1,h2.ext W x,h3⟩
theorem Hp.Vals.same{v:Value}{l:List Value}(b:h.Vals v l)(hb:h'.bl=h.bl):h'.Vals v l:=by
 rcases b with h1|⟨b,off,c,el,L,h1,h2,h3⟩
 ·exact .inl h1
 ·exact .inr ⟨b,off,c,el,L,h1,h2.same hb,h3⟩
theorem Hp.Vals.src{v:Value}{l:List Value}(b:h.Vals v l){n:Nat}(hn:n=l.length)(k:List Value→R):A8 h 1 v n k=k l:=by
 subst hn
 rcases b with ⟨h1,h2⟩|⟨b,off,c,el,L,h1,h2,h3,h4⟩
 ·rw[h1,h2];rfl
 ·rw[h1,h2.src h3,h4]
theorem Hp.Vals.shape{v:Value}{l:List Value}(b:h.Vals v l):∃ a c,v=.slice a l.length c:=by
 rcases b with ⟨h1,h2⟩|⟨b,off,c,el,L,h1,h2,h3,h4⟩
 ·exact⟨none,0,by rw[h1,h2];rfl⟩
 ·exact⟨_,_,h1⟩
theorem Hp.Vals.len{v:Value}{l:List Value}(b:h.Vals v l):ZH v h=.ok (.int .i64 (l.length:Int)) h:=by
 obtain⟨a,c,rfl⟩:=b.shape;rfl
theorem Hp.Vals.lenV{v:Value}{l:List Value}(b:h.Vals v l):lenV v=.ok l.length:=by
 obtain⟨a,c,rfl⟩:=b.shape;rfl
theorem Hp.Vals.at{v:Value}{l:List Value}(b:h.Vals v l){i:Nat}(hi:i<l.length):∃ a,Ov 1 v (.int .i64 (i:Int)) h=.ok (.pointer (some a)) h∧O7 (.pointer (some a)) h=.ok (l.getD i noRes) h:=by
 rcases b with ⟨h1,h2⟩|⟨b,off,c,el,L,h1,h2,h3,h4⟩
 ·rw[h2]at hi;cases hi
 ·refine⟨⟨b,off+i * 1,none⟩,by rw[h1];exact KG hi,?_⟩
  rw[KR,h2.load1 (by omega)]
  have:=congrArg (fun m=>m[i]?) h4
  simp only[List.getElem?_take,List.getElem?_drop,if_pos hi]at this
  rw[List.getD_eq_getElem?_getD,Nat.mul_one,this,List.getD_eq_getElem?_getD]
theorem Hp.Vals.bytes{v:Value}{l:List Nat}(b:h.Vals v (l.map bv)):h.Bytes v l:=by
 rcases b with ⟨h1,h2⟩|⟨b,off,c,el,L,h1,h2,h3,h4⟩
 ·exact .inl ⟨h1,by cases l with
   |nil=>rfl
   |cons a l=>cases h2⟩
 ·rw[List.length_map]at h1 h3 h4
  exact .inr ⟨b,off,c,el,L,h1,h2,h3,h4⟩
theorem Hp.Vals.cut{v:Value}{l:List Value}(b:h.Vals v l){n:Nat}(hn:n<l.length):∃ o c,v=.slice (some o) l.length c∧h.Vals (.slice (some o) n c) (l.take n):=by
 rcases b with ⟨h1,h2⟩|⟨b,off,c,el,L,h1,h2,h3,h4⟩
 ·rw[h2]at hn;cases hn
 ·have hl:(l.take n).length=n:=by rw[List.length_take];omega
  refine⟨⟨b,off,none⟩,c,h1,.inr ⟨b,off,c,el,L,by rw[hl],h2,by omega,?_⟩⟩
  rw[hl,← h4,List.take_take,Nat.min_eq_left (by omega)]
def yJ(v:Value)(b:Nat):Prop:=∃ off n c,v=.slice (some ⟨b,off,none⟩) n c
def Hp.Own(h:Hp)(k en:Nat)(v:Value)(xs:List Value):Prop:=(v=.slice none 0 0∧xs=[])∨∃ b,v=.slice (some ⟨b,0,none⟩) xs.length xs.length∧h.Row b (en+1) xs∧k≤b∧256≤b
theorem Hp.Own.vals{k en:Nat}{v:Value}{xs:List Value}(o:h.Own k en v xs):h.Vals v xs:=by
 rcases o with h1|⟨b,h1,h2,_⟩
 ·exact .inl h1
 ·exact .inr ⟨b,0,_,_,xs,h1,h2,by omega,by rw[List.drop_zero,List.take_length]⟩
theorem Hp.Own.le{k k' en:Nat}{v:Value}{xs:List Value}(o:h.Own k en v xs)(hk:k'≤k):h.Own k' en v xs:=by
 rcases o with h1|⟨b,h1,h2,h3,h4⟩
 ·exact .inl h1
 ·exact .inr ⟨b,h1,h2,Nat.le_trans hk h3,h4⟩
theorem Hp.Own.keep{k en:Nat}{v:Value}{xs:List Value}(o:h.Own k en v xs)(hk:∀ b el L,yJ v b→h.Row b el L→h'.Row b el L):h'.Own k en v xs:=by
 rcases o with h1|⟨b,h1,h2,h3,h4⟩
 ·exact .inl h1
 ·exact .inr ⟨b,h1,hk b _ _ ⟨0,_,_,h1⟩ h2,h3,h4⟩
theorem Hp.Own.ext{k en:Nat}{v:Value}{xs:List Value}(o:h.Own k en v xs)(W:h.Wf)(x:h.Ext h'):h'.Own k en v xs:=o.keep fun _ _ _ _ r=>r.ext W x
theorem Hp.Own.same{k en:Nat}{v:Value}{xs:List Value}(o:h.Own k en v xs)(hb:h'.bl=h.bl):h'.Own k en v xs:=o.keep fun _ _ _ _ r=>r.same hb
end
def OR(args:List Value)(h:Hp):R:=match args with
 |[]=>.ok (.bool true) h
 |_::_=>.no
def I6:Body:=⟨[.x (fun _=>OR)],cNo⟩
theorem CO{ty:TTy}{φ:Phi}{E:Nat→Prop}{h:Hp}{w w':World}(H:RelW ty φ E h w)(hb:Below w.heap.size w w'):RelW ty φ E h w'∧Evo φ h w φ h w':=
 ⟨{dom:=fun i p e=>⟨(H.dom i p e).1,Nat.lt_of_lt_of_le (H.dom i p e).2 hb.size⟩
   inj:=H.inj
   row:=fun i p e hE=>(by rw[hb.block _ (H.dom i p e).2];exact H.row i p e hE)
   fresh:=H.fresh
   kind:=H.kind
   inp:=H.inp},
  {le:=.refl _
   new:=fun _ _ e=>.inl e
   next:=Nat.le_refl _
   size:=hb.size
   tape:=hb.tape
   os:=hb.os
   output:=hb.output
   frame:=fun k hk _=>hb.block k hk
   back:=fun i p e hl _=>⟨i,p,e,hl,rfl,rfl,.inl rfl⟩
   kept:=fun _ _ _=>rfl
   low:=Nat.le_refl _
   high:=Nat.le_refl _
   shape:=fun _ _=>.refl _
   only:=fun _ _ _=>rfl
   all:=fun _ h1 h2=>absurd h2 (Nat.not_lt.2 h1)}⟩
theorem OI{P:Program}{ty:TTy}{f:Nat}(hS:∃ fn,P.funcs[f]? =some fn∧fn.name≠"runtime.NumGoroutine" ∧fn.body.isNone=false)(hc:∀ w:World,Calls P f #[] w fun e w'=>e=.returned (.bool true)∧Below w.heap.size w w'):DT P ty f I6:=fun F args h v h' _ hr=>⟨hS,fun φ w args' hrel H=>by
 have hr:OR args h=.ok v h':=hr
 cases args with
 |cons a l=>cases hr
 |nil=>
  cases hr
  cases hrel
  exact(hc w).mono fun e w' ⟨he,hb⟩=>⟨_,φ,he,.bool true,(CO H hb).1,(CO H hb).2⟩⟩
end
noncomputable section
open Go Go.RowKit
def gh(a b:Nat):Int:=match FloatKind.f64.format.div a b with
 |some q=>match FloatKind.f64.format.order q q == some .eq with
  |true=>(q:Int)
  |false=>9221120237041090561
 |none=>9221120237041090561
theorem ABy(q:Nat)(w:World):(callFunc 200 #[.float .f64 q]).run Tryz.prog w=.ok (.value (.int .u64 q)) w:=by
 rw[run_callFunc_extern (e:=Extern.MathFloatBits.float64bits) Tryz.func200 (by kernel_rfl) (by kernel_rfl) (by kernel_rfl) (by kernel_rfl)]
 rfl
theorem OV{a b q:Nat}(hd:FloatKind.f64.format.div a b=some q)(ho:(FloatKind.f64.format.order q q == some .eq)=true)(w:World):
  Calls Tryz.prog 102 #[.float .f64 a,.float .f64 b] w fun e w'=>e=.returned (.int .u64 q)∧w'=w:=by
 have e1:∀ w,(binOp .quo 183 (.float .f64 a) (.float .f64 b)).run Tryz.prog w=.ok (.float .f64 q) w:=fun w=>by
  simp[binOp,Op.floatArith,hd]
 have e2:∀ w,(binOp .neq 183 (.float .f64 q) (.float .f64 q)).run Tryz.prog w=.ok (.bool false) w:=fun w=>by
  have ho:FloatKind.f64.format.order q q=some .eq:=by simpa using ho
  simp[binOp,Op.floatCmp,ho]
 have e3:=ABy q
 clear hd ho
 go_enter Tryz.func102,Tryz.ntmps102
 go_wp2
 go_ret
 exact⟨rfl,rfl⟩
theorem Jw{a b q:Nat}{w w2:World}(e1:(binOp .quo 183 (.float .f64 a) (.float .f64 b)).run Tryz.prog w=.ok (.float .f64 q) w2)(ho:(FloatKind.f64.format.order q q == some .eq)=false):
  Calls Tryz.prog 102 #[.float .f64 a,.float .f64 b] w fun e w'=>e=.returned (.int .u64 9221120237041090561)∧w'=w2:=by
 have e2:∀ w,(binOp .neq 183 (.float .f64 q) (.float .f64 q)).run Tryz.prog w=.ok (.bool true) w:=fun w=>by
  have ho:¬ FloatKind.f64.format.order q q=some .eq:=by simpa using ho
  simp[binOp,Op.floatCmp,ho]
 clear ho
 go_enter Tryz.func102,Tryz.ntmps102
 go_wp2
 go_ret
 exact⟨rfl,rfl⟩
theorem gY(t:Nat):FloatKind.f64.format.order ((t % 2) * 2 ^ 63+0x7ff0000000000000+1+(t / 2) % (2 ^ 52 - 1)) ((t % 2) * 2 ^ 63+0x7ff0000000000000+1+(t / 2) % (2 ^ 52 - 1))=none:=by
 generalize hz:(t % 2) * 2 ^ 63+0x7ff0000000000000+1+(t / 2) % (2 ^ 52 - 1)=z
 have h1:9218868437227405312<z % 9223372036854775808:=by
  have:=Nat.mod_lt (t / 2) (show 0<2 ^ 52 - 1 by decide)
  have:=Nat.mod_lt t (show 0<2 by decide)
  rcases Nat.mod_two_eq_zero_or_one t with h|h<;>rw[h]at hz<;>omega
 have:∃ s f,FloatKind.f64.format.read z=.nan s f:=by
  have e1:Ieee.Format.signWeight FloatKind.f64.format=9223372036854775808:=by decide
  have e2:Ieee.Format.binade FloatKind.f64.format=4503599627370496:=by decide
  have e3:Ieee.Format.infRung FloatKind.f64.format=9218868437227405312:=by decide
  unfold Ieee.Format.read
  simp only[e1,e2,e3]
  rw[if_neg (by omega),if_neg (by omega),if_neg (by omega)]
  exact⟨_,_,rfl⟩
 obtain⟨s,f,h⟩:=this
 show(FloatKind.f64.format.read z).order (FloatKind.f64.format.read z)=none
 rw[h];rfl
theorem LM(w:World):Below w.heap.size w w.drew:=⟨rfl,rfl,rfl,Nat.le_refl _,fun _ _=>rfl⟩
theorem Tz(a b:Nat)(w:World):Calls Tryz.prog 102 #[.float .f64 a,.float .f64 b] w fun e w'=>e=.returned (.int .u64 (gh a b))∧Below w.heap.size w w':=by
 unfold gh
 cases hd:FloatKind.f64.format.div a b with
 |some q=>
  simp only
  cases ho:FloatKind.f64.format.order q q == some .eq with
  |true=>exact(OV hd ho w).mono fun e w' ⟨h1,h2⟩=>⟨h1,h2 ▸ .refl _ _⟩
  |false=>
   have e1:(binOp .quo 183 (.float .f64 a) (.float .f64 b)).run Tryz.prog w=.ok (.float .f64 q) w:=by simp[binOp,Op.floatArith,hd]
   exact(Jw e1 ho).mono fun e w' ⟨h1,h2⟩=>⟨h1,h2 ▸ .refl _ _⟩
 |none=>
  simp only
  have e1:(binOp .quo 183 (.float .f64 a) (.float .f64 b)).run Tryz.prog w=.ok (.float .f64 ((Question.nanBits .f64 a b).cut (w.tape w.drawn (.nanBits .f64 a b)))) w.drew:=by
   simp[binOp,Op.floatArith,hd,Question.forced]
  refine(Jw e1 ?_).mono fun e w' ⟨h1,h2⟩=>⟨h1,h2 ▸ LM w⟩
  show(FloatKind.f64.format.order _ _ == some .eq)=false
  simp only[Question.cut,gY]
  rfl
def gf(args:List Value)(h:Hp):R:=match args with
 |a::l=>match l with
  |b::m=>match m with
   |[]=>match a with
    |.float .f64 a=>match b with
     |.float .f64 b=>okI .u64 (gh a b) h
     |_=>.no
    |_=>.no
   |_::_=>.no
  |[]=>.no
 |[]=>.no
def bQ:Body:=⟨[.x (fun _=>gf)],cNo⟩
theorem KW{a b:String}(h:(a == b)=false):a≠b:=by simpa using h
theorem gi{ty:TTy}:DT Tryz.prog ty 102 bQ:=fun F args h v h' _ hr=>⟨⟨_,Tryz.func102,KW (by kernel_rfl),by kernel_rfl⟩,fun φ w args' hrel H=>by
 have hr:gf args h=.ok v h':=hr
 unfold gf at hr
 split at hr<;>try (cases hr;done)
 split at hr<;>try (cases hr;done)
 split at hr<;>try (cases hr;done)
 split at hr<;>try (cases hr;done)
 split at hr<;>try (cases hr;done)
 obtain⟨rfl,rfl⟩:=B7 hr
 cases hrel with|cons h1 t=>cases t with|cons h2 t=>cases t with|nil=>
  obtain rfl:=h1.float_inv
  obtain rfl:=h2.float_inv
  exact(Tz _ _ w).mono fun e w' ⟨he,hb⟩=>⟨_,φ,he,.int _ _,(CO H hb).1,(CO H hb).2⟩⟩
def O8:List UInt8→Bool
 |[]=>true
 |x::l=>bif Nat.blt x.toNat 128 then O8 l else false
def PA(x:UInt8):List UInt8→Bool
 |[]=>false
 |y::l=>bif Nat.beq x.toNat y.toNat then true else PA x l
def QK(c:List UInt8):List UInt8→Bool
 |[]=>false
 |x::l=>bif PA x c then true else QK c l
theorem JQ:∀ {l:List UInt8},O8 l=true→∀ (j:Nat) b,l[j]? =some b→b.toNat<128
 |[],_,j,b,h=>by simp at h
 |x::l,h,j,b,hj=>by
  have h:(bif Nat.blt x.toNat 128 then O8 l else false)=true:=h
  cases hx:Nat.blt x.toNat 128 with
  |false=>rw[hx]at h;cases h
  |true=>
   rw[hx]at h
   cases j with
   |zero=>simp at hj;rw[← hj];exact Al.1 hx
   |succ j=>exact JQ h j b (by simpa using hj)
theorem M1(x:UInt8):∀ l:List UInt8,PA x l=l.contains x
 |[]=>rfl
 |y::l=>by
  show(bif Nat.beq x.toNat y.toNat then true else PA x l)=_
  rw[M1 x l,List.contains_cons]
  cases hx:Nat.beq x.toNat y.toNat with
  |true=>
   have:x=y:=UInt8.toNat_inj.1 (Af.1 hx)
   subst this
   simp
  |false=>
   have:(x == y)=false:=by
    rw[beq_eq_false_iff_ne]
    intro e;subst e
    rw[Af.2 rfl]at hx;cases hx
   rw[this];rfl
theorem MX(c:List UInt8):∀ l:List UInt8,QK c l=Lib.containsAny l c
 |[]=>by
  show false=decide ((0:Int)≤-1)
  rfl
 |x::l=>by
  show(bif PA x c then true else QK c l)=_
  rw[M1,MX c l]
  unfold Lib.containsAny
  have:=Lib.indexAny_ge c l
  show _=decide (0≤(if c.contains x then 0 else if Lib.indexAny l c == -1 then -1 else Lib.indexAny l c+1))
  cases c.contains x with
  |true=>rfl
  |false=>
   simp only[cond_false,Bool.false_eq_true,if_false]
   by_cases h:Lib.indexAny l c= -1
   ·rw[h];rfl
   ·rw[if_neg (by simpa using h)]
    congr 1
    exact propext ⟨fun h=>by omega,fun h=>by omega⟩
def OZ(args:List Value)(h:Hp):R:=match args with
 |a::l=>match l with
  |b::m=>match m with
   |[]=>match a with
    |.string s=>match b with
     |.string c=>bif Nat.blt s.size 4294967281 then(bif Nat.blt c.size 4294967281 then(bif O8 s.data.toList then(bif O8 c.data.toList then okB (QK c.data.toList s.data.toList) h else .no)else .no)else .no)else .no
     |_=>.no
    |_=>.no
   |_::_=>.no
  |[]=>.no
 |[]=>.no
def bCa:Body:=⟨[.x (fun _=>OZ)],cNo⟩
def B9:Shelf.Ren where
 f:=fun x=>match x with
  |150=>519| 153=>576| 152=>616| 226=>617| 227=>618| 228=>619| 137=>642| 119=>643| 224=>644| 225=>645| 217=>655| 266=>662|n=>n
 t:=fun x=>match x with
  |9=>9| 4=>4| 3=>3| 5=>5| 21=>21| 117=>712| 116=>711| 0=>0| 46=>276| 124=>730|n=>n
 g:=fun x=>x
theorem Ua:Lays.n150 Tryz.prog B9:=
⟨Eq.refl true,
 Eq.trans Tryz.func643 (congrArg some (Eq.refl (Body.n119 B9))),
 Eq.trans Tryz.func642 (congrArg some (Eq.refl (Body.n137 B9))),
 Eq.trans Tryz.func519 (congrArg some (Eq.refl (Body.n150 B9))),
 Eq.trans Tryz.func616 (congrArg some (Eq.refl (Body.n152 B9))),
 Eq.trans Tryz.func576 (congrArg some (Eq.refl (Body.n153 B9))),
 Eq.trans Tryz.func655 (congrArg some (Eq.refl (Body.n217 B9))),
 Eq.trans Tryz.func644 (congrArg some (Eq.refl (Body.n224 B9))),
 Eq.trans Tryz.func645 (congrArg some (Eq.refl (Body.n225 B9))),
 Eq.trans Tryz.func617 (congrArg some (Eq.refl (Body.n226 B9))),
 Eq.trans Tryz.func618 (congrArg some (Eq.refl (Body.n227 B9))),
 Eq.trans Tryz.func619 (congrArg some (Eq.refl (Body.n228 B9))),
 Eq.trans Tryz.func662 (congrArg some (Eq.refl (Body.n266 B9))),
 Tryz.underlying0,Tryz.isAgg0,Tryz.sizeOf0,Tryz.zeroValue0,
 Tryz.underlying3,Tryz.isAgg3,Tryz.sizeOf3,Tryz.zeroValue3,
 Tryz.underlying4,Tryz.isAgg4,Tryz.sizeOf4,Tryz.zeroValue4,
 Tryz.underlying5,Tryz.isAgg5,Tryz.sizeOf5,Tryz.zeroValue5,
 Tryz.underlying9,Tryz.isAgg9,Tryz.sizeOf9,Tryz.zeroValue9,
 Tryz.underlying21,Tryz.isAgg21,Tryz.sizeOf21,Tryz.zeroValue21,
 Tryz.underlying276,Tryz.isAgg276,Tryz.sizeOf276,Tryz.zeroValue276,
 Tryz.underlying711,Tryz.isAgg711,Tryz.sizeOf711,
 Tryz.underlying712,Tryz.isAgg712,Tryz.sizeOf712,Tryz.zeroValue712,
 Tryz.underlying730,Tryz.isAgg730,Tryz.sizeOf730,Tryz.zeroValue730⟩
theorem gk:(Tryz.prog.info? (B9.t 116)).map (fun i=>(i.zero,i.size))=some (some (.agg (Array.replicate 256 (.bool false))),256):=by kernel_rfl
theorem UB{ty:TTy}:DT Tryz.prog ty 519 bCa:=fun F args h v h' _ hr=>⟨⟨_,Tryz.func519,KW (by kernel_rfl),by kernel_rfl⟩,fun φ w args' hrel H=>by
 have hr:OZ args h=.ok v h':=hr
 unfold OZ at hr
 split at hr<;>try (cases hr;done)
 split at hr<;>try (cases hr;done)
 split at hr<;>try (cases hr;done)
 split at hr<;>try (cases hr;done)
 split at hr<;>try (cases hr;done)
 obtain⟨q1,hr⟩:=Au hr
 obtain⟨q2,hr⟩:=Au hr
 obtain⟨q3,hr⟩:=Au hr
 obtain⟨q4,hr⟩:=Au hr
 obtain⟨rfl,rfl⟩:=EK hr
 cases hrel with|cons h1 t=>cases t with|cons h2 t=>cases t with|nil=>
  obtain rfl:=h1.string_inv
  obtain rfl:=h2.string_inv
  refine(Any.strings_ContainsAny_laid Ua gk _ _ w (Al.1 q1) (Al.1 q2) (JQ q3) (JQ q4)).mono fun e w' ⟨he,hb⟩=>⟨_,φ,he,?_,(CO H hb).1,(CO H hb).2⟩
  rw[MX]
  exact .bool _⟩
end
noncomputable section
open Go
theorem oS:Ab Tryz.prog ty 58 bS:=Or.inr (.inr OC)
theorem LC:BJ Tryz.prog ty:=hP (by kernel_rfl) (by kernel_rfl)
theorem oD:Ab Tryz.prog ty 149 bD:=Or.inr (.inr (fp LC))
theorem AL{a b:String}(h:(a == b)=false):a≠b:=by simpa using h
theorem o4:Ab Tryz.prog ty 4 b4:=Or.inl ⟨Tryz.f4,al4,Tryz.func4,AL (by kernel_rfl),jX⟩
theorem o6:Ab Tryz.prog ty 6 b6:=Or.inl ⟨Tryz.f6,al6,Tryz.func6,AL (by kernel_rfl),jY⟩
theorem o9:Ab Tryz.prog ty 9 b9:=Or.inl ⟨Tryz.f9,al9,Tryz.func9,AL (by kernel_rfl),jZ⟩
theorem o10:Ab Tryz.prog ty 10 b10:=Or.inl ⟨Tryz.f10,iG,Tryz.func10,AL (by kernel_rfl),Zy⟩
theorem o12:Ab Tryz.prog ty 12 b12:=Or.inl ⟨Tryz.f12,iH,Tryz.func12,AL (by kernel_rfl),Z8⟩
theorem o13:Ab Tryz.prog ty 13 b13:=Or.inl ⟨Tryz.f13,iI,Tryz.func13,AL (by kernel_rfl),aF⟩
theorem o15:Ab Tryz.prog ty 15 b15:=Or.inl ⟨Tryz.f15,iJ,Tryz.func15,AL (by kernel_rfl),aR⟩
theorem o16:Ab Tryz.prog ty 16 b16:=Or.inl ⟨Tryz.f16,iK,Tryz.func16,AL (by kernel_rfl),ac⟩
theorem o17:Ab Tryz.prog ty 17 b17:=Or.inl ⟨Tryz.f17,iM,Tryz.func17,AL (by kernel_rfl),am⟩
theorem o18:Ab Tryz.prog ty 18 b18:=Or.inl ⟨Tryz.f18,iN,Tryz.func18,AL (by kernel_rfl),au⟩
theorem o19:Ab Tryz.prog ty 19 b19:=Or.inl ⟨Tryz.f19,iO,Tryz.func19,AL (by kernel_rfl),bF⟩
theorem o20:Ab Tryz.prog ty 20 b20:=Or.inl ⟨Tryz.f20,iP,Tryz.func20,AL (by kernel_rfl),bN⟩
theorem o21:Ab Tryz.prog ty 21 b21:=Or.inl ⟨Tryz.f21,iQ,Tryz.func21,AL (by kernel_rfl),bT⟩
theorem o22:Ab Tryz.prog ty 22 b22:=Or.inl ⟨Tryz.f22,iR,Tryz.func22,AL (by kernel_rfl),bW⟩
theorem o23:Ab Tryz.prog ty 23 b23:=Or.inl ⟨Tryz.f23,iS,Tryz.func23,AL (by kernel_rfl),bc⟩
theorem o24:Ab Tryz.prog ty 24 b24:=Or.inl ⟨Tryz.f24,iT,Tryz.func24,AL (by kernel_rfl),bj⟩
theorem o25:Ab Tryz.prog ty 25 b25:=Or.inl ⟨Tryz.f25,iU,Tryz.func25,AL (by kernel_rfl),bw⟩
theorem o26:Ab Tryz.prog ty 26 b26:=Or.inl ⟨Tryz.f26,iV,Tryz.func26,AL (by kernel_rfl),cF⟩
theorem o27:Ab Tryz.prog ty 27 b27:=Or.inl ⟨Tryz.f27,iW,Tryz.func27,AL (by kernel_rfl),cR⟩
theorem o28:Ab Tryz.prog ty 28 b28:=Or.inl ⟨Tryz.f28,iX,Tryz.func28,AL (by kernel_rfl),cX⟩
theorem o29:Ab Tryz.prog ty 29 b29:=Or.inl ⟨Tryz.f29,iY,Tryz.func29,AL (by kernel_rfl),ce⟩
theorem o30:Ab Tryz.prog ty 30 b30:=Or.inl ⟨Tryz.f30,iZ,Tryz.func30,AL (by kernel_rfl),ci⟩
theorem o31:Ab Tryz.prog ty 31 b31:=Or.inl ⟨Tryz.f31,ia,Tryz.func31,AL (by kernel_rfl),cj⟩
theorem o32:Ab Tryz.prog ty 32 b32:=Or.inl ⟨Tryz.f32,ic,Tryz.func32,AL (by kernel_rfl),cy⟩
theorem o33:Ab Tryz.prog ty 33 b33:=Or.inl ⟨Tryz.f33,ie,Tryz.func33,AL (by kernel_rfl),dG⟩
theorem o34:Ab Tryz.prog ty 34 b34:=Or.inl ⟨Tryz.f34,ig,Tryz.func34,AL (by kernel_rfl),dJ⟩
theorem o35:Ab Tryz.prog ty 35 b35:=Or.inl ⟨Tryz.f35,ii,Tryz.func35,AL (by kernel_rfl),dQ⟩
theorem o36:Ab Tryz.prog ty 36 b36:=Or.inl ⟨Tryz.f36,ij,Tryz.func36,AL (by kernel_rfl),dT⟩
theorem o37:Ab Tryz.prog ty 37 b37:=Or.inl ⟨Tryz.f37,ik,Tryz.func37,AL (by kernel_rfl),dV⟩
theorem o38:Ab Tryz.prog ty 38 b38:=Or.inl ⟨Tryz.f38,il,Tryz.func38,AL (by kernel_rfl),dY⟩
theorem o39:Ab Tryz.prog ty 39 b39:=Or.inl ⟨Tryz.f39,im,Tryz.func39,AL (by kernel_rfl),de⟩
theorem o42:Ab Tryz.prog ty 42 b42:=Or.inl ⟨Tryz.f42,io,Tryz.func42,AL (by kernel_rfl),dw⟩
theorem o43:Ab Tryz.prog ty 43 b43:=Or.inl ⟨Tryz.f43,ip,Tryz.func43,AL (by kernel_rfl),d7⟩
theorem o44:Ab Tryz.prog ty 44 b44:=Or.inl ⟨Tryz.f44,iq,Tryz.func44,AL (by kernel_rfl),d8⟩
theorem o45:Ab Tryz.prog ty 45 b45:=Or.inl ⟨Tryz.f45,ir,Tryz.func45,AL (by kernel_rfl),eE⟩
theorem o46:Ab Tryz.prog ty 46 b46:=Or.inl ⟨Tryz.f46,iu,Tryz.func46,AL (by kernel_rfl),eJ⟩
theorem o49:Ab Tryz.prog ty 49 b49:=Or.inl ⟨Tryz.f49,iv,Tryz.func49,AL (by kernel_rfl),eO⟩
theorem o51:Ab Tryz.prog ty 51 b51:=Or.inl ⟨Tryz.f51,iw,Tryz.func51,AL (by kernel_rfl),eY⟩
theorem o52:Ab Tryz.prog ty 52 b52:=Or.inl ⟨Tryz.f52,iy,Tryz.func52,AL (by kernel_rfl),ed⟩
theorem o54:Ab Tryz.prog ty 54 b54:=Or.inl ⟨Tryz.f54,iz,Tryz.func54,AL (by kernel_rfl),et⟩
theorem o57:Ab Tryz.prog ty 57 b57:=Or.inl ⟨Tryz.f57,i5,Tryz.func57,AL (by kernel_rfl),ey⟩
theorem o59:Ab Tryz.prog ty 59 b59:=Or.inl ⟨Tryz.f59,i6,Tryz.func59,AL (by kernel_rfl),fG⟩
theorem o60:Ab Tryz.prog ty 60 b60:=Or.inl ⟨Tryz.f60,i7,Tryz.func60,AL (by kernel_rfl),fI⟩
theorem o61:Ab Tryz.prog ty 61 b61:=Or.inl ⟨Tryz.f61,i9,Tryz.func61,AL (by kernel_rfl),fJ⟩
theorem o62:Ab Tryz.prog ty 62 b62:=Or.inl ⟨Tryz.f62,jA,Tryz.func62,AL (by kernel_rfl),fK⟩
theorem o63:Ab Tryz.prog ty 63 b63:=Or.inl ⟨Tryz.f63,jB,Tryz.func63,AL (by kernel_rfl),fL⟩
theorem o64:Ab Tryz.prog ty 64 b64:=Or.inl ⟨Tryz.f64,jC,Tryz.func64,AL (by kernel_rfl),fM⟩
theorem o65:Ab Tryz.prog ty 65 b65:=Or.inl ⟨Tryz.f65,jD,Tryz.func65,AL (by kernel_rfl),fN⟩
theorem o66:Ab Tryz.prog ty 66 b66:=Or.inl ⟨Tryz.f66,jE,Tryz.func66,AL (by kernel_rfl),fO⟩
theorem o67:Ab Tryz.prog ty 67 b67:=Or.inl ⟨Tryz.f67,jF,Tryz.func67,AL (by kernel_rfl),fP⟩
theorem o68:Ab Tryz.prog ty 68 b68:=Or.inl ⟨Tryz.f68,jG,Tryz.func68,AL (by kernel_rfl),fQ⟩
theorem o69:Ab Tryz.prog ty 69 b69:=Or.inl ⟨Tryz.f69,jH,Tryz.func69,AL (by kernel_rfl),fR⟩
theorem o74:Ab Tryz.prog ty 74 b74:=Or.inl ⟨Tryz.f74,jI,Tryz.func74,AL (by kernel_rfl),fS⟩
theorem o75:Ab Tryz.prog ty 75 b75:=Or.inl ⟨Tryz.f75,jJ,Tryz.func75,AL (by kernel_rfl),fT⟩
theorem o76:Ab Tryz.prog ty 76 b76:=Or.inl ⟨Tryz.f76,jK,Tryz.func76,AL (by kernel_rfl),fU⟩
theorem o77:Ab Tryz.prog ty 77 b77:=Or.inl ⟨Tryz.f77,jL,Tryz.func77,AL (by kernel_rfl),fV⟩
theorem o78:Ab Tryz.prog ty 78 b78:=Or.inl ⟨Tryz.f78,jM,Tryz.func78,AL (by kernel_rfl),fW⟩
theorem o80:Ab Tryz.prog ty 80 b80:=Or.inl ⟨Tryz.f80,jN,Tryz.func80,AL (by kernel_rfl),fX⟩
theorem o81:Ab Tryz.prog ty 81 b81:=Or.inl ⟨Tryz.f81,jO,Tryz.func81,AL (by kernel_rfl),fY⟩
theorem o82:Ab Tryz.prog ty 82 b82:=Or.inl ⟨Tryz.f82,jP,Tryz.func82,AL (by kernel_rfl),fZ⟩
theorem o83:Ab Tryz.prog ty 83 b83:=Or.inl ⟨Tryz.f83,jQ,Tryz.func83,AL (by kernel_rfl),fa⟩
theorem o84:Ab Tryz.prog ty 84 b84:=Or.inl ⟨Tryz.f84,jR,Tryz.func84,AL (by kernel_rfl),fb⟩
theorem o86:Ab Tryz.prog ty 86 b86:=Or.inl ⟨Tryz.f86,jS,Tryz.func86,AL (by kernel_rfl),fc⟩
theorem o90:Ab Tryz.prog ty 90 b90:=Or.inl ⟨Tryz.f90,jT,Tryz.func90,AL (by kernel_rfl),fd⟩
theorem o97:Ab Tryz.prog ty 97 b97:=Or.inl ⟨Tryz.f97,jU,Tryz.func97,AL (by kernel_rfl),fe⟩
theorem o99:Ab Tryz.prog ty 99 b99:=Or.inl ⟨Tryz.f99,jV,Tryz.func99,AL (by kernel_rfl),ff⟩
theorem ACf:Ab Tryz.prog ty 100 Zr:=Or.inl ⟨Tryz.f100,Vo,Tryz.func100,AL (by kernel_rfl),QM⟩
theorem ACg:Ab Tryz.prog ty 101 Zs:=Or.inl ⟨Tryz.f101,Vp,Tryz.func101,AL (by kernel_rfl),QN⟩
theorem ACh:Ab Tryz.prog ty 103 Zt:=Or.inl ⟨Tryz.f103,Vq,Tryz.func103,AL (by kernel_rfl),QO⟩
theorem ACi:Ab Tryz.prog ty 104 Zu:=Or.inl ⟨Tryz.f104,Vr,Tryz.func104,AL (by kernel_rfl),QP⟩
theorem ACj:Ab Tryz.prog ty 106 Zv:=Or.inl ⟨Tryz.f106,Vs,Tryz.func106,AL (by kernel_rfl),QQ⟩
theorem ACk:Ab Tryz.prog ty 107 Zw:=Or.inl ⟨Tryz.f107,Vt,Tryz.func107,AL (by kernel_rfl),QR⟩
theorem ACl:Ab Tryz.prog ty 108 Zx:=Or.inl ⟨Tryz.f108,Vu,Tryz.func108,AL (by kernel_rfl),QS⟩
theorem ACm:Ab Tryz.prog ty 112 Zz:=Or.inl ⟨Tryz.f112,Vv,Tryz.func112,AL (by kernel_rfl),QT⟩
theorem ACn:Ab Tryz.prog ty 113 Z0:=Or.inl ⟨Tryz.f113,Vw,Tryz.func113,AL (by kernel_rfl),QU⟩
theorem ACo:Ab Tryz.prog ty 115 Z1:=Or.inl ⟨Tryz.f115,Vx,Tryz.func115,AL (by kernel_rfl),QV⟩
theorem ACp:Ab Tryz.prog ty 118 Z2:=Or.inl ⟨Tryz.f118,Vy,Tryz.func118,AL (by kernel_rfl),QW⟩
theorem ACq:Ab Tryz.prog ty 122 Z3:=Or.inl ⟨Tryz.f122,Vz,Tryz.func122,AL (by kernel_rfl),QX⟩
theorem ACr:Ab Tryz.prog ty 123 Z4:=Or.inl ⟨Tryz.f123,V0,Tryz.func123,AL (by kernel_rfl),QY⟩
theorem ACs:Ab Tryz.prog ty 124 Z5:=Or.inl ⟨Tryz.f124,V1,Tryz.func124,AL (by kernel_rfl),QZ⟩
theorem ACt:Ab Tryz.prog ty 127 Z6:=Or.inl ⟨Tryz.f127,V2,Tryz.func127,AL (by kernel_rfl),Qa⟩
theorem ACu:Ab Tryz.prog ty 129 Z7:=Or.inl ⟨Tryz.f129,V3,Tryz.func129,AL (by kernel_rfl),Qb⟩
theorem ACv:Ab Tryz.prog ty 130 Z9:=Or.inl ⟨Tryz.f130,V4,Tryz.func130,AL (by kernel_rfl),Qc⟩
theorem ACw:Ab Tryz.prog ty 131 aA:=Or.inl ⟨Tryz.f131,V5,Tryz.func131,AL (by kernel_rfl),Qd⟩
theorem ACx:Ab Tryz.prog ty 132 aB:=Or.inl ⟨Tryz.f132,V6,Tryz.func132,AL (by kernel_rfl),Qe⟩
theorem ACy:Ab Tryz.prog ty 133 aC:=Or.inl ⟨Tryz.f133,V7,Tryz.func133,AL (by kernel_rfl),Qf⟩
theorem ACz:Ab Tryz.prog ty 134 aD:=Or.inl ⟨Tryz.f134,V8,Tryz.func134,AL (by kernel_rfl),Qg⟩
theorem AC0:Ab Tryz.prog ty 138 aE:=Or.inl ⟨Tryz.f138,V9,Tryz.func138,AL (by kernel_rfl),Qh⟩
theorem AC1:Ab Tryz.prog ty 140 aG:=Or.inl ⟨Tryz.f140,WA,Tryz.func140,AL (by kernel_rfl),Qi⟩
theorem AC2:Ab Tryz.prog ty 141 aH:=Or.inl ⟨Tryz.f141,WB,Tryz.func141,AL (by kernel_rfl),Qj⟩
theorem AC3:Ab Tryz.prog ty 142 aI:=Or.inl ⟨Tryz.f142,WC,Tryz.func142,AL (by kernel_rfl),Qk⟩
theorem AC4:Ab Tryz.prog ty 145 aJ:=Or.inl ⟨Tryz.f145,WD,Tryz.func145,AL (by kernel_rfl),Ql⟩
theorem AC5:Ab Tryz.prog ty 146 aK:=Or.inl ⟨Tryz.f146,WE,Tryz.func146,AL (by kernel_rfl),Qn⟩
theorem AC6:Ab Tryz.prog ty 147 aL:=Or.inl ⟨Tryz.f147,WF,Tryz.func147,AL (by kernel_rfl),Qo⟩
theorem AC7:Ab Tryz.prog ty 151 aM:=Or.inl ⟨Tryz.f151,WG,Tryz.func151,AL (by kernel_rfl),Qp⟩
theorem AC8:Ab Tryz.prog ty 153 aN:=Or.inl ⟨Tryz.f153,WH,Tryz.func153,AL (by kernel_rfl),Qq⟩
theorem AC9:Ab Tryz.prog ty 155 aO:=Or.inl ⟨Tryz.f155,WI,Tryz.func155,AL (by kernel_rfl),Qr⟩
theorem ADA:Ab Tryz.prog ty 157 aP:=Or.inl ⟨Tryz.f157,WJ,Tryz.func157,AL (by kernel_rfl),Qs⟩
theorem ADB:Ab Tryz.prog ty 159 aQ:=Or.inl ⟨Tryz.f159,WK,Tryz.func159,AL (by kernel_rfl),Qt⟩
theorem ADC:Ab Tryz.prog ty 160 aS:=Or.inl ⟨Tryz.f160,WL,Tryz.func160,AL (by kernel_rfl),Qu⟩
theorem ADD:Ab Tryz.prog ty 161 aT:=Or.inl ⟨Tryz.f161,WM,Tryz.func161,AL (by kernel_rfl),Qv⟩
theorem ADE:Ab Tryz.prog ty 162 aU:=Or.inl ⟨Tryz.f162,WN,Tryz.func162,AL (by kernel_rfl),Qw⟩
theorem ADF:Ab Tryz.prog ty 163 aV:=Or.inl ⟨Tryz.f163,WO,Tryz.func163,AL (by kernel_rfl),Qx⟩
theorem ADG:Ab Tryz.prog ty 164 aW:=Or.inl ⟨Tryz.f164,WP,Tryz.func164,AL (by kernel_rfl),Qy⟩
theorem ADH:Ab Tryz.prog ty 165 aX:=Or.inl ⟨Tryz.f165,WQ,Tryz.func165,AL (by kernel_rfl),Qz⟩
theorem ADI:Ab Tryz.prog ty 166 aY:=Or.inl ⟨Tryz.f166,WS,Tryz.func166,AL (by kernel_rfl),Q1⟩
theorem ADJ:Ab Tryz.prog ty 168 aZ:=Or.inl ⟨Tryz.f168,WT,Tryz.func168,AL (by kernel_rfl),Q3⟩
theorem ADK:Ab Tryz.prog ty 169 aa:=Or.inl ⟨Tryz.f169,WU,Tryz.func169,AL (by kernel_rfl),Q4⟩
theorem ADL:Ab Tryz.prog ty 171 ae:=Or.inl ⟨Tryz.f171,WV,Tryz.func171,AL (by kernel_rfl),Q5⟩
theorem ADM:Ab Tryz.prog ty 174 af:=Or.inl ⟨Tryz.f174,WW,Tryz.func174,AL (by kernel_rfl),Q6⟩
theorem ADN:Ab Tryz.prog ty 175 ag:=Or.inl ⟨Tryz.f175,WX,Tryz.func175,AL (by kernel_rfl),Q7⟩
theorem ADO:Ab Tryz.prog ty 176 ai:=Or.inl ⟨Tryz.f176,WY,Tryz.func176,AL (by kernel_rfl),Q8⟩
theorem ADP:Ab Tryz.prog ty 178 aj:=Or.inl ⟨Tryz.f178,WZ,Tryz.func178,AL (by kernel_rfl),Q9⟩
theorem ADQ:Ab Tryz.prog ty 179 al:=Or.inl ⟨Tryz.f179,Wa,Tryz.func179,AL (by kernel_rfl),RA⟩
theorem ADR:Ab Tryz.prog ty 181 an:=Or.inl ⟨Tryz.f181,Wb,Tryz.func181,AL (by kernel_rfl),RB⟩
theorem ADS:Ab Tryz.prog ty 188 ap:=Or.inl ⟨Tryz.f188,Wc,Tryz.func188,AL (by kernel_rfl),RC⟩
theorem ADT:Ab Tryz.prog ty 189 aq:=Or.inl ⟨Tryz.f189,Wd,Tryz.func189,AL (by kernel_rfl),RD⟩
theorem ADU:Ab Tryz.prog ty 190 av:=Or.inl ⟨Tryz.f190,We,Tryz.func190,AL (by kernel_rfl),RE⟩
theorem ADV:Ab Tryz.prog ty 191 aw:=Or.inl ⟨Tryz.f191,Wg,Tryz.func191,AL (by kernel_rfl),RF⟩
theorem ADW:Ab Tryz.prog ty 192 ax:=Or.inl ⟨Tryz.f192,Wh,Tryz.func192,AL (by kernel_rfl),RG⟩
theorem ADX:Ab Tryz.prog ty 193 ay:=Or.inl ⟨Tryz.f193,Wi,Tryz.func193,AL (by kernel_rfl),RH⟩
theorem ADY:Ab Tryz.prog ty 194 az:=Or.inl ⟨Tryz.f194,Wj,Tryz.func194,AL (by kernel_rfl),RI⟩
theorem ADZ:Ab Tryz.prog ty 195 bA:=Or.inl ⟨Tryz.f195,Wk,Tryz.func195,AL (by kernel_rfl),RJ⟩
theorem ADa:Ab Tryz.prog ty 197 bB:=Or.inl ⟨Tryz.f197,Wl,Tryz.func197,AL (by kernel_rfl),RK⟩
theorem ADb:Ab Tryz.prog ty 198 bC:=Or.inl ⟨Tryz.f198,Wm,Tryz.func198,AL (by kernel_rfl),RL⟩
theorem ADc:Ab Tryz.prog ty 199 bE:=Or.inl ⟨Tryz.f199,Wn,Tryz.func199,AL (by kernel_rfl),RM⟩
theorem ADd:Ab Tryz.prog ty 201 bG:=Or.inl ⟨Tryz.f201,Wo,Tryz.func201,AL (by kernel_rfl),RN⟩
theorem ADe:Ab Tryz.prog ty 202 bH:=Or.inl ⟨Tryz.f202,Wp,Tryz.func202,AL (by kernel_rfl),RO⟩
theorem ADf:Ab Tryz.prog ty 203 bI:=Or.inl ⟨Tryz.f203,Wq,Tryz.func203,AL (by kernel_rfl),RP⟩
theorem ADg:Ab Tryz.prog ty 204 bJ:=Or.inl ⟨Tryz.f204,Wr,Tryz.func204,AL (by kernel_rfl),RQ⟩
theorem ADh:Ab Tryz.prog ty 205 bK:=Or.inl ⟨Tryz.f205,Ws,Tryz.func205,AL (by kernel_rfl),RR⟩
theorem ADi:Ab Tryz.prog ty 208 bL:=Or.inl ⟨Tryz.f208,Wt,Tryz.func208,AL (by kernel_rfl),RS⟩
theorem ADj:Ab Tryz.prog ty 209 bM:=Or.inl ⟨Tryz.f209,Wu,Tryz.func209,AL (by kernel_rfl),RT⟩
theorem ADk:Ab Tryz.prog ty 210 bO:=Or.inl ⟨Tryz.f210,Wv,Tryz.func210,AL (by kernel_rfl),RU⟩
theorem ADl:Ab Tryz.prog ty 212 bP:=Or.inl ⟨Tryz.f212,Ww,Tryz.func212,AL (by kernel_rfl),RW⟩
theorem ADm:Ab Tryz.prog ty 214 bR:=Or.inl ⟨Tryz.f214,Wx,Tryz.func214,AL (by kernel_rfl),RX⟩
theorem ADn:Ab Tryz.prog ty 226 bU:=Or.inl ⟨Tryz.f226,Wy,Tryz.func226,AL (by kernel_rfl),RY⟩
theorem ADo:Ab Tryz.prog ty 228 bV:=Or.inl ⟨Tryz.f228,Wz,Tryz.func228,AL (by kernel_rfl),RZ⟩
theorem ADp:Ab Tryz.prog ty 235 bX:=Or.inl ⟨Tryz.f235,W0,Tryz.func235,AL (by kernel_rfl),Ra⟩
theorem ADq:Ab Tryz.prog ty 236 bY:=Or.inl ⟨Tryz.f236,W1,Tryz.func236,AL (by kernel_rfl),Rb⟩
theorem ADr:Ab Tryz.prog ty 237 bZ:=Or.inl ⟨Tryz.f237,W2,Tryz.func237,AL (by kernel_rfl),Rc⟩
theorem ADs:Ab Tryz.prog ty 238 ba:=Or.inl ⟨Tryz.f238,W3,Tryz.func238,AL (by kernel_rfl),Re⟩
theorem ADt:Ab Tryz.prog ty 239 bb:=Or.inl ⟨Tryz.f239,W4,Tryz.func239,AL (by kernel_rfl),Rf⟩
theorem ADu:Ab Tryz.prog ty 240 bd:=Or.inl ⟨Tryz.f240,W5,Tryz.func240,AL (by kernel_rfl),Rg⟩
theorem ADv:Ab Tryz.prog ty 241 be:=Or.inl ⟨Tryz.f241,W6,Tryz.func241,AL (by kernel_rfl),Rh⟩
theorem ADw:Ab Tryz.prog ty 242 bf:=Or.inl ⟨Tryz.f242,W7,Tryz.func242,AL (by kernel_rfl),Ri⟩
theorem ADx:Ab Tryz.prog ty 243 bg:=Or.inl ⟨Tryz.f243,W8,Tryz.func243,AL (by kernel_rfl),Rj⟩
theorem ADy:Ab Tryz.prog ty 246 bh:=Or.inl ⟨Tryz.f246,W9,Tryz.func246,AL (by kernel_rfl),Rk⟩
theorem ADz:Ab Tryz.prog ty 249 bi:=Or.inl ⟨Tryz.f249,XA,Tryz.func249,AL (by kernel_rfl),Rl⟩
theorem AD0:Ab Tryz.prog ty 250 bk:=Or.inl ⟨Tryz.f250,XB,Tryz.func250,AL (by kernel_rfl),Rm⟩
theorem AD1:Ab Tryz.prog ty 252 bm:=Or.inl ⟨Tryz.f252,XC,Tryz.func252,AL (by kernel_rfl),Rn⟩
theorem AD2:Ab Tryz.prog ty 253 bn:=Or.inl ⟨Tryz.f253,XD,Tryz.func253,AL (by kernel_rfl),Ro⟩
theorem AD3:Ab Tryz.prog ty 255 bo:=Or.inl ⟨Tryz.f255,XE,Tryz.func255,AL (by kernel_rfl),Rp⟩
theorem AD4:Ab Tryz.prog ty 256 bp:=Or.inl ⟨Tryz.f256,XF,Tryz.func256,AL (by kernel_rfl),Rq⟩
theorem AD5:Ab Tryz.prog ty 257 bq:=Or.inl ⟨Tryz.f257,XG,Tryz.func257,AL (by kernel_rfl),Rr⟩
theorem AD6:Ab Tryz.prog ty 258 br:=Or.inl ⟨Tryz.f258,XH,Tryz.func258,AL (by kernel_rfl),Rs⟩
theorem AD7:Ab Tryz.prog ty 259 bu:=Or.inl ⟨Tryz.f259,XI,Tryz.func259,AL (by kernel_rfl),Rt⟩
theorem AD8:Ab Tryz.prog ty 260 bx:=Or.inl ⟨Tryz.f260,XJ,Tryz.func260,AL (by kernel_rfl),Ru⟩
theorem AD9:Ab Tryz.prog ty 264 bz:=Or.inl ⟨Tryz.f264,XK,Tryz.func264,AL (by kernel_rfl),Rv⟩
theorem AEA:Ab Tryz.prog ty 265 cA:=Or.inl ⟨Tryz.f265,XL,Tryz.func265,AL (by kernel_rfl),Rw⟩
theorem AEB:Ab Tryz.prog ty 266 cB:=Or.inl ⟨Tryz.f266,XM,Tryz.func266,AL (by kernel_rfl),Rx⟩
theorem AEC:Ab Tryz.prog ty 267 cC:=Or.inl ⟨Tryz.f267,XN,Tryz.func267,AL (by kernel_rfl),Ry⟩
theorem AED:Ab Tryz.prog ty 268 cD:=Or.inl ⟨Tryz.f268,XO,Tryz.func268,AL (by kernel_rfl),Rz⟩
theorem AEE:Ab Tryz.prog ty 269 cE:=Or.inl ⟨Tryz.f269,XP,Tryz.func269,AL (by kernel_rfl),R0⟩
theorem AEF:Ab Tryz.prog ty 270 cH:=Or.inl ⟨Tryz.f270,XQ,Tryz.func270,AL (by kernel_rfl),R1⟩
theorem AEG:Ab Tryz.prog ty 271 cI:=Or.inl ⟨Tryz.f271,XR,Tryz.func271,AL (by kernel_rfl),R2⟩
theorem AEH:Ab Tryz.prog ty 273 cJ:=Or.inl ⟨Tryz.f273,XS,Tryz.func273,AL (by kernel_rfl),R3⟩
theorem AEI:Ab Tryz.prog ty 274 cK:=Or.inl ⟨Tryz.f274,XT,Tryz.func274,AL (by kernel_rfl),R4⟩
theorem AEJ:Ab Tryz.prog ty 275 cL:=Or.inl ⟨Tryz.f275,XU,Tryz.func275,AL (by kernel_rfl),R5⟩
theorem AEK:Ab Tryz.prog ty 276 cM:=Or.inl ⟨Tryz.f276,XV,Tryz.func276,AL (by kernel_rfl),R6⟩
theorem AEL:Ab Tryz.prog ty 278 cP:=Or.inl ⟨Tryz.f278,XW,Tryz.func278,AL (by kernel_rfl),R7⟩
theorem AEM:Ab Tryz.prog ty 279 cQ:=Or.inl ⟨Tryz.f279,XX,Tryz.func279,AL (by kernel_rfl),R8⟩
theorem AEN:Ab Tryz.prog ty 280 cT:=Or.inl ⟨Tryz.f280,XY,Tryz.func280,AL (by kernel_rfl),R9⟩
theorem AEO:Ab Tryz.prog ty 281 cU:=Or.inl ⟨Tryz.f281,XZ,Tryz.func281,AL (by kernel_rfl),SA⟩
theorem AEP:Ab Tryz.prog ty 282 cV:=Or.inl ⟨Tryz.f282,Xa,Tryz.func282,AL (by kernel_rfl),SB⟩
theorem AEQ:Ab Tryz.prog ty 283 cW:=Or.inl ⟨Tryz.f283,Xb,Tryz.func283,AL (by kernel_rfl),SC⟩
theorem AER:Ab Tryz.prog ty 290 cY:=Or.inl ⟨Tryz.f290,Xc,Tryz.func290,AL (by kernel_rfl),SD⟩
theorem AES:Ab Tryz.prog ty 294 cZ:=Or.inl ⟨Tryz.f294,Xd,Tryz.func294,AL (by kernel_rfl),SE⟩
theorem AET:Ab Tryz.prog ty 295 ca:=Or.inl ⟨Tryz.f295,Xe,Tryz.func295,AL (by kernel_rfl),SG⟩
theorem AEU:Ab Tryz.prog ty 296 cb:=Or.inl ⟨Tryz.f296,Xf,Tryz.func296,AL (by kernel_rfl),SH⟩
theorem AEV:Ab Tryz.prog ty 298 cd:=Or.inl ⟨Tryz.f298,Xg,Tryz.func298,AL (by kernel_rfl),SI⟩
theorem AEW:Ab Tryz.prog ty 301 cf:=Or.inl ⟨Tryz.f301,Xh,Tryz.func301,AL (by kernel_rfl),SJ⟩
theorem AEX:Ab Tryz.prog ty 303 cg:=Or.inl ⟨Tryz.f303,Xi,Tryz.func303,AL (by kernel_rfl),SK⟩
theorem AEY:Ab Tryz.prog ty 309 ch:=Or.inl ⟨Tryz.f309,Xj,Tryz.func309,AL (by kernel_rfl),SL⟩
theorem AEZ:Ab Tryz.prog ty 320 cl:=Or.inl ⟨Tryz.f320,Xk,Tryz.func320,AL (by kernel_rfl),SM⟩
theorem AEa:Ab Tryz.prog ty 321 co:=Or.inl ⟨Tryz.f321,Xl,Tryz.func321,AL (by kernel_rfl),SN⟩
theorem AEb:Ab Tryz.prog ty 322 cp:=Or.inl ⟨Tryz.f322,Xm,Tryz.func322,AL (by kernel_rfl),SO⟩
theorem AEc:Ab Tryz.prog ty 323 cq:=Or.inl ⟨Tryz.f323,Xn,Tryz.func323,AL (by kernel_rfl),SP⟩
theorem AEd:Ab Tryz.prog ty 324 cr:=Or.inl ⟨Tryz.f324,Xo,Tryz.func324,AL (by kernel_rfl),SQ⟩
theorem AEe:Ab Tryz.prog ty 326 cu:=Or.inl ⟨Tryz.f326,Xp,Tryz.func326,AL (by kernel_rfl),SR⟩
theorem AEf:Ab Tryz.prog ty 327 cv:=Or.inl ⟨Tryz.f327,Xq,Tryz.func327,AL (by kernel_rfl),SS⟩
theorem AEg:Ab Tryz.prog ty 328 cw:=Or.inl ⟨Tryz.f328,Xr,Tryz.func328,AL (by kernel_rfl),ST⟩
theorem AEh:Ab Tryz.prog ty 329 cx:=Or.inl ⟨Tryz.f329,Xs,Tryz.func329,AL (by kernel_rfl),SU⟩
theorem AEi:Ab Tryz.prog ty 330 cz:=Or.inl ⟨Tryz.f330,Xt,Tryz.func330,AL (by kernel_rfl),SV⟩
theorem AEj:Ab Tryz.prog ty 331 c8:=Or.inl ⟨Tryz.f331,Xu,Tryz.func331,AL (by kernel_rfl),SW⟩
theorem AEk:Ab Tryz.prog ty 332 dA:=Or.inl ⟨Tryz.f332,Xv,Tryz.func332,AL (by kernel_rfl),SX⟩
theorem AEl:Ab Tryz.prog ty 333 dB:=Or.inl ⟨Tryz.f333,Xw,Tryz.func333,AL (by kernel_rfl),SY⟩
theorem AEm:Ab Tryz.prog ty 334 dC:=Or.inl ⟨Tryz.f334,Xx,Tryz.func334,AL (by kernel_rfl),SZ⟩
theorem AEn:Ab Tryz.prog ty 336 dD:=Or.inl ⟨Tryz.f336,Xy,Tryz.func336,AL (by kernel_rfl),Sa⟩
theorem AEo:Ab Tryz.prog ty 337 dE:=Or.inl ⟨Tryz.f337,Xz,Tryz.func337,AL (by kernel_rfl),Sb⟩
theorem AEp:Ab Tryz.prog ty 338 dF:=Or.inl ⟨Tryz.f338,X0,Tryz.func338,AL (by kernel_rfl),Sc⟩
theorem AEq:Ab Tryz.prog ty 340 dH:=Or.inl ⟨Tryz.f340,X2,Tryz.func340,AL (by kernel_rfl),Sd⟩
theorem AEr:Ab Tryz.prog ty 342 dI:=Or.inl ⟨Tryz.f342,X3,Tryz.func342,AL (by kernel_rfl),Se⟩
theorem AEs:Ab Tryz.prog ty 351 dK:=Or.inl ⟨Tryz.f351,X4,Tryz.func351,AL (by kernel_rfl),Sf⟩
theorem AEt:Ab Tryz.prog ty 352 dL:=Or.inl ⟨Tryz.f352,X5,Tryz.func352,AL (by kernel_rfl),Sh⟩
theorem AEu:Ab Tryz.prog ty 353 dM:=Or.inl ⟨Tryz.f353,X6,Tryz.func353,AL (by kernel_rfl),Si⟩
theorem AEv:Ab Tryz.prog ty 356 dN:=Or.inl ⟨Tryz.f356,X7,Tryz.func356,AL (by kernel_rfl),Sj⟩
theorem AEw:Ab Tryz.prog ty 357 dO:=Or.inl ⟨Tryz.f357,X8,Tryz.func357,AL (by kernel_rfl),Sk⟩
theorem AEx:Ab Tryz.prog ty 359 dP:=Or.inl ⟨Tryz.f359,X9,Tryz.func359,AL (by kernel_rfl),Sl⟩
theorem AEy:Ab Tryz.prog ty 363 dR:=Or.inl ⟨Tryz.f363,YA,Tryz.func363,AL (by kernel_rfl),Sm⟩
theorem AEz:Ab Tryz.prog ty 364 dS:=Or.inl ⟨Tryz.f364,YB,Tryz.func364,AL (by kernel_rfl),Sn⟩
theorem AE0:Ab Tryz.prog ty 376 dU:=Or.inl ⟨Tryz.f376,YC,Tryz.func376,AL (by kernel_rfl),So⟩
theorem AE1:Ab Tryz.prog ty 381 dW:=Or.inl ⟨Tryz.f381,YD,Tryz.func381,AL (by kernel_rfl),Sp⟩
theorem AE2:Ab Tryz.prog ty 387 dX:=Or.inl ⟨Tryz.f387,YE,Tryz.func387,AL (by kernel_rfl),Sq⟩
theorem AE3:Ab Tryz.prog ty 397 dZ:=Or.inl ⟨Tryz.f397,YF,Tryz.func397,AL (by kernel_rfl),Sr⟩
theorem AE4:Ab Tryz.prog ty 398 da:=Or.inl ⟨Tryz.f398,YG,Tryz.func398,AL (by kernel_rfl),Ss⟩
theorem AE5:Ab Tryz.prog ty 399 db:=Or.inl ⟨Tryz.f399,YH,Tryz.func399,AL (by kernel_rfl),St⟩
theorem AE6:Ab Tryz.prog ty 402 df:=Or.inl ⟨Tryz.f402,YI,Tryz.func402,AL (by kernel_rfl),Su⟩
theorem AE7:Ab Tryz.prog ty 403 dh:=Or.inl ⟨Tryz.f403,YJ,Tryz.func403,AL (by kernel_rfl),Sv⟩
theorem AE8:Ab Tryz.prog ty 404 dj:=Or.inl ⟨Tryz.f404,YK,Tryz.func404,AL (by kernel_rfl),Sw⟩
theorem AE9:Ab Tryz.prog ty 406 dk:=Or.inl ⟨Tryz.f406,YL,Tryz.func406,AL (by kernel_rfl),Sx⟩
theorem AFA:Ab Tryz.prog ty 409 dm:=Or.inl ⟨Tryz.f409,YM,Tryz.func409,AL (by kernel_rfl),Sy⟩
theorem AFB:Ab Tryz.prog ty 410 dn:=Or.inl ⟨Tryz.f410,YN,Tryz.func410,AL (by kernel_rfl),Sz⟩
theorem AFC:Ab Tryz.prog ty 420 dp:=Or.inl ⟨Tryz.f420,YO,Tryz.func420,AL (by kernel_rfl),S3⟩
theorem AFD:Ab Tryz.prog ty 421 dq:=Or.inl ⟨Tryz.f421,YP,Tryz.func421,AL (by kernel_rfl),S4⟩
theorem AFE:Ab Tryz.prog ty 422 dr:=Or.inl ⟨Tryz.f422,YQ,Tryz.func422,AL (by kernel_rfl),S5⟩
theorem AFF:Ab Tryz.prog ty 423 du:=Or.inl ⟨Tryz.f423,YR,Tryz.func423,AL (by kernel_rfl),S6⟩
theorem AFG:Ab Tryz.prog ty 424 dv:=Or.inl ⟨Tryz.f424,YS,Tryz.func424,AL (by kernel_rfl),S7⟩
theorem AFH:Ab Tryz.prog ty 430 dy:=Or.inl ⟨Tryz.f430,YT,Tryz.func430,AL (by kernel_rfl),S8⟩
theorem AFI:Ab Tryz.prog ty 434 dz:=Or.inl ⟨Tryz.f434,YU,Tryz.func434,AL (by kernel_rfl),S9⟩
theorem AFJ:Ab Tryz.prog ty 436 d4:=Or.inl ⟨Tryz.f436,YV,Tryz.func436,AL (by kernel_rfl),TA⟩
theorem AFK:Ab Tryz.prog ty 437 d5:=Or.inl ⟨Tryz.f437,YW,Tryz.func437,AL (by kernel_rfl),TB⟩
theorem AFL:Ab Tryz.prog ty 438 d6:=Or.inl ⟨Tryz.f438,YX,Tryz.func438,AL (by kernel_rfl),TC⟩
theorem AFM:Ab Tryz.prog ty 453 d9:=Or.inl ⟨Tryz.f453,YY,Tryz.func453,AL (by kernel_rfl),TG⟩
theorem AFN:Ab Tryz.prog ty 456 eA:=Or.inl ⟨Tryz.f456,YZ,Tryz.func456,AL (by kernel_rfl),TH⟩
theorem AFO:Ab Tryz.prog ty 457 eB:=Or.inl ⟨Tryz.f457,Ya,Tryz.func457,AL (by kernel_rfl),TJ⟩
theorem AFP:Ab Tryz.prog ty 458 eC:=Or.inl ⟨Tryz.f458,Yb,Tryz.func458,AL (by kernel_rfl),TL⟩
theorem AFQ:Ab Tryz.prog ty 459 eD:=Or.inl ⟨Tryz.f459,Yc,Tryz.func459,AL (by kernel_rfl),TM⟩
theorem AFR:Ab Tryz.prog ty 460 eF:=Or.inl ⟨Tryz.f460,Yd,Tryz.func460,AL (by kernel_rfl),TN⟩
theorem AFS:Ab Tryz.prog ty 461 eG:=Or.inl ⟨Tryz.f461,Ye,Tryz.func461,AL (by kernel_rfl),TO⟩
theorem AFT:Ab Tryz.prog ty 463 eH:=Or.inl ⟨Tryz.f463,Yf,Tryz.func463,AL (by kernel_rfl),TP⟩
theorem AFU:Ab Tryz.prog ty 468 eI:=Or.inl ⟨Tryz.f468,Yg,Tryz.func468,AL (by kernel_rfl),TQ⟩
theorem AFV:Ab Tryz.prog ty 472 eK:=Or.inl ⟨Tryz.f472,Yh,Tryz.func472,AL (by kernel_rfl),TR⟩
theorem AFW:Ab Tryz.prog ty 478 eL:=Or.inl ⟨Tryz.f478,Yi,Tryz.func478,AL (by kernel_rfl),TT⟩
theorem AFX:Ab Tryz.prog ty 479 eM:=Or.inl ⟨Tryz.f479,Yj,Tryz.func479,AL (by kernel_rfl),TU⟩
theorem AFY:Ab Tryz.prog ty 494 eN:=Or.inl ⟨Tryz.f494,Yk,Tryz.func494,AL (by kernel_rfl),TV⟩
theorem AFZ:Ab Tryz.prog ty 502 eP:=Or.inl ⟨Tryz.f502,Yl,Tryz.func502,AL (by kernel_rfl),TW⟩
theorem AFa:Ab Tryz.prog ty 504 eQ:=Or.inl ⟨Tryz.f504,Ym,Tryz.func504,AL (by kernel_rfl),TY⟩
theorem AFb:Ab Tryz.prog ty 505 eR:=Or.inl ⟨Tryz.f505,Yn,Tryz.func505,AL (by kernel_rfl),TZ⟩
theorem AFc:Ab Tryz.prog ty 506 eS:=Or.inl ⟨Tryz.f506,Yo,Tryz.func506,AL (by kernel_rfl),Ta⟩
theorem AFd:Ab Tryz.prog ty 508 eV:=Or.inl ⟨Tryz.f508,Yp,Tryz.func508,AL (by kernel_rfl),Tb⟩
theorem AFe:Ab Tryz.prog ty 516 eW:=Or.inl ⟨Tryz.f516,Yq,Tryz.func516,AL (by kernel_rfl),Tc⟩
theorem AFf:Ab Tryz.prog ty 517 eX:=Or.inl ⟨Tryz.f517,Yr,Tryz.func517,AL (by kernel_rfl),Td⟩
theorem AFg:Ab Tryz.prog ty 520 eZ:=Or.inl ⟨Tryz.f520,Ys,Tryz.func520,AL (by kernel_rfl),Te⟩
theorem AFh:Ab Tryz.prog ty 535 ee:=Or.inl ⟨Tryz.f535,Yt,Tryz.func535,AL (by kernel_rfl),Tf⟩
theorem AFi:Ab Tryz.prog ty 538 eh:=Or.inl ⟨Tryz.f538,Yu,Tryz.func538,AL (by kernel_rfl),Tg⟩
theorem AFj:Ab Tryz.prog ty 546 eo:=Or.inl ⟨Tryz.f546,Yv,Tryz.func546,AL (by kernel_rfl),Th⟩
theorem AFk:Ab Tryz.prog ty 547 ep:=Or.inl ⟨Tryz.f547,Yw,Tryz.func547,AL (by kernel_rfl),Ti⟩
theorem AFl:Ab Tryz.prog ty 549 er:=Or.inl ⟨Tryz.f549,Yx,Tryz.func549,AL (by kernel_rfl),Tj⟩
theorem AFm:Ab Tryz.prog ty 550 eu:=Or.inl ⟨Tryz.f550,Yy,Tryz.func550,AL (by kernel_rfl),Tk⟩
theorem AFn:Ab Tryz.prog ty 556 ew:=Or.inl ⟨Tryz.f556,Yz,Tryz.func556,AL (by kernel_rfl),Tl⟩
theorem AFo:Ab Tryz.prog ty 572 ex:=Or.inl ⟨Tryz.f572,Y0,Tryz.func572,AL (by kernel_rfl),Tm⟩
theorem AFp:Ab Tryz.prog ty 590 ez:=Or.inl ⟨Tryz.f590,Y1,Tryz.func590,AL (by kernel_rfl),Tn⟩
theorem AFq:Ab Tryz.prog ty 591 fA:=Or.inl ⟨Tryz.f591,Y2,Tryz.func591,AL (by kernel_rfl),To⟩
theorem AFr:Ab Tryz.prog ty 594 fB:=Or.inl ⟨Tryz.f594,Y3,Tryz.func594,AL (by kernel_rfl),Tp⟩
theorem AFs:Ab Tryz.prog ty 595 fC:=Or.inl ⟨Tryz.f595,Y4,Tryz.func595,AL (by kernel_rfl),Tq⟩
theorem AFt:Ab Tryz.prog ty 596 fD:=Or.inl ⟨Tryz.f596,Y5,Tryz.func596,AL (by kernel_rfl),Ts⟩
theorem AFu:Ab Tryz.prog ty 597 fE:=Or.inl ⟨Tryz.f597,Y6,Tryz.func597,AL (by kernel_rfl),Tt⟩
theorem AFv:Ab Tryz.prog ty 598 fF:=Or.inl ⟨Tryz.f598,Y7,Tryz.func598,AL (by kernel_rfl),Tu⟩
theorem AFw:Ab Tryz.prog ty 608 fH:=Or.inl ⟨Tryz.f608,Y8,Tryz.func608,AL (by kernel_rfl),Tv⟩
theorem AJ(i:Nat):Ab Tryz.prog ty i AG:=Or.inr (.inl rfl)
set_option maxRecDepth 100000 in
def Gt:FT:=(.nd AG (.nd AG (.nd AG (.nd AG (.nd b15 (.nd b31 (.nd b63 (.nd Z6 (.nd bo (.nd AG .mt .mt) .mt) (.nd AG (.nd AG .mt .mt) .mt)) (.nd aw (.nd AG (.nd AG .mt .mt) .mt) (.nd AG (.nd AG .mt .mt) .mt))) (.nd AG (.nd aQ (.nd AG (.nd AG .mt .mt) .mt) (.nd AG (.nd AG .mt .mt) .mt)) (.nd AG (.nd dK (.nd AG .mt .mt) .mt) (.nd eM .mt .mt)))) (.nd AG (.nd AG (.nd AG (.nd cI (.nd AG .mt .mt) .mt) (.nd db (.nd AG .mt .mt) .mt)) (.nd AG (.nd AG (.nd fA .mt .mt) .mt) (.nd eH (.nd AG .mt .mt) .mt))) (.nd AG (.nd ag (.nd cg (.nd AG .mt .mt) .mt) (.nd AG (.nd AG .mt .mt) .mt)) (.nd bb (.nd AG (.nd AG .mt .mt) .mt) (.nd AG .mt .mt))))) (.nd b23 (.nd b39 (.nd AG (.nd AG (.nd AG (.nd bCa .mt .mt) .mt) (.nd AG (.nd AG .mt .mt) .mt)) (.nd bE (.nd cv (.nd AG .mt .mt) .mt) (.nd AG (.nd AG .mt .mt) .mt))) (.nd Zt (.nd AG (.nd ca (.nd AG .mt .mt) .mt) (.nd du (.nd AG .mt .mt) .mt)) (.nd AG (.nd dP (.nd AG .mt .mt) .mt) (.nd AG .mt .mt)))) (.nd AG (.nd AG (.nd aM (.nd cQ (.nd ee .mt .mt) .mt) (.nd AG (.nd AG .mt .mt) .mt)) (.nd AG (.nd AG (.nd AG .mt .mt) .mt) (.nd AG .mt .mt))) (.nd AG (.nd AG (.nd AG (.nd AG .mt .mt) .mt) (.nd AG (.nd AG .mt .mt) .mt)) (.nd AG (.nd AG (.nd AG .mt .mt) .mt) (.nd AG .mt .mt)))))) (.nd AG (.nd b19 (.nd b35 (.nd b67 (.nd aA (.nd bu (.nd AG .mt .mt) .mt) (.nd dX (.nd AG .mt .mt) .mt)) (.nd bA (.nd cq (.nd AG .mt .mt) .mt) (.nd AG (.nd AG .mt .mt) .mt))) (.nd b99 (.nd aV (.nd AG (.nd ep .mt .mt) .mt) (.nd AG (.nd AG .mt .mt) .mt)) (.nd AG (.nd AG (.nd AG .mt .mt) .mt) (.nd AG .mt .mt)))) (.nd b51 (.nd b83 (.nd aL (.nd cL (.nd AG .mt .mt) .mt) (.nd dh (.nd AG .mt .mt) .mt)) (.nd AG (.nd AG (.nd fC .mt .mt) .mt) (.nd AG .mt .mt))) (.nd Z1 (.nd al (.nd AG (.nd AG .mt .mt) .mt) (.nd AG (.nd AG .mt .mt) .mt)) (.nd bg (.nd AG (.nd AG .mt .mt) .mt) (.nd AG .mt .mt))))) (.nd b27 (.nd b43 (.nd b75 (.nd AG (.nd cC (.nd AG .mt .mt) .mt) (.nd AG (.nd AG .mt .mt) .mt)) (.nd bI (.nd c8 (.nd AG .mt .mt) .mt) (.nd eD (.nd AG .mt .mt) .mt))) (.nd Zw (.nd ae (.nd AG (.nd AG .mt .mt) .mt) (.nd AG (.nd AG .mt .mt) .mt)) (.nd bX (.nd dR (.nd AG .mt .mt) .mt) (.nd AG .mt .mt)))) (.nd b59 (.nd AG (.nd aO (.nd cW (.nd AG .mt .mt) .mt) (.nd AG (.nd AG .mt .mt) .mt)) (.nd AG (.nd AG (.nd AG .mt .mt) .mt) (.nd AG .mt .mt))) (.nd Z4 (.nd AG (.nd AG (.nd AG .mt .mt) .mt) (.nd AG (.nd AG .mt .mt) .mt)) (.nd AG (.nd AG (.nd AG .mt .mt) .mt) (.nd AG .mt .mt))))))) (.nd AG (.nd b9 (.nd b17 (.nd b33 (.nd b65 (.nd Z7 (.nd bq (.nd AG .mt .mt) .mt) (.nd AG (.nd AG .mt .mt) .mt)) (.nd ay (.nd co (.nd AG .mt .mt) .mt) (.nd AG (.nd AG .mt .mt) .mt))) (.nd b97 (.nd aT (.nd AG (.nd AG .mt .mt) .mt) (.nd AG (.nd AG .mt .mt) .mt)) (.nd AG (.nd dM (.nd AG .mt .mt) .mt) (.nd AG .mt .mt)))) (.nd b49 (.nd b81 (.nd aJ (.nd cJ (.nd AG .mt .mt) .mt) (.nd AG (.nd AG .mt .mt) .mt)) (.nd bM (.nd dE (.nd AG .mt .mt) .mt) (.nd AG (.nd AG .mt .mt) .mt))) (.nd Z0 (.nd AG (.nd AG (.nd AG .mt .mt) .mt) (.nd AG (.nd AG .mt .mt) .mt)) (.nd be (.nd AG (.nd AG .mt .mt) .mt) (.nd AG .mt .mt))))) (.nd b25 (.nd AG (.nd AG (.nd AG (.nd cA (.nd AG .mt .mt) .mt) (.nd AG (.nd AG .mt .mt) .mt)) (.nd bG (.nd cx (.nd AG .mt .mt) .mt) (.nd eB (.nd AG .mt .mt) .mt))) (.nd AG (.nd aa (.nd AG (.nd AG .mt .mt) .mt) (.nd AG (.nd AG .mt .mt) .mt)) (.nd AG (.nd AG (.nd AG .mt .mt) .mt) (.nd AG .mt .mt)))) (.nd b57 (.nd AG (.nd aN (.nd cU (.nd AG .mt .mt) .mt) (.nd dm (.nd AG .mt .mt) .mt)) (.nd AG (.nd AG (.nd AG .mt .mt) .mt) (.nd AG .mt .mt))) (.nd AG (.nd AG (.nd AG (.nd AG .mt .mt) .mt) (.nd AG (.nd AG .mt .mt) .mt)) (.nd bi (.nd AG (.nd AG .mt .mt) .mt) (.nd eR .mt .mt)))))) (.nd b13 (.nd b21 (.nd b37 (.nd b69 (.nd aC (.nd AG (.nd eX .mt .mt) .mt) (.nd AG (.nd AG .mt .mt) .mt)) (.nd bB (.nd AG (.nd AG .mt .mt) .mt) (.nd d9 (.nd AG .mt .mt) .mt))) (.nd Zs (.nd aX (.nd AG (.nd er .mt .mt) .mt) (.nd dq (.nd AG .mt .mt) .mt)) (.nd AG (.nd dO (.nd AG .mt .mt) .mt) (.nd AG .mt .mt)))) (.nd AG (.nd AG (.nd bD (.nd AG (.nd AG .mt .mt) .mt) (.nd AG (.nd AG .mt .mt) .mt)) (.nd AG (.nd AG (.nd fE .mt .mt) .mt) (.nd AG .mt .mt))) (.nd AG (.nd an (.nd ch (.nd AG .mt .mt) .mt) (.nd d5 (.nd AG .mt .mt) .mt)) (.nd AG (.nd AG (.nd AG .mt .mt) .mt) (.nd AG .mt .mt))))) (.nd b29 (.nd b45 (.nd b77 (.nd aH (.nd cE (.nd AG .mt .mt) .mt) (.nd dZ (.nd AG .mt .mt) .mt)) (.nd bK (.nd dB (.nd AG .mt .mt) .mt) (.nd eG (.nd AG .mt .mt) .mt))) (.nd AG (.nd AG (.nd cf (.nd AG .mt .mt) .mt) (.nd AG (.nd AG .mt .mt) .mt)) (.nd bZ (.nd AG (.nd AG .mt .mt) .mt) (.nd AG .mt .mt)))) (.nd b61 (.nd AG (.nd aP (.nd AG (.nd AG .mt .mt) .mt) (.nd AG (.nd AG .mt .mt) .mt)) (.nd AG (.nd AG (.nd AG .mt .mt) .mt) (.nd AG .mt .mt))) (.nd AG (.nd aq (.nd AG (.nd AG .mt .mt) .mt) (.nd AG (.nd AG .mt .mt) .mt)) (.nd bn (.nd dW (.nd AG .mt .mt) .mt) (.nd AG .mt .mt)))))))) (.nd AG (.nd b4 (.nd AG (.nd b16 (.nd b32 (.nd b64 (.nd AG (.nd bp (.nd AG .mt .mt) .mt) (.nd AG (.nd AG .mt .mt) .mt)) (.nd ax (.nd cl (.nd AG .mt .mt) .mt) (.nd AG (.nd AG .mt .mt) .mt))) (.nd AG (.nd aS (.nd AG (.nd AG .mt .mt) .mt) (.nd AG (.nd AG .mt .mt) .mt)) (.nd AG (.nd dL (.nd fH .mt .mt) .mt) (.nd AG .mt .mt)))) (.nd AG (.nd b80 (.nd AG (.nd AG (.nd AG .mt .mt) .mt) (.nd AG (.nd AG .mt .mt) .mt)) (.nd bL (.nd dD (.nd AG .mt .mt) .mt) (.nd AG (.nd AG .mt .mt) .mt))) (.nd Zz (.nd ai (.nd AG (.nd AG .mt .mt) .mt) (.nd AG (.nd AG .mt .mt) .mt)) (.nd bd (.nd AG (.nd AG .mt .mt) .mt) (.nd AG .mt .mt))))) (.nd b24 (.nd AG (.nd AG (.nd AG (.nd bz (.nd eZ .mt .mt) .mt) (.nd AG (.nd AG .mt .mt) .mt)) (.nd AG (.nd cw (.nd AG .mt .mt) .mt) (.nd eA (.nd AG .mt .mt) .mt))) (.nd Zu (.nd aZ (.nd cb (.nd AG .mt .mt) .mt) (.nd dv (.nd AG .mt .mt) .mt)) (.nd AG (.nd AG (.nd AG .mt .mt) .mt) (.nd AG .mt .mt)))) (.nd AG (.nd AG (.nd AG (.nd cT (.nd AG .mt .mt) .mt) (.nd AG (.nd AG .mt .mt) .mt)) (.nd AG (.nd AG (.nd AG .mt .mt) .mt) (.nd eK .mt .mt))) (.nd AG (.nd AG (.nd AG (.nd AG .mt .mt) .mt) (.nd AG (.nd AG .mt .mt) .mt)) (.nd AG (.nd dU (.nd AG .mt .mt) .mt) (.nd eQ .mt .mt)))))) (.nd b12 (.nd b20 (.nd b36 (.nd b68 (.nd aB (.nd bx (.nd eW .mt .mt) .mt) (.nd AG (.nd AG .mt .mt) .mt)) (.nd AG (.nd cr (.nd AG .mt .mt) .mt) (.nd AG (.nd AG .mt .mt) .mt))) (.nd Zr (.nd aW (.nd AG (.nd AG .mt .mt) .mt) (.nd dp (.nd AG .mt .mt) .mt)) (.nd bV (.nd dN (.nd AG .mt .mt) .mt) (.nd AG .mt .mt)))) (.nd b52 (.nd b84 (.nd AG (.nd cM (.nd AG .mt .mt) .mt) (.nd dj (.nd AG .mt .mt) .mt)) (.nd bP (.nd dH (.nd fD .mt .mt) .mt) (.nd eI .mt .mt))) (.nd AG (.nd AG (.nd AG (.nd AG .mt .mt) .mt) (.nd d4 (.nd AG .mt .mt) .mt)) (.nd AG (.nd AG (.nd AG .mt .mt) .mt) (.nd AG .mt .mt))))) (.nd b28 (.nd b44 (.nd b76 (.nd aG (.nd cD (.nd AG .mt .mt) .mt) (.nd AG (.nd AG .mt .mt) .mt)) (.nd bJ (.nd dA (.nd AG .mt .mt) .mt) (.nd eF (.nd AG .mt .mt) .mt))) (.nd Zx (.nd AG (.nd AG (.nd ew .mt .mt) .mt) (.nd AG (.nd AG .mt .mt) .mt)) (.nd bY (.nd dS (.nd AG .mt .mt) .mt) (.nd AG .mt .mt)))) (.nd b60 (.nd AG (.nd AG (.nd AG (.nd AG .mt .mt) .mt) (.nd AG (.nd AG .mt .mt) .mt)) (.nd AG (.nd AG (.nd AG .mt .mt) .mt) (.nd AG .mt .mt))) (.nd Z5 (.nd ap (.nd AG (.nd ex .mt .mt) .mt) (.nd AG (.nd AG .mt .mt) .mt)) (.nd bm (.nd AG (.nd AG .mt .mt) .mt) (.nd eV .mt .mt))))))) (.nd b6 (.nd b10 (.nd b18 (.nd b34 (.nd b66 (.nd Z9 (.nd br (.nd AG .mt .mt) .mt) (.nd AG (.nd AG .mt .mt) .mt)) (.nd az (.nd cp (.nd AG .mt .mt) .mt) (.nd AG (.nd AG .mt .mt) .mt))) (.nd AG (.nd aU (.nd cY (.nd eo .mt .mt) .mt) (.nd AG (.nd AG .mt .mt) .mt)) (.nd bU (.nd AG (.nd AG .mt .mt) .mt) (.nd AG .mt .mt)))) (.nd AG (.nd b82 (.nd aK (.nd cK (.nd AG .mt .mt) .mt) (.nd df (.nd AG .mt .mt) .mt)) (.nd bO (.nd dF (.nd fB .mt .mt) .mt) (.nd AG .mt .mt))) (.nd AG (.nd aj (.nd AG (.nd AG .mt .mt) .mt) (.nd dz (.nd AG .mt .mt) .mt)) (.nd bf (.nd AG (.nd AG .mt .mt) .mt) (.nd AG .mt .mt))))) (.nd b26 (.nd b42 (.nd b74 (.nd aE (.nd cB (.nd AG .mt .mt) .mt) (.nd AG (.nd AG .mt .mt) .mt)) (.nd bH (.nd cz (.nd AG .mt .mt) .mt) (.nd eC (.nd AG .mt .mt) .mt))) (.nd Zv (.nd AG (.nd cd (.nd AG .mt .mt) .mt) (.nd AG (.nd AG .mt .mt) .mt)) (.nd AG (.nd AG (.nd AG .mt .mt) .mt) (.nd AG .mt .mt)))) (.nd bS (.nd b90 (.nd AG (.nd cV (.nd eh .mt .mt) .mt) (.nd dn (.nd AG .mt .mt) .mt)) (.nd AG (.nd AG (.nd AG .mt .mt) .mt) (.nd AG .mt .mt))) (.nd Z3 (.nd AG (.nd AG (.nd AG .mt .mt) .mt) (.nd AG (.nd AG .mt .mt) .mt)) (.nd bk (.nd AG (.nd AG .mt .mt) .mt) (.nd eS .mt .mt)))))) (.nd AG (.nd b22 (.nd b38 (.nd AG (.nd aD (.nd AG (.nd AG .mt .mt) .mt) (.nd AG (.nd AG .mt .mt) .mt)) (.nd bC (.nd cu (.nd AG .mt .mt) .mt) (.nd AG (.nd AG .mt .mt) .mt))) (.nd bQ (.nd aY (.nd cZ (.nd eu .mt .mt) .mt) (.nd dr (.nd AG .mt .mt) .mt)) (.nd AG (.nd AG (.nd AG .mt .mt) .mt) (.nd AG .mt .mt)))) (.nd b54 (.nd b86 (.nd AG (.nd cP (.nd AG .mt .mt) .mt) (.nd dk (.nd AG .mt .mt) .mt)) (.nd bR (.nd dI (.nd fF .mt .mt) .mt) (.nd AG .mt .mt))) (.nd Z2 (.nd AG (.nd AG (.nd AG .mt .mt) .mt) (.nd d6 (.nd AG .mt .mt) .mt)) (.nd bh (.nd AG (.nd AG .mt .mt) .mt) (.nd eP .mt .mt))))) (.nd b30 (.nd b46 (.nd b78 (.nd aI (.nd cH (.nd AG .mt .mt) .mt) (.nd da (.nd AG .mt .mt) .mt)) (.nd AG (.nd dC (.nd ez .mt .mt) .mt) (.nd AG (.nd AG .mt .mt) .mt))) (.nd AG (.nd af (.nd AG (.nd AG .mt .mt) .mt) (.nd dy (.nd AG .mt .mt) .mt)) (.nd ba (.nd AG (.nd AG .mt .mt) .mt) (.nd eN .mt .mt)))) (.nd b62 (.nd AG (.nd AG (.nd AG (.nd AG .mt .mt) .mt) (.nd AG (.nd AG .mt .mt) .mt)) (.nd AG (.nd AG (.nd AG .mt .mt) .mt) (.nd eL .mt .mt))) (.nd AG (.nd av (.nd AG (.nd AG .mt .mt) .mt) (.nd AG (.nd AG .mt .mt) .mt)) (.nd AG (.nd AG (.nd AG .mt .mt) .mt) (.nd AG .mt .mt)))))))))
set_option maxRecDepth 100000 in
theorem Fk:FT.All (Ab Tryz.prog ty) Gt id:=⟨AJ _,⟨AJ _,⟨AJ _,⟨AJ _,⟨o15,⟨o31,⟨o63,⟨ACt,⟨AD3,⟨AJ _,trivial,trivial⟩,trivial⟩,⟨AJ _,⟨AJ _,trivial,trivial⟩,trivial⟩⟩,⟨ADV,⟨AJ _,⟨AJ _,trivial,trivial⟩,trivial⟩,⟨AJ _,⟨AJ _,trivial,trivial⟩,trivial⟩⟩⟩,⟨AJ _,⟨ADB,⟨AJ _,⟨AJ _,trivial,trivial⟩,trivial⟩,⟨AJ _,⟨AJ _,trivial,trivial⟩,trivial⟩⟩,⟨AJ _,⟨AEs,⟨AJ _,trivial,trivial⟩,trivial⟩,⟨AFX,trivial,trivial⟩⟩⟩⟩,⟨AJ _,⟨AJ _,⟨AJ _,⟨AEG,⟨AJ _,trivial,trivial⟩,trivial⟩,⟨AE5,⟨AJ _,trivial,trivial⟩,trivial⟩⟩,⟨AJ _,⟨AJ _,⟨AFq,trivial,trivial⟩,trivial⟩,⟨AFT,⟨AJ _,trivial,trivial⟩,trivial⟩⟩⟩,⟨AJ _,⟨ADN,⟨AEX,⟨AJ _,trivial,trivial⟩,trivial⟩,⟨AJ _,⟨AJ _,trivial,trivial⟩,trivial⟩⟩,⟨ADt,⟨AJ _,⟨AJ _,trivial,trivial⟩,trivial⟩,⟨AJ _,trivial,trivial⟩⟩⟩⟩⟩,⟨o23,⟨o39,⟨AJ _,⟨AJ _,⟨AJ _,⟨(Or.inr (.inr UB)),trivial,trivial⟩,trivial⟩,⟨AJ _,⟨AJ _,trivial,trivial⟩,trivial⟩⟩,⟨ADc,⟨AEf,⟨AJ _,trivial,trivial⟩,trivial⟩,⟨AJ _,⟨AJ _,trivial,trivial⟩,trivial⟩⟩⟩,⟨ACh,⟨AJ _,⟨AET,⟨AJ _,trivial,trivial⟩,trivial⟩,⟨AFF,⟨AJ _,trivial,trivial⟩,trivial⟩⟩,⟨AJ _,⟨AEx,⟨AJ _,trivial,trivial⟩,trivial⟩,⟨AJ _,trivial,trivial⟩⟩⟩⟩,⟨AJ _,⟨AJ _,⟨AC7,⟨AEM,⟨AFh,trivial,trivial⟩,trivial⟩,⟨AJ _,⟨AJ _,trivial,trivial⟩,trivial⟩⟩,⟨AJ _,⟨AJ _,⟨AJ _,trivial,trivial⟩,trivial⟩,⟨AJ _,trivial,trivial⟩⟩⟩,⟨AJ _,⟨AJ _,⟨AJ _,⟨AJ _,trivial,trivial⟩,trivial⟩,⟨AJ _,⟨AJ _,trivial,trivial⟩,trivial⟩⟩,⟨AJ _,⟨AJ _,⟨AJ _,trivial,trivial⟩,trivial⟩,⟨AJ _,trivial,trivial⟩⟩⟩⟩⟩⟩,⟨AJ _,⟨o19,⟨o35,⟨o67,⟨ACw,⟨AD7,⟨AJ _,trivial,trivial⟩,trivial⟩,⟨AE2,⟨AJ _,trivial,trivial⟩,trivial⟩⟩,⟨ADZ,⟨AEc,⟨AJ _,trivial,trivial⟩,trivial⟩,⟨AJ _,⟨AJ _,trivial,trivial⟩,trivial⟩⟩⟩,⟨o99,⟨ADF,⟨AJ _,⟨AFk,trivial,trivial⟩,trivial⟩,⟨AJ _,⟨AJ _,trivial,trivial⟩,trivial⟩⟩,⟨AJ _,⟨AJ _,⟨AJ _,trivial,trivial⟩,trivial⟩,⟨AJ _,trivial,trivial⟩⟩⟩⟩,⟨o51,⟨o83,⟨AC6,⟨AEJ,⟨AJ _,trivial,trivial⟩,trivial⟩,⟨AE7,⟨AJ _,trivial,trivial⟩,trivial⟩⟩,⟨AJ _,⟨AJ _,⟨AFs,trivial,trivial⟩,trivial⟩,⟨AJ _,trivial,trivial⟩⟩⟩,⟨ACo,⟨ADQ,⟨AJ _,⟨AJ _,trivial,trivial⟩,trivial⟩,⟨AJ _,⟨AJ _,trivial,trivial⟩,trivial⟩⟩,⟨ADx,⟨AJ _,⟨AJ _,trivial,trivial⟩,trivial⟩,⟨AJ _,trivial,trivial⟩⟩⟩⟩⟩,⟨o27,⟨o43,⟨o75,⟨AJ _,⟨AEC,⟨AJ _,trivial,trivial⟩,trivial⟩,⟨AJ _,⟨AJ _,trivial,trivial⟩,trivial⟩⟩,⟨ADf,⟨AEj,⟨AJ _,trivial,trivial⟩,trivial⟩,⟨AFQ,⟨AJ _,trivial,trivial⟩,trivial⟩⟩⟩,⟨ACk,⟨ADL,⟨AJ _,⟨AJ _,trivial,trivial⟩,trivial⟩,⟨AJ _,⟨AJ _,trivial,trivial⟩,trivial⟩⟩,⟨ADp,⟨AEy,⟨AJ _,trivial,trivial⟩,trivial⟩,⟨AJ _,trivial,trivial⟩⟩⟩⟩,⟨o59,⟨AJ _,⟨AC9,⟨AEQ,⟨AJ _,trivial,trivial⟩,trivial⟩,⟨AJ _,⟨AJ _,trivial,trivial⟩,trivial⟩⟩,⟨AJ _,⟨AJ _,⟨AJ _,trivial,trivial⟩,trivial⟩,⟨AJ _,trivial,trivial⟩⟩⟩,⟨ACr,⟨AJ _,⟨AJ _,⟨AJ _,trivial,trivial⟩,trivial⟩,⟨AJ _,⟨AJ _,trivial,trivial⟩,trivial⟩⟩,⟨AJ _,⟨AJ _,⟨AJ _,trivial,trivial⟩,trivial⟩,⟨AJ _,trivial,trivial⟩⟩⟩⟩⟩⟩⟩,⟨AJ _,⟨o9,⟨o17,⟨o33,⟨o65,⟨ACu,⟨AD5,⟨AJ _,trivial,trivial⟩,trivial⟩,⟨AJ _,⟨AJ _,trivial,trivial⟩,trivial⟩⟩,⟨ADX,⟨AEa,⟨AJ _,trivial,trivial⟩,trivial⟩,⟨AJ _,⟨AJ _,trivial,trivial⟩,trivial⟩⟩⟩,⟨o97,⟨ADD,⟨AJ _,⟨AJ _,trivial,trivial⟩,trivial⟩,⟨AJ _,⟨AJ _,trivial,trivial⟩,trivial⟩⟩,⟨AJ _,⟨AEu,⟨AJ _,trivial,trivial⟩,trivial⟩,⟨AJ _,trivial,trivial⟩⟩⟩⟩,⟨o49,⟨o81,⟨AC4,⟨AEH,⟨AJ _,trivial,trivial⟩,trivial⟩,⟨AJ _,⟨AJ _,trivial,trivial⟩,trivial⟩⟩,⟨ADj,⟨AEo,⟨AJ _,trivial,trivial⟩,trivial⟩,⟨AJ _,⟨AJ _,trivial,trivial⟩,trivial⟩⟩⟩,⟨ACn,⟨AJ _,⟨AJ _,⟨AJ _,trivial,trivial⟩,trivial⟩,⟨AJ _,⟨AJ _,trivial,trivial⟩,trivial⟩⟩,⟨ADv,⟨AJ _,⟨AJ _,trivial,trivial⟩,trivial⟩,⟨AJ _,trivial,trivial⟩⟩⟩⟩⟩,⟨o25,⟨AJ _,⟨AJ _,⟨AJ _,⟨AEA,⟨AJ _,trivial,trivial⟩,trivial⟩,⟨AJ _,⟨AJ _,trivial,trivial⟩,trivial⟩⟩,⟨ADd,⟨AEh,⟨AJ _,trivial,trivial⟩,trivial⟩,⟨AFO,⟨AJ _,trivial,trivial⟩,trivial⟩⟩⟩,⟨AJ _,⟨ADK,⟨AJ _,⟨AJ _,trivial,trivial⟩,trivial⟩,⟨AJ _,⟨AJ _,trivial,trivial⟩,trivial⟩⟩,⟨AJ _,⟨AJ _,⟨AJ _,trivial,trivial⟩,trivial⟩,⟨AJ _,trivial,trivial⟩⟩⟩⟩,⟨o57,⟨AJ _,⟨AC8,⟨AEO,⟨AJ _,trivial,trivial⟩,trivial⟩,⟨AFA,⟨AJ _,trivial,trivial⟩,trivial⟩⟩,⟨AJ _,⟨AJ _,⟨AJ _,trivial,trivial⟩,trivial⟩,⟨AJ _,trivial,trivial⟩⟩⟩,⟨AJ _,⟨AJ _,⟨AJ _,⟨AJ _,trivial,trivial⟩,trivial⟩,⟨AJ _,⟨AJ _,trivial,trivial⟩,trivial⟩⟩,⟨ADz,⟨AJ _,⟨AJ _,trivial,trivial⟩,trivial⟩,⟨AFb,trivial,trivial⟩⟩⟩⟩⟩⟩,⟨o13,⟨o21,⟨o37,⟨o69,⟨ACy,⟨AJ _,⟨AFf,trivial,trivial⟩,trivial⟩,⟨AJ _,⟨AJ _,trivial,trivial⟩,trivial⟩⟩,⟨ADa,⟨AJ _,⟨AJ _,trivial,trivial⟩,trivial⟩,⟨AFM,⟨AJ _,trivial,trivial⟩,trivial⟩⟩⟩,⟨ACg,⟨ADH,⟨AJ _,⟨AFl,trivial,trivial⟩,trivial⟩,⟨AFD,⟨AJ _,trivial,trivial⟩,trivial⟩⟩,⟨AJ _,⟨AEw,⟨AJ _,trivial,trivial⟩,trivial⟩,⟨AJ _,trivial,trivial⟩⟩⟩⟩,⟨AJ _,⟨AJ _,⟨oD,⟨AJ _,⟨AJ _,trivial,trivial⟩,trivial⟩,⟨AJ _,⟨AJ _,trivial,trivial⟩,trivial⟩⟩,⟨AJ _,⟨AJ _,⟨AFu,trivial,trivial⟩,trivial⟩,⟨AJ _,trivial,trivial⟩⟩⟩,⟨AJ _,⟨ADR,⟨AEY,⟨AJ _,trivial,trivial⟩,trivial⟩,⟨AFK,⟨AJ _,trivial,trivial⟩,trivial⟩⟩,⟨AJ _,⟨AJ _,⟨AJ _,trivial,trivial⟩,trivial⟩,⟨AJ _,trivial,trivial⟩⟩⟩⟩⟩,⟨o29,⟨o45,⟨o77,⟨AC2,⟨AEE,⟨AJ _,trivial,trivial⟩,trivial⟩,⟨AE3,⟨AJ _,trivial,trivial⟩,trivial⟩⟩,⟨ADh,⟨AEl,⟨AJ _,trivial,trivial⟩,trivial⟩,⟨AFS,⟨AJ _,trivial,trivial⟩,trivial⟩⟩⟩,⟨AJ _,⟨AJ _,⟨AEW,⟨AJ _,trivial,trivial⟩,trivial⟩,⟨AJ _,⟨AJ _,trivial,trivial⟩,trivial⟩⟩,⟨ADr,⟨AJ _,⟨AJ _,trivial,trivial⟩,trivial⟩,⟨AJ _,trivial,trivial⟩⟩⟩⟩,⟨o61,⟨AJ _,⟨ADA,⟨AJ _,⟨AJ _,trivial,trivial⟩,trivial⟩,⟨AJ _,⟨AJ _,trivial,trivial⟩,trivial⟩⟩,⟨AJ _,⟨AJ _,⟨AJ _,trivial,trivial⟩,trivial⟩,⟨AJ _,trivial,trivial⟩⟩⟩,⟨AJ _,⟨ADT,⟨AJ _,⟨AJ _,trivial,trivial⟩,trivial⟩,⟨AJ _,⟨AJ _,trivial,trivial⟩,trivial⟩⟩,⟨AD2,⟨AE1,⟨AJ _,trivial,trivial⟩,trivial⟩,⟨AJ _,trivial,trivial⟩⟩⟩⟩⟩⟩⟩⟩,⟨AJ _,⟨o4,⟨AJ _,⟨o16,⟨o32,⟨o64,⟨AJ _,⟨AD4,⟨AJ _,trivial,trivial⟩,trivial⟩,⟨AJ _,⟨AJ _,trivial,trivial⟩,trivial⟩⟩,⟨ADW,⟨AEZ,⟨AJ _,trivial,trivial⟩,trivial⟩,⟨AJ _,⟨AJ _,trivial,trivial⟩,trivial⟩⟩⟩,⟨AJ _,⟨ADC,⟨AJ _,⟨AJ _,trivial,trivial⟩,trivial⟩,⟨AJ _,⟨AJ _,trivial,trivial⟩,trivial⟩⟩,⟨AJ _,⟨AEt,⟨AFw,trivial,trivial⟩,trivial⟩,⟨AJ _,trivial,trivial⟩⟩⟩⟩,⟨AJ _,⟨o80,⟨AJ _,⟨AJ _,⟨AJ _,trivial,trivial⟩,trivial⟩,⟨AJ _,⟨AJ _,trivial,trivial⟩,trivial⟩⟩,⟨ADi,⟨AEn,⟨AJ _,trivial,trivial⟩,trivial⟩,⟨AJ _,⟨AJ _,trivial,trivial⟩,trivial⟩⟩⟩,⟨ACm,⟨ADO,⟨AJ _,⟨AJ _,trivial,trivial⟩,trivial⟩,⟨AJ _,⟨AJ _,trivial,trivial⟩,trivial⟩⟩,⟨ADu,⟨AJ _,⟨AJ _,trivial,trivial⟩,trivial⟩,⟨AJ _,trivial,trivial⟩⟩⟩⟩⟩,⟨o24,⟨AJ _,⟨AJ _,⟨AJ _,⟨AD9,⟨AFg,trivial,trivial⟩,trivial⟩,⟨AJ _,⟨AJ _,trivial,trivial⟩,trivial⟩⟩,⟨AJ _,⟨AEg,⟨AJ _,trivial,trivial⟩,trivial⟩,⟨AFN,⟨AJ _,trivial,trivial⟩,trivial⟩⟩⟩,⟨ACi,⟨ADJ,⟨AEU,⟨AJ _,trivial,trivial⟩,trivial⟩,⟨AFG,⟨AJ _,trivial,trivial⟩,trivial⟩⟩,⟨AJ _,⟨AJ _,⟨AJ _,trivial,trivial⟩,trivial⟩,⟨AJ _,trivial,trivial⟩⟩⟩⟩,⟨AJ _,⟨AJ _,⟨AJ _,⟨AEN,⟨AJ _,trivial,trivial⟩,trivial⟩,⟨AJ _,⟨AJ _,trivial,trivial⟩,trivial⟩⟩,⟨AJ _,⟨AJ _,⟨AJ _,trivial,trivial⟩,trivial⟩,⟨AFV,trivial,trivial⟩⟩⟩,⟨AJ _,⟨AJ _,⟨AJ _,⟨AJ _,trivial,trivial⟩,trivial⟩,⟨AJ _,⟨AJ _,trivial,trivial⟩,trivial⟩⟩,⟨AJ _,⟨AE0,⟨AJ _,trivial,trivial⟩,trivial⟩,⟨AFa,trivial,trivial⟩⟩⟩⟩⟩⟩,⟨o12,⟨o20,⟨o36,⟨o68,⟨ACx,⟨AD8,⟨AFe,trivial,trivial⟩,trivial⟩,⟨AJ _,⟨AJ _,trivial,trivial⟩,trivial⟩⟩,⟨AJ _,⟨AEd,⟨AJ _,trivial,trivial⟩,trivial⟩,⟨AJ _,⟨AJ _,trivial,trivial⟩,trivial⟩⟩⟩,⟨ACf,⟨ADG,⟨AJ _,⟨AJ _,trivial,trivial⟩,trivial⟩,⟨AFC,⟨AJ _,trivial,trivial⟩,trivial⟩⟩,⟨ADo,⟨AEv,⟨AJ _,trivial,trivial⟩,trivial⟩,⟨AJ _,trivial,trivial⟩⟩⟩⟩,⟨o52,⟨o84,⟨AJ _,⟨AEK,⟨AJ _,trivial,trivial⟩,trivial⟩,⟨AE8,⟨AJ _,trivial,trivial⟩,trivial⟩⟩,⟨ADl,⟨AEq,⟨AFt,trivial,trivial⟩,trivial⟩,⟨AFU,trivial,trivial⟩⟩⟩,⟨AJ _,⟨AJ _,⟨AJ _,⟨AJ _,trivial,trivial⟩,trivial⟩,⟨AFJ,⟨AJ _,trivial,trivial⟩,trivial⟩⟩,⟨AJ _,⟨AJ _,⟨AJ _,trivial,trivial⟩,trivial⟩,⟨AJ _,trivial,trivial⟩⟩⟩⟩⟩,⟨o28,⟨o44,⟨o76,⟨AC1,⟨AED,⟨AJ _,trivial,trivial⟩,trivial⟩,⟨AJ _,⟨AJ _,trivial,trivial⟩,trivial⟩⟩,⟨ADg,⟨AEk,⟨AJ _,trivial,trivial⟩,trivial⟩,⟨AFR,⟨AJ _,trivial,trivial⟩,trivial⟩⟩⟩,⟨ACl,⟨AJ _,⟨AJ _,⟨AFn,trivial,trivial⟩,trivial⟩,⟨AJ _,⟨AJ _,trivial,trivial⟩,trivial⟩⟩,⟨ADq,⟨AEz,⟨AJ _,trivial,trivial⟩,trivial⟩,⟨AJ _,trivial,trivial⟩⟩⟩⟩,⟨o60,⟨AJ _,⟨AJ _,⟨AJ _,⟨AJ _,trivial,trivial⟩,trivial⟩,⟨AJ _,⟨AJ _,trivial,trivial⟩,trivial⟩⟩,⟨AJ _,⟨AJ _,⟨AJ _,trivial,trivial⟩,trivial⟩,⟨AJ _,trivial,trivial⟩⟩⟩,⟨ACs,⟨ADS,⟨AJ _,⟨AFo,trivial,trivial⟩,trivial⟩,⟨AJ _,⟨AJ _,trivial,trivial⟩,trivial⟩⟩,⟨AD1,⟨AJ _,⟨AJ _,trivial,trivial⟩,trivial⟩,⟨AFd,trivial,trivial⟩⟩⟩⟩⟩⟩⟩,⟨o6,⟨o10,⟨o18,⟨o34,⟨o66,⟨ACv,⟨AD6,⟨AJ _,trivial,trivial⟩,trivial⟩,⟨AJ _,⟨AJ _,trivial,trivial⟩,trivial⟩⟩,⟨ADY,⟨AEb,⟨AJ _,trivial,trivial⟩,trivial⟩,⟨AJ _,⟨AJ _,trivial,trivial⟩,trivial⟩⟩⟩,⟨AJ _,⟨ADE,⟨AER,⟨AFj,trivial,trivial⟩,trivial⟩,⟨AJ _,⟨AJ _,trivial,trivial⟩,trivial⟩⟩,⟨ADn,⟨AJ _,⟨AJ _,trivial,trivial⟩,trivial⟩,⟨AJ _,trivial,trivial⟩⟩⟩⟩,⟨AJ _,⟨o82,⟨AC5,⟨AEI,⟨AJ _,trivial,trivial⟩,trivial⟩,⟨AE6,⟨AJ _,trivial,trivial⟩,trivial⟩⟩,⟨ADk,⟨AEp,⟨AFr,trivial,trivial⟩,trivial⟩,⟨AJ _,trivial,trivial⟩⟩⟩,⟨AJ _,⟨ADP,⟨AJ _,⟨AJ _,trivial,trivial⟩,trivial⟩,⟨AFI,⟨AJ _,trivial,trivial⟩,trivial⟩⟩,⟨ADw,⟨AJ _,⟨AJ _,trivial,trivial⟩,trivial⟩,⟨AJ _,trivial,trivial⟩⟩⟩⟩⟩,⟨o26,⟨o42,⟨o74,⟨AC0,⟨AEB,⟨AJ _,trivial,trivial⟩,trivial⟩,⟨AJ _,⟨AJ _,trivial,trivial⟩,trivial⟩⟩,⟨ADe,⟨AEi,⟨AJ _,trivial,trivial⟩,trivial⟩,⟨AFP,⟨AJ _,trivial,trivial⟩,trivial⟩⟩⟩,⟨ACj,⟨AJ _,⟨AEV,⟨AJ _,trivial,trivial⟩,trivial⟩,⟨AJ _,⟨AJ _,trivial,trivial⟩,trivial⟩⟩,⟨AJ _,⟨AJ _,⟨AJ _,trivial,trivial⟩,trivial⟩,⟨AJ _,trivial,trivial⟩⟩⟩⟩,⟨oS,⟨o90,⟨AJ _,⟨AEP,⟨AFi,trivial,trivial⟩,trivial⟩,⟨AFB,⟨AJ _,trivial,trivial⟩,trivial⟩⟩,⟨AJ _,⟨AJ _,⟨AJ _,trivial,trivial⟩,trivial⟩,⟨AJ _,trivial,trivial⟩⟩⟩,⟨ACq,⟨AJ _,⟨AJ _,⟨AJ _,trivial,trivial⟩,trivial⟩,⟨AJ _,⟨AJ _,trivial,trivial⟩,trivial⟩⟩,⟨AD0,⟨AJ _,⟨AJ _,trivial,trivial⟩,trivial⟩,⟨AFc,trivial,trivial⟩⟩⟩⟩⟩⟩,⟨AJ _,⟨o22,⟨o38,⟨AJ _,⟨ACz,⟨AJ _,⟨AJ _,trivial,trivial⟩,trivial⟩,⟨AJ _,⟨AJ _,trivial,trivial⟩,trivial⟩⟩,⟨ADb,⟨AEe,⟨AJ _,trivial,trivial⟩,trivial⟩,⟨AJ _,⟨AJ _,trivial,trivial⟩,trivial⟩⟩⟩,⟨(Or.inr (.inr gi)),⟨ADI,⟨AES,⟨AFm,trivial,trivial⟩,trivial⟩,⟨AFE,⟨AJ _,trivial,trivial⟩,trivial⟩⟩,⟨AJ _,⟨AJ _,⟨AJ _,trivial,trivial⟩,trivial⟩,⟨AJ _,trivial,trivial⟩⟩⟩⟩,⟨o54,⟨o86,⟨AJ _,⟨AEL,⟨AJ _,trivial,trivial⟩,trivial⟩,⟨AE9,⟨AJ _,trivial,trivial⟩,trivial⟩⟩,⟨ADm,⟨AEr,⟨AFv,trivial,trivial⟩,trivial⟩,⟨AJ _,trivial,trivial⟩⟩⟩,⟨ACp,⟨AJ _,⟨AJ _,⟨AJ _,trivial,trivial⟩,trivial⟩,⟨AFL,⟨AJ _,trivial,trivial⟩,trivial⟩⟩,⟨ADy,⟨AJ _,⟨AJ _,trivial,trivial⟩,trivial⟩,⟨AFZ,trivial,trivial⟩⟩⟩⟩⟩,⟨o30,⟨o46,⟨o78,⟨AC3,⟨AEF,⟨AJ _,trivial,trivial⟩,trivial⟩,⟨AE4,⟨AJ _,trivial,trivial⟩,trivial⟩⟩,⟨AJ _,⟨AEm,⟨AFp,trivial,trivial⟩,trivial⟩,⟨AJ _,⟨AJ _,trivial,trivial⟩,trivial⟩⟩⟩,⟨AJ _,⟨ADM,⟨AJ _,⟨AJ _,trivial,trivial⟩,trivial⟩,⟨AFH,⟨AJ _,trivial,trivial⟩,trivial⟩⟩,⟨ADs,⟨AJ _,⟨AJ _,trivial,trivial⟩,trivial⟩,⟨AFY,trivial,trivial⟩⟩⟩⟩,⟨o62,⟨AJ _,⟨AJ _,⟨AJ _,⟨AJ _,trivial,trivial⟩,trivial⟩,⟨AJ _,⟨AJ _,trivial,trivial⟩,trivial⟩⟩,⟨AJ _,⟨AJ _,⟨AJ _,trivial,trivial⟩,trivial⟩,⟨AFW,trivial,trivial⟩⟩⟩,⟨AJ _,⟨ADU,⟨AJ _,⟨AJ _,trivial,trivial⟩,trivial⟩,⟨AJ _,⟨AJ _,trivial,trivial⟩,trivial⟩⟩,⟨AJ _,⟨AJ _,⟨AJ _,trivial,trivial⟩,trivial⟩,⟨AJ _,trivial,trivial⟩⟩⟩⟩⟩⟩⟩⟩⟩
theorem Cj(n:Nat):BI Tryz.prog ty (call Gt n):=E9 LC (by kernel_rfl) Fk n
end
end Go.Proofs.YtglkncnkbofgfaaGreat

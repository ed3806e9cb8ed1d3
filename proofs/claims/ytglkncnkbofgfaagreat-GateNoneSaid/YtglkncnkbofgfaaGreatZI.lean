/-
  Part ZI of what Lawgn stands on: printed by program, names and spaces cut.
-/
import Derived.Test.YtglkncnkbofgfaaGreatZH
import Derived.Shelf.SlIterI.Nil
import Derived.Shelf.SortM.Plain
import Derived.Shelf.SortM.SortNone
import Derived.ChangeSlices
import Derived.ChangeArms
import Derived.Laws.Externs
import Derived.Tactics2
import Derived.Deep.LoopGhost
import Derived.Shelf.Strings.IndexAnyAll
set_option linter.unusedSimpArgs false
set_option linter.unusedVariables false
namespace Go.Proofs.YtglkncnkbofgfaaGreat
noncomputable section
open Go Go.Proofs Go.RowKit Go.Shelf Go.Maps Go.MapKept Go.ChangeShapes
def SB(m:Nat):List Nat→List Nat
 |[]=>[m]
 |x::l=>match Nat.ble m x with
  |true=>m::x::l
  |false=>x::SB m l
def C7:List Nat→List Nat
 |[]=>[]
 |x::l=>SB x (C7 l)
def Oa:List Nat→Bool
 |[]=>true
 |x::l=>(match l with
  |[]=>true
  |y::_=>Nat.blt x y) && Oa l
def M1:Value→Option Nat
 |.int k n=>match k,n with
  |.i64,.ofNat m=>some m
  |_,_=>none
 |_=>none
def N5(clk:Nat):List Ent→Nat→Option (List Nat)
 |[],_=>some []
 |e::l,lo=>match M1 e.key with
  |some m=>match Nat.blt m 9223372036854775808 && (Nat.ble lo e.born && Nat.blt e.born clk)with
   |true=>match N5 clk l (Nat.succ e.born)with
    |some r=>some (m::r)
    |none=>none
   |false=>none
  |none=>none
def zv(m:Nat):Value:=.int .i64 (.ofNat m)
def Hi(t:Nat)(h:Hp):List Nat→R
 |[]=>.ok (.slice none 0 0) h
 |x::l=>match Oa (x::l)with
  |true=>forceN (Bo (x::l)) fun n=>newRow h (Nat.succ t) ((x::l).map zv) (DZ n n)
  |false=>.no
def OM(t:Nat)(h:Hp)(v:Value):R:=match v with
 |.map none=>.ok (.slice none 0 0) h
 |.map (some r)=>match BG h r with
  |.ok es clk=>match Nat.ble (Bo es) 1000000 with
   |true=>match N5 clk es 0 with
    |some ks=>Hi t h (C7 ks)
    |none=>.no
   |false=>.no
  |.no=>.no
 |_=>.no
def KT(t:Nat)(a:Addr)(h:Hp):R:=match Nat.beq a.off 0 && Nat.ble 256 a.block with
 |true=>match rowOf h a.block with
  |.ok c s e=>match Nat.beq e 0 && Nat.blt 0 s with
   |true=>OM t h (c.get 0)
   |false=>.no
  |.no=>.no
 |false=>.no
def Hh(Ks:List Nat)(t:Nat)(args:List Value)(h:Hp):R:=match args with
 |[v]=>match v with
  |.func fn f c=>match fn with
   |.func g=>match memN g Ks with
    |true=>match f.toList with
     |[]=>match c.toList with
      |[p]=>match p with
       |.pointer (some a)=>KT t a h
       |_=>.no
      |_=>.no
     |_::_=>.no
    |false=>.no
   |_=>.no
  |_=>.no
 |_=>.no
def Nh(Ks:List Nat)(t:Nat):Body:=⟨[.x (fun _=>Hh Ks t)],cNo⟩
theorem Jb(m:Nat):∀ l:List Nat,(SB m l).Perm (m::l)
 |[]=>.refl _
 |x::l=>by
  unfold SB
  split
  ·exact .refl _
  ·exact((Jb m l).cons x).trans (.swap m x l)
theorem EF:∀ l:List Nat,(C7 l).Perm l
 |[]=>.refl _
 |x::l=>(Jb x _).trans ((EF l).cons x)
theorem GT:∀ {l:List Nat},Oa l=true→l.Pairwise (· < ·)
 |[],_=>.nil
 |x::l,h=>by
  unfold Oa at h
  rw[Bool.and_eq_true]at h
  have hl:=GT h.2
  refine List.pairwise_cons.2 ⟨fun y hy=>?_,hl⟩
  cases l with
  |nil=>cases hy
  |cons z l=>
   have h1:x<z:=Aq.1 h.1
   rcases List.mem_cons.1 hy with rfl|hy
   ·exact h1
   ·exact Nat.lt_trans h1 ((List.pairwise_cons.1 hl).1 y hy)
theorem V0{a b:Nat}(h:zv a=zv b):a=b:=by
 unfold zv at h
 injection h with _ h
 injection h
theorem L2{ks:List Nat}(h:Oa (C7 ks)=true):((ks.map Int.ofNat).mergeSort leI).map encZ=(C7 ks).map zv:=by
 have hp:=GT h
 have h1:(ks.map Int.ofNat).mergeSort leI=((C7 ks).map Int.ofNat).mergeSort leI:=mergeSort_of_perm_i ((EF ks).symm.map _)
 have h2:((C7 ks).map Int.ofNat).Pairwise (fun a b=>leI a b=true):=List.pairwise_map.2 (hp.imp fun {a b} hab=>by
  simp only[leI,decide_eq_true_eq]
  exact Int.ofNat_le.2 (Nat.le_of_lt hab))
 rw[h1,List.mergeSort_of_pairwise h2,List.map_map]
 rfl
structure SortedSays (P:Program)(S K t:Nat):Prop where
 nil:∀ (w:World) (b:Nat),b<w.heap.size→w.cell? ⟨b,0,none⟩=some (.map none)→
  Calls P S #[.func (.func K) #[] #[.pointer (some ⟨b,0,none⟩)]] w fun e w'=>e=.returned (.slice none 0 0)∧Below w.heap.size w w'
 map:∀ (w:World) (b r:Nat) (es:Array MapEntry) (clk:Nat) (ks:List Nat),b<w.heap.size→w.cell? ⟨b,0,none⟩=some (.map (some r))→w.heap[r]? =some (.map es clk)→es.size≤1000000→Stamped es clk→
  es.toList.map (·.key)=ks.map zv→(∀ k∈ks,k<9223372036854775808)→
  Calls P S #[.func (.func K) #[] #[.pointer (some ⟨b,0,none⟩)]] w fun e w'=>∃ v,e=.returned v∧w'.ownsRow w.heap.size t 1 v ks.length (((ks.map Int.ofNat).mergeSort leI).map encZ)∧(v=.slice none 0 0↔ks=[])∧Below w.heap.size w w'
def QE:Value→Int
 |.int _ q=>q
 |_=>0
theorem ey{m:Nat}(h:m<9223372036854775808):(Lit.int .i64 (Int.ofNat m)).wf=true:=by
 simp[Lit.wf,IntKind.min,IntKind.max,IntKind.signed,IntKind.bits]
 omega
theorem Fh{P:Program}{ρ ρ':Ren}(L:SlLaysZI.n6 P ρ)(L':SlLaysZI.n10 P ρ')(hsort:∀ m,AnyZI.SortsIn P ρ Fence.wide m)
  (e9:∀ args w,(callFunc (ρ.f 9) args).run P w=.ok (.enter (ρ.f 9) args) w)(eg:∀ args w,(callFunc (ρ'.f 10) args).run P w=.ok (.enter (ρ'.f 10) args) w):SortedSays P (ρ.f 6) (ρ'.f 10) (ρ.t 26) where
 nil:=fun w b hb hc=>by
  have hseq:SeqGives Fence.wide 2 P (ρ'.f 10) #[.pointer (some ⟨b,0,none⟩)] encZ (fun ss:List Int=>ss=[]) 0 w:=AnyZI.keys_gives_nil L' Fence.wide 2 trivial rfl b w hb hc
  have cS:=AnyZI.sorted_in L Fence.wide 5 trivial trivial trivial trivial rfl (by omega) (hsort _) e9 (ρ'.f 10) #[.pointer (some ⟨b,0,none⟩)] trivial eg _ 0 (Nat.zero_le _) (by omega) w hseq
  refine(callsIn_wide.1 cS).mono ?_
  rintro e w' ⟨v,ss,rfl,rfl,hrow,hnil,hbl⟩
  exact⟨by rw[hnil.2 rfl],hbl⟩
 map:=fun w b r es clk ks hb hc hr hsz hst hk hlt=>by
  let R:Value→Option (DataW Unit×List MemPlace):=fun _=>some (.nil,[])
  have hkey:∀ x∈es.toList,∃ m,x.key=zv m∧m<9223372036854775808:=fun x hx=>by
   have:x.key∈ks.map zv:=hk ▸ List.mem_map_of_mem hx
   obtain⟨m,hm,he⟩:=List.mem_map.1 this
   exact⟨m,he.symm,hlt m hm⟩
  have hrd:∀ x∈es.toList,∀ m,x.key=zv m→m<9223372036854775808→Go.WideElems.rd P (ρ'.t 26) R x=some (.int .i64 (Int.ofNat m),.nil):=fun x hx m he hm=>by
   unfold Go.WideElems.rd
   rw[he,zv,keyOf_int_mk L'.t26 (ey hm)]
   rfl
  have hown:w.ownsMap P (ρ'.t 26) R r es.size (.map ((es.toList.map (Go.WideElems.rg P (ρ'.t 26) R)).foldr DataW.insert [])):=
   ⟨es,clk,hr,⟨by unfold maxLen;omega,hst,fun x hx=>by
    obtain⟨m,he,hm⟩:=hkey x hx
    exact⟨_,hrd x hx m he hm⟩⟩,Nat.le_refl _,rfl⟩
  have hlen:Maps.size (DataW.map ((es.toList.map (Go.WideElems.rg P (ρ'.t 26) R)).foldr DataW.insert []))=es.size:=by
   show((es.toList.map (Go.WideElems.rg P (ρ'.t 26) R)).foldr DataW.insert []).length=_
   rw[(Go.WideShapes.sorted_perm _).length_eq]
   simp
  have hper:(intKeys (DataW.map ((es.toList.map (Go.WideElems.rg P (ρ'.t 26) R)).foldr DataW.insert []))).Perm (ks.map Int.ofNat):=by
   show(((es.toList.map (Go.WideElems.rg P (ρ'.t 26) R)).foldr DataW.insert []).map fun p=>Go.intOf p.1).Perm _
   refine((Go.WideShapes.sorted_perm _).map _).trans ?_
   have e1:ks.map Int.ofNat=es.toList.map fun x=>QE x.key:=by
    have:(es.toList.map (·.key)).map QE=(ks.map zv).map QE:=by rw[hk]
    rw[List.map_map,List.map_map]at this
    exact this.symm
   have e2:(es.toList.map (Go.WideElems.rg P (ρ'.t 26) R)).map (fun p=>Go.intOf p.1)=es.toList.map fun x=>QE x.key:=by
    rw[List.map_map]
    refine List.map_congr_left fun x hx=>?_
    obtain⟨m,he,hm⟩:=hkey x hx
    show Go.intOf (Go.WideElems.rg P (ρ'.t 26) R x).1=QE x.key
    unfold Go.WideElems.rg
    rw[hrd x hx m he hm,he]
    rfl
   rw[e1,e2]
  have hseq:=AnyZI.keys_gives L' Fence.wide 2 trivial rfl (by omega) b r es.size _ w hb hc hown
  have cS:=AnyZI.sorted_in L Fence.wide 5 trivial trivial trivial trivial rfl (by omega) (hsort _) e9 (ρ'.f 10) #[.pointer (some ⟨b,0,none⟩)] trivial eg _ _ (by rw[hlen];unfold maxLen;omega) (by rw[hlen];omega) w hseq
  refine(callsIn_wide.1 cS).mono ?_
  rintro e w' ⟨v,ss,rfl,hS,hrow,hnil,hbl⟩
  have hp:ss.Perm (ks.map Int.ofNat):=hS.trans hper
  have hl:ss.length=ks.length:=by rw[hp.length_eq];simp
  refine⟨v,rfl,?_,hnil.trans ?_,hbl⟩
  ·have h1:ss.mergeSort leI=(ks.map Int.ofNat).mergeSort leI:=mergeSort_of_perm_i hp
   rw[← hl,← h1];exact hrow
  ·constructor
   ·rintro rfl
    simp only[List.length_nil]at hl
    exact List.eq_nil_of_length_eq_zero hl.symm
   ·rintro rfl
    exact List.eq_nil_of_length_eq_zero hl
section
variable {P:Program}{ty:TTy}{φ:Phi}{E:Nat→Prop}{h h':Hp}{w w':World}{v:Value}
theorem RelW.below(H:RelW ty φ E h w)(hb:Below w.heap.size w w'):RelW ty φ E h w'∧Evo φ h w φ h w':=
 ⟨{dom:=fun i p e=>⟨(H.dom i p e).1,Nat.lt_of_lt_of_le (H.dom i p e).2 hb.size⟩
   inj:=H.inj
   row:=fun i p e hE=>(by rw[hb.block _ (H.dom i p e).2];exact H.row i p e hE)
   fresh:=H.fresh
   kind:=H.kind
   inp:=H.inp},
  {le:=.refl _
   new:=fun _ _ e=>.inl e
   next:=Nat.le_refl _
   size:=hb.size
   tape:=hb.tape
   os:=hb.os
   output:=hb.output
   frame:=fun k hk _=>hb.block k hk
   back:=fun i p e hl _=>⟨i,p,e,hl,rfl,rfl,.inl rfl⟩
   kept:=fun _ _ _=>rfl
   low:=Nat.le_refl _
   high:=Nat.le_refl _
   shape:=fun _ _=>.refl _
   only:=fun _ _ _=>rfl
   all:=fun _ h1 h2=>absurd h2 (Nat.not_lt.2 h1)}⟩
theorem Ox{u u':Value}{m:Nat}(hn:M1 u=some m)(hr:RelV φ u u'):u'=zv m:=by
 unfold M1 at hn
 split at hn
 ·split at hn
  ·cases hn;cases hr;rfl
  ·cases hn
 ·cases hn
theorem LH{clk:Nat}:∀ {es:List Ent} {es':List MapEntry} {lo:Nat} {ks:List Nat},N5 clk es lo=some ks→RelE φ es es'→
  es'.map (·.key)=ks.map zv∧(∀ k∈ks,k<9223372036854775808)∧(∀ x∈es',lo≤x.born∧x.born<clk)∧(es'.map (·.born)).Nodup
 |[],es',lo,ks,hk,he=>by
  cases he
  cases hk
  exact⟨rfl,(fun k hk=>by cases hk),(fun x hx=>by cases hx),.nil⟩
 |e::es,es',lo,ks,hk,he=>by
  cases he with
  |@cons k k' v v' b _ l' hkey hv ht=>
  unfold N5 at hk
  split at hk
  case h_2=>cases hk
  rename_i m hm
  split at hk
  case h_2=>cases hk
  rename_i hb
  simp only[Bool.and_eq_true]at hb
  split at hk
  case h_2=>cases hk
  rename_i r hr
  cases hk
  obtain⟨h1,h2,h3,h4⟩:=LH hr ht
  have b1:lo≤b:=Ar.1 hb.2.1
  have b2:b<clk:=Aq.1 hb.2.2
  refine⟨?_,fun x hx=>?_,fun x hx=>?_,?_⟩
  ·simp only[List.map_cons,h1,Ox hm hkey]
  ·rcases List.mem_cons.1 hx with rfl|hx
   ·exact Aq.1 hb.1
   ·exact h2 x hx
  ·rcases List.mem_cons.1 hx with rfl|hx
   ·exact⟨b1,b2⟩
   ·have:=h3 x hx
    have h5:b+1≤x.born:=this.1
    exact⟨by omega,this.2⟩
  ·rw[List.map_cons,List.nodup_cons]
   refine⟨fun hx=>?_,h4⟩
   obtain⟨x,hx,he⟩:=List.mem_map.1 hx
   have h5:b+1≤x.born:=(h3 x hx).1
   have he:x.born=b:=he
   omega
theorem L3{Ks:List Nat}{t:Nat}{args:List Value}(hr:Hh Ks t args h=.ok v h'):∃ g a,args=[.func (.func g) ⟨[]⟩ ⟨[.pointer (some a)]⟩]∧memN g Ks=true∧KT t a h=.ok v h':=by
 unfold Hh at hr
 split at hr
 case h_2=>cases hr
 split at hr
 case h_2=>cases hr
 rename_i fn f c
 split at hr
 case h_2=>cases hr
 rename_i g
 split at hr
 case h_2=>cases hr
 rename_i hm
 split at hr
 case h_2=>cases hr
 rename_i hf
 split at hr
 case h_2=>cases hr
 rename_i p hc
 split at hr
 case h_2=>cases hr
 rename_i a
 refine⟨g,a,?_,hm,hr⟩
 have e1:f=⟨[]⟩:=Array.ext' hf
 have e2:c=⟨[.pointer (some a)]⟩:=Array.ext' hc
 rw[e1,e2]
theorem NK(H:RelW ty φ nil h w){t:Nat}{ti:TI}(hty:ty.get t=some ti)(hs:ti.size=1){ks:List Nat}(hk:Hi t h (C7 ks)=.ok v h')(hb:Below w.heap.size w w'){v':Value}
  (ho:w'.ownsRow w.heap.size t 1 v' ks.length (((ks.map Int.ofNat).mergeSort leI).map encZ))(hn:v'=.slice none 0 0↔ks=[]):
  ∃ ψ,RelV ψ v v'∧RelW ty ψ nil h' w'∧Evo φ h w ψ h' w':=by
 have hpl:=(EF ks).length_eq
 unfold Hi at hk
 split at hk
 ·rename_i he
  cases hk
  rw[he]at hpl
  have:ks=[]:=List.eq_nil_of_length_eq_zero hpl.symm
  rw[hn.2 this]
  exact⟨φ,.slice0,H.below hb⟩
 ·rename_i x l he
  split at hk
  case h_2=>cases hk
  rename_i hasc
  rw[← he]at hasc hk
  rw[As,A9,hpl]at hk
  have hpos:0<ks.length:=by rw[← hpl,he];simp
  rw[L2 hasc]at ho
  obtain⟨_,⟨_,h0⟩|⟨g,cap,cur,rfl,hg,hgb,hcap,_,hcs,htake⟩⟩:=ho
  ·omega
  unfold newRow at hk
  split at hk
  case h_2=>cases hk
  rename_i c hset
  unfold B1 at hk
  rw[As]at hk
  obtain⟨bl,hbl,hk'⟩:=Dk hk
  cases hk'
  have hlen:Bo ((C7 ks).map zv)=ks.length:=by rw[A9,List.length_map,hpl]
  rw[hlen]at hbl
  rw[Nat.mul_one]at hcs htake
  let p:Pl:={blk:=g,off:=0,sz:=ks.length,room:=cap,es:=1}
  have hsame:∀ k,k<w.heap.size→w'.heap[k]? =w.heap[k]?:=hb.block
  have hgl:g<w'.heap.size:=(Array.getElem?_eq_some_iff.1 hgb).1
  have hB:RelB ty (φ.put h.next p) p (.cells c ks.length (Nat.succ t)) w'.heap[p.blk]?:=by
   show RelB ty (φ.put h.next p) p (.cells c ks.length (Nat.succ t)) w'.heap[g]?
   rw[hgb]
   refine .cells {kind:=⟨rfl,.inr ⟨t,ti,rfl,hty,hs.symm⟩⟩,room:=hcap,fits:=(by show 0+cap≤cur.size;omega),loose:=.inl (.inl rfl),cell:=fun j hj=>?_}
   have hj2:j<((C7 ks).map zv).length:=by rw[List.length_map,hpl];exact hj
   have e1:=Ff hset j hj2
   rw[e1]
   refine⟨((C7 ks).map zv).getD j undef,?_,?_⟩
   ·show cur[0+j]? =_
    rw[Nat.zero_add,← Array.getElem?_toList]
    have e2:(cur.toList.take ks.length)[j]? =((C7 ks).map zv)[j]?:=by rw[htake]
    rw[List.getElem?_take,if_pos hj]at e2
    rw[e2,List.getD_eq_getElem?_getD,List.getElem?_eq_getElem hj2]
    rfl
   ·rw[List.getD_eq_getElem?_getD,List.getElem?_eq_getElem hj2]
    show RelV _ (((C7 ks).map zv)[j]) _
    rw[List.getElem_map]
    exact .int _ _
  refine⟨φ.put h.next p,?_,H.new hbl hb.size hgl (fun j q e _=>by have:=(H.dom j q e).2;show q.blk≠g;omega) (fun k hk _=>hsame k hk) hB,.made H hbl hg hb.size hsame hb.tape hb.os hb.output⟩
  refine .slice (Nat.le_refl _) ⟨rfl,rfl,p,Phi.put_self _ _ _,rfl,.inl ⟨hpos,rfl,.inr ⟨?_,hcap,?_⟩⟩⟩
  ·show 0+ks.length * 1=ks.length
   omega
  ·show 0+cap * 1≤cap
   omega
theorem L4{S t:Nat}{Ks:List Nat}{ti:TI}(hS:∃ fn,P.funcs[S]? =some fn∧fn.name≠"runtime.NumGoroutine" ∧fn.body.isNone=false)(hc:∀ K,memN K Ks=true→SortedSays P S K t)
  (hty:ty.get t=some ti)(hs:ti.size=1):ES P ty S (Nh Ks t):=fun F args h v h' _ hr=>⟨hS,fun φ w args' hrel H=>by
 have hr:Hh Ks t args h=.ok v h':=hr
 obtain⟨g,a,rfl,hg,hr⟩:=L3 hr
 obtain⟨cn,cm⟩:=hc g hg
 cases hrel with
 |cons hv hn=>
 cases hn
 cases hv with
 |func _ h1 h2=>
 cases h1
 cases h2 with
 |cons hp hn=>
 cases hn
 cases hp with
 |@ptr _ a' ha=>
 obtain⟨s1,s2,p,hp,hbl,ho⟩:=ha
 unfold KT at hr
 split at hr
 case h_2=>cases hr
 rename_i hq
 rw[Bool.and_eq_true]at hq
 have q1:=Ae.1 hq.1
 have q2:=Ar.1 hq.2
 split at hr
 case h_2=>cases hr
 rename_i c s e hrow
 split at hr
 case h_2=>cases hr
 rename_i hq3
 rw[Bool.and_eq_true]at hq3
 have q3:=Ae.1 hq3.1
 have q4:=Aq.1 hq3.2
 subst q3
 have hoff:p.off=0:=by
  rcases (H.kind a.block p c s 0 hp (Ba hrow)).2 with ⟨_,_,_,h0|h0⟩|⟨_,_,h0,_⟩
  ·exact h0
  ·have:=H.inp a.block p hp h0
   omega
  ·omega
 have ea:a'=⟨p.blk,0,none⟩:=by
  obtain⟨ab,ao,asp⟩:=a'
  simp only at s2 hbl ho
  subst s2;subst hbl
  congr 1
  omega
 subst ea
 obtain⟨cs,tt,fr,hw,R⟩:=H.rowAt hp (fun h=>h) hrow
 obtain⟨x,hx,hxr⟩:=R.cell 0 q4
 rw[hoff,Nat.zero_add]at hx
 have hcell:w.cell? ⟨p.blk,0,none⟩=some x:=by rw[Fp hw];exact hx
 have hpb:=(H.dom _ _ hp).2
 generalize c.get 0=y at hr hxr
 unfold OM at hr
 split at hr
 ·cases hxr
  cases hr
  refine(cn w p.blk hpb hcell).mono ?_
  rintro e w' ⟨rfl,hb⟩
  exact⟨_,φ,rfl,.slice0,H.below hb⟩
 ·rename_i r
  cases hxr with
  |map hq=>
  rename_i q
  split at hr
  case h_2=>cases hr
  rename_i es clk hes
  split at hr
  case h_2=>cases hr
  rename_i hsz
  split at hr
  case h_2=>cases hr
  rename_i ks hks
  obtain⟨es',hwm,hre⟩:=H.entsAt hq (fun h=>h) hes
  obtain⟨k1,k2,k3,k4⟩:=LH hks hre
  have hl:es'.length≤1000000:=by
   have:=Ar.1 hsz
   rw[A9]at this
   have e2:es'.length=es.length:=by
    clear hes hwm hks k1 k2 k3 k4 hsz this
    induction hre with
    |nil=>rfl
    |cons _ _ _ ih=>simp only[List.length_cons,ih]
   omega
  have hnd:ks.Nodup:=by
   have hasc:Oa (C7 ks)=true:=by
    cases he:C7 ks with
    |nil=>rfl
    |cons x l=>
     rw[he]at hr
     unfold Hi at hr
     split at hr
     ·rename_i e;cases e
     ·rename_i e
      cases e
      split at hr
      ·assumption
      ·cases hr
   have:=(GT hasc).imp fun {a b} (hab:a<b)=>Nat.ne_of_lt hab
   exact(EF ks).nodup_iff.1 this
  have hst:Stamped ⟨es'⟩ clk:=⟨fun x hx=>(k3 x hx).2,k4,by
   show(es'.map (·.key)).Nodup
   rw[k1]
   exact List.pairwise_map.2 (hnd.imp fun {a b} hab e=>hab (V0 e))⟩
  refine(cm w p.blk q.blk ⟨es'⟩ clk ks hpb hcell hwm hl hst k1 k2).mono ?_
  rintro e w' ⟨v',rfl,ho,hn,hb⟩
  obtain⟨ψ,r1,r2,r3⟩:=NK H hty hs hr hb ho hn
  exact⟨v',ψ,rfl,r1,r2,r3⟩
 ·cases hr⟩
end
end
end Go.Proofs.YtglkncnkbofgfaaGreat
set_option maxRecDepth 100000
namespace Go.Proofs.YtglkncnkbofgfaaGreat
noncomputable section
open Go Go.Proofs Go.RowKit Go.Maps Go.Sort Go.Shelf
def F7:Ren:=⟨fun| 7=>59| 10=>158|n=>n,fun| 23=>46| 26=>3| 3=>3| 28=>144| 0=>0| 27=>143| 33=>96| 4=>4|n=>n,fun n=>n⟩
theorem QH:SlLaysZI.n7 Tryz.prog F7 where
 mixed:=by kernel_rfl
 f7:=⟨Tryz.f59.name,by decide,Tryz.func59.trans (congrArg some (by kernel_rfl))⟩
 f10:=⟨Tryz.f158.name,by decide,Tryz.func158.trans (congrArg some (by kernel_rfl))⟩
 t0:=Tryz.underlying0
 a0:=Tryz.isAgg0
 z0:=Tryz.sizeOf0
 v0:=Tryz.zeroValue0
 t4:=Tryz.underlying4
 a4:=Tryz.isAgg4
 z4:=Tryz.sizeOf4
 v4:=Tryz.zeroValue4
 t23:=Tryz.underlying46
 a23:=Tryz.isAgg46
 z23:=Tryz.sizeOf46
 v23:=Tryz.zeroValue46
 t26:=Tryz.underlying3
 a26:=Tryz.isAgg3
 z26:=Tryz.sizeOf3
 v26:=Tryz.zeroValue3
 t27:=Tryz.underlying143
 a27:=Tryz.isAgg143
 z27:=Tryz.sizeOf143
 v27:=Tryz.zeroValue143
 t28:=Tryz.underlying144
 a28:=Tryz.isAgg144
 z28:=Tryz.sizeOf144
 v28:=Tryz.zeroValue144
 t33:=Tryz.underlying96
 a33:=Tryz.isAgg96
 z33:=Tryz.sizeOf96
 v33:=Tryz.zeroValue96
def F8:Ren:=⟨fun| 7=>454| 10=>534|n=>n,fun| 23=>147| 26=>3| 3=>326| 28=>144| 0=>0| 27=>143| 33=>96| 4=>4|n=>n,fun n=>n⟩
theorem QI:SlLaysZI.n7 Tryz.prog F8 where
 mixed:=by kernel_rfl
 f7:=⟨Tryz.f454.name,by decide,Tryz.func454.trans (congrArg some (by kernel_rfl))⟩
 f10:=⟨Tryz.f534.name,by decide,Tryz.func534.trans (congrArg some (by kernel_rfl))⟩
 t0:=Tryz.underlying0
 a0:=Tryz.isAgg0
 z0:=Tryz.sizeOf0
 v0:=Tryz.zeroValue0
 t4:=Tryz.underlying4
 a4:=Tryz.isAgg4
 z4:=Tryz.sizeOf4
 v4:=Tryz.zeroValue4
 t23:=Tryz.underlying147
 a23:=Tryz.isAgg147
 z23:=Tryz.sizeOf147
 v23:=Tryz.zeroValue147
 t26:=Tryz.underlying3
 a26:=Tryz.isAgg3
 z26:=Tryz.sizeOf3
 v26:=Tryz.zeroValue3
 t27:=Tryz.underlying143
 a27:=Tryz.isAgg143
 z27:=Tryz.sizeOf143
 v27:=Tryz.zeroValue143
 t28:=Tryz.underlying144
 a28:=Tryz.isAgg144
 z28:=Tryz.sizeOf144
 v28:=Tryz.zeroValue144
 t33:=Tryz.underlying96
 a33:=Tryz.isAgg96
 z33:=Tryz.sizeOf96
 v33:=Tryz.zeroValue96
def F9:Ren:=⟨fun| 7=>243| 10=>395|n=>n,fun| 23=>220| 26=>3| 3=>236| 28=>144| 0=>0| 27=>143| 33=>96| 4=>4|n=>n,fun n=>n⟩
theorem QJ:SlLaysZI.n7 Tryz.prog F9 where
 mixed:=by kernel_rfl
 f7:=⟨Tryz.f243.name,by decide,Tryz.func243.trans (congrArg some (by kernel_rfl))⟩
 f10:=⟨Tryz.f395.name,by decide,Tryz.func395.trans (congrArg some (by kernel_rfl))⟩
 t0:=Tryz.underlying0
 a0:=Tryz.isAgg0
 z0:=Tryz.sizeOf0
 v0:=Tryz.zeroValue0
 t4:=Tryz.underlying4
 a4:=Tryz.isAgg4
 z4:=Tryz.sizeOf4
 v4:=Tryz.zeroValue4
 t23:=Tryz.underlying220
 a23:=Tryz.isAgg220
 z23:=Tryz.sizeOf220
 v23:=Tryz.zeroValue220
 t26:=Tryz.underlying3
 a26:=Tryz.isAgg3
 z26:=Tryz.sizeOf3
 v26:=Tryz.zeroValue3
 t27:=Tryz.underlying143
 a27:=Tryz.isAgg143
 z27:=Tryz.sizeOf143
 v27:=Tryz.zeroValue143
 t28:=Tryz.underlying144
 a28:=Tryz.isAgg144
 z28:=Tryz.sizeOf144
 v28:=Tryz.zeroValue144
 t33:=Tryz.underlying96
 a33:=Tryz.isAgg96
 z33:=Tryz.sizeOf96
 v33:=Tryz.zeroValue96
def Bz:Ren:=⟨fun| 6=>58| 8=>156| 9=>157| 11=>272| 13=>274| 12=>273| 23=>419| 24=>420| 14=>410| 15=>411| 16=>412| 17=>413| 18=>414| 19=>415| 20=>416| 21=>417| 22=>418| 25=>510| 26=>511| 27=>512| 28=>513| 29=>514| 30=>515| 31=>573|n=>n,fun| 26=>3| 28=>144| 24=>43| 0=>0| 3=>3| 37=>276| 48=>60| 50=>102| 4=>4| 40=>544| 39=>543| 45=>90| 5=>5| 9=>9| 51=>633| 55=>242| 57=>683| 58=>684| 33=>96|n=>n,fun n=>n⟩
theorem Gj:SlLaysZI.n6 Tryz.prog Bz where
 mixed:=by kernel_rfl
 f6:=⟨Tryz.f58.name,by decide,Tryz.func58.trans (congrArg some (by kernel_rfl))⟩
 f8:=⟨Tryz.f156.name,by decide,Tryz.func156.trans (congrArg some (by kernel_rfl))⟩
 f11:=⟨Tryz.f272.name,by decide,Tryz.func272.trans (congrArg some (by kernel_rfl))⟩
 t0:=Tryz.underlying0
 a0:=Tryz.isAgg0
 z0:=Tryz.sizeOf0
 v0:=Tryz.zeroValue0
 t24:=Tryz.underlying43
 a24:=Tryz.isAgg43
 z24:=Tryz.sizeOf43
 v24:=Tryz.zeroValue43
 t26:=Tryz.underlying3
 a26:=Tryz.isAgg3
 z26:=Tryz.sizeOf3
 v26:=Tryz.zeroValue3
 t28:=Tryz.underlying144
 a28:=Tryz.isAgg144
 z28:=Tryz.sizeOf144
 v28:=Tryz.zeroValue144
 i26:=by kernel_rfl
def LK:Ren:=⟨fun| 5=>157| 8=>274| 7=>273| 19=>419| 20=>420| 10=>410| 11=>411| 12=>412| 13=>413| 14=>414| 15=>415| 16=>416| 17=>417| 18=>418| 30=>510| 31=>511| 32=>512| 33=>513| 34=>514| 35=>515| 40=>573|n=>n,fun| 23=>43| 25=>3| 3=>3| 32=>276| 22=>43| 0=>0| 44=>60| 46=>102| 4=>4| 36=>544| 35=>543| 41=>90| 5=>5| 9=>9| 53=>633| 57=>242| 63=>683| 64=>684|n=>n,fun n=>n⟩
theorem N7:SlLaysM.n5 Tryz.prog LK where
 mixed:=by kernel_rfl
 f5:=⟨Tryz.f157.name,by decide,Tryz.func157.trans (congrArg some (by kernel_rfl))⟩
 f7:=⟨Tryz.f273.name,by decide,Tryz.func273.trans (congrArg some (by kernel_rfl))⟩
 f8:=Tryz.func274.trans (congrArg some (by kernel_rfl))
 f10:=⟨Tryz.f410.name,by decide,Tryz.func410.trans (congrArg some (by kernel_rfl))⟩
 f11:=⟨Tryz.f411.name,by decide,Tryz.func411.trans (congrArg some (by kernel_rfl))⟩
 f12:=⟨Tryz.f412.name,by decide,Tryz.func412.trans (congrArg some (by kernel_rfl))⟩
 f13:=⟨Tryz.f413.name,by decide,Tryz.func413.trans (congrArg some (by kernel_rfl))⟩
 f14:=⟨Tryz.f414.name,by decide,Tryz.func414.trans (congrArg some (by kernel_rfl))⟩
 f15:=⟨Tryz.f415.name,by decide,Tryz.func415.trans (congrArg some (by kernel_rfl))⟩
 f16:=⟨Tryz.f416.name,by decide,Tryz.func416.trans (congrArg some (by kernel_rfl))⟩
 f17:=⟨Tryz.f417.name,by decide,Tryz.func417.trans (congrArg some (by kernel_rfl))⟩
 f18:=⟨Tryz.f418.name,by decide,Tryz.func418.trans (congrArg some (by kernel_rfl))⟩
 f19:=Tryz.func419.trans (congrArg some (by kernel_rfl))
 f20:=Tryz.func420.trans (congrArg some (by kernel_rfl))
 f30:=⟨Tryz.f510.name,by decide,Tryz.func510.trans (congrArg some (by kernel_rfl))⟩
 f31:=Tryz.func511.trans (congrArg some (by kernel_rfl))
 f32:=Tryz.func512.trans (congrArg some (by kernel_rfl))
 f33:=⟨Tryz.f513.name,by decide,Tryz.func513.trans (congrArg some (by kernel_rfl))⟩
 f34:=⟨Tryz.f514.name,by decide,Tryz.func514.trans (congrArg some (by kernel_rfl))⟩
 f35:=⟨Tryz.f515.name,by decide,Tryz.func515.trans (congrArg some (by kernel_rfl))⟩
 f40:=⟨Tryz.f573.name,by decide,Tryz.func573.trans (congrArg some (by kernel_rfl))⟩
 t0:=Tryz.underlying0
 a0:=Tryz.isAgg0
 z0:=Tryz.sizeOf0
 v0:=Tryz.zeroValue0
 t3:=Tryz.underlying3
 a3:=Tryz.isAgg3
 z3:=Tryz.sizeOf3
 v3:=Tryz.zeroValue3
 t4:=Tryz.underlying4
 a4:=Tryz.isAgg4
 z4:=Tryz.sizeOf4
 v4:=Tryz.zeroValue4
 t5:=Tryz.underlying5
 a5:=Tryz.isAgg5
 z5:=Tryz.sizeOf5
 v5:=Tryz.zeroValue5
 t9:=Tryz.underlying9
 a9:=Tryz.isAgg9
 z9:=Tryz.sizeOf9
 v9:=Tryz.zeroValue9
 t22:=Tryz.underlying43
 a22:=Tryz.isAgg43
 z22:=Tryz.sizeOf43
 v22:=Tryz.zeroValue43
 t23:=Tryz.underlying43
 a23:=Tryz.isAgg43
 z23:=Tryz.sizeOf43
 v23:=Tryz.zeroValue43
 t25:=Tryz.underlying3
 a25:=Tryz.isAgg3
 z25:=Tryz.sizeOf3
 v25:=Tryz.zeroValue3
 t32:=Tryz.underlying276
 a32:=Tryz.isAgg276
 z32:=Tryz.sizeOf276
 v32:=Tryz.zeroValue276
 t35:=Tryz.underlying543
 a35:=Tryz.isAgg543
 z35:=Tryz.sizeOf543
 v35:=Tryz.zeroValue543
 t36:=Tryz.underlying544
 a36:=Tryz.isAgg544
 z36:=Tryz.sizeOf544
 v36:=Tryz.zeroValue544
 t41:=Tryz.underlying90
 a41:=Tryz.isAgg90
 z41:=Tryz.sizeOf90
 v41:=Tryz.zeroValue90
 t44:=Tryz.underlying60
 a44:=Tryz.isAgg60
 z44:=Tryz.sizeOf60
 v44:=Tryz.zeroValue60
 t46:=Tryz.underlying102
 a46:=Tryz.isAgg102
 z46:=Tryz.sizeOf102
 v46:=Tryz.zeroValue102
 t53:=Tryz.underlying633
 a53:=Tryz.isAgg633
 z53:=Tryz.sizeOf633
 v53:=Tryz.zeroValue633
 t57:=Tryz.underlying242
 a57:=Tryz.isAgg242
 z57:=Tryz.sizeOf242
 v57:=Tryz.zeroValue242
 t63:=Tryz.underlying683
 a63:=Tryz.isAgg683
 z63:=Tryz.sizeOf683
 v63:=Tryz.zeroValue683
 t64:=Tryz.underlying684
 a64:=Tryz.isAgg684
 z64:=Tryz.sizeOf684
 v64:=Tryz.zeroValue684
theorem NL(m:Nat):AnyZI.SortsIn Tryz.prog Bz Fence.wide m:=
 ⟨fun blk off cap ss W hH hblk hsz=>callsIn_wide.2 (AnyM.slices_Sort_int N7 blk off cap ss W hH hblk hsz),
  fun p cap W=>callsIn_wide.2 (AnyM.slices_Sort_int_none N7 p cap W)⟩
theorem fK:SortedSays Tryz.prog 58 158 3:=Fh (ρ:=Bz) (ρ':=F7) Gj {QH with} NL (enters_of Tryz.func157 (by kernel_rfl) rfl) (enters_of Tryz.func158 (by kernel_rfl) rfl)
theorem fL:SortedSays Tryz.prog 58 534 3:=Fh (ρ:=Bz) (ρ':=F8) Gj {QI with} NL (enters_of Tryz.func157 (by kernel_rfl) rfl) (enters_of Tryz.func534 (by kernel_rfl) rfl)
theorem fM:SortedSays Tryz.prog 58 395 3:=Fh (ρ:=Bz) (ρ':=F9) Gj {QJ with} NL (enters_of Tryz.func157 (by kernel_rfl) rfl) (enters_of Tryz.func395 (by kernel_rfl) rfl)
theorem QU{a b:String}(h:(a == b)=false):a≠b:=by simpa using h
def bS:Body:=Nh [158,534,395] 3
theorem PR:ES Tryz.prog ty 58 bS:=L4 (ti:=ty3) ⟨Tryz.f58,Tryz.func58,QU (by kernel_rfl),rfl⟩ (fun K hK=>by
 have hK:=C0.1 hK
 simp only[List.mem_cons,List.not_mem_nil,or_false]at hK
 rcases hK with rfl|rfl|rfl
 ·exact fK
 ·exact fL
 ·exact fM) (by kernel_rfl) rfl
end
end Go.Proofs.YtglkncnkbofgfaaGreat
set_option linter.unusedSimpArgs false
set_option linter.unusedVariables false
namespace Go.Proofs.YtglkncnkbofgfaaGreat
noncomputable section
open Go
def Lj(K:KS)(x:Ent):List Ent→Bool
 |[]=>true
 |y::l=>match EM K x.key y.key with
  |some b=>bif b == Nat.beq x.born y.born then Lj K x l else false
  |none=>false
def Ll(K:KS)(es:List Ent):List Ent→Bool
 |[]=>true
 |x::l=>bif Lj K x es then Ll K es l else false
def Jc(a b:Value):Bool:=match a with
 |.int j x=>match b with
  |.int k y=>match C5 j k with
   |true=>iEq x y
   |false=>false
  |_=>false
 |_=>false
def J6:List Nat:=[2,3,4,5,6,8,9,11,12,13,14,15,16,17,18]
def CD(m f p:Value)(x:Ent):Env:=Env.set 10 (.tuple ⟨[x.key,x.val]⟩) (Env.set 7 p (BC (Cc e0 0 [m,f]) J6))
def Pr(K:KS)(body:C)(F:CallF)(m f p:Value)(n mark:Nat)(bl:BT):List Ent→Option (List Ent)
 |[]=>some []
 |x::l=>match body F (CD m f p x) {next:=n,low:=n,high:=0,mark:=mark,bl:=bl}with
  |.norm e1 h1=>bif Nat.ble n h1.low then(bif Jc (slotG 4 e1) x.key then(match slotG 16 e1 with
   |.bool d=>match Pr K body F m f p n mark bl l with
    |some r=>match d with
     |true=>some r
     |false=>some (x::r)
    |none=>none
   |_=>none)else none)else none
  |_=>none
def dM(K:KS)(body:C)(F:CallF)(r:Nat)(f:Value)(h:Hp)(es:List Ent)(c:Nat):R:=match h.bl.set h.next .dead with
 |some bl0=>match bl0.set r .dead with
  |some bld=>forceN (Nat.succ h.next) fun n=>match Pr K body F (.map (some r)) f (.pointer (some ⟨h.next,0,none⟩)) n h.mark bld es with
   |some es'=>Bv {next:=n,low:=h.low,high:=h.high,mark:=h.mark,bl:=bl0} r (.map es' c) DW
   |none=>.no
  |none=>.no
 |none=>.no
def Up(K:KS)(body:C)(F:CallF)(args:List Value)(h:Hp):R:=match args with
 |m::l=>match l with
  |f::l2=>match l2 with
   |[]=>match m with
    |.map (some r)=>match BG h r with
     |.ok es c=>bif Nat.ble 256 r then(bif Nat.blt r h.next then(bif CL c 0 es then(bif Ll K es es then dM K body F r f h es c else .no)else .no)else .no)else .no
     |.no=>.no
    |_=>.no
   |_::_=>.no
  |[]=>.no
 |[]=>.no
def dK(K:KS)(body:C):Body:=⟨[.x (Up K body)],cNo⟩
section
variable (mt ft kt vt bt:Nat)
def dN:List Oper:=[⟨some 6,.move (.tmp 0),mt,"maps.go:70",#[],none⟩,⟨some 7,.range mt (.tmp 6),0,"maps.go:70",#[⟨0,.data⟩],none⟩]
def dnx:Oper:=⟨some 8,.next (.tmp 7) false,0,"maps.go:70",#[],none⟩
def dmo:Oper:=⟨some 9,.extract (.tmp 8) 0,bt,"maps.go:70",#[⟨0,.data⟩],none⟩
def dent:Oper:=⟨some 10,.entry (.tmp 7),0,"maps.go:70",#[],none⟩
def dop2:List Oper:=[⟨some 11,.extract (.tmp 10) 0,kt,"maps.go:70",#[⟨0,.data⟩],none⟩,
 ⟨some 12,.extract (.tmp 10) 1,vt,"maps.go:70",#[⟨0,.data⟩,⟨4,.gcOnly .lateStores⟩],none⟩,
 ⟨some 5,.alloc vt,0,"maps.go:70",#[],none⟩,
 ⟨some 4,.assign (.tmp 11),kt,"maps.go:70",#[⟨1,.data⟩,⟨0,.phase⟩,⟨1,.phase⟩,⟨2,.textOnly .lateStores⟩,⟨3,.phase⟩],none⟩,
 ⟨none,.store vt (.tmp 5) (.tmp 12),0,"maps.go:70",#[⟨3,.data⟩,⟨2,.data⟩,⟨4,.chain⟩,⟨0,.phase⟩,⟨1,.phase⟩,⟨2,.phase⟩,⟨3,.phase⟩,⟨4,.phase⟩],none⟩]
def dop3:List Oper:=[⟨some 13,.move (.tmp 1),ft,"maps.go:71",#[],none⟩,⟨some 14,.move (.tmp 4),kt,"maps.go:71",#[],none⟩,⟨some 15,.load vt (.tmp 5),vt,"maps.go:71",#[],none⟩,
 ⟨some 16,.call ⟨.value (.tmp 13),#[.tmp 14,.tmp 15],#[kt,vt]⟩,bt,"maps.go:71",#[⟨0,.data⟩,⟨1,.data⟩,⟨2,.data⟩],none⟩]
def dop4:List Oper:=[⟨some 17,.move (.tmp 0),mt,"maps.go:72",#[],none⟩,⟨some 18,.move (.tmp 4),kt,"maps.go:72",#[],none⟩,
 ⟨none,.call ⟨.builtin .delete,#[.tmp 17,.tmp 18],#[mt,kt]⟩,0,"maps.go:72",#[⟨0,.data⟩,⟨1,.data⟩],none⟩]
def Pv:Code:=.seq (.region 3 (dop3 ft kt vt bt).toArray false) (.cond (.tmp 16) (.region 4 (dop4 mt kt).toArray false) .skip)
def JQ:Code:=.block 1 (.seq (.region 2 (dent::dop2 kt vt).toArray false) (Pv mt ft kt vt bt))
def JP:Code:=.seq (.region 1 #[dnx,dmo bt] false) (.seq (.cond (.tmp 9) .skip (.exit 0)) (JQ mt ft kt vt bt))
def delCode:Code:=.seq (.region 0 (dN mt).toArray false) (.block 0 (.loop (JP mt ft kt vt bt)))
end
theorem BT.set_any:∀ (t:BT) (i:Nat) (x y:Blk) (t':BT),t.set i x=some t'→∃ t'',t.set i y=some t''
 |.mt,0,x,y,t',h=>⟨_,rfl⟩
 |.mt,i+1,x,y,t',h=>by cases h
 |.nd v l r,0,x,y,t',h=>⟨_,rfl⟩
 |.nd v l r,i+1,x,y,t',h=>by
  rw[BT.set_nd_succ]at h ⊢
  split at h
  ·rename_i h0
   rw[if_pos h0]
   cases hs:l.set (i / 2) x with
   |none=>rw[hs]at h;cases h
   |some l'=>
    obtain⟨l2,hl2⟩:=BT.set_any l _ x y l' hs
    exact⟨_,by rw[hl2];rfl⟩
  ·rename_i h0
   rw[if_neg h0]
   cases hs:r.set (i / 2) x with
   |none=>rw[hs]at h;cases h
   |some r'=>
    obtain⟨r2,hr2⟩:=BT.set_any r _ x y r' hs
    exact⟨_,by rw[hr2];rfl⟩
theorem BT.again:∀ (t:BT) (i:Nat) (x y:Blk) (t':BT),t.set i x=some t'→∃ t'',t'.set i y=some t''
 |.mt,0,x,y,t',h=>by
  obtain rfl:BT.nd x .mt .mt=t':=Option.some.inj h
  exact⟨_,rfl⟩
 |.mt,i+1,x,y,t',h=>by cases h
 |.nd v l r,0,x,y,t',h=>by
  obtain rfl:BT.nd x l r=t':=Option.some.inj h
  exact⟨_,rfl⟩
 |.nd v l r,i+1,x,y,t',h=>by
  rw[BT.set_nd_succ]at h
  split at h
  ·rename_i h0
   cases hs:l.set (i / 2) x with
   |none=>rw[hs]at h;cases h
   |some l'=>
    rw[hs]at h
    obtain rfl:BT.nd v l' r=t':=Option.some.inj h
    obtain⟨l2,hl2⟩:=BT.again l _ x y l' hs
    exact⟨_,by rw[BT.set_nd_succ,if_pos h0,hl2];rfl⟩
  ·rename_i h0
   cases hs:r.set (i / 2) x with
   |none=>rw[hs]at h;cases h
   |some r'=>
    rw[hs]at h
    obtain rfl:BT.nd v l r'=t':=Option.some.inj h
    obtain⟨r2,hr2⟩:=BT.again r _ x y r' hs
    exact⟨_,by rw[BT.set_nd_succ,if_neg h0,hr2];rfl⟩
theorem Lk{K:KS}{x:Ent}:∀ {l:List Ent},Lj K x l=true→∀ y∈l,EM K x.key y.key=some (Nat.beq x.born y.born)
 |z::l,h,y,hy=>by
  unfold Lj at h
  split at h
  ·rename_i b hb
   obtain⟨h1,h2⟩:=Ai h
   rcases List.mem_cons.1 hy with rfl|hy
   ·rw[hb,eq_of_beq h1]
   ·exact Lk h2 y hy
  ·cases h
theorem Lm{K:KS}{es:List Ent}:∀ {l:List Ent},Ll K es l=true→∀ x∈l,Lj K x es=true
 |z::l,h,x,hx=>by
  unfold Ll at h
  obtain⟨h1,h2⟩:=Ai h
  rcases List.mem_cons.1 hx with rfl|hx
  ·exact h1
  ·exact Lm h2 x hx
theorem EB{clk:Nat}:∀ {es:List Ent} {lo:Nat},CL clk lo es=true→(es.map (·.born)).Nodup
 |[],_,_=>.nil
 |e::l,lo,h=>by
  unfold CL at h
  obtain⟨_,h⟩:=Ai h
  obtain⟨_,h⟩:=Ai h
  rw[List.map_cons,List.nodup_cons]
  refine⟨fun hm=>?_,EB h⟩
  obtain⟨y,hy,he⟩:=List.mem_map.1 hm
  have h1:e.born+1≤y.born:=(CZ h y hy).1
  have he:y.born=e.born:=he
  omega
theorem MX{a b:Nat}(h:a≠b):Nat.beq a b=false:=by
 cases hb:Nat.beq a b with
 |false=>rfl
 |true=>exact absurd (Ae.1 hb) h
theorem JM{K:KS}{x:Ent}:∀ {l:List Ent},(∀ y∈l,EM K x.key y.key=some (Nat.beq x.born y.born))→(l.map (·.born)).Nodup→Md K x.key l=some (l.filter fun y=> !Nat.beq x.born y.born)
 |[],_,_=>rfl
 |y::l,h,hn=>by
  rw[List.map_cons,List.nodup_cons]at hn
  unfold Md
  rw[h y List.mem_cons_self,List.filter_cons]
  cases hb:Nat.beq x.born y.born with
  |true=>
   have hxy:=Ae.1 hb
   have:l.filter (fun y=> !Nat.beq x.born y.born)=l:=List.filter_eq_self.2 fun z hz=>by
    have hne:x.born≠z.born:=fun he=>hn.1 (by rw[← hxy,he];exact List.mem_map_of_mem (f:=(·.born)) hz)
    rw[MX hne];rfl
   simp[this]
  |false=>
   have ih:=JM (fun y hy=>h y (List.mem_cons_of_mem _ hy)) hn.2
   rw[ih]
   simp
theorem QA{a b:Value}(h:Jc a b=true):∃ j n,a=.int j n∧b=.int j n:=by
 unfold Jc at h
 split at h
 ·split at h
  ·split at h
   ·rename_i hk
    rw[Ef]at h
    exact⟨_,_,rfl,by rw[CM hk,eq_of_beq h]⟩
   ·cases h
  ·cases h
 ·cases h
theorem Nm{K:KS}{body:C}{F:CallF}{m f p:Value}{n mark:Nat}{bl:BT}:∀ {es r:List Ent},(es.map (·.born)).Nodup→Pr K body F m f p n mark bl es=some r→
  ∃ d:Nat→Bool,r=es.filter (fun x=> !d x.born)∧∀ x∈es,∃ e1 h1,body F (CD m f p x) {next:=n,low:=n,high:=0,mark:=mark,bl:=bl}=.norm e1 h1∧n≤h1.low∧Jc (slotG 4 e1) x.key=true∧slotG 16 e1=.bool (d x.born)
 |[],r,_,hr=>by cases hr;exact⟨fun _=>false,rfl,fun x hx=>by cases hx⟩
 |x::l,r,hnd,hr=>by
  rw[List.map_cons,List.nodup_cons]at hnd
  unfold Pr at hr
  split at hr
  case h_2=>cases hr
  rename_i e1 h1 hb
  cases hl:Nat.ble n h1.low with
  |false=>rw[hl]at hr;cases hr
  |true=>
   rw[hl]at hr
   simp only[cond_true]at hr
   cases hi:Jc (slotG 4 e1) x.key with
   |false=>rw[hi]at hr;cases hr
   |true=>
    rw[hi]at hr
    simp only[cond_true]at hr
    split at hr
    case h_2=>cases hr
    rename_i dx hdx
    split at hr
    case h_2=>cases hr
    rename_i r' hr'
    obtain⟨d,hd,hall⟩:=Nm hnd.2 hr'
    have hne:∀ y∈l,y.born≠x.born:=fun y hy he=>hnd.1 (by rw[← he];exact List.mem_map_of_mem (f:=(·.born)) hy)
    refine⟨fun b=>if b=x.born then dx else d b,?_,fun y hy=>?_⟩
    ·have e2:l.filter (fun y=> !(if y.born=x.born then dx else d y.born))=r':=by
      rw[hd]
      refine List.filter_congr fun y hy=>?_
      rw[if_neg (hne y hy)]
     rw[List.filter_cons,e2]
     cases dx with
     |true=>cases hr;simp
     |false=>cases hr;simp
    ·rcases List.mem_cons.1 hy with rfl|hy
     ·exact⟨e1,h1,hb,Ar.1 hl,hi,by show _=Value.bool (if _=_ then _ else _);rw[if_pos rfl];exact hdx⟩
     ·obtain⟨e2,h2,q1,q2,q3,q4⟩:=hall y hy
      exact⟨e2,h2,q1,q2,q3,by show _=Value.bool (if _=_ then _ else _);rw[if_neg (hne y hy)];exact q4⟩
section
variable {P:Program}{ty:TTy}{φ ψ:Phi}{h g:Hp}{w w':World}
theorem RelW.keep(H:RelW ty φ nil h w)(hs:∀ i p,φ i=some p→p.blk<w'.heap.size∧(Live h i→w'.heap[p.blk]? =w.heap[p.blk]?)):RelW ty φ nil h w' where
 dom:=fun i p hp=>⟨(H.dom i p hp).1,(hs i p hp).1⟩
 inj:=H.inj
 row:=fun i p hp hE=>by
  by_cases hd:h.bl.get i=.dead
  ·rw[hd];exact .dead
  ·rw[(hs i p hp).2 hd];exact H.row i p hp hE
 fresh:=H.fresh
 kind:=H.kind
 inp:=H.inp
theorem RelW.less2(H:RelW ty φ nil h w)(hn:g.next=h.next)(hg:∀ i,g.bl.get i=.dead∨g.bl.get i=h.bl.get i):RelW ty φ nil g w where
 dom:=fun i p hp=>by rw[hn];exact H.dom i p hp
 inj:=fun i j p q hp hq _ _ hi hj hio hpq=>H.inj i j p q hp hq id id
  (fun hd=>(hg i).elim (fun h2=>hi h2) (fun h2=>hi (h2.trans hd))) (fun hd=>(hg j).elim (fun h2=>hj h2) (fun h2=>hj (h2.trans hd))) hio hpq
 row:=fun i p hp _=>by
  rcases hg i with h2|h2
  ·rw[h2];exact .dead
  ·rw[h2];exact H.row i p hp id
 fresh:=fun i hi=>by
  rcases hg i with h2|h2
  ·exact h2
  ·rw[h2];exact H.fresh i (hn ▸ hi)
 kind:=fun i p c s e hp hc=>by
  rcases hg i with h2|h2
  ·rw[h2]at hc;cases hc
  ·exact H.kind i p c s e hp (h2 ▸ hc)
 inp:=H.inp
theorem RelE.filter{p:Nat→Bool}:∀ {l:List Ent} {l':List MapEntry},RelE φ l l'→RelE φ (l.filter fun x=>p x.born) (l'.filter fun x=>p x.born)
 |_,_,.nil=>.nil
 |_,_,.cons (b:=b) hk hv t=>by
  rw[List.filter_cons,List.filter_cons]
  show RelE φ (if p b=true then _ else _) (if p b=true then _ else _)
  cases p b with
  |true=>exact .cons hk hv (RelE.filter t)
  |false=>exact RelE.filter t
theorem RelW.sub(H:RelW ty ψ nil h w)(hle:φ.Le ψ)(hb:∀ i p,φ i=some p→∃ p2 o2,RelB ty φ p2 (h.bl.get i) o2):RelW ty φ nil h w where
 dom:=fun i p hp=>H.dom i p (hle i p hp)
 inj:=fun i j p q hp hq=>H.inj i j p q (hle i p hp) (hle j q hq)
 row:=fun i p hp hE=>by
  obtain⟨p2,o2,h2⟩:=hb i p hp
  exact(H.row i p (hle i p hp) hE).cut (fun b p hp ⟨q,hq⟩=>by
   have:=hle b q hq
   rw[hp]at this;cases this
   exact hq) h2
 fresh:=H.fresh
 kind:=fun i p c s e hp=>H.kind i p c s e (hle i p hp)
 inp:=fun i p hp=>H.inp i p (hle i p hp)
theorem IC:∀ {l:List Ent} {x:Ent},(l.map (·.born)).Nodup→x∈l→EL x.born l=some x
 |y::l,x,hn,hx=>by
  rw[List.map_cons,List.nodup_cons]at hn
  unfold EL
  rcases List.mem_cons.1 hx with rfl|hx
  ·rw[Nat.beq_refl];rfl
  ·have hne:y.born≠x.born:=fun he=>hn.1 (by rw[he];exact List.mem_map_of_mem (f:=(·.born)) hx)
   rw[MX hne]
   exact IC hn.2 hx
end
structure DelIs (P:Program)(ty:TTy)(g mt ft kt vt bt:Nat)(K:KS)(body:C):Prop where
 fn:∃ fn,P.funcs[g]? =some fn∧fn.name≠"runtime.NumGoroutine" ∧fn.body=some (delCode mt ft kt vt bt)∧fn.results= #[]∧fn.ntmps=19
 map:∃ d,P.underlying mt=some (.map kt d)
 body:opsC ty [] (dent::dop2 kt vt) (fun σ=>codeC ty [] (.region 3 (dop3 ft kt vt bt).toArray false) σ none) [] (dop2 kt vt) []=body
 del:codeC ty [] (.region 4 (dop4 mt kt).toArray false) [] none=cOp (slotT 17) (oMove (slotG 0)) (cOp (slotT 18) (oMove (slotG 4)) (cDo (oDelete K (slotG 17) (slotG 18)) cNorm))
section
variable {P:Program}{ty:TTy}
structure Ds (ty:TTy)(φ:Phi)(w:World)(h0:Hp)(r qb ib c:Nat)(m f p:Value)(es:List Ent)(d:Nat→Bool)(seen:List Nat)(ak:Act)(wk:World):Prop where
 size:ak.tmps.size=19
 defs:ak.defers=[]
 s0:RelV φ m (ak.tmps.getD 0 undef)
 s1:RelV φ f (ak.tmps.getD 1 undef)
 s7:RelV φ p (ak.tmps.getD 7 undef)
 rel:∃ bl,h0.bl.set r (.map (es.filter fun x=> !(seen.contains x.born && d x.born)) c)=some bl∧RelW ty φ nil {next:=h0.next,low:=h0.next,high:=0,mark:=h0.mark,bl:=bl} wk
 iter:wk.heap[ib]? =some (.mapIter (some qb) c ⟨seen⟩ c)
 grow:w.heap.size≤wk.heap.size
 same:∀ j,j<w.heap.size→j≠qb→wk.heap[j]? =w.heap[j]?
 tape:wk.tape=w.tape
 os:wk.os=w.os
 output:wk.output=w.output
theorem Ds.put{φ:Phi}{w:World}{h0:Hp}{r qb ib c:Nat}{m f p:Value}{es:List Ent}{d:Nat→Bool}{seen:List Nat}{ak:Act}{wk:World}(D:Ds ty φ w h0 r qb ib c m f p es d seen ak wk){t:Nat}(ht:t≠0∧t≠1∧t≠7)(v:Value):Ds ty φ w h0 r qb ib c m f p es d seen (ak.put (some t) v) wk:=
 {D with
  size:=by rw[BJ];exact D.size
  defs:=by rw[BZ];exact D.defs
  s0:=by rw[BS,if_neg (fun h=>ht.1 (Option.some.inj h.1))];exact D.s0
  s1:=by rw[BS,if_neg (fun h=>ht.2.1 (Option.some.inj h.1))];exact D.s1
  s7:=by rw[BS,if_neg (fun h=>ht.2.2 (Option.some.inj h.1))];exact D.s7}
def ABt:Walk:=⟨7,8,9,0,[8,9,10,11,12,5,4,13,14,15,16,17,18],[]⟩
theorem Pt(mt ft kt vt bt:Nat):WalkIs [] (JP mt ft kt vt bt) ABt 1 dnx (dmo bt) (JQ mt ft kt vt bt) where
 code:=rfl
 op1:=rfl
 dst1:=rfl
 grd1:=rfl
 op2:=rfl
 dst2:=rfl
 grd2:=rfl
 ne:=by decide
 itA:=rfl
 nxA:=rfl
 moA:=rfl
 itL:=by decide
 nxL:=by decide
 moL:=by decide
 ws:=rfl
 itW:=by decide
 few:=by decide
 rs:=fun d hd=>by cases hd
theorem Be(m f p:Value)(x:Ent)(t:Nat)(ht:t<208):(CD m f p x).get t=if t=10 then .tuple ⟨[x.key,x.val]⟩else if t=7 then p else if t∈J6 then .chan none else if t=0 then m else if t=1 then f else noRes:=by
 unfold CD
 rw[Env.get_set _ _ _ _ (by decide) ht,Env.get_set _ _ _ _ (by decide) ht,CS _ _ _ (by decide) ht,Ir [m,f] e0 0 t (by simp) ht,Pw ht]
 by_cases h1:t=10
 ·rw[if_pos h1,if_pos h1]
 ·rw[if_neg h1,if_neg h1]
  by_cases h2:t=7
  ·rw[if_pos h2,if_pos h2]
  ·rw[if_neg h2,if_neg h2]
   by_cases h3:t∈J6
   ·rw[if_pos h3,if_pos h3]
   ·rw[if_neg h3,if_neg h3]
    by_cases h4:t=0
    ·subst h4;rfl
    ·rw[if_neg h4]
     by_cases h5:t=1
     ·subst h5;rfl
     ·rw[if_neg h5,if_neg (by simp only[List.length_cons,List.length_nil];omega)]
theorem JN{t:Nat}(h10:t≠10)(h7:t≠7)(hS:t∉J6)(h0:t≠0)(h1:t≠1):19≤t:=by
 rcases Nat.lt_or_ge t 19 with h|h
 ·exfalso
  have:t=0∨t=1∨t=2∨t=3∨t=4∨t=5∨t=6∨t=7∨t=8∨t=9∨t=10∨t=11∨t=12∨t=13∨t=14∨t=15∨t=16∨t=17∨t=18:=by omega
  rcases this with h|h|h|h|h|h|h|h|h|h|h|h|h|h|h|h|h|h|h<;>subst h<;>first|exact h10 rfl|exact h7 rfl|exact h0 rfl|exact h1 rfl|exact hS (by decide)
 ·exact h
theorem K6{ak:Act}(hs:ak.tmps.size=19){t:Nat}(h:19≤t):ak.tmps.getD t undef=undef:=by
 rw[Array.getD_eq_getD_getElem?,Array.getElem?_eq_none (by omega)];rfl
theorem Oh{w:World}{ib qb c:Nat}{seen:List Nat}{es:List MapEntry}{s:Nat}{x:MapEntry}(hw:w.heap[ib]? =some (.mapIter (some qb) c ⟨seen++[s]⟩ c))(hm:w.heap[qb]? =some (.map ⟨es⟩ c))(hf:es.find? (fun e=>e.born == s)=some x):
  (Instr.entry (.pointer (some ⟨ib,0,none⟩))).run P w=.ok (.tuple #[x.key,x.val]) w:=by
 have hback:(⟨seen++[s]⟩:Array Nat).back? =some s:=by simp[Array.back?_eq_getElem?]
 have hfind:(⟨es⟩:Array MapEntry).find? (fun e=>e.born == s)=some x:=by rw[← hf];simp
 simp only[Instr.entry,Sem.run_bind,A2 hw rfl,Result.andThen_ok,hback,A2 hm rfl,bne_self_eq_false,Bool.false_eq_true,if_false,hfind,Sem.run_pure]
theorem B9{t:BT}{i:Nat}{x:Blk}{t':BT}(h:t.set i x=some t'){j:Nat}(hj:j≠i):t'.get j=t.get j:=by rw[BT.get_set _ _ _ _ h,if_neg hj]
theorem Dn{t:BT}{i:Nat}{x:Blk}{t':BT}(h:t.set i x=some t'):t'.get i=x:=by rw[BT.get_set _ _ _ _ h,if_pos rfl]
theorem JO(hT:BN P ty){F:CallF}(hF:BM P ty F)(hm:P.follows .mixedOrders=true){g mt ft kt vt bt:Nat}{K:KS}{body:C}(D:DelIs P ty g mt ft kt vt bt K body)
  {φ:Phi}{w:World}{h0:Hp}{r c:Nat}{q pI:Pl}{m f p:Value}{es:List Ent}{d:Nat→Bool}{bld:BT}
  (hm0:m=.map (some r))(hq:φ r=some q)(hqw:q.blk<w.heap.size)(hdom:∀ i x,φ i=some x→i<h0.next∧(x.blk<w.heap.size∨(x=pI∧h0.bl.get i=.dead)))(hib:w.heap.size≤pI.blk)
  (hp:∀ ak:Act,RelV φ p (ak.tmps.getD 7 undef)→ak.eval (.tmp 7)=.pointer (some ⟨pI.blk,0,none⟩))(h256:256≤r)(hrn:r<h0.next)
  (hbld:h0.bl.set r .dead=some bld)(hris:CL c 0 es=true)(honl:Ll K es es=true)
  (hrounds:∀ x∈es,∃ e1 h1,body F (CD m f p x) {next:=h0.next,low:=h0.next,high:=0,mark:=h0.mark,bl:=bld}=.norm e1 h1∧h0.next≤h1.low∧Jc (slotG 4 e1) x.key=true∧slotG 16 e1=.bool (d x.born))
  {Q:Exit→Act→World→Prop}(hover:∀ seen ak wk,Ds ty φ w h0 r q.blk pI.blk c m f p es d seen ak wk→(∀ x∈es,x.born∈seen)→Q (.exit 0) ak wk)
  (K0:Act→World→Prop)(seen:List Nat)(ak:Act)(wk:World)(S:Ds ty φ w h0 r q.blk pI.blk c m f p es d seen ak wk)
  (hK:∀ x∈es,x.born∉seen→∀ a2 w2,Ds ty φ w h0 r q.blk pI.blk c m f p es d (seen++[x.born]) a2 w2→K0 a2 w2):
  (JP mt ft kt vt bt).wp P (Exit.then K0 Q) ak wk:=by
 obtain⟨bl,hbl,HR⟩:=S.rel
 generalize hesk:(es.filter fun x=> !(seen.contains x.born && d x.born))=esk at hbl
 have hsub:∀ x∈esk,x∈es:=fun x hx=>by rw[← hesk]at hx;exact(List.mem_filter.1 hx).1
 have hnd:(esk.map (·.born)).Nodup:=by
  rw[← hesk]
  exact(List.filter_sublist.map _).nodup (EB hris)
 have hents:BG ({next:=h0.next,low:=h0.next,high:=0,mark:=h0.mark,bl:=bl}:Hp) r=.ok esk c:=by
  show Rw (bl.get r)=_
  rw[Dn hbl];rfl
 obtain⟨es',hmk,hre⟩:=HR.entsAt hq (fun h=>h) hents
 have hborn:∀ x∈es',x.born<c:=fun x hx=>by
  obtain⟨y,hy,he⟩:=FG hre hx
  rw[← he];exact(CZ hris y (hsub y hy)).2
 have hibk:pI.blk<wk.heap.size:=(Array.getElem?_eq_some_iff.1 S.iter).1
 have hqi:q.blk≠pI.blk:=by omega
 show(Code.seq (.region 1 #[dnx,dmo bt] false) (.seq (.cond (.tmp 9) .skip (.exit 0)) (JQ mt ft kt vt bt))).wp P (Exit.then K0 Q) ak wk
 refine wp_seq (Gu (Pt mt ft kt vt bt) (pb:=pI.blk) (mb:=q.blk) (clk:=c) (seen:=seen) (es:=es') (hp ak S.s7) (by rw[S.size];decide) S.iter hmk hborn (fun hall=>?_) (fun x' hx' hns w1 e1 e2 e3 e4=>?_))
 ·show(Code.seq (.cond (.tmp 9) .skip (.exit 0)) (JQ mt ft kt vt bt)).wp P (Exit.then K0 Q) ((ak.put (some 8) (.tuple #[.bool false])).put (some 9) (.bool false)) wk
  refine wp_seq (wp_cond_false ?_ (wp_exit ?_))
  ·rw[Hf,if_pos ⟨rfl,by rw[BJ,S.size];decide⟩]
  ·refine hover seen _ wk ((S.put (by decide) _).put (by decide) _) fun x hx=>?_
   by_cases hs:x.born∈seen
   ·exact hs
   ·have hxk:x∈esk:=by
     rw[← hesk]
     refine List.mem_filter.2 ⟨hx,?_⟩
     have:seen.contains x.born=false:=by simpa using hs
     rw[this];rfl
    obtain⟨x',hx',he⟩:=GG hre hxk
    rw[← he];exact hall x' hx'
 ·show(Code.seq (.cond (.tmp 9) .skip (.exit 0)) (JQ mt ft kt vt bt)).wp P (Exit.then K0 Q) ((ak.put (some 8) (.tuple #[.bool true,x'.key,x'.val])).put (some 9) (.bool true)) w1
  obtain⟨x,hxk,hxb⟩:=FG hre hx'
  have hxe:=hsub x hxk
  have S1:=(S.put (t:=8) (by decide) (.tuple #[.bool true,x'.key,x'.val])).put (t:=9) (by decide) (.bool true)
  generalize hag:(ak.put (some 8) (.tuple #[.bool true,x'.key,x'.val])).put (some 9) (.bool true)=a1 at S1
  have ht9:a1.eval (.tmp 9)=.bool true:=by rw[← hag,Hf,if_pos ⟨rfl,by rw[BJ,S.size];decide⟩]
  have hws1:w1.heap.size=wk.heap.size:=by rw[e1];simp
  have hit1:w1.heap[pI.blk]? =some (.mapIter (some q.blk) c ⟨seen++[x'.born]⟩ c):=by
   rw[e1,Array.getElem?_setIfInBounds,if_pos rfl,if_pos hibk]
  have hoth1:∀ j,j≠pI.blk→w1.heap[j]? =wk.heap[j]?:=fun j hj=>by rw[e1,Array.getElem?_setIfInBounds,if_neg (Ne.symm hj)]
  have blk_ne:∀ i pl,φ i=some pl→h0.bl.get i≠.dead→pl.blk<w.heap.size:=fun i pl hi hl=>((hdom i pl hi).2).resolve_right fun h=>hl h.2
  have live0:∀ (l:List Ent) (b:BT),h0.bl.set r (.map l c)=some b→∀ i,i≠r→b.get i=h0.bl.get i:=fun l b hb i hi=>B9 hb hi
  have keepTo:∀ (lo hi mk:Nat) (wn:World),w1.heap.size≤wn.heap.size→(∀ j,j<w.heap.size→wn.heap[j]? =wk.heap[j]?)→RelW ty φ nil {next:=h0.next,low:=lo,high:=hi,mark:=mk,bl:=bl} wn:=fun lo hi mk wn hs hj=>
   RelW.of_bl (HR.keep (w':=wn) fun i pl hi=>⟨Nat.lt_of_lt_of_le (HR.dom i pl hi).2 (by omega),fun hl=>by
    have hl:bl.get i≠.dead:=hl
    by_cases hir:i=r
    ·subst hir;rw[hq]at hi;cases hi;exact hj _ hqw
    ·rw[live0 _ _ hbl i hir]at hl;exact hj _ (blk_ne i pl hi hl)⟩) rfl rfl
  have HR1:=keepTo h0.next 0 h0.mark w1 (Nat.le_refl _) fun j hj=>hoth1 j (by omega)
  refine wp_seq (wp_cond_true ht9 (wp_skip ?_))
  show(JQ mt ft kt vt bt).wp P (Exit.then K0 Q) a1 w1
  refine wp_block (wp_seq (wp_region_list ?_))
  have hmk1:w1.heap[q.blk]? =some (.map ⟨es'⟩ c):=by rw[hoth1 _ hqi];exact hmk
  obtain⟨x2,hf2,hkr,hvr⟩:=IB hre (IC hnd hxk)
  have hrun1:=Oh (P:=P) hit1 hmk1 (by rw[← hxb];exact hf2)
  have hx1:execOp a1.eval dent=(do pure (.value (← Instr.entry (a1.eval (.tmp 7))))):=rfl
  generalize hQ2:(Exit.then ((Pv mt ft kt vt bt).wp P (Exit.inBlock 1 (Exit.then K0 Q))) (Exit.inBlock 1 (Exit.then K0 Q)))=Q2
  have hgoal:wpList P (dent::dop2 kt vt).toArray Q2 (dop2 kt vt) (a1.put (some 10) (.tuple #[x2.key,x2.val])) w1→wpList P (dent::dop2 kt vt).toArray Q2 (dent::dop2 kt vt) a1 w1:=fun h=>by
   rw[show wpList P (dent::dop2 kt vt).toArray Q2 (dent::dop2 kt vt) a1 w1=(if Region.wanted dent (yielded (dent::dop2 kt vt).toArray a1.tmps)then dent.wp P a1 w1 (wpList P (dent::dop2 kt vt).toArray Q2 (dop2 kt vt)) Q2∨(dent.asks P a1 w1∧LetsOut Q2)else wpList P (dent::dop2 kt vt).toArray Q2 (dop2 kt vt) (a1.put dent.dst undef) w1)from rfl]
   rw[if_pos (Ct rfl _)]
   refine .inl ?_
   unfold Oper.wp
   rw[hx1,hp a1 S1.s7,Sem.run_bind,hrun1,Result.andThen_ok,Sem.run_pure,Oper.upon_value]
   exact h
  refine hgoal ?_
  have S2:=S1.put (t:=10) (by decide) (.tuple #[x2.key,x2.val])
  have h10:(a1.put (some 10) (.tuple #[x2.key,x2.val])).tmps.getD 10 undef=.tuple #[x2.key,x2.val]:=by
   rw[BS,if_pos ⟨rfl,by rw[S1.size];decide⟩]
  generalize (a1.put (some 10) (.tuple #[x2.key,x2.val]))=a2 at S2 h10
  obtain⟨e5,h5,hb5,hlow,h4,h16⟩:=hrounds x hxe
  rw[← D.body]at hb5
  let Hb:Hp:={next:=h0.next,low:=h0.next,high:=0,mark:=h0.mark,bl:=bld}
  have HRb:RelW ty φ nil Hb w1:=HR1.less2 rfl fun i=>by
   by_cases hir:i=r
   ·left;show bld.get i=_;rw[hir];exact Dn hbld
   ·right;show bld.get i=bl.get i;rw[B9 hbld hir,B9 hbl hir]
  have HAb:AR 19 φ (rhoOf [] [] (CD m f p x)) a2:=BR.2 ⟨S2.size,S2.defs,fun t ht _=>by
   rw[Be _ _ _ _ t ht]
   by_cases q1:t=10
   ·rw[if_pos q1,q1,h10];exact .tuple (.cons hkr (.cons hvr .nil))
   ·rw[if_neg q1]
    by_cases q2:t=7
    ·rw[if_pos q2,q2];exact S2.s7
    ·rw[if_neg q2]
     by_cases q3:t∈J6
     ·rw[if_pos q3];exact .unk
     ·rw[if_neg q3]
      by_cases q4:t=0
      ·rw[if_pos q4,q4];exact S2.s0
      ·rw[if_neg q4]
       by_cases q5:t=1
       ·rw[if_pos q5,q5];exact S2.s1
       ·rw[if_neg q5,K6 S2.size (JN q1 q2 q3 q4 q5)]
        exact .tuple .nil⟩
  have hkeep:BD J6 body:=by
   rw[← D.body]
   refine E9 (fun σ=>BF _ (fun y hy=>?_) (fun _ h=>by cases h)) _ _ _ (fun o ho y hy=>?_)
   ·have hy:y∈[13,14,15,16]:=hy
    simp only[List.mem_cons,List.not_mem_nil,or_false]at hy
    rcases hy with rfl|rfl|rfl|rfl<;>decide
   ·have:=H7 hy _ ho
    have hy:y∈[11,12,5,4]:=this
    simp only[List.mem_cons,List.not_mem_nil,or_false]at hy
    rcases hy with rfl|rfl|rfl|rfl<;>decide
  have hag5:Ag J6 (CD m f p x) e5:=by
   have:=hkeep F (CD m f p x) Hb
   rw[← D.body,hb5]at this;exact this
  obtain⟨ρ,HH,V,run,T,σ',e',tr,q1,q2,q3,q4,q5⟩:=Hc hT hF (dop2 kt vt) [] [] (CD m f p x) Hb _ (fun j o _=>.plain ty o) (.nil []) hb5 (fun h=>by cases h)
  have hN2:∀ o∈dop2 kt vt,∀ y,o.dst=some y→y<19:=fun o ho y hy=>by
   have:=H7 hy _ ho
   have hy:y∈[11,12,5,4]:=this
   simp only[List.mem_cons,List.not_mem_nil,or_false]at hy
   rcases hy with rfl|rfl|rfl|rfl<;>decide
  refine Hl (Q:=Q2) (φ:=φ) (dop2 kt vt) tr hN2 (by rw[q2];exact HRb) (by rw[q1];exact HAb) fun _ ψ a3 w3 r1 r2 r3=>?_
  rw[← hQ2]
  show(Pv mt ft kt vt bt).wp P (Exit.inBlock 1 (Exit.then K0 Q)) a3 w3
  rw[q3]at r2
  refine wp_seq (Bh hT hF hm (.region 3 (dop3 ft kt vt bt).toArray false) q5 (fun h=>by cases h) rfl ψ w3 a3 q4 r1 r2 _ {go:=(fun _ h=>by cases h),norm:=fun _ e6 h6 χ a4 w4 g hx=>?_,exit:=(fun _ _ _ _ _ _ _ hx=>by cases hx),ret:=(fun _ _ _ _ _ _ hx=>by cases hx)})
  cases hx
  rw[q2]at r3
  have evo:Evo φ Hb w1 χ h5 w4:=r3.trans g.evo
  obtain⟨g1,g2,g3⟩:=BR.1 g.ar
  have hfr:∀ j,j<w1.heap.size→w4.heap[j]? =w1.heap[j]?:=fun j hj=>evo.frame j hj fun i pl hi _ hl _ _=>by
   have:=(hdom i pl hi).1
   omega
  have hcut:∀ {v v' v'':Value},RelV χ v v'→RelV φ v v''→RelV φ v v':=fun {v v' v''} h1 h2=>RelV.cut (χ:=φ) (fun b pl hb ⟨y,hy⟩=>by
   have:=evo.le b y hy
   rw[hb]at this;cases this
   exact hy) h1 h2
  have at5:∀ t,t<208→t∉J6→RelV χ ((CD m f p x).get t) (a4.tmps.getD t undef):=fun t ht hS=>by rw[← hag5 t ht hS];exact g3 t ht rfl
  have c0:RelV φ m (a4.tmps.getD 0 undef):=hcut (by have:=at5 0 (by decide) (by decide);rw[Be _ _ _ _ 0 (by decide)]at this;exact this) S2.s0
  have c1:RelV φ f (a4.tmps.getD 1 undef):=hcut (by have:=at5 1 (by decide) (by decide);rw[Be _ _ _ _ 1 (by decide)]at this;exact this) S2.s1
  have c7:RelV φ p (a4.tmps.getD 7 undef):=hcut (by have:=at5 7 (by decide) (by decide);rw[Be _ _ _ _ 7 (by decide)]at this;exact this) S2.s7
  have hw4:w1.heap.size≤w4.heap.size:=evo.size
  have hold:∀ j,j<w.heap.size→w4.heap[j]? =wk.heap[j]?:=fun j hj=>by rw[hfr j (by have:=S.grow;omega),hoth1 j (by omega)]
  have HR4:=keepTo h0.next 0 h0.mark w4 hw4 hold
  have hit4:w4.heap[pI.blk]? =some (.mapIter (some q.blk) c ⟨seen++[x'.born]⟩ c):=by rw[hfr _ (by omega)];exact hit1
  have h16r:=g3 16 (by decide) rfl
  rw[← A8 16 (by decide),h16]at h16r
  have hev16:a4.eval (.tmp 16)=.bool (d x.born):=h16r.bool_inv
  have hnx:x.born∉seen:=by rw[hxb];exact hns
  have same4:∀ j,j<w.heap.size→j≠q.blk→w4.heap[j]? =w.heap[j]?:=fun j hj hjq=>by rw[hold j hj];exact S.same j hj hjq
  cases hdx:d x.born with
  |false=>
   rw[hdx]at hev16
   refine wp_cond_false hev16 (wp_skip ?_)
   show K0 a4 w4
   refine hK x hxe hnx a4 w4 {size:=g1,defs:=g2,s0:=c0,s1:=c1,s7:=c7,rel:=⟨bl,?_,HR4⟩,iter:=by rw[hxb];exact hit4,grow:=by have:=S.grow;omega,same:=same4,tape:=evo.tape.trans (e2.trans S.tape),os:=evo.os.trans (e3.trans S.os),output:=evo.output.trans (e4.trans S.output)}
   have e9:(es.filter fun y=> !((seen++[x.born]).contains y.born && d y.born))=esk:=by
    rw[← hesk]
    refine List.filter_congr fun y hy=>?_
    by_cases hyx:y.born=x.born
    ·rw[hyx,hdx];simp
    ·have:(seen++[x.born]).contains y.born=seen.contains y.born:=by simp[hyx]
     rw[this]
   rw[e9];exact hbl
  |true=>
   rw[hdx]at hev16
   refine wp_cond_true hev16 ?_
   obtain⟨j4,n4,i1,i2⟩:=QA h4
   have hkey4:RelV φ x.key (a4.tmps.getD 4 undef):=by
    have:=g3 4 (by decide) rfl
    rw[← A8 4 (by decide),i1]at this
    rw[i2]
    generalize a4.tmps.getD 4 undef=v4 at this
    cases this
    exact .int _ _
   let eT:Env:=Env.set 4 x.key (Env.set 10 (.chan none) (CD m f p x))
   have hTg:∀ t,t<208→eT.get t=if t=4 then x.key else if t=10 then .chan none else(CD m f p x).get t:=fun t ht=>by
    show(Env.set 4 x.key (Env.set 10 (.chan none) (CD m f p x))).get t=_
    rw[Env.get_set _ _ _ _ (by decide) ht,Env.get_set _ _ _ _ (by decide) ht]
   have HAT:AR 19 φ (rhoOf [] [] eT) a4:=BR.2 ⟨g1,g2,fun t ht _=>by
    rw[hTg t ht]
    by_cases q1:t=4
    ·rw[if_pos q1,q1];exact hkey4
    ·rw[if_neg q1]
     by_cases q2:t=10
     ·rw[if_pos q2];exact .unk
     ·rw[if_neg q2,Be _ _ _ _ t ht,if_neg q2]
      by_cases q3:t=7
      ·rw[if_pos q3,q3];exact c7
      ·rw[if_neg q3]
       by_cases q4:t∈J6
       ·rw[if_pos q4];exact .unk
       ·rw[if_neg q4]
        by_cases q5:t=0
        ·rw[if_pos q5,q5];exact c0
        ·rw[if_neg q5]
         by_cases q6:t=1
         ·rw[if_pos q6,q6];exact c1
         ·rw[if_neg q6,K6 g1 (JN q2 q3 q4 q5 q6)]
          exact .tuple .nil⟩
   have honx:=Lk (Lm honl x hxe)
   have hfit:Cy K x.key=true:=by
    have:=honx x hxe
    unfold EM at this
    cases hf:Cy K x.key with
    |true=>rfl
    |false=>rw[hf]at this;cases this
   have hde:Md K x.key esk=some (esk.filter fun y=> !Nat.beq x.born y.born):=JM (fun y hy=>honx y (hsub y hy)) hnd
   obtain⟨bl2,hbl2⟩:=BT.again h0.bl r _ (.map (esk.filter fun y=> !Nat.beq x.born y.born) c) bl hbl
   let HD:Hp:={next:=h0.next,low:=h0.next,high:=0,mark:=h0.mark,bl:=bl}
   let HD2:Hp:={next:=h0.next,low:=A3 h0.next r,high:=BH 0 r,mark:=h0.mark,bl:=bl2}
   have t0:slotG 0 eT=m:=by rw[A8 0 (by decide),hTg 0 (by decide),if_neg (by decide),if_neg (by decide),Be _ _ _ _ 0 (by decide)];rfl
   let eU:Env:=Env.set 18 x.key (Env.set 17 m eT)
   have hrun4:codeC ty [] (.region 4 (dop4 mt kt).toArray false) [] none F eT HD=.norm eU HD2:=by
    rw[D.del]
    have f1:oMove (slotG 0) F eT HD=.ok m HD:=by
     show moveR (slotG 0 eT) HD=_
     rw[C1,t0]
    rw[J2 f1,CO 17 (by decide)]
    have f2:oMove (slotG 4) F (Env.set 17 m eT) HD=.ok x.key HD:=by
     show moveR (slotG 4 (Env.set 17 m eT)) HD=_
     rw[C1,A8 4 (by decide),Env.get_set _ _ _ _ (by decide) (by decide),if_neg (by decide),hTg 4 (by decide),if_pos rfl]
    rw[J2 f2,CO 18 (by decide)]
    have g17:slotG 17 eU=.map (some r):=by
     rw[A8 17 (by decide),Env.get_set _ _ _ _ (by decide) (by decide),if_neg (by decide),Env.get_set _ _ _ _ (by decide) (by decide),if_pos rfl,hm0]
    have g18:slotG 18 eU=x.key:=by
     rw[A8 18 (by decide),Env.get_set _ _ _ _ (by decide) (by decide),if_pos rfl]
    have f3:oDelete K (slotG 17) (slotG 18) F eU HD=.ok noRes HD2:=by
     show HV K (slotG 17 eU) (slotG 18 eU) HD=_
     rw[g17,g18]
     unfold HV
     rw[hfit]
     simp only
     rw[hents]
     simp only
     rw[hde]
     simp only
     unfold Bv
     rw[Ar.2 h256,cond_true]
     show(match bl.set r _ with|some bl=>_|none=>R.no)=_
     rw[hbl2]
     simp only[As]
     rfl
    show cDo (oDelete K (slotG 17) (slotG 18)) cNorm F eU HD=_
    unfold cDo
    rw[f3]
    rfl
   refine Bh hT hF hm (.region 4 (dop4 mt kt).toArray false) hrun4 (fun h=>by cases h) rfl φ w4 a4 (.nil []) HR4 HAT _ {go:=(fun _ h=>by cases h),norm:=fun _ e7 h7 ψ4 a5 w5 g' hx=>?_,exit:=(fun _ _ _ _ _ _ _ hx=>by cases hx),ret:=(fun _ _ _ _ _ _ hx=>by cases hx)}
   cases hx
   show K0 a5 w5
   obtain⟨k1,k2,k3⟩:=BR.1 g'.ar
   have hcut2:∀ {v v' v'':Value},RelV ψ4 v v'→RelV φ v v''→RelV φ v v':=fun {v v' v''} h1 h2=>RelV.cut (χ:=φ) (fun b pl hb ⟨y,hy⟩=>by
    have:=g'.evo.le b y hy
    rw[hb]at this;cases this
    exact hy) h1 h2
   have eUg:∀ t,t<208→t≠17→t≠18→t≠4→t≠10→eU.get t=(CD m f p x).get t:=fun t ht h1 h2 h3 h4=>by
    show(Env.set 18 x.key (Env.set 17 m eT)).get t=_
    rw[Env.get_set _ _ _ _ (by decide) ht,if_neg h2,Env.get_set _ _ _ _ (by decide) ht,if_neg h1,hTg t ht,if_neg h3,if_neg h4]
   have hfr5:∀ j,j<w4.heap.size→j≠q.blk→w5.heap[j]? =w4.heap[j]?:=fun j hj hjq=>g'.evo.frame j hj fun i pl hi _ hl hh _ hb=>by
    have hl:A3 h0.next r≤i:=hl
    have hh:i≤BH 0 r:=hh
    rw[A0]at hl
    rw[A6]at hh
    have:i=r:=by omega
    subst this
    rw[hq]at hi;cases hi
    exact hjq hb.symm
   obtain⟨bl3,hbl3⟩:=BT.set_any h0.bl r .dead (.map (es.filter fun y=> !((seen++[x.born]).contains y.born && d y.born)) c) bld hbld
   have e9:(es.filter fun y=> !((seen++[x.born]).contains y.born && d y.born))=esk.filter fun y=> !Nat.beq x.born y.born:=by
    rw[← hesk,List.filter_filter]
    refine List.filter_congr fun y hy=>?_
    by_cases hyx:y.born=x.born
    ·rw[hyx,hdx,Nat.beq_refl];simp
    ·have h1:(seen++[x.born]).contains y.born=seen.contains y.born:=by simp[hyx]
     rw[h1,MX (fun h=>hyx h.symm)];simp
   have HS:RelW ty φ nil HD2 w5:=g'.rel.sub g'.evo.le fun i pl hi=>by
    by_cases hir:i=r
    ·subst hir
     refine⟨pl,some (.map ⟨es'.filter fun y=> !Nat.beq x.born y.born⟩ c),?_⟩
     show RelB ty φ pl (bl2.get i) _
     rw[Dn hbl2]
     exact .map (RelE.filter (p:=fun b=> !Nat.beq x.born b) hre)
    ·refine⟨pl,w4.heap[pl.blk]?,?_⟩
     show RelB ty φ pl (bl2.get i) _
     rw[B9 hbl2 hir]
     exact HR4.row i pl hi (fun h=>h)
   refine hK x hxe hnx a5 w5 {size:=k1,defs:=k2,s0:=?_,s1:=?_,s7:=?_,rel:=⟨bl3,hbl3,HS.less2 rfl fun i=>.inr ?_⟩,iter:=?_,grow:=?_,same:=fun j hj hjq=>?_,tape:=g'.evo.tape.trans (evo.tape.trans (e2.trans S.tape)),os:=g'.evo.os.trans (evo.os.trans (e3.trans S.os)),output:=g'.evo.output.trans (evo.output.trans (e4.trans S.output))}
   ·have:=k3 0 (by decide) rfl
    rw[eUg 0 (by decide) (by decide) (by decide) (by decide) (by decide),Be _ _ _ _ 0 (by decide)]at this
    exact hcut2 this c0
   ·have:=k3 1 (by decide) rfl
    rw[eUg 1 (by decide) (by decide) (by decide) (by decide) (by decide),Be _ _ _ _ 1 (by decide)]at this
    exact hcut2 this c1
   ·have:=k3 7 (by decide) rfl
    rw[eUg 7 (by decide) (by decide) (by decide) (by decide) (by decide),Be _ _ _ _ 7 (by decide)]at this
    exact hcut2 this c7
   ·show bl3.get i=bl2.get i
    by_cases hir:i=r
    ·rw[hir,Dn hbl3,Dn hbl2,e9]
    ·rw[B9 hbl3 hir,B9 hbl2 hir,B9 hbl hir]
   ·rw[hfr5 _ (by omega) (Ne.symm hqi),hxb];exact hit4
   ·have:=S.grow
    have:=g'.evo.size
    omega
   ·rw[hfr5 j (by have:=S.grow;omega) hjq];exact same4 j hj hjq
theorem H9{p q:Ent→Bool}(h:∀ x,p x=true→q x=true):∀ l:List Ent,(l.filter p).length≤(l.filter q).length
 |[]=>Nat.le_refl _
 |x::l=>by
  have ih:=H9 h l
  rw[List.filter_cons,List.filter_cons]
  cases hp:p x with
  |true=>rw[h x hp];simpa using ih
  |false=>
   cases q x with
   |true=>simp;omega
   |false=>simpa using ih
theorem IA{p q:Ent→Bool}(h:∀ x,p x=true→q x=true){y:Ent}(hq:q y=true)(hp:p y=false):∀ {l:List Ent},y∈l→(l.filter p).length+1≤(l.filter q).length
 |x::l,hm=>by
  rw[List.filter_cons,List.filter_cons]
  rcases List.mem_cons.1 hm with rfl|hm
  ·rw[hq,hp]
   have:=H9 h l
   simp;omega
  ·have ih:=IA h hq hp hm
   cases hx:p x with
   |true=>rw[h x hx];simpa using ih
   |false=>
    cases q x with
    |true=>simp;omega
    |false=>simpa using ih
theorem Ps(hT:BN P ty)(hm:P.follows .mixedOrders=true){g mt ft kt vt bt:Nat}{K:KS}{body:C}(D:DelIs P ty g mt ft kt vt bt K body):ES P ty g (dK K body):=fun F args h v h' hF hr=>by
 obtain⟨fn,hfn,hname,hbody,hres,hnt⟩:=D.fn
 refine⟨⟨fn,hfn,hname,by rw[hbody];rfl⟩,fun φ w args' hrel H=>?_⟩
 have hr:Up K body F args h=.ok v h':=hr
 cases hrel with
 |nil=>cases hr
 |@cons m m' l l' hmr t=>
 cases t with
 |nil=>cases hr
 |@cons f f' l2 l2' hfr t=>
 cases t with
 |cons _ _=>cases hr
 |nil=>
 unfold Up at hr
 simp only at hr
 cases hmr<;>first|(cases hr;done)|skip
 rename_i r q hq _
 simp only at hr
 cases hents:BG h r with
 |no=>rw[hents]at hr;cases hr
 |ok es c=>
 rw[hents]at hr
 simp only at hr
 obtain⟨h256,hr⟩:=Aw hr
 obtain⟨hrn,hr⟩:=Aw hr
 obtain⟨hris,hr⟩:=Aw hr
 obtain⟨honl,hr⟩:=Aw hr
 have h256:=Ar.1 h256
 have hrn:=Aq.1 hrn
 unfold dM at hr
 cases hb0:h.bl.set h.next .dead with
 |none=>rw[hb0]at hr;cases hr
 |some bl0=>
 rw[hb0]at hr
 simp only at hr
 cases hbd:bl0.set r .dead with
 |none=>rw[hbd]at hr;cases hr
 |some bld=>
 rw[hbd]at hr
 simp only[As]at hr
 cases hdr:Pr K body F (.map (some r)) f (.pointer (some ⟨h.next,0,none⟩)) (Nat.succ h.next) h.mark bld es with
 |none=>rw[hdr]at hr;cases hr
 |some es2=>
 rw[hdr]at hr
 simp only at hr
 obtain⟨bl2,_,hbl2,hk⟩:=CY hr
 cases hk
 obtain⟨d,hes2,hrounds⟩:=Nm (EB hris) hdr
 obtain⟨es',hwm,hre⟩:=H.entsAt hq (fun h=>h) hents
 have hqw:=(H.dom r q hq).2
 let h0:Hp:={next:=Nat.succ h.next,low:=h.low,high:=h.high,mark:=h.mark,bl:=bl0}
 let pI:Pl:={blk:=w.heap.size,off:=0,sz:=0,room:=0,es:=1}
 let φ0:Phi:=φ.put h.next pI
 let w0:World:={w with heap:=w.heap.push (.mapIter (some q.blk) c ⟨[]⟩ c)}
 have hs0:w0.heap.size=w.heap.size+1:=by simp[w0]
 have hsame0:∀ k,k<w.heap.size→w0.heap[k]? =w.heap[k]?:=fun k hk=>by
  show(w.heap.push _)[k]? =_
  rw[Array.getElem?_push_lt hk,Array.getElem?_eq_getElem hk]
 have hit0:w0.heap[w.heap.size]? =some (.mapIter (some q.blk) c ⟨[]⟩ c):=by show(w.heap.push _)[w.heap.size]? =_;simp
 have hb0g:∀ i,bl0.get i=if i=h.next then .dead else h.bl.get i:=fun i=>BT.get_set _ _ _ _ hb0 i
 have HN:RelW ty φ0 nil h0 w0:=H.new hb0 (by omega) (by show w.heap.size<_;omega) (fun j x e _=>by have:=(H.dom j x e).2;show _≠w.heap.size;omega) (fun k hk _=>hsame0 k hk) (by
  show RelB ty φ0 pI .dead _
  exact .dead)
 have hq0:φ0 r=some q:=Phi.put_le H.none_next r q hq
 have hdom0:∀ i x,φ0 i=some x→i<h0.next∧(x.blk<w.heap.size∨(x=pI∧h0.bl.get i=.dead)):=fun i x hx=>by
  rcases Phi.put_cases hx with ⟨rfl,rfl⟩|⟨_,hx⟩
  ·exact⟨Nat.lt_succ_self _,.inr ⟨rfl,by show bl0.get _=_;rw[hb0g,if_pos rfl]⟩⟩
  ·exact⟨Nat.lt_succ_of_lt (H.dom i x hx).1,.inl (H.dom i x hx).2⟩
 have hp0:∀ ak:Act,RelV φ0 (.pointer (some ⟨h.next,0,none⟩)) (ak.tmps.getD 7 undef)→ak.eval (.tmp 7)=.pointer (some ⟨pI.blk,0,none⟩):=fun ak h1=>by
  obtain⟨a2,ha2,hr2⟩:=h1.ptr_inv
  obtain⟨p2,hp2,rfl⟩:=hr2.eq
  have hps:φ0 h.next=some pI:=Phi.put_self _ _ _
  have hp2:φ0 h.next=some p2:=hp2
  rw[hps]at hp2;cases hp2
  exact ha2
 refine calls_of_wp hfn hbody ?_
 rw[hnt]
 let a0:Act:={tmps:=(⟨[.map (some q.blk),f']⟩:Array Value)++Array.replicate 17 undef,defers:=[]}
 show(Code.seq (.region 0 (dN mt).toArray false) (.block 0 (.loop (JP mt ft kt vt bt)))).wp P (bodyPost P fn _) a0 w
 have ha0:a0.tmps.size=19:=by simp[a0]
 have ht0:a0.tmps.getD 0 undef=.map (some q.blk):=by simp[a0]
 have ht1:a0.tmps.getD 1 undef=f':=by simp[a0]
 have hd0:a0.defers=[]:=rfl
 clear_value a0
 generalize hQ:(bodyPost P fn fun en w'=>∃ v' ψ,en=.returned v'∧RelV ψ noRes v'∧RelW ty ψ nil {next:=Nat.succ h.next,low:=A3 h.low r,high:=BH h.high r,mark:=h.mark,bl:=bl2} w'∧Evo φ h w ψ {next:=Nat.succ h.next,low:=A3 h.low r,high:=BH h.high r,mark:=h.mark,bl:=bl2} w')=Q0
 refine wp_seq (wp_region_list ?_)
 obtain⟨dt,hdt⟩:=D.map
 have hrange:(Instr.range mt (.map (some q.blk))).run P w=.ok (.pointer (some ⟨w.heap.size,0,none⟩)) w0:=by
  simp only[Instr.range,Sem.run_bind,run_underlying hdt,Result.andThen_ok,A2 hwm rfl,Sem.run_pure,run_newObj]
  rfl
 have one:∀ (all:Array Oper) (o:Oper) (rest:List Oper) (a:Act) (w1:World) (Q:Exit→Act→World→Prop),o.guard=none→o.wp P a w1 (wpList P all Q rest) Q→wpList P all Q (o::rest) a w1:=fun all o rest a w1 Q hg h=>by
  rw[show wpList P all Q (o::rest) a w1=(if Region.wanted o (yielded all a.tmps)then o.wp P a w1 (wpList P all Q rest) Q∨(o.asks P a w1∧LetsOut Q)else wpList P all Q rest (a.put o.dst undef) w1)from rfl]
  rw[if_pos (Ct hg _)]
  exact .inl h
 have e0:a0.eval (.tmp 0)=.map (some q.blk):=(show ∀ a:Act,a.eval (.tmp 0)=a.tmps.getD 0 undef from fun _=>rfl) a0 |>.trans ht0
 refine one _ _ _ _ _ _ rfl ?_
 unfold Oper.wp
 rw[show execOp a0.eval ⟨some 6,.move (.tmp 0),mt,"maps.go:70",#[],none⟩=pure (.value (a0.eval (.tmp 0)))from rfl,Sem.run_pure,Oper.upon_value]
 refine one _ _ _ _ _ _ rfl ?_
 unfold Oper.wp
 have h6:(a0.put (some 6) (a0.eval (.tmp 0))).eval (.tmp 6)=.map (some q.blk):=by rw[Hf,if_pos ⟨rfl,by rw[ha0];decide⟩,e0]
 rw[show execOp (a0.put (some 6) (a0.eval (.tmp 0))).eval ⟨some 7,.range mt (.tmp 6),0,"maps.go:70",#[⟨0,.data⟩],none⟩=(do pure (.value (← Instr.range mt ((a0.put (some 6) (a0.eval (.tmp 0))).eval (.tmp 6)))))from rfl]
 rw[h6,Sem.run_bind,hrange,Result.andThen_ok,Sem.run_pure,Oper.upon_value]
 show(Code.block 0 (.loop (JP mt ft kt vt bt))).wp P Q0 ((a0.put (some 6) (a0.eval (.tmp 0))).put (some 7) (.pointer (some ⟨w.heap.size,0,none⟩))) w0
 have S0:Ds ty φ0 w h0 r q.blk pI.blk c (.map (some r)) f (.pointer (some ⟨h.next,0,none⟩)) es d [] ((a0.put (some 6) (a0.eval (.tmp 0))).put (some 7) (.pointer (some ⟨w.heap.size,0,none⟩))) w0:=by
  have e1:(es.filter fun x=> !(([]:List Nat).contains x.born && d x.born))=es:=List.filter_eq_self.2 fun x _=>rfl
  obtain⟨blS,hblS⟩:=BT.set_any bl0 r .dead (.map es c) bld hbd
  refine {size:=by rw[BJ,BJ];exact ha0,defs:=by rw[BZ,BZ,hd0],s0:=?_,s1:=?_,s7:=?_,rel:=⟨blS,by rw[e1];exact hblS,?_⟩,iter:=hit0,grow:=by omega,same:=fun j hj _=>hsame0 j hj,tape:=rfl,os:=rfl,output:=rfl}
  ·rw[BS,if_neg (fun h=>by cases h.1),BS,if_neg (fun h=>by cases h.1)]
   rw[ht0]
   exact .map hq0
  ·rw[BS,if_neg (fun h=>by cases h.1),BS,if_neg (fun h=>by cases h.1)]
   rw[ht1]
   exact hfr.mono (Phi.put_le H.none_next)
  ·rw[BS,if_pos ⟨rfl,by rw[BJ,ha0];decide⟩]
   exact He (p:=pI) (Phi.put_self _ _ _) rfl
  ·refine HN.less2 rfl fun i=>.inr ?_
   show blS.get i=bl0.get i
   by_cases hir:i=r
   ·rw[hir,Dn hblS,hb0g,if_neg (by omega)]
    exact(CE hents).symm
   ·rw[B9 hblS hir]
 have hover:∀ seen ak wk,Ds ty φ0 w h0 r q.blk pI.blk c (.map (some r)) f (.pointer (some ⟨h.next,0,none⟩)) es d seen ak wk→(∀ x∈es,x.born∈seen)→Exit.inBlock 0 Q0 (.exit 0) ak wk:=fun seen ak wk S hall=>by
  show(if(0:Nat)=0 then Q0 .normal ak wk else Q0 (.exit 0) ak wk)
  rw[if_pos rfl,← hQ]
  obtain⟨bl,hbl,HR⟩:=S.rel
  have e1:(es.filter fun x=> !(seen.contains x.born && d x.born))=es2:=by
   rw[hes2]
   refine List.filter_congr fun x hx=>?_
   have:seen.contains x.born=true:=by simpa using hall x hx
   rw[this];rfl
  rw[e1]at hbl
  have hbl:bl0.set r (.map es2 c)=some bl:=hbl
  rw[hbl2]at hbl
  cases hbl
  have hres2:(Go.results fn ak.tmps).run P wk=.ok noRes wk:=by
   rw[Io,hres]
   simp
   rfl
  have hbg:∀ i,bl2.get i=if i=r then .map es2 c else if i=h.next then .dead else h.bl.get i:=fun i=>by
   rw[BT.get_set _ _ _ _ hbl2,hb0g]
  have hrl:h.bl.get r=.map es c:=CE hents
  refine⟨S.defs,noRes,hres2,noRes,φ0,rfl,.tuple .nil,HR.of_bl rfl rfl,?_⟩
  exact {
   le:=Phi.put_le H.none_next
   new:=fun i x hx=>by
    rcases Phi.put_cases hx with ⟨rfl,rfl⟩|⟨_,hx⟩
    ·exact .inr (Nat.le_refl _)
    ·exact .inl hx
   next:=Nat.le_succ _
   size:=S.grow
   tape:=S.tape
   os:=S.os
   output:=S.output
   frame:=fun j hj hf=>S.same j hj fun hjq=>by
    cases hin:q.inp with
    |true=>have:=H.inp r q hq hin;omega
    |false=>exact hf r q hq hin (by show A3 _ _≤_;rw[A0];exact Nat.min_le_right _ _) (by show _≤BH _ _;rw[A6];exact Nat.le_max_right _ _) (by unfold Live;rw[hrl];intro h;cases h) hjq.symm
   back:=fun i x hx hl hlt=>by
    rcases Phi.put_cases hx with ⟨rfl,rfl⟩|⟨hne,hx⟩
    ·exact absurd hlt (Nat.lt_irrefl _)
    ·refine⟨i,x,hx,?_,rfl,rfl,.inl rfl⟩
     have hl:bl2.get i≠.dead:=hl
     intro hd
     rw[hbg]at hl
     by_cases hir:i=r
     ·have hd:h.bl.get i=.dead:=hd
      rw[hir,hrl]at hd;cases hd
     ·rw[if_neg hir,if_neg hne]at hl
      exact hl hd
   kept:=fun i hi hio=>by
    show bl2.get i=_
    have hio:i<A3 h.low r∨BH h.high r<i:=hio
    rw[A0,A6]at hio
    rw[hbg,if_neg (by omega),if_neg (by omega)]
   low:=by show A3 _ _≤_;rw[A0];exact Nat.min_le_left _ _
   high:=by show _≤BH _ _;rw[A6];exact Nat.le_max_left _ _
   shape:=fun i hi=>by
    show ShapeLe _ (bl2.get i)
    rw[hbg]
    by_cases hir:i=r
    ·rw[if_pos hir,hir,hrl];exact .inr trivial
    ·rw[if_neg hir,if_neg (by omega)];exact .refl _
   only:=fun i hi h1=>by
    show bl2.get i=_
    rw[hbg,if_neg (fun e=>by rw[e,hq]at h1;cases h1),if_neg (by omega)]
   all:=fun i h1 h2=>⟨pI,by
    have h2:i<h.next+1:=h2
    have:i=h.next:=by omega
    rw[this];exact Phi.put_self _ _ _⟩}
 have main:∀ (n:Nat) (seen:List Nat) (ak:Act) (wk:World),(es.filter fun x=> !seen.contains x.born).length≤n→Ds ty φ0 w h0 r q.blk pI.blk c (.map (some r)) f (.pointer (some ⟨h.next,0,none⟩)) es d seen ak wk→
   Code.rounds P (JP mt ft kt vt bt) (Exit.inBlock 0 Q0) (n+1) ak wk:=by
  intro n
  induction n with
  |zero=>
   intro seen ak wk hcnt S
   refine JO hT hF hm D rfl hq0 hqw hdom0 (Nat.le_refl _) hp0 h256 (Nat.lt_succ_of_lt hrn) hbd hris honl hrounds hover _ seen ak wk S fun x hx hns a2 w2 _=>?_
   exfalso
   have:x∈es.filter (fun x=> !seen.contains x.born):=List.mem_filter.2 ⟨hx,by simpa using hns⟩
   have:=List.length_pos_of_mem this
   omega
  |succ n ih=>
   intro seen ak wk hcnt S
   refine JO hT hF hm D rfl hq0 hqw hdom0 (Nat.le_refl _) hp0 h256 (Nat.lt_succ_of_lt hrn) hbd hris honl hrounds hover _ seen ak wk S fun x hx hns a2 w2 S2=>ih _ a2 w2 ?_ S2
   have:=IA (p:=fun y=> !(seen++[x.born]).contains y.born) (q:=fun y=> !seen.contains y.born) (fun y h=>by
    simp only[Bool.not_eq_true',List.contains_eq_mem,decide_eq_false_iff_not]at h ⊢
    exact fun h2=>h (List.mem_append_left _ h2)) (by simpa using hns) (by simp) hx
   omega
 exact wp_block (wp_loop_rounds (es.length+1) (main es.length [] _ w0 (List.length_filter_le _ _) S0))
end
end
noncomputable section
open Go
def Ti:C:=opsC ty [] (dent::dop2 3 233) (fun σ=>codeC ty [] (.region 3 (dop3 271 3 233 4).toArray false) σ none) [] (dop2 3 233) []
def bD:Body:=dK ⟨false,[.i .i64]⟩ Ti
theorem QS{a b:String}(h:(a == b)=false):a≠b:=by simpa using h
theorem dL:DelIs Tryz.prog ty 149 221 271 3 233 4 ⟨false,[.i .i64]⟩ Ti where
 fn:=⟨Tryz.f149,Tryz.func149,QS (by kernel_rfl),by kernel_rfl,by kernel_rfl,by kernel_rfl⟩
 map:=⟨_,Tryz.underlying221⟩
 body:=rfl
 del:=by kernel_rfl
theorem Uq(hT:BN Tryz.prog ty):ES Tryz.prog ty 149 bD:=Ps hT (by kernel_rfl) dL
end
noncomputable section
open Go
section
variable {F:CallF}{e:Env}{h h':Hp}{x y:O}
structure Hp.Wf (h:Hp):Prop where
 big:256≤h.next
 has:∀ i,i<h.next→h.bl.has i
 fresh:∀ i,h.next≤i→h.bl.get i=.dead
def Hp.push(h:Hp)(o:Blk):Hp:={next:=Nat.succ h.next,low:=h.low,high:=h.high,mark:=h.mark,bl:=h.bl.lay h.next o}
def Hp.put(h:Hp)(b:Nat)(o:Blk):Hp:={next:=h.next,low:=A3 h.low b,high:=BH h.high b,mark:=h.mark,bl:=h.bl.lay b o}
theorem PJ(W:h.Wf){b:Nat}(h256:256≤b)(hb:b<h.next){o:Blk}{K:Hp→R}:Bv h b o K=K (h.put b o):=by
 unfold Bv
 rw[BT.lay_is fun j hj=>W.has j (Nat.lt_trans hj hb),Ar.2 h256]
 simp only[As];rfl
theorem Hp.Wf.push_get(W:h.Wf)(o:Blk)(i:Nat):(h.push o).bl.get i=if i=h.next then o else h.bl.get i:=BT.lay_get (fun j hj=>W.has j hj) i
theorem Hp.Wf.put_get(W:h.Wf){b:Nat}(hb:b<h.next)(o:Blk)(i:Nat):(h.put b o).bl.get i=if i=b then o else h.bl.get i:=BT.lay_get (fun j hj=>W.has j (Nat.lt_trans hj hb)) i
theorem Hp.Wf.push(W:h.Wf)(o:Blk):(h.push o).Wf where
 big:=Nat.le_succ_of_le W.big
 has:=fun i hi=>BT.lay_has (fun j hj=>W.has j hj) i (by
  have hi:i<h.next+1:=hi
  rcases Nat.lt_or_ge i h.next with h1|h1
  ·exact .inr (W.has i h1)
  ·exact .inl (by omega))
 fresh:=fun i hi=>by
  have hi:h.next+1≤i:=hi
  rw[W.push_get o i,if_neg (by omega)]
  exact W.fresh i (by omega)
theorem Hp.Wf.put(W:h.Wf){b:Nat}(hb:b<h.next)(o:Blk):(h.put b o).Wf where
 big:=W.big
 has:=fun i hi=>BT.lay_has (fun j hj=>W.has j (Nat.lt_trans hj hb)) i (.inr (W.has i hi))
 fresh:=fun i hi=>by
  have hi:h.next≤i:=hi
  rw[W.put_get hb o i,if_neg (by omega)]
  exact W.fresh i hi
structure Hp.Ext (h h':Hp):Prop where
 next:h.next≤h'.next
 get:∀ i,i<h.next→h'.bl.get i=h.bl.get i
 low:min h.low h.next≤h'.low
 wf:h'.Wf
theorem Hp.Ext.refl(W:h.Wf):h.Ext h:=⟨Nat.le_refl _,fun _ _=>rfl,Nat.min_le_left _ _,W⟩
theorem Hp.Ext.trans{h₁ h₂ h₃:Hp}(a:h₁.Ext h₂)(b:h₂.Ext h₃):h₁.Ext h₃ where
 next:=Nat.le_trans a.next b.next
 get:=fun i hi=>by rw[b.get i (Nat.lt_of_lt_of_le hi a.next),a.get i hi]
 low:=by have:=a.low;have:=b.low;have:=a.next;omega
 wf:=b.wf
theorem Hp.Ext.push(a:h.Ext h')(o:Blk):h.Ext (h'.push o) where
 next:=Nat.le_succ_of_le a.next
 get:=fun i hi=>by rw[a.wf.push_get,if_neg (by have:=a.next;omega),a.get i hi]
 low:=a.low
 wf:=a.wf.push o
theorem Hp.Ext.put(a:h.Ext h'){b:Nat}(h1:h.next≤b)(hb:b<h'.next)(o:Blk):h.Ext (h'.put b o) where
 next:=a.next
 get:=fun i hi=>by rw[a.wf.put_get hb,if_neg (by omega),a.get i hi]
 low:=by
  show _≤A3 h'.low b
  rw[A0]
  have:=a.low;omega
 wf:=a.wf.put hb o
def VT.Is(t:VT)(l:List Value):Prop:=∀ i,i<l.length→t.has i∧t.get i=l.getD i noRes
theorem Gr:∀ (vs:List Value) (t:VT) (l:List Value) (i:Nat),t.Is l→i+vs.length≤l.length∨i=l.length→∃ t',BX t i vs=some t'∧t'.Is (l.take i++vs++l.drop (i+vs.length))
 |[],t,l,i,ht,hi=>⟨t,rfl,by simpa using ht⟩
 |v::vs,t,l,i,ht,hi=>by
  have hi':i≤l.length:=by simp only[List.length_cons]at hi;omega
  have hh:∀ j,j<i→t.has j:=fun j hj=>(ht j (by omega)).1
  have h1:(t.lay i v).Is (l.take i++[v]++l.drop (i+1)):=fun j hj=>by
   have hl:(l.take i).length=i:=by simp;omega
   refine⟨VT.lay_has hh j ?_,?_⟩
   ·by_cases hji:j=i
    ·exact .inl hji
    ·right
     refine(ht j ?_).1
     simp only[List.length_append,List.length_cons,List.length_nil,List.length_drop,List.length_take]at hj
     omega
   ·rw[VT.lay_get hh]
    by_cases hji:j=i
    ·rw[if_pos hji,hji,List.getD_eq_getElem?_getD,List.append_assoc,List.getElem?_append_right (by omega)]
     simp[hl]
    ·rw[if_neg hji]
     have hjl:j<l.length:=by
      simp only[List.length_append,List.length_cons,List.length_nil,List.length_drop,List.length_take]at hj
      omega
     rw[(ht j hjl).2,List.getD_eq_getElem?_getD,List.getD_eq_getElem?_getD]
     congr 1
     rcases Nat.lt_or_ge j i with h2|h2
     ·rw[List.append_assoc,List.getElem?_append_left (by omega),List.getElem?_take,if_pos h2]
     ·rw[List.getElem?_append_right (by simp only[List.length_append,hl,List.length_cons,List.length_nil];omega),List.getElem?_drop]
      congr 1
      simp only[List.length_append,hl,List.length_cons,List.length_nil];omega
  have hlen:(l.take i++[v]++l.drop (i+1)).length=max l.length (i+1):=by
   simp only[List.length_append,List.length_cons,List.length_nil,List.length_drop,List.length_take];omega
  obtain⟨t',h2,h3⟩:=Gr vs (t.lay i v) _ (i+1) h1 (by simp only[List.length_cons]at hi;omega)
  refine⟨t',?_,?_⟩
  ·show(match t.set i v with|some t'=>BX t' (Nat.succ i) vs|none=>none)=_
   rw[VT.lay_is hh];exact h2
  ·have e:(l.take i++[v]++l.drop (i+1)).take (i+1)++vs++(l.take i++[v]++l.drop (i+1)).drop (i+1+vs.length)=l.take i++(v::vs)++l.drop (i+(v::vs).length):=by
    have hl:(l.take i++[v]).length=i+1:=by simp;omega
    rw[List.take_left' hl]
    have e2:i+1+vs.length=(l.take i++[v]).length+vs.length:=by rw[hl]
    rw[e2,List.drop_length_add_append,List.drop_drop]
    have e3:i+1+vs.length=i+(v::vs).length:=by simp only[List.length_cons];omega
    rw[e3];simp
   rw[e]at h3;exact h3
theorem ew:VT.mt.Is []:=fun i h=>by cases h
def ofL(l:List Value):VT:=(BX .mt 0 l).getD .mt
theorem Qz(l:List Value):BX .mt 0 l=some (ofL l)∧(ofL l).Is l:=by
 obtain⟨t',h1,h2⟩:=Gr l .mt [] 0 ew (.inr rfl)
 unfold ofL
 rw[h1]
 refine⟨rfl,?_⟩
 simpa using h2
theorem VT.Is.of{t:VT}{l:List Value}(h:BX .mt 0 l=some t):t.Is l:=by
 have:=Qz l
 rw[h]at this
 rw[Option.some.inj this.1];exact this.2
def Hp.Row(h:Hp)(b el:Nat)(l:List Value):Prop:=∃ c,h.bl.get b=.cells c l.length el∧c.Is l
def Hp.pushRow(h:Hp)(el:Nat)(l:List Value):Hp:=h.push (.cells (ofL l) l.length el)
theorem Hp.Row.lt(W:h.Wf){b el:Nat}{l:List Value}(r:h.Row b el l):b<h.next:=by
 obtain⟨c,hc,_⟩:=r
 rcases Nat.lt_or_ge b h.next with h1|h1
 ·exact h1
 ·rw[W.fresh b h1]at hc;cases hc
theorem Hp.Row.new(W:h.Wf)(el:Nat)(l:List Value):(h.pushRow el l).Row h.next el l:=⟨ofL l,by unfold Hp.pushRow;rw[W.push_get,if_pos rfl],(Qz l).2⟩
theorem Hp.Row.ext{b el:Nat}{l:List Value}(r:h.Row b el l)(W:h.Wf)(x:h.Ext h'):h'.Row b el l:=by
 have:=r.lt W
 obtain⟨c,hc,hl⟩:=r
 exact⟨c,(x.get b this).trans hc,hl⟩
theorem Hp.Row.push{b el:Nat}{l:List Value}(r:h.Row b el l)(W:h.Wf)(o:Blk):(h.push o).Row b el l:=r.ext W ((Hp.Ext.refl W).push o)
theorem Hp.Ext.pushRow(a:h.Ext h')(el:Nat)(l:List Value):h.Ext (h'.pushRow el l):=a.push _
theorem Hp.Row.rowOf{b el:Nat}{l:List Value}(r:h.Row b el l):∃ c,rowOf h b=.ok c l.length el∧c.Is l:=by
 obtain⟨c,hc,hl⟩:=r
 exact⟨c,by unfold Go.Proofs.YtglkncnkbofgfaaGreat.rowOf;rw[hc];rfl,hl⟩
theorem Hp.Row.load1{b el off:Nat}{l:List Value}(r:h.Row b el l)(ho:off<l.length):load1 ⟨b,off,none⟩ h=.ok (l.getD off noRes) h:=by
 obtain⟨c,hc,hl⟩:=r.rowOf
 unfold Go.Proofs.YtglkncnkbofgfaaGreat.load1
 simp only[hc]
 rw[Aq.2 ho]
 simp only[BB,(hl off ho).2]
theorem Is.rowL{c:VT}{l:List Value}(hl:c.Is l)(off n:Nat)(ho:off+n≤l.length):rowL c off n=(l.drop off).take n:=by
 refine List.ext_getElem? fun i=>?_
 unfold Go.Proofs.YtglkncnkbofgfaaGreat.rowL
 rw[List.getElem?_map,List.getElem?_take,List.getElem?_drop]
 by_cases hi:i<n
 ·rw[if_pos hi,List.getElem?_range hi]
  have:=(hl (off+i) (by omega)).2
  rw[List.getD_eq_getElem?_getD,List.getElem?_eq_getElem (by omega)]at this
  show some (c.get (off+i))=_
  rw[this,List.getElem?_eq_getElem (by omega)];rfl
 ·rw[if_neg hi,List.getElem?_eq_none (by simpa using hi)];rfl
theorem Hp.Row.loadN{b el off n:Nat}{l:List Value}(r:h.Row b el l)(ho:off+n≤l.length):loadN n ⟨b,off,none⟩ h=.ok (.agg ⟨(l.drop off).take n⟩) h:=by
 obtain⟨c,hc,hl⟩:=r.rowOf
 unfold Go.Proofs.YtglkncnkbofgfaaGreat.loadN
 simp only[hc,Nat.add_eq]
 rw[Ar.2 ho]
 simp only[cond_true,D1,List.append_nil,Is.rowL hl off n ho]
theorem Hp.Row.src{b el off n c:Nat}{l:List Value}(r:h.Row b el l)(ho:off+n≤l.length){sl:Nat}{k:List Value→R}:BE h 1 (.slice (some ⟨b,off,none⟩) sl c) n k=k ((l.drop off).take n):=by
 obtain⟨cc,hc,hl⟩:=r.rowOf
 unfold BE
 simp only[hc]
 have e:Nat.mul n 1=n:=Nat.mul_one n
 rw[e]
 simp only[Nat.add_eq]
 rw[Ar.2 ho]
 simp only[cond_true,D1,List.append_nil,Is.rowL hl off n ho]
def Hp.wr(h:Hp)(b off:Nat)(vs:List Value):Hp:=match rowOf h b with
 |.ok c s e=>h.put b (.cells ((BX c off vs).getD c) s e)
 |.no=>h
def over(l:List Value)(off:Nat)(vs:List Value):List Value:=l.take off++vs++l.drop (off+vs.length)
theorem Ln{l vs:List Value}{off:Nat}(ho:off+vs.length≤l.length):(over l off vs).length=l.length:=by
 unfold over
 simp only[List.length_append,List.length_take,List.length_drop];omega
theorem Hp.Row.wr_is{b el off:Nat}{l vs:List Value}(r:h.Row b el l)(ho:off+vs.length≤l.length):∃ c,c.Is (over l off vs)∧h.wr b off vs=h.put b (.cells c (over l off vs).length el)∧
  ∀ (W:h.Wf) (h256:256≤b) (h1:Bt vs=true) (K:Hp→R),Bw ⟨b,off,none⟩ vs h K=K (h.wr b off vs):=by
 obtain⟨c,hc,hl⟩:=r.rowOf
 obtain⟨c',h2,h3⟩:=Gr vs c l off hl (.inl ho)
 have e:h.wr b off vs=h.put b (.cells c' l.length el):=by
  unfold Hp.wr
  rw[hc]
  simp only[h2,Option.getD_some]
 refine⟨c',h3,by rw[Ln ho];exact e,fun W h256 h1 K=>?_⟩
 unfold Bw
 simp only[hc,Nat.add_eq]
 rw[A9,Ar.2 ho,h1]
 simp only[cond_true,h2]
 rw[e,PJ W h256 (r.lt W)]
theorem Hp.Row.store{b el off:Nat}{l vs:List Value}(r:h.Row b el l)(W:h.Wf)(h256:256≤b)(ho:off+vs.length≤l.length)(h1:Bt vs=true)(K:Hp→R):Bw ⟨b,off,none⟩ vs h K=K (h.wr b off vs):=by
 obtain⟨_,_,_,h4⟩:=r.wr_is ho
 exact h4 W h256 h1 K
def QM(v:Value)(h:Hp):R:=match Cn v with
 |.ok a=>load1 a h
 |.no=>.no
theorem LQ{a:Addr}:QM (.pointer (some a)) h=load1 a h:=rfl
theorem Hp.Row.alloc(W:h.Wf){n:Nat}{t:VT}{l:List Value}(ht:BX .mt 0 l=some t)(hn:l.length=n):(h.push (.cells t n 0)).Row h.next 0 l:=⟨t,by rw[W.push_get,if_pos rfl,hn],.of ht⟩
theorem SA{n es b off i:Nat}(hi:i<n):I8 n es (.ok ⟨b,off,none⟩) (.ok i) h=.ok (.pointer (some ⟨b,off+i * es,none⟩)) h:=by
 show Bool.rec (motive:=fun _=>R) .no (GF ⟨b,off,none⟩ (Nat.mul i es) h) (Nat.blt i n)=_
 rw[Aq.2 hi]
 exact As _ _
def P9(es:Nat)(s i:Value)(h:Hp):R:=match s with
 |.slice (some a) n _=>I8 n es (.ok a) (Ch i) h
 |_=>.no
theorem LC{n c es b off i:Nat}{k:IntKind}(hi:i<n):P9 es (.slice (some ⟨b,off,none⟩) n c) (.int k (i:Int)) h=.ok (.pointer (some ⟨b,off+i * es,none⟩)) h:=SA hi
def Ts(v:Value)(h:Hp):R:=match v with
 |.slice _ n _=>.ok (.int .i64 (.ofNat n)) h
 |.chan (some _)=>.ok (.int .i64 (.ofNat 0)) h
 |_=>.no
end
end
noncomputable section
open Go
section
variable {F:CallF}{e:Env}{h h':Hp}{x y:O}
def bv(n:Nat):Value:=.int .u8 (n:Int)
theorem Hv:∀ l:List Nat,Cb (l.map bv)=some (l.map UInt8.ofNat)
 |[]=>rfl
 |n::l=>by
  show(match Cb (l.map bv)with|some bs=>forceN n fun n=>some (UInt8.ofNat n::bs)|none=>none)=_
  rw[Hv l]
  exact As _ _
def Hp.Bytes(h:Hp)(v:Value)(l:List Nat):Prop:=(v=.slice none 0 0∧l=[])∨∃ b off c el L,v=.slice (some ⟨b,off,none⟩) l.length c∧h.Row b el L∧off+l.length≤L.length∧(L.drop off).take l.length=l.map bv
theorem Hp.Bytes.ext{v:Value}{l:List Nat}(b:h.Bytes v l)(W:h.Wf)(x:h.Ext h'):h'.Bytes v l:=by
 rcases b with ⟨h1,h2⟩|⟨b,off,c,el,L,h1,h2,h3,h4⟩
 ·exact .inl ⟨h1,h2⟩
 ·exact .inr ⟨b,off,c,el,L,h1,h2.ext W x,h3,h4⟩
theorem Hp.Bytes.src{v:Value}{l:List Nat}(b:h.Bytes v l){n:Nat}(hn:n=l.length)(k:List Value→R):BE h 1 v n k=k (l.map bv):=by
 subst hn
 rcases b with ⟨h1,h2⟩|⟨b,off,c,el,L,h1,h2,h3,h4⟩
 ·rw[h1,h2];rfl
 ·rw[h1,h2.src h3,h4]
theorem Hp.Bytes.shape{v:Value}{l:List Nat}(b:h.Bytes v l):∃ a c,v=.slice a l.length c:=by
 rcases b with ⟨h1,h2⟩|⟨b,off,c,el,L,h1,h2,h3,h4⟩
 ·exact⟨none,0,by rw[h1,h2];rfl⟩
 ·exact⟨_,_,h1⟩
def AIb(v:Value)(h:Hp):R:=match v with
 |.slice a n c=>BE h 1 (.slice a n c) n fun cs=>match Cb cs with
  |some bs=>.ok (.string ⟨⟨bs⟩⟩) h
  |none=>.no
 |.chan r=>match r with
  |some _=>.ok (.string ⟨⟨[]⟩⟩) h
  |none=>.no
 |_=>.no
theorem Hp.Bytes.str{v:Value}{l:List Nat}(b:h.Bytes v l):AIb v h=.ok (.string ⟨⟨l.map UInt8.ofNat⟩⟩) h:=by
 obtain⟨a,c,rfl⟩:=b.shape
 show BE h 1 (.slice a l.length c) l.length (fun cs=>match Cb cs with
  |some bs=>.ok (.string ⟨⟨bs⟩⟩) h
  |none=>.no)=_
 rw[b.src rfl,Hv]
theorem Hp.Bytes.len{v:Value}{l:List Nat}(b:h.Bytes v l):Ts v h=.ok (.int .i64 (l.length:Int)) h:=by
 obtain⟨a,c,rfl⟩:=b.shape;rfl
theorem Hp.Bytes.at{v:Value}{l:List Nat}(b:h.Bytes v l){i:Nat}(hi:i<l.length):∃ a,P9 1 v (.int .i64 (i:Int)) h=.ok (.pointer (some a)) h∧QM (.pointer (some a)) h=.ok (bv (l.getD i 0)) h:=by
 rcases b with ⟨h1,h2⟩|⟨b,off,c,el,L,h1,h2,h3,h4⟩
 ·rw[h2]at hi;cases hi
 ·refine⟨⟨b,off+i * 1,none⟩,by rw[h1];exact LC hi,?_⟩
  rw[LQ,h2.load1 (by omega)]
  have:=congrArg (fun m=>m[i]?) h4
  simp only[List.getElem?_take,List.getElem?_drop,if_pos hi,List.getElem?_map]at this
  rw[List.getD_eq_getElem?_getD,Nat.mul_one,this,List.getD_eq_getElem?_getD,List.getElem?_eq_getElem hi];rfl
def Hp.quiet(h:Hp):Hp:={next:=h.next,low:=h.next,high:=0,mark:=h.mark,bl:=h.bl}
def Hp.back(h h':Hp):Hp:={next:=h'.next,low:=A3 h.low h'.low,high:=BH h.high h'.high,mark:=h.mark,bl:=h'.bl}
theorem Hp.Wf.quiet(W:h.Wf):h.quiet.Wf:=⟨W.big,W.has,W.fresh⟩
theorem Hp.Row.same{b el:Nat}{l:List Value}(r:h.Row b el l)(hb:h'.bl=h.bl):h'.Row b el l:=by
 obtain⟨c,hc,hl⟩:=r
 exact⟨c,by rw[hb];exact hc,hl⟩
theorem Hp.Ext.back(x:h.quiet.Ext h'):h.Ext (h.back h') where
 next:=x.next
 get:=x.get
 low:=by
  show _≤A3 h.low h'.low
  rw[A0]
  have h1:min h.next h.next≤h'.low:=x.low
  omega
 wf:=⟨x.wf.big,x.wf.has,x.wf.fresh⟩
theorem Hp.Ext.quiet{h0:Hp}(x:h0.Ext h):h0.Ext h.quiet:=⟨x.next,x.get,by show _≤h.next;have:=x.next;omega,x.wf.quiet⟩
end
end
noncomputable section
open Go Go.RowKit Go.WideShapes Go.ChangeShapes
def Nb(W:World)(a:Addr)(L:List Value):Prop:=∃ cs t fr,W.heap[a.block]? =some (.cells cs t fr)∧(∀ j,j<L.length→cs[a.off+j]? =some (L.getD j noRes))∧∀ j,j<L.length→¬ (fr.1≤a.off+j∧a.off+j<fr.2)
def VY(a:Addr)(c:Nat):Pl:={blk:=a.block,off:=if c=0 then 0 else a.off,sz:=c,room:=c,es:=1,inp:=true}
theorem Nb.lt{W:World}{a:Addr}{L:List Value}(h:Nb W a L):a.block<W.heap.size:=by
 obtain⟨cs,t,fr,hb,_⟩:=h
 exact(Array.getElem?_eq_some_iff.1 hb).1
theorem Q9{φ:Phi}{a:Addr}{n c i:Nat}(hs:a.spot=none)(hn:n≤c)(hp:φ i=some (VY a c)):RelV φ (.slice (some ⟨i,0,none⟩) n c) (.slice (some a) n c):=by
 refine .slice hn ⟨rfl,hs,_,hp,rfl,?_⟩
 rcases Nat.eq_zero_or_pos c with h|h
 ·exact .inr ⟨h,.inl h⟩
 ·refine .inl ⟨h,?_,.inl rfl⟩
  show a.off=(if c=0 then 0 else a.off)+0
  rw[if_neg (by omega),Nat.add_zero]
def IK(k:IntKind)(Z:List Int):List Value:=Z.map (.int k)
def Pa(k:IntKind)(W:World)(v:Value)(zs:List Int):Prop:=(v=.slice none 0 0∧zs=[])∨∃ (a:Addr) (n c:Nat) (Z:List Int),v=.slice (some a) n c∧n≤c∧a.spot=none∧Z.length=c∧zs=Z.take n∧Nb W a (IK k Z)
def Hp.Vals(h:Hp)(v:Value)(xs:List Value):Prop:=(v=.slice none 0 0∧xs=[])∨∃ b off c el L,v=.slice (some ⟨b,off,none⟩) xs.length c∧h.Row b el L∧off+xs.length≤L.length∧(L.drop off).take xs.length=xs
def uV(W:World)(L:List Value)(q:Option Pl):Prop:=q=none∨∃ a,q=some (VY a L.length)∧Nb W a L
theorem Pa.rel{k:IntKind}{W:World}{v:Value}{zs:List Int}(b:Pa k W v zs)(i:Nat):∃ (u:Value) (q:Option Pl) (Z:List Int),uV W (IK k Z) q∧(∀ φ:Phi,φ i=q→RelV φ u v)∧(∀ h:Hp,h.Row i 0 (IK k Z)→h.Vals u (IK k zs)):=by
 rcases b with ⟨rfl,rfl⟩|⟨a,n,c,Z,rfl,hn,hs,hZ,rfl,hr⟩
 ·exact⟨.slice none 0 0,none,[],.inl rfl,fun _ _=>.slice0,fun _ _=>.inl ⟨rfl,rfl⟩⟩
 ·have hlen:(IK k Z).length=c:=by unfold IK;rw[List.length_map];exact hZ
  have hlen2:(IK k (Z.take n)).length=n:=by unfold IK;rw[List.length_map,List.length_take];omega
  refine⟨.slice (some ⟨i,0,none⟩) n c,some (VY a (IK k Z).length),Z,.inr ⟨a,rfl,hr⟩,fun φ hφ=>Q9 hs hn (by rw[hφ,hlen]),fun h hrow=>.inr ⟨i,0,c,0,IK k Z,?_,hrow,?_,?_⟩⟩
  ·rw[hlen2]
  ·rw[hlen2,hlen];omega
  ·rw[hlen2,List.drop_zero];unfold IK;rw[List.map_take]
end
noncomputable section
open Go Go.RowKit Go.ChangeShapes
section
variable {F:CallF}{e:Env}{h h':Hp}{x y:O}
theorem Hp.Vals.ext{v:Value}{l:List Value}(b:h.Vals v l)(W:h.Wf)(x:h.Ext h'):h'.Vals v l:=by
 rcases b with h1|⟨b,off,c,el,L,h1,h2,h3⟩
 ·exact .inl h1
 ·exact .inr ⟨b,off,c,el,L,h1,h2.ext W x,h3⟩
theorem Hp.Vals.same{v:Value}{l:List Value}(b:h.Vals v l)(hb:h'.bl=h.bl):h'.Vals v l:=by
 rcases b with h1|⟨b,off,c,el,L,h1,h2,h3⟩
 ·exact .inl h1
 ·exact .inr ⟨b,off,c,el,L,h1,h2.same hb,h3⟩
theorem Hp.Vals.src{v:Value}{l:List Value}(b:h.Vals v l){n:Nat}(hn:n=l.length)(k:List Value→R):BE h 1 v n k=k l:=by
 subst hn
 rcases b with ⟨h1,h2⟩|⟨b,off,c,el,L,h1,h2,h3,h4⟩
 ·rw[h1,h2];rfl
 ·rw[h1,h2.src h3,h4]
theorem Hp.Vals.shape{v:Value}{l:List Value}(b:h.Vals v l):∃ a c,v=.slice a l.length c:=by
 rcases b with ⟨h1,h2⟩|⟨b,off,c,el,L,h1,h2,h3,h4⟩
 ·exact⟨none,0,by rw[h1,h2];rfl⟩
 ·exact⟨_,_,h1⟩
theorem Hp.Vals.len{v:Value}{l:List Value}(b:h.Vals v l):Ts v h=.ok (.int .i64 (l.length:Int)) h:=by
 obtain⟨a,c,rfl⟩:=b.shape;rfl
theorem Hp.Vals.lenV{v:Value}{l:List Value}(b:h.Vals v l):lenV v=.ok l.length:=by
 obtain⟨a,c,rfl⟩:=b.shape;rfl
theorem Hp.Vals.at{v:Value}{l:List Value}(b:h.Vals v l){i:Nat}(hi:i<l.length):∃ a,P9 1 v (.int .i64 (i:Int)) h=.ok (.pointer (some a)) h∧QM (.pointer (some a)) h=.ok (l.getD i noRes) h:=by
 rcases b with ⟨h1,h2⟩|⟨b,off,c,el,L,h1,h2,h3,h4⟩
 ·rw[h2]at hi;cases hi
 ·refine⟨⟨b,off+i * 1,none⟩,by rw[h1];exact LC hi,?_⟩
  rw[LQ,h2.load1 (by omega)]
  have:=congrArg (fun m=>m[i]?) h4
  simp only[List.getElem?_take,List.getElem?_drop,if_pos hi]at this
  rw[List.getD_eq_getElem?_getD,Nat.mul_one,this,List.getD_eq_getElem?_getD]
theorem Hp.Vals.bytes{v:Value}{l:List Nat}(b:h.Vals v (l.map bv)):h.Bytes v l:=by
 rcases b with ⟨h1,h2⟩|⟨b,off,c,el,L,h1,h2,h3,h4⟩
 ·exact .inl ⟨h1,by cases l with
   |nil=>rfl
   |cons a l=>cases h2⟩
 ·rw[List.length_map]at h1 h3 h4
  exact .inr ⟨b,off,c,el,L,h1,h2,h3,h4⟩
theorem Hp.Vals.cut{v:Value}{l:List Value}(b:h.Vals v l){n:Nat}(hn:n<l.length):∃ o c,v=.slice (some o) l.length c∧h.Vals (.slice (some o) n c) (l.take n):=by
 rcases b with ⟨h1,h2⟩|⟨b,off,c,el,L,h1,h2,h3,h4⟩
 ·rw[h2]at hn;cases hn
 ·have hl:(l.take n).length=n:=by rw[List.length_take];omega
  refine⟨⟨b,off,none⟩,c,h1,.inr ⟨b,off,c,el,L,by rw[hl],h2,by omega,?_⟩⟩
  rw[hl,← h4,List.take_take,Nat.min_eq_left (by omega)]
def uW(v:Value)(b:Nat):Prop:=∃ off n c,v=.slice (some ⟨b,off,none⟩) n c
def Hp.Own(h:Hp)(k en:Nat)(v:Value)(xs:List Value):Prop:=(v=.slice none 0 0∧xs=[])∨∃ b,v=.slice (some ⟨b,0,none⟩) xs.length xs.length∧h.Row b (en+1) xs∧k≤b∧256≤b
theorem Hp.Own.vals{k en:Nat}{v:Value}{xs:List Value}(o:h.Own k en v xs):h.Vals v xs:=by
 rcases o with h1|⟨b,h1,h2,_⟩
 ·exact .inl h1
 ·exact .inr ⟨b,0,_,_,xs,h1,h2,by omega,by rw[List.drop_zero,List.take_length]⟩
theorem Hp.Own.le{k k' en:Nat}{v:Value}{xs:List Value}(o:h.Own k en v xs)(hk:k'≤k):h.Own k' en v xs:=by
 rcases o with h1|⟨b,h1,h2,h3,h4⟩
 ·exact .inl h1
 ·exact .inr ⟨b,h1,h2,Nat.le_trans hk h3,h4⟩
theorem Hp.Own.keep{k en:Nat}{v:Value}{xs:List Value}(o:h.Own k en v xs)(hk:∀ b el L,uW v b→h.Row b el L→h'.Row b el L):h'.Own k en v xs:=by
 rcases o with h1|⟨b,h1,h2,h3,h4⟩
 ·exact .inl h1
 ·exact .inr ⟨b,h1,hk b _ _ ⟨0,_,_,h1⟩ h2,h3,h4⟩
theorem Hp.Own.ext{k en:Nat}{v:Value}{xs:List Value}(o:h.Own k en v xs)(W:h.Wf)(x:h.Ext h'):h'.Own k en v xs:=o.keep fun _ _ _ _ r=>r.ext W x
theorem Hp.Own.same{k en:Nat}{v:Value}{xs:List Value}(o:h.Own k en v xs)(hb:h'.bl=h.bl):h'.Own k en v xs:=o.keep fun _ _ _ _ r=>r.same hb
end
def Ph(args:List Value)(h:Hp):R:=match args with
 |[]=>.ok (.bool true) h
 |_::_=>.no
def J1:Body:=⟨[.x (fun _=>Ph)],cNo⟩
theorem D9{ty:TTy}{φ:Phi}{E:Nat→Prop}{h:Hp}{w w':World}(H:RelW ty φ E h w)(hb:Below w.heap.size w w'):RelW ty φ E h w'∧Evo φ h w φ h w':=
 ⟨{dom:=fun i p e=>⟨(H.dom i p e).1,Nat.lt_of_lt_of_le (H.dom i p e).2 hb.size⟩
   inj:=H.inj
   row:=fun i p e hE=>(by rw[hb.block _ (H.dom i p e).2];exact H.row i p e hE)
   fresh:=H.fresh
   kind:=H.kind
   inp:=H.inp},
  {le:=.refl _
   new:=fun _ _ e=>.inl e
   next:=Nat.le_refl _
   size:=hb.size
   tape:=hb.tape
   os:=hb.os
   output:=hb.output
   frame:=fun k hk _=>hb.block k hk
   back:=fun i p e hl _=>⟨i,p,e,hl,rfl,rfl,.inl rfl⟩
   kept:=fun _ _ _=>rfl
   low:=Nat.le_refl _
   high:=Nat.le_refl _
   shape:=fun _ _=>.refl _
   only:=fun _ _ _=>rfl
   all:=fun _ h1 h2=>absurd h2 (Nat.not_lt.2 h1)}⟩
theorem PX{P:Program}{ty:TTy}{f:Nat}(hS:∃ fn,P.funcs[f]? =some fn∧fn.name≠"runtime.NumGoroutine" ∧fn.body.isNone=false)(hc:∀ w:World,Calls P f #[] w fun e w'=>e=.returned (.bool true)∧Below w.heap.size w w'):ES P ty f J1:=fun F args h v h' _ hr=>⟨hS,fun φ w args' hrel H=>by
 have hr:Ph args h=.ok v h':=hr
 cases args with
 |cons a l=>cases hr
 |nil=>
  cases hr
  cases hrel
  exact(hc w).mono fun e w' ⟨he,hb⟩=>⟨_,φ,he,.bool true,(D9 H hb).1,(D9 H hb).2⟩⟩
end
noncomputable section
open Go Go.RowKit
theorem QT{a b:String}(h:(a == b)=false):a≠b:=by simpa using h
def QN:List UInt8→Bool
 |[]=>true
 |x::l=>bif Nat.blt x.toNat 128 then QN l else false
def QP(x:UInt8):List UInt8→Bool
 |[]=>false
 |y::l=>bif Nat.beq x.toNat y.toNat then true else QP x l
def Rk(c:List UInt8):List UInt8→Bool
 |[]=>false
 |x::l=>bif QP x c then true else Rk c l
theorem KK:∀ {l:List UInt8},QN l=true→∀ (j:Nat) b,l[j]? =some b→b.toNat<128
 |[],_,j,b,h=>by simp at h
 |x::l,h,j,b,hj=>by
  have h:(bif Nat.blt x.toNat 128 then QN l else false)=true:=h
  cases hx:Nat.blt x.toNat 128 with
  |false=>rw[hx]at h;cases h
  |true=>
   rw[hx]at h
   cases j with
   |zero=>simp at hj;rw[← hj];exact Aq.1 hx
   |succ j=>exact KK h j b (by simpa using hj)
theorem OA(x:UInt8):∀ l:List UInt8,QP x l=l.contains x
 |[]=>rfl
 |y::l=>by
  show(bif Nat.beq x.toNat y.toNat then true else QP x l)=_
  rw[OA x l,List.contains_cons]
  cases hx:Nat.beq x.toNat y.toNat with
  |true=>
   have:x=y:=UInt8.toNat_inj.1 (Ae.1 hx)
   subst this
   simp
  |false=>
   have:(x == y)=false:=by
    rw[beq_eq_false_iff_ne]
    intro e;subst e
    rw[Ae.2 rfl]at hx;cases hx
   rw[this];rfl
theorem Nd(c:List UInt8):∀ l:List UInt8,Rk c l=Lib.containsAny l c
 |[]=>by
  show false=decide ((0:Int)≤-1)
  rfl
 |x::l=>by
  show(bif QP x c then true else Rk c l)=_
  rw[OA,Nd c l]
  unfold Lib.containsAny
  have:=Lib.indexAny_ge c l
  show _=decide (0≤(if c.contains x then 0 else if Lib.indexAny l c == -1 then -1 else Lib.indexAny l c+1))
  cases c.contains x with
  |true=>rfl
  |false=>
   simp only[cond_false,Bool.false_eq_true,if_false]
   by_cases h:Lib.indexAny l c= -1
   ·rw[h];rfl
   ·rw[if_neg (by simpa using h)]
    congr 1
    exact propext ⟨fun h=>by omega,fun h=>by omega⟩
def Pq(args:List Value)(h:Hp):R:=match args with
 |a::l=>match l with
  |b::m=>match m with
   |[]=>match a with
    |.string s=>match b with
     |.string c=>bif Nat.blt s.size 4294967281 then(bif Nat.blt c.size 4294967281 then(bif QN s.data.toList then(bif QN c.data.toList then okB (Rk c.data.toList s.data.toList) h else .no)else .no)else .no)else .no
     |_=>.no
    |_=>.no
   |_::_=>.no
  |[]=>.no
 |[]=>.no
def bCa:Body:=⟨[.x (fun _=>Pq)],cNo⟩
def CH:Shelf.Ren where
 f:=fun x=>match x with
  |150=>519| 153=>576| 152=>616| 226=>617| 227=>618| 228=>619| 137=>642| 119=>643| 224=>644| 225=>645| 217=>655| 266=>662|n=>n
 t:=fun x=>match x with
  |9=>9| 4=>4| 3=>3| 5=>5| 21=>21| 117=>712| 116=>711| 0=>0| 46=>276| 124=>730|n=>n
 g:=fun x=>x
theorem SI:Lays.n150 Tryz.prog CH:=
⟨Eq.refl true,
 Eq.trans Tryz.func643 (congrArg some (Eq.refl (Body.n119 CH))),
 Eq.trans Tryz.func642 (congrArg some (Eq.refl (Body.n137 CH))),
 Eq.trans Tryz.func519 (congrArg some (Eq.refl (Body.n150 CH))),
 Eq.trans Tryz.func616 (congrArg some (Eq.refl (Body.n152 CH))),
 Eq.trans Tryz.func576 (congrArg some (Eq.refl (Body.n153 CH))),
 Eq.trans Tryz.func655 (congrArg some (Eq.refl (Body.n217 CH))),
 Eq.trans Tryz.func644 (congrArg some (Eq.refl (Body.n224 CH))),
 Eq.trans Tryz.func645 (congrArg some (Eq.refl (Body.n225 CH))),
 Eq.trans Tryz.func617 (congrArg some (Eq.refl (Body.n226 CH))),
 Eq.trans Tryz.func618 (congrArg some (Eq.refl (Body.n227 CH))),
 Eq.trans Tryz.func619 (congrArg some (Eq.refl (Body.n228 CH))),
 Eq.trans Tryz.func662 (congrArg some (Eq.refl (Body.n266 CH))),
 Tryz.underlying0,Tryz.isAgg0,Tryz.sizeOf0,Tryz.zeroValue0,
 Tryz.underlying3,Tryz.isAgg3,Tryz.sizeOf3,Tryz.zeroValue3,
 Tryz.underlying4,Tryz.isAgg4,Tryz.sizeOf4,Tryz.zeroValue4,
 Tryz.underlying5,Tryz.isAgg5,Tryz.sizeOf5,Tryz.zeroValue5,
 Tryz.underlying9,Tryz.isAgg9,Tryz.sizeOf9,Tryz.zeroValue9,
 Tryz.underlying21,Tryz.isAgg21,Tryz.sizeOf21,Tryz.zeroValue21,
 Tryz.underlying276,Tryz.isAgg276,Tryz.sizeOf276,Tryz.zeroValue276,
 Tryz.underlying711,Tryz.isAgg711,Tryz.sizeOf711,
 Tryz.underlying712,Tryz.isAgg712,Tryz.sizeOf712,Tryz.zeroValue712,
 Tryz.underlying730,Tryz.isAgg730,Tryz.sizeOf730,Tryz.zeroValue730⟩
theorem Vc:(Tryz.prog.info? (CH.t 116)).map (fun i=>(i.zero,i.size))=some (some (.agg (Array.replicate 256 (.bool false))),256):=by kernel_rfl
theorem Rq{ty:TTy}:ES Tryz.prog ty 519 bCa:=fun F args h v h' _ hr=>⟨⟨_,Tryz.func519,QT (by kernel_rfl),by kernel_rfl⟩,fun φ w args' hrel H=>by
 have hr:Pq args h=.ok v h':=hr
 unfold Pq at hr
 split at hr<;>try (cases hr;done)
 split at hr<;>try (cases hr;done)
 split at hr<;>try (cases hr;done)
 split at hr<;>try (cases hr;done)
 split at hr<;>try (cases hr;done)
 obtain⟨q1,hr⟩:=Aw hr
 obtain⟨q2,hr⟩:=Aw hr
 obtain⟨q3,hr⟩:=Aw hr
 obtain⟨q4,hr⟩:=Aw hr
 obtain⟨rfl,rfl⟩:=Ep hr
 cases hrel with|cons h1 t=>cases t with|cons h2 t=>cases t with|nil=>
  obtain rfl:=h1.string_inv
  obtain rfl:=h2.string_inv
  refine(Any.strings_ContainsAny_laid SI Vc _ _ w (Aq.1 q1) (Aq.1 q2) (KK q3) (KK q4)).mono fun e w' ⟨he,hb⟩=>⟨_,φ,he,?_,(D9 H hb).1,(D9 H hb).2⟩
  rw[Nd]
  exact .bool _⟩
end
end Go.Proofs.YtglkncnkbofgfaaGreat

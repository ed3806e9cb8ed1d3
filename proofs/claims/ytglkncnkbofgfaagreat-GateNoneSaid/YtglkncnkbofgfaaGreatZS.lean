/-
  Part ZS of what Lawgn stands on: printed by program, names and spaces cut.
-/
import Derived.Test.YtglkncnkbofgfaaGreatZR
import Derived.JoinedOf
import Derived.Test.YtglkncnkbofgfaaGreatRows
namespace Go.Proofs.YtglkncnkbofgfaaGreat
noncomputable section
open Go
inductive LT (α:Type) where
 |mt
 |nd (v:α) (l r:LT α)
def LT.get{α:Type}:LT α→Nat→Option α
 |.mt,_=>none
 |.nd v l r,k=>match k with
  |0=>some v
  |k+1=>bif Nat.beq (k % 2) 0 then l.get (k / 2)else r.get (k / 2)
def spL{α:Type}:List α→List α×List α
 |[]=>([],[])
 |x::l=>(x::(spL l).2,(spL l).1)
def mkL{α:Type}:Nat→List α→LT α
 |0,_=>.mt
 |n+1,l=>match l with
  |[]=>.mt
  |x::l=>.nd x (mkL n (spL l).1) (mkL n (spL l).2)
section
variable {α:Type}
theorem KU:∀ (l:List α) (j:Nat),(spL l).1[j]? =l[2 * j]?∧(spL l).2[j]? =l[2 * j+1]?
 |[],j=>by simp[spL]
 |x::l,j=>by
  have ih:=KU l
  refine⟨?_,?_⟩
  ·cases j with
   |zero=>rfl
   |succ j=>
    show(spL l).2[j]? =_
    rw[(ih j).2,show 2 * (j+1)=2 * j+1+1 by omega,List.getElem?_cons_succ]
  ·show(spL l).1[j]? =_
   rw[(ih j).1,List.getElem?_cons_succ]
theorem ON:∀ l:List α,2 * (spL l).1.length≤l.length+1∧2 * (spL l).2.length≤l.length
 |[]=>by simp[spL]
 |x::l=>by
  have ih:=ON l
  simp only[spL,List.length_cons]
  omega
theorem GC:∀ (n:Nat) (l:List α) (i:Nat),l.length<2 ^ n→(mkL n l).get i=l[i]?
 |0,l,i,h=>by
  have:l=[]:=List.eq_nil_of_length_eq_zero (by simpa using h)
  subst this
  rfl
 |n+1,[],i,_=>rfl
 |n+1,x::l,0,_=>rfl
 |n+1,x::l,k+1,h=>by
  have h1:=ON l
  have h2:l.length+1<2 * 2 ^ n:=by rw[List.length_cons,Nat.pow_succ]at h;omega
  show(bif Nat.beq (k % 2) 0 then(mkL n (spL l).1).get (k / 2)else(mkL n (spL l).2).get (k / 2))=_
  rw[List.getElem?_cons_succ,GC n _ _ (by omega),GC n _ _ (by omega),(KU l _).1,(KU l _).2]
  rcases Nat.mod_two_eq_zero_or_one k with hk|hk
  ·rw[hk,show 2 * (k / 2)=k by omega];rfl
  ·rw[hk,show 2 * (k / 2)+1=k by omega];rfl
end
section
variable (P:Program)(T:LT TypeInfo)(n:Nat)
def Ja(t:Nat):Option TypeInfo:=bif Nat.blt t n then T.get t else P.info? t
def I0(t:Nat):Option TypeDesc:=match Ja P T n t with
 |some {desc:=.named _ u,..}=>(Ja P T n u).map (·.desc)
 |some i=>some i.desc
 |none=>none
def DT(t:Nat):Nat:=((Ja P T n t).map (·.size)).getD 0
def Fa(t:Nat):Bool:=Nat.blt t n && kindOk (I0 P T n t)
def Va(t:Nat):Bool:=
 !Fa P T n t ||
 match I0 P T n t with
 |some (.struct fs)=>fs.toList.all (fun f=>Fa P T n f.type) && DT P T n t == (fs.toList.map fun f=>DT P T n f.type).sum &&
  (List.range fs.toList.length).all fun j=>match fs.toList[j]? with|some f=>f.offset == ((fs.toList.take j).map fun f=>DT P T n f.type).sum|none=>true
 |some (.array m e)=>Fa P T n e && DT P T n t == m * DT P T n e
 |some (.pointer e)=>Fa P T n e && DT P T n t == 1
 |some (.slice e)=>Fa P T n e && DT P T n t == 1
 |_=>DT P T n t == 1
def ep:Bool:=(List.range n).all (Va P T n) && P.globals.toList.all (fun g=>Nat.blt g.type n) && P.funcs.toList.all (fun f=>f.params.toList.all fun t=>Nat.blt t n)
def Tu:Bool:=(List.range n).all fun t=>match I0 P T n t with|some (.map _ e)=>Nat.blt e n|_=>true
end
theorem HU(a b:Nat):Nat.blt a b=decide (a<b):=by
 rw[Bool.eq_iff_iff,decide_eq_true_iff,Nat.blt_eq]
section
variable {P:Program}{n d:Nat}
theorem LE(hn:P.types.size=n)(hd:n<2 ^ d)(t:Nat):Ja P (mkL d P.types.toList) n t=P.info? t:=by
 unfold Ja
 rw[HU]
 by_cases h:t<n
 ·rw[decide_eq_true h,cond_true,GC d _ _ (by rw[Array.length_toList,hn];exact hd)]
  show _=Tables.info? _ t
  unfold Tables.info?
  rw[if_pos (by show t<P.types.size;omega),Array.getElem?_toList]
 ·rw[decide_eq_false h];rfl
theorem Gz(hn:P.types.size=n)(hd:n<2 ^ d)(t:Nat):I0 P (mkL d P.types.toList) n t=P.underlying t:=by
 unfold I0 Program.underlying
 rw[show Ja P (mkL d P.types.toList) n=P.info? from funext (LE hn hd)]
 rfl
theorem SE(d:Nat)(hn:P.types.size=n)(hd:n<2 ^ d)(h:ep P (mkL d P.types.toList) n=true):laidOutB P=true:=by
 have e1:∀ t,DT P (mkL d P.types.toList) n t=P.cellsOf t:=fun t=>by unfold DT Program.cellsOf;rw[LE hn hd]
 have e2:∀ t,Fa P (mkL d P.types.toList) n t=isVar P t:=fun t=>by unfold Fa isVar;rw[Gz hn hd,HU,hn]
 have e3:Va P (mkL d P.types.toList) n=rowFine P:=funext fun t=>by
  unfold Va rowFine
  simp only[e1,e2,Gz hn hd]
  rfl
 unfold ep at h
 unfold laidOutB
 rw[e3]at h
 simp only[HU]at h
 rw[hn,← Array.all_toList,← Array.all_toList]
 simp only[← Array.all_toList]
 exact h
theorem SK(d:Nat)(hn:P.types.size=n)(hd:n<2 ^ d)(h:Tu P (mkL d P.types.toList) n=true):mapsRowed P=true:=by
 unfold Tu at h
 unfold mapsRowed
 rw[hn]
 simp only[Gz hn hd,HU]at h
 exact h
end
def H3(A:LT (List Nat)):Nat→List Nat→List Nat→Nat→List Nat
 |0,_,seen,_=>seen.reverse
 |n+1,todo,seen,m=>match todo with
  |[]=>seen.reverse
  |f::todo=>bif Nat.testBit m f then H3 A n todo seen m else H3 A n (((A.get f).getD [])++todo) (f::seen) (Nat.lor m (Nat.pow 2 f))
section
variable (P:Program)(d:Nat)
def KJ:LT (List Nat):=mkL d (P.funcs.toList.map P.leadsTo)
def dQ:Nat:=1+(P.funcs.toList.map fun g=>(P.leadsTo g).length+1).sum
def Ko(f:Nat):List Nat:=H3 (KJ P d) (dQ P) [f] [] 0
def fnT(g:Nat):Option Func:=(mkL d P.funcs.toList).get g
def LD(f:Nat):List String:=(Ko P d f).filterMap fun g=>(fnT P d g).bind fun fn=>if fn.ours || fn.body.isNone || fn.name == "runtime.NumGoroutine" then some fn.name else none
def HF(f:Nat):Bool:=(Ko P d f).any fun g=>(fnT P d g).any fun fn=>match fn.body with|some c=>c.unfollowed|none=>entryCalls fn
def I1(f:Nat):List String:=
 ((((Ko P d f).flatMap fun g=>((fnT P d g).bind (·.body)).elim [] Code.globalsNamed).eraseDups).filterMap (fun g=>(P.globals[g]?).map (·.name))++
  (Ko P d f).filterMap fun g=>(fnT P d g).bind fun fn=>if fn.body.isNone then entryReads.lookup fn.name else none).eraseDups
end
section
variable {P:Program}{d:Nat}
theorem Mg(hd:P.funcs.toList.length<2 ^ d)(g:Nat):fnT P d g=P.funcs[g]?:=by
 unfold fnT
 rw[GC d _ _ hd,Array.getElem?_toList]
theorem QK(hd:P.funcs.toList.length<2 ^ d)(g:Nat):((KJ P d).get g).getD []=(P.funcs[g]?).elim [] P.leadsTo:=by
 unfold KJ
 rw[GC d _ _ (by rw[List.length_map];exact hd),List.getElem?_map,Array.getElem?_toList]
 cases P.funcs[g]?<;>rfl
theorem Kn(hd:P.funcs.toList.length<2 ^ d):∀ (n:Nat) (todo seen:List Nat) (m:Nat),(∀ f,Nat.testBit m f=seen.contains f)→H3 (KJ P d) n todo seen m=P.closureVia n todo seen
 |0,_,_,_,_=>by unfold H3 Program.closureVia;rfl
 |n+1,[],seen,_,_=>by unfold H3 Program.closureVia;rfl
 |n+1,f::todo,seen,m,h=>by
  have ih:=Kn hd n
  unfold H3 Program.closureVia
  simp only
  rw[h f]
  cases hc:seen.contains f with
  |true=>rw[cond_true,if_pos rfl];exact ih _ _ _ h
  |false=>
   rw[cond_false,if_neg (by simp),QK hd]
   refine ih _ _ _ fun g=>?_
   show(m ||| 2 ^ f).testBit g=_
   rw[Nat.testBit_or,h g,Nat.testBit_two_pow,List.contains_cons,Bool.or_comm]
   congr 1
   rw[Bool.eq_iff_iff,decide_eq_true_iff,beq_iff_eq]
   exact eq_comm
theorem J5(hd:P.funcs.toList.length<2 ^ d)(f:Nat):Ko P d f=P.closure f:=
 Kn hd _ _ _ _ fun g=>by simp
theorem Mn(hd:P.funcs.toList.length<2 ^ d)(f:Nat):P.inPlace f=LD P d f:=by
 unfold LD Program.inPlace
 simp only[J5 hd,Mg hd]
theorem JE(hd:P.funcs.toList.length<2 ^ d)(f:Nat):P.unfollowed f=HF P d f:=by
 unfold HF Program.unfollowed
 simp only[J5 hd,Mg hd]
 rfl
theorem KY(hd:P.funcs.toList.length<2 ^ d)(f:Nat):P.varsNamed f=I1 P d f:=by
 unfold I1 Program.varsNamed
 simp only[J5 hd,Mg hd]
theorem Lu{f:Nat}(h:P.unfollowed f=true):P.recurses f=true:=by
 unfold Program.recurses
 rw[h];rfl
end
end
end Go.Proofs.YtglkncnkbofgfaaGreat
namespace Go.Proofs.YtglkncnkbofgfaaGreat.gateNone
noncomputable section
open Go
theorem OT:Tryz.prog.types.size=782:=by kernel_rfl
theorem few:Tryz.prog.funcs.toList.length<2 ^ 10:=of_decide_eq_true (by kernel_rfl)
theorem KG:laidOutB Tryz.prog=true:=SE 10 OT (by decide) (by kernel_rfl)
theorem fJ:mapsRowed Tryz.prog=true:=SK 10 OT (by decide) (by kernel_rfl)
theorem unf:Tryz.prog.unfollowed 3=true:=by rw[JE few];as_aux_lemma=>kernel_rfl
theorem B3{a b:Bool}(h:a=true)(k:b=true):(a && b)=true:=by rw[h,k];rfl
set_option maxHeartbeats 1000000 in
theorem joined:joinedFacts Tryz.prog 3 Tryz.f3 Rows.gateNoneSpec Rows.gateNoneRow=true:=by
 unfold joinedFacts
 refine B3 ?_ (by as_aux_lemma=>kernel_rfl)
 refine B3 ?_ (by as_aux_lemma=>kernel_rfl)
 refine B3 ?_ (by as_aux_lemma=>kernel_rfl)
 refine B3 ?_ (by as_aux_lemma=>kernel_rfl)
 refine B3 ?_ (by as_aux_lemma=>kernel_rfl)
 refine B3 ?_ (by as_aux_lemma=>kernel_rfl)
 refine B3 ?_ (by as_aux_lemma=>kernel_rfl)
 refine B3 ?_ (by as_aux_lemma=>kernel_rfl)
 refine B3 ?_ (by as_aux_lemma=>kernel_rfl)
 refine B3 ?_ (by as_aux_lemma=>kernel_rfl)
 refine B3 ?_ (by as_aux_lemma=>kernel_rfl)
 refine B3 ?_ (by as_aux_lemma=>kernel_rfl)
 refine B3 ?_ (by as_aux_lemma=>kernel_rfl)
 refine B3 ?_ (by as_aux_lemma=>kernel_rfl)
 refine B3 ?_ (by as_aux_lemma=>kernel_rfl)
 refine B3 ?_ (by as_aux_lemma=>kernel_rfl)
 refine B3 ?_ (by as_aux_lemma=>kernel_rfl)
 refine B3 ?_ (by as_aux_lemma=>kernel_rfl)
 refine B3 ?_ (by as_aux_lemma=>kernel_rfl)
 refine B3 ?_ (by rw[KY few];as_aux_lemma=>kernel_rfl)
 refine B3 ?_ (by rw[Lu unf];as_aux_lemma=>kernel_rfl)
 refine B3 ?_ (by rw[unf];as_aux_lemma=>kernel_rfl)
 refine B3 ?_ (by rw[Mn few];as_aux_lemma=>kernel_rfl)
 refine B3 ?_ (by as_aux_lemma=>kernel_rfl)
 refine B3 ?_ (by as_aux_lemma=>kernel_rfl)
 refine B3 ?_ (by as_aux_lemma=>kernel_rfl)
 refine B3 ?_ (by as_aux_lemma=>kernel_rfl)
 refine B3 ?_ (by as_aux_lemma=>kernel_rfl)
 refine B3 ?_ (by as_aux_lemma=>kernel_rfl)
 refine B3 ?_ fJ
 refine B3 ?_ KG
 exact(by as_aux_lemma=>kernel_rfl)
end
end Go.Proofs.YtglkncnkbofgfaaGreat.gateNone

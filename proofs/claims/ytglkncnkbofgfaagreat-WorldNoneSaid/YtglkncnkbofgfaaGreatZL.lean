/-
  Part ZL of what Lawwn stands on: printed by program, names and spaces cut.
-/
import Derived.Test.YtglkncnkbofgfaaGreatZK
import Derived.JoinedOf
import Derived.Test.YtglkncnkbofgfaaGreatRows
namespace Go.Proofs.YtglkncnkbofgfaaGreat
noncomputable section
open Go
inductive LT (α:Type) where
 |mt
 |nd (v:α) (l r:LT α)
def LT.get{α:Type}:LT α→Nat→Option α
 |.mt,_=>none
 |.nd v l r,k=>match k with
  |0=>some v
  |k+1=>bif Nat.beq (k % 2) 0 then l.get (k / 2)else r.get (k / 2)
def spL{α:Type}:List α→List α×List α
 |[]=>([],[])
 |x::l=>(x::(spL l).2,(spL l).1)
def mkL{α:Type}:Nat→List α→LT α
 |0,_=>.mt
 |n+1,l=>match l with
  |[]=>.mt
  |x::l=>.nd x (mkL n (spL l).1) (mkL n (spL l).2)
section
variable {α:Type}
theorem Ja:∀ (l:List α) (j:Nat),(spL l).1[j]? =l[2 * j]?∧(spL l).2[j]? =l[2 * j+1]?
 |[],j=>by simp[spL]
 |x::l,j=>by
  have ih:=Ja l
  refine⟨?_,?_⟩
  ·cases j with
   |zero=>rfl
   |succ j=>
    show(spL l).2[j]? =_
    rw[(ih j).2,show 2 * (j+1)=2 * j+1+1 by omega,List.getElem?_cons_succ]
  ·show(spL l).1[j]? =_
   rw[(ih j).1,List.getElem?_cons_succ]
theorem NA:∀ l:List α,2 * (spL l).1.length≤l.length+1∧2 * (spL l).2.length≤l.length
 |[]=>by simp[spL]
 |x::l=>by
  have ih:=NA l
  simp only[spL,List.length_cons]
  omega
theorem FU:∀ (n:Nat) (l:List α) (i:Nat),l.length<2 ^ n→(mkL n l).get i=l[i]?
 |0,l,i,h=>by
  have:l=[]:=List.eq_nil_of_length_eq_zero (by simpa using h)
  subst this
  rfl
 |n+1,[],i,_=>rfl
 |n+1,x::l,0,_=>rfl
 |n+1,x::l,k+1,h=>by
  have h1:=NA l
  have h2:l.length+1<2 * 2 ^ n:=by rw[List.length_cons,Nat.pow_succ]at h;omega
  show(bif Nat.beq (k % 2) 0 then(mkL n (spL l).1).get (k / 2)else(mkL n (spL l).2).get (k / 2))=_
  rw[List.getElem?_cons_succ,FU n _ _ (by omega),FU n _ _ (by omega),(Ja l _).1,(Ja l _).2]
  rcases Nat.mod_two_eq_zero_or_one k with hk|hk
  ·rw[hk,show 2 * (k / 2)=k by omega];rfl
  ·rw[hk,show 2 * (k / 2)+1=k by omega];rfl
end
section
variable (P:Program)(T:LT TypeInfo)(n:Nat)
def Ia(t:Nat):Option TypeInfo:=bif Nat.blt t n then T.get t else P.info? t
def Hy(t:Nat):Option TypeDesc:=match Ia P T n t with
 |some {desc:=.named _ u,..}=>(Ia P T n u).map (·.desc)
 |some i=>some i.desc
 |none=>none
def C6(t:Nat):Nat:=((Ia P T n t).map (·.size)).getD 0
def Ex(t:Nat):Bool:=Nat.blt t n && kindOk (Hy P T n t)
def gj(t:Nat):Bool:=
 !Ex P T n t ||
 match Hy P T n t with
 |some (.struct fs)=>fs.toList.all (fun f=>Ex P T n f.type) && C6 P T n t == (fs.toList.map fun f=>C6 P T n f.type).sum &&
  (List.range fs.toList.length).all fun j=>match fs.toList[j]? with|some f=>f.offset == ((fs.toList.take j).map fun f=>C6 P T n f.type).sum|none=>true
 |some (.array m e)=>Ex P T n e && C6 P T n t == m * C6 P T n e
 |some (.pointer e)=>Ex P T n e && C6 P T n t == 1
 |some (.slice e)=>Ex P T n e && C6 P T n t == 1
 |_=>C6 P T n t == 1
def jo:Bool:=(List.range n).all (gj P T n) && P.globals.toList.all (fun g=>Nat.blt g.type n) && P.funcs.toList.all (fun f=>f.params.toList.all fun t=>Nat.blt t n)
def ZJ:Bool:=(List.range n).all fun t=>match Hy P T n t with|some (.map _ e)=>Nat.blt e n|_=>true
end
theorem GW(a b:Nat):Nat.blt a b=decide (a<b):=by
 rw[Bool.eq_iff_iff,decide_eq_true_iff,Nat.blt_eq]
section
variable {P:Program}{n d:Nat}
theorem KI(hn:P.types.size=n)(hd:n<2 ^ d)(t:Nat):Ia P (mkL d P.types.toList) n t=P.info? t:=by
 unfold Ia
 rw[GW]
 by_cases h:t<n
 ·rw[decide_eq_true h,cond_true,FU d _ _ (by rw[Array.length_toList,hn];exact hd)]
  show _=Tables.info? _ t
  unfold Tables.info?
  rw[if_pos (by show t<P.types.size;omega),Array.getElem?_toList]
 ·rw[decide_eq_false h];rfl
theorem GB(hn:P.types.size=n)(hd:n<2 ^ d)(t:Nat):Hy P (mkL d P.types.toList) n t=P.underlying t:=by
 unfold Hy Program.underlying
 rw[show Ia P (mkL d P.types.toList) n=P.info? from funext (KI hn hd)]
 rfl
theorem UX(d:Nat)(hn:P.types.size=n)(hd:n<2 ^ d)(h:jo P (mkL d P.types.toList) n=true):laidOutB P=true:=by
 have e1:∀ t,C6 P (mkL d P.types.toList) n t=P.cellsOf t:=fun t=>by unfold C6 Program.cellsOf;rw[KI hn hd]
 have e2:∀ t,Ex P (mkL d P.types.toList) n t=isVar P t:=fun t=>by unfold Ex isVar;rw[GB hn hd,GW,hn]
 have e3:gj P (mkL d P.types.toList) n=rowFine P:=funext fun t=>by
  unfold gj rowFine
  simp only[e1,e2,GB hn hd]
  rfl
 unfold jo at h
 unfold laidOutB
 rw[e3]at h
 simp only[GW]at h
 rw[hn,← Array.all_toList,← Array.all_toList]
 simp only[← Array.all_toList]
 exact h
theorem Uc(d:Nat)(hn:P.types.size=n)(hd:n<2 ^ d)(h:ZJ P (mkL d P.types.toList) n=true):mapsRowed P=true:=by
 unfold ZJ at h
 unfold mapsRowed
 rw[hn]
 simp only[GB hn hd,GW]at h
 exact h
end
def G2(A:LT (List Nat)):Nat→List Nat→List Nat→Nat→List Nat
 |0,_,seen,_=>seen.reverse
 |n+1,todo,seen,m=>match todo with
  |[]=>seen.reverse
  |f::todo=>bif Nat.testBit m f then G2 A n todo seen m else G2 A n (((A.get f).getD [])++todo) (f::seen) (Nat.lor m (Nat.pow 2 f))
section
variable (P:Program)(d:Nat)
def JP:LT (List Nat):=mkL d (P.funcs.toList.map P.leadsTo)
def jf:Nat:=1+(P.funcs.toList.map fun g=>(P.leadsTo g).length+1).sum
def Jy(f:Nat):List Nat:=G2 (JP P d) (jf P) [f] [] 0
def fnT(g:Nat):Option Func:=(mkL d P.funcs.toList).get g
def KH(f:Nat):List String:=(Jy P d f).filterMap fun g=>(fnT P d g).bind fun fn=>if fn.ours || fn.body.isNone || fn.name == "runtime.NumGoroutine" then some fn.name else none
def GL(f:Nat):Bool:=(Jy P d f).any fun g=>(fnT P d g).any fun fn=>match fn.body with|some c=>c.unfollowed|none=>entryCalls fn
def Hz(f:Nat):List String:=
 ((((Jy P d f).flatMap fun g=>((fnT P d g).bind (·.body)).elim [] Code.globalsNamed).eraseDups).filterMap (fun g=>(P.globals[g]?).map (·.name))++
  (Jy P d f).filterMap fun g=>(fnT P d g).bind fun fn=>if fn.body.isNone then entryReads.lookup fn.name else none).eraseDups
end
section
variable {P:Program}{d:Nat}
theorem LX(hd:P.funcs.toList.length<2 ^ d)(g:Nat):fnT P d g=P.funcs[g]?:=by
 unfold fnT
 rw[FU d _ _ hd,Array.getElem?_toList]
theorem O4(hd:P.funcs.toList.length<2 ^ d)(g:Nat):((JP P d).get g).getD []=(P.funcs[g]?).elim [] P.leadsTo:=by
 unfold JP
 rw[FU d _ _ (by rw[List.length_map];exact hd),List.getElem?_map,Array.getElem?_toList]
 cases P.funcs[g]?<;>rfl
theorem Jx(hd:P.funcs.toList.length<2 ^ d):∀ (n:Nat) (todo seen:List Nat) (m:Nat),(∀ f,Nat.testBit m f=seen.contains f)→G2 (JP P d) n todo seen m=P.closureVia n todo seen
 |0,_,_,_,_=>by unfold G2 Program.closureVia;rfl
 |n+1,[],seen,_,_=>by unfold G2 Program.closureVia;rfl
 |n+1,f::todo,seen,m,h=>by
  have ih:=Jx hd n
  unfold G2 Program.closureVia
  simp only
  rw[h f]
  cases hc:seen.contains f with
  |true=>rw[cond_true,if_pos rfl];exact ih _ _ _ h
  |false=>
   rw[cond_false,if_neg (by simp),O4 hd]
   refine ih _ _ _ fun g=>?_
   show(m ||| 2 ^ f).testBit g=_
   rw[Nat.testBit_or,h g,Nat.testBit_two_pow,List.contains_cons,Bool.or_comm]
   congr 1
   rw[Bool.eq_iff_iff,decide_eq_true_iff,beq_iff_eq]
   exact eq_comm
theorem JB(hd:P.funcs.toList.length<2 ^ d)(f:Nat):Jy P d f=P.closure f:=
 Jx hd _ _ _ _ fun g=>by simp
theorem Lh(hd:P.funcs.toList.length<2 ^ d)(f:Nat):P.inPlace f=KH P d f:=by
 unfold KH Program.inPlace
 simp only[JB hd,LX hd]
theorem ID(hd:P.funcs.toList.length<2 ^ d)(f:Nat):P.unfollowed f=GL P d f:=by
 unfold GL Program.unfollowed
 simp only[JB hd,LX hd]
 rfl
theorem Jj(hd:P.funcs.toList.length<2 ^ d)(f:Nat):P.varsNamed f=Hz P d f:=by
 unfold Hz Program.varsNamed
 simp only[JB hd,LX hd]
theorem Kw{f:Nat}(h:P.unfollowed f=true):P.recurses f=true:=by
 unfold Program.recurses
 rw[h];rfl
end
end
end Go.Proofs.YtglkncnkbofgfaaGreat
namespace Go.Proofs.YtglkncnkbofgfaaGreat.worldNone
noncomputable section
open Go
theorem NF:Tryz.prog.types.size=782:=by kernel_rfl
theorem few:Tryz.prog.funcs.toList.length<2 ^ 10:=of_decide_eq_true (by kernel_rfl)
theorem Mx:laidOutB Tryz.prog=true:=UX 10 NF (by decide) (by kernel_rfl)
theorem j8:mapsRowed Tryz.prog=true:=Uc 10 NF (by decide) (by kernel_rfl)
theorem unf:Tryz.prog.unfollowed 4=true:=by rw[ID few];as_aux_lemma=>kernel_rfl
theorem Bu{a b:Bool}(h:a=true)(k:b=true):(a && b)=true:=by rw[h,k];rfl
set_option maxHeartbeats 1000000 in
theorem joined:joinedFacts Tryz.prog 4 Tryz.f4 Rows.worldNoneSpec Rows.worldNoneRow=true:=by
 unfold joinedFacts
 refine Bu ?_ (by as_aux_lemma=>kernel_rfl)
 refine Bu ?_ (by as_aux_lemma=>kernel_rfl)
 refine Bu ?_ (by as_aux_lemma=>kernel_rfl)
 refine Bu ?_ (by as_aux_lemma=>kernel_rfl)
 refine Bu ?_ (by as_aux_lemma=>kernel_rfl)
 refine Bu ?_ (by as_aux_lemma=>kernel_rfl)
 refine Bu ?_ (by as_aux_lemma=>kernel_rfl)
 refine Bu ?_ (by as_aux_lemma=>kernel_rfl)
 refine Bu ?_ (by as_aux_lemma=>kernel_rfl)
 refine Bu ?_ (by as_aux_lemma=>kernel_rfl)
 refine Bu ?_ (by as_aux_lemma=>kernel_rfl)
 refine Bu ?_ (by as_aux_lemma=>kernel_rfl)
 refine Bu ?_ (by as_aux_lemma=>kernel_rfl)
 refine Bu ?_ (by as_aux_lemma=>kernel_rfl)
 refine Bu ?_ (by as_aux_lemma=>kernel_rfl)
 refine Bu ?_ (by as_aux_lemma=>kernel_rfl)
 refine Bu ?_ (by as_aux_lemma=>kernel_rfl)
 refine Bu ?_ (by as_aux_lemma=>kernel_rfl)
 refine Bu ?_ (by as_aux_lemma=>kernel_rfl)
 refine Bu ?_ (by rw[Jj few];as_aux_lemma=>kernel_rfl)
 refine Bu ?_ (by rw[Kw unf];as_aux_lemma=>kernel_rfl)
 refine Bu ?_ (by rw[unf];as_aux_lemma=>kernel_rfl)
 refine Bu ?_ (by rw[Lh few];as_aux_lemma=>kernel_rfl)
 refine Bu ?_ (by as_aux_lemma=>kernel_rfl)
 refine Bu ?_ (by as_aux_lemma=>kernel_rfl)
 refine Bu ?_ (by as_aux_lemma=>kernel_rfl)
 refine Bu ?_ (by as_aux_lemma=>kernel_rfl)
 refine Bu ?_ (by as_aux_lemma=>kernel_rfl)
 refine Bu ?_ (by as_aux_lemma=>kernel_rfl)
 refine Bu ?_ j8
 refine Bu ?_ Mx
 exact(by as_aux_lemma=>kernel_rfl)
end
end Go.Proofs.YtglkncnkbofgfaaGreat.worldNone

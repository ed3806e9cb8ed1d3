/-
  Part ZH of what Lawap stands on: printed by program, names and spaces cut.
-/
import Derived.Test.YtedbmmfebjfibaaGreatZG
import Derived.ChangeSlices
import Derived.ChangeArms
import Derived.Test.YtedbmmfebjfibaaGreatProg
set_option linter.unusedVariables false
set_option linter.unusedSimpArgs false
namespace Go.Proofs.YtedbmmfebjfibaaGreat
noncomputable section
open Go
section
variable {F:CallF}{e:Env}{h h':Hp}{x y:O}
structure Hp.Wf (h:Hp):Prop where
 big:256≤h.next
 has:∀ i,i<h.next→h.bl.has i
 fresh:∀ i,h.next≤i→h.bl.get i=.dead
def Hp.push(h:Hp)(o:Blk):Hp:={next:=Nat.succ h.next,low:=h.low,high:=h.high,mark:=h.mark,bl:=h.bl.lay h.next o}
def Hp.put(h:Hp)(b:Nat)(o:Blk):Hp:={next:=h.next,low:=B0 h.low b,high:=Cf h.high b,mark:=h.mark,bl:=h.bl.lay b o}
theorem Ci(W:h.Wf){o:Blk}{K:Nat→Hp→R}:Fo h o K=K h.next (h.push o):=by
 unfold Fo
 rw[BT.lay_is fun j hj=>W.has j hj]
 simp only[Aa];rfl
theorem Df(W:h.Wf){b:Nat}(h256:256≤b)(hb:b<h.next){o:Blk}{K:Hp→R}:Dz h b o K=K (h.put b o):=by
 unfold Dz
 rw[BT.lay_is fun j hj=>W.has j (Nat.lt_trans hj hb),Af.2 h256]
 simp only[Aa];rfl
theorem Hp.Wf.push_get(W:h.Wf)(o:Blk)(i:Nat):(h.push o).bl.get i=if i=h.next then o else h.bl.get i:=BT.lay_get (fun j hj=>W.has j hj) i
theorem Hp.Wf.put_get(W:h.Wf){b:Nat}(hb:b<h.next)(o:Blk)(i:Nat):(h.put b o).bl.get i=if i=b then o else h.bl.get i:=BT.lay_get (fun j hj=>W.has j (Nat.lt_trans hj hb)) i
theorem Hp.Wf.push(W:h.Wf)(o:Blk):(h.push o).Wf where
 big:=Nat.le_succ_of_le W.big
 has:=fun i hi=>BT.lay_has (fun j hj=>W.has j hj) i (by
  have hi:i<h.next+1:=hi
  rcases Nat.lt_or_ge i h.next with h1|h1
  ·exact .inr (W.has i h1)
  ·exact .inl (by omega))
 fresh:=fun i hi=>by
  have hi:h.next+1≤i:=hi
  rw[W.push_get o i,if_neg (by omega)]
  exact W.fresh i (by omega)
theorem Hp.Wf.put(W:h.Wf){b:Nat}(hb:b<h.next)(o:Blk):(h.put b o).Wf where
 big:=W.big
 has:=fun i hi=>BT.lay_has (fun j hj=>W.has j (Nat.lt_trans hj hb)) i (.inr (W.has i hi))
 fresh:=fun i hi=>by
  have hi:h.next≤i:=hi
  rw[W.put_get hb o i,if_neg (by omega)]
  exact W.fresh i hi
structure Hp.Ext (h h':Hp):Prop where
 next:h.next≤h'.next
 get:∀ i,i<h.next→h'.bl.get i=h.bl.get i
 low:min h.low h.next≤h'.low
 wf:h'.Wf
theorem Hp.Ext.refl(W:h.Wf):h.Ext h:=⟨Nat.le_refl _,fun _ _=>rfl,Nat.min_le_left _ _,W⟩
theorem Hp.Ext.trans{h₁ h₂ h₃:Hp}(a:h₁.Ext h₂)(b:h₂.Ext h₃):h₁.Ext h₃ where
 next:=Nat.le_trans a.next b.next
 get:=fun i hi=>by rw[b.get i (Nat.lt_of_lt_of_le hi a.next),a.get i hi]
 low:=by have:=a.low;have:=b.low;have:=a.next;omega
 wf:=b.wf
theorem Hp.Ext.push(a:h.Ext h')(o:Blk):h.Ext (h'.push o) where
 next:=Nat.le_succ_of_le a.next
 get:=fun i hi=>by rw[a.wf.push_get,if_neg (by have:=a.next;omega),a.get i hi]
 low:=a.low
 wf:=a.wf.push o
theorem Hp.Ext.put(a:h.Ext h'){b:Nat}(h1:h.next≤b)(hb:b<h'.next)(o:Blk):h.Ext (h'.put b o) where
 next:=a.next
 get:=fun i hi=>by rw[a.wf.put_get hb,if_neg (by omega),a.get i hi]
 low:=by
  show _≤B0 h'.low b
  rw[BC]
  have:=a.low;omega
 wf:=a.wf.put hb o
def VT.Is(t:VT)(l:List Value):Prop:=∀ i,i<l.length→t.has i∧t.get i=l.getD i noRes
theorem Dh:∀ (vs:List Value) (t:VT) (l:List Value) (i:Nat),t.Is l→i+vs.length≤l.length∨i=l.length→∃ t',Bv t i vs=some t'∧t'.Is (l.take i++vs++l.drop (i+vs.length))
 |[],t,l,i,ht,hi=>⟨t,rfl,by simpa using ht⟩
 |v::vs,t,l,i,ht,hi=>by
  have hi':i≤l.length:=by simp only[List.length_cons]at hi;omega
  have hh:∀ j,j<i→t.has j:=fun j hj=>(ht j (by omega)).1
  have h1:(t.lay i v).Is (l.take i++[v]++l.drop (i+1)):=fun j hj=>by
   have hl:(l.take i).length=i:=by simp;omega
   refine⟨VT.lay_has hh j ?_,?_⟩
   ·by_cases hji:j=i
    ·exact .inl hji
    ·right
     refine(ht j ?_).1
     simp only[List.length_append,List.length_cons,List.length_nil,List.length_drop,List.length_take]at hj
     omega
   ·rw[VT.lay_get hh]
    by_cases hji:j=i
    ·rw[if_pos hji,hji,List.getD_eq_getElem?_getD,List.append_assoc,List.getElem?_append_right (by omega)]
     simp[hl]
    ·rw[if_neg hji]
     have hjl:j<l.length:=by
      simp only[List.length_append,List.length_cons,List.length_nil,List.length_drop,List.length_take]at hj
      omega
     rw[(ht j hjl).2,List.getD_eq_getElem?_getD,List.getD_eq_getElem?_getD]
     congr 1
     rcases Nat.lt_or_ge j i with h2|h2
     ·rw[List.append_assoc,List.getElem?_append_left (by omega),List.getElem?_take,if_pos h2]
     ·rw[List.getElem?_append_right (by simp only[List.length_append,hl,List.length_cons,List.length_nil];omega),List.getElem?_drop]
      congr 1
      simp only[List.length_append,hl,List.length_cons,List.length_nil];omega
  have hlen:(l.take i++[v]++l.drop (i+1)).length=max l.length (i+1):=by
   simp only[List.length_append,List.length_cons,List.length_nil,List.length_drop,List.length_take];omega
  obtain⟨t',h2,h3⟩:=Dh vs (t.lay i v) _ (i+1) h1 (by simp only[List.length_cons]at hi;omega)
  refine⟨t',?_,?_⟩
  ·show(match t.set i v with|some t'=>Bv t' (Nat.succ i) vs|none=>none)=_
   rw[VT.lay_is hh];exact h2
  ·have e:(l.take i++[v]++l.drop (i+1)).take (i+1)++vs++(l.take i++[v]++l.drop (i+1)).drop (i+1+vs.length)=l.take i++(v::vs)++l.drop (i+(v::vs).length):=by
    have hl:(l.take i++[v]).length=i+1:=by simp;omega
    rw[List.take_left' hl]
    have e2:i+1+vs.length=(l.take i++[v]).length+vs.length:=by rw[hl]
    rw[e2,List.drop_length_add_append,List.drop_drop]
    have e3:i+1+vs.length=i+(v::vs).length:=by simp only[List.length_cons];omega
    rw[e3];simp
   rw[e]at h3;exact h3
theorem oD:VT.mt.Is []:=fun i h=>by cases h
def ofL(l:List Value):VT:=(Bv .mt 0 l).getD .mt
theorem HC(l:List Value):Bv .mt 0 l=some (ofL l)∧(ofL l).Is l:=by
 obtain⟨t',h1,h2⟩:=Dh l .mt [] 0 oD (.inr rfl)
 unfold ofL
 rw[h1]
 refine⟨rfl,?_⟩
 simpa using h2
theorem VT.Is.of{t:VT}{l:List Value}(h:Bv .mt 0 l=some t):t.Is l:=by
 have:=HC l
 rw[h]at this
 rw[Option.some.inj this.1];exact this.2
def Hp.Row(h:Hp)(b el:Nat)(l:List Value):Prop:=∃ c,h.bl.get b=.cells c l.length el∧c.Is l
def Hp.pushRow(h:Hp)(el:Nat)(l:List Value):Hp:=h.push (.cells (ofL l) l.length el)
theorem DA(W:h.Wf){el:Nat}{l:List Value}{K:Nat→Hp→R}:newRow h el l K=K h.next (h.pushRow el l):=by
 unfold newRow
 rw[(HC l).1]
 show CG h el (ofL l) (A9 l) K=_
 unfold CG
 rw[Aa,Ci W,BN];rfl
theorem Hp.Row.lt(W:h.Wf){b el:Nat}{l:List Value}(r:h.Row b el l):b<h.next:=by
 obtain⟨c,hc,_⟩:=r
 rcases Nat.lt_or_ge b h.next with h1|h1
 ·exact h1
 ·rw[W.fresh b h1]at hc;cases hc
theorem Hp.Row.new(W:h.Wf)(el:Nat)(l:List Value):(h.pushRow el l).Row h.next el l:=⟨ofL l,by unfold Hp.pushRow;rw[W.push_get,if_pos rfl],(HC l).2⟩
theorem Hp.Row.ext{b el:Nat}{l:List Value}(r:h.Row b el l)(W:h.Wf)(x:h.Ext h'):h'.Row b el l:=by
 have:=r.lt W
 obtain⟨c,hc,hl⟩:=r
 exact⟨c,(x.get b this).trans hc,hl⟩
theorem Hp.Row.push{b el:Nat}{l:List Value}(r:h.Row b el l)(W:h.Wf)(o:Blk):(h.push o).Row b el l:=r.ext W ((Hp.Ext.refl W).push o)
theorem Hp.Ext.pushRow(a:h.Ext h')(el:Nat)(l:List Value):h.Ext (h'.pushRow el l):=a.push _
theorem Hp.Row.rowOf{b el:Nat}{l:List Value}(r:h.Row b el l):∃ c,rowOf h b=.ok c l.length el∧c.Is l:=by
 obtain⟨c,hc,hl⟩:=r
 exact⟨c,by unfold Go.Proofs.YtedbmmfebjfibaaGreat.rowOf;rw[hc];rfl,hl⟩
theorem Hp.Row.load1{b el off:Nat}{l:List Value}(r:h.Row b el l)(ho:off<l.length):load1 ⟨b,off,none⟩ h=.ok (l.getD off noRes) h:=by
 obtain⟨c,hc,hl⟩:=r.rowOf
 unfold Go.Proofs.YtedbmmfebjfibaaGreat.load1
 simp only[hc]
 rw[BD.2 ho]
 simp only[A8,(hl off ho).2]
theorem Is.rowL{c:VT}{l:List Value}(hl:c.Is l)(off n:Nat)(ho:off+n≤l.length):rowL c off n=(l.drop off).take n:=by
 refine List.ext_getElem? fun i=>?_
 unfold Go.Proofs.YtedbmmfebjfibaaGreat.rowL
 rw[List.getElem?_map,List.getElem?_take,List.getElem?_drop]
 by_cases hi:i<n
 ·rw[if_pos hi,List.getElem?_range hi]
  have:=(hl (off+i) (by omega)).2
  rw[List.getD_eq_getElem?_getD,List.getElem?_eq_getElem (by omega)]at this
  show some (c.get (off+i))=_
  rw[this,List.getElem?_eq_getElem (by omega)];rfl
 ·rw[if_neg hi,List.getElem?_eq_none (by simpa using hi)];rfl
theorem Hp.Row.loadN{b el off n:Nat}{l:List Value}(r:h.Row b el l)(ho:off+n≤l.length):loadN n ⟨b,off,none⟩ h=.ok (.agg ⟨(l.drop off).take n⟩) h:=by
 obtain⟨c,hc,hl⟩:=r.rowOf
 unfold Go.Proofs.YtedbmmfebjfibaaGreat.loadN
 simp only[hc,Nat.add_eq]
 rw[Af.2 ho]
 simp only[cond_true,FZ,List.append_nil,Is.rowL hl off n ho]
theorem Hp.Row.src{b el off n c:Nat}{l:List Value}(r:h.Row b el l)(ho:off+n≤l.length){sl:Nat}{k:List Value→R}:BF h 1 (.slice (some ⟨b,off,none⟩) sl c) n k=k ((l.drop off).take n):=by
 obtain⟨cc,hc,hl⟩:=r.rowOf
 unfold BF
 simp only[hc]
 have e:Nat.mul n 1=n:=Nat.mul_one n
 rw[e]
 simp only[Nat.add_eq]
 rw[Af.2 ho]
 simp only[cond_true,FZ,List.append_nil,Is.rowL hl off n ho]
def Hp.wr(h:Hp)(b off:Nat)(vs:List Value):Hp:=match rowOf h b with
 |.ok c s e=>h.put b (.cells ((Bv c off vs).getD c) s e)
 |.no=>h
def over(l:List Value)(off:Nat)(vs:List Value):List Value:=l.take off++vs++l.drop (off+vs.length)
theorem QV{l vs:List Value}{off:Nat}(ho:off+vs.length≤l.length):(over l off vs).length=l.length:=by
 unfold over
 simp only[List.length_append,List.length_take,List.length_drop];omega
theorem Hp.Row.wr_is{b el off:Nat}{l vs:List Value}(r:h.Row b el l)(ho:off+vs.length≤l.length):∃ c,c.Is (over l off vs)∧h.wr b off vs=h.put b (.cells c (over l off vs).length el)∧
  ∀ (W:h.Wf) (h256:256≤b) (h1:BO vs=true) (K:Hp→R),Cb ⟨b,off,none⟩ vs h K=K (h.wr b off vs):=by
 obtain⟨c,hc,hl⟩:=r.rowOf
 obtain⟨c',h2,h3⟩:=Dh vs c l off hl (.inl ho)
 have e:h.wr b off vs=h.put b (.cells c' l.length el):=by
  unfold Hp.wr
  rw[hc]
  simp only[h2,Option.getD_some]
 refine⟨c',h3,by rw[QV ho];exact e,fun W h256 h1 K=>?_⟩
 unfold Cb
 simp only[hc,Nat.add_eq]
 rw[BN,Af.2 ho,h1]
 simp only[cond_true,h2]
 rw[e,Df W h256 (r.lt W)]
theorem Hp.Row.store{b el off:Nat}{l vs:List Value}(r:h.Row b el l)(W:h.Wf)(h256:256≤b)(ho:off+vs.length≤l.length)(h1:BO vs=true)(K:Hp→R):Cb ⟨b,off,none⟩ vs h K=K (h.wr b off vs):=by
 obtain⟨_,_,_,h4⟩:=r.wr_is ho
 exact h4 W h256 h1 K
theorem Hp.Row.wr_self{b el off:Nat}{l vs:List Value}(r:h.Row b el l)(W:h.Wf)(ho:off+vs.length≤l.length):(h.wr b off vs).Row b el (over l off vs):=by
 obtain⟨c,h3,e,_⟩:=r.wr_is ho
 exact⟨c,by rw[e,W.put_get (r.lt W),if_pos rfl],h3⟩
theorem Hp.Row.wr_other{b el off b' el':Nat}{l vs l':List Value}(r:h.Row b el l)(W:h.Wf)(ho:off+vs.length≤l.length)(r':h.Row b' el' l')(hb:b'≠b):(h.wr b off vs).Row b' el' l':=by
 obtain⟨c,h3,e,_⟩:=r.wr_is ho
 obtain⟨c',hc',hl'⟩:=r'
 exact⟨c',by rw[e,W.put_get (r.lt W),if_neg hb,hc'],hl'⟩
theorem Hp.Row.wr_ext{h0:Hp}{b el off:Nat}{l vs:List Value}(r:h.Row b el l)(x:h0.Ext h)(hb:h0.next≤b)(ho:off+vs.length≤l.length):h0.Ext (h.wr b off vs):=by
 obtain⟨c,h3,e,_⟩:=r.wr_is ho
 rw[e];exact x.put hb (r.lt x.wf) _
theorem Hp.Row.wr_next{b el off:Nat}{l vs:List Value}(r:h.Row b el l)(ho:off+vs.length≤l.length):(h.wr b off vs).next=h.next:=by
 obtain⟨c,h3,e,_⟩:=r.wr_is ho
 rw[e];rfl
def G7(v:Value)(h:Hp):R:=match DT v with
 |.ok a=>load1 a h
 |.no=>.no
theorem AM:AO x F e h=G7 (x e) h:=by
 unfold AO G7
 cases DT (x e)<;>rfl
theorem AP{a:Addr}:G7 (.pointer (some a)) h=load1 a h:=rfl
def Lz(n:Nat)(v:Value)(h:Hp):R:=match DT v with
 |.ok a=>loadN n a h
 |.no=>.no
theorem Aq{n:Nat}:Bh n x F e h=Lz n (x e) h:=rfl
theorem Ao{n:Nat}{a:Addr}:Lz n (.pointer (some a)) h=loadN n a h:=rfl
def storeR(n:Nat)(p v:Value)(h:Hp):R:=match DT p with
 |.ok a=>bif Nat.beq (A9 (cellsOf v)) n then Cb a (cellsOf v) h DV else .no
 |.no=>.no
theorem AX{n:Nat}:As n x y F e h=storeR n (x e) (y e) h:=by
 unfold As storeR
 simp only[A8]
 cases DT (x e)<;>rfl
theorem Hp.Row.storeR{n b el off:Nat}{l:List Value}{v:Value}(r:h.Row b el l)(W:h.Wf)(h256:256≤b)(hn:(cellsOf v).length=n)(ho:off+(cellsOf v).length≤l.length)(h1:BO (cellsOf v)=true):
  storeR n (.pointer (some ⟨b,off,none⟩)) v h=.ok noRes (h.wr b off (cellsOf v)):=by
 show(bif Nat.beq (A9 (cellsOf v)) n then Cb ⟨b,off,none⟩ (cellsOf v) h DV else .no)=_
 rw[BN,Al.2 hn,r.store W h256 ho h1];rfl
def Zr(v:Value)(h:Hp):R:=bif known v then newRow h 0 (cellsOf v) IL else .no
theorem Fe:DD x F e h=Zr (x e) h:=by
 unfold DD Zr
 simp only[A8]
theorem FR(W:h.Wf){v:Value}(hk:known v=true:=by rfl):Zr v h=.ok (.pointer (some ⟨h.next,0,none⟩)) (h.pushRow 0 (cellsOf v)):=by
 unfold Zr
 rw[hk,cond_true,DA W];rfl
theorem Bd(W:h.Wf){n:Nat}{t:VT}:Bo n t F e h=.ok (.pointer (some ⟨h.next,0,none⟩)) (h.push (.cells t n 0)):=by
 unfold Bo
 rw[Ci W];rfl
theorem Hp.Row.alloc(W:h.Wf){n:Nat}{t:VT}{l:List Value}(ht:Bv .mt 0 l=some t)(hn:l.length=n):(h.push (.cells t n 0)).Row h.next 0 l:=⟨t,by rw[W.push_get,if_pos rfl,hn],.of ht⟩
theorem Ml{n:Nat}:AF n x F e h=match DT (x e)with|.ok a=>.ok (.pointer (some ⟨a.block,a.off+n,none⟩)) h|.no=>.no:=by
 unfold AF
 cases DT (x e)with
 |ok a=>exact Aa _ _
 |no=>rfl
def S5(n:Nat)(v:Value)(h:Hp):R:=match DT v with
 |.ok a=>.ok (.pointer (some ⟨a.block,a.off+n,none⟩)) h
 |.no=>.no
theorem AJ{n:Nat}:AF n x F e h=S5 n (x e) h:=Ml
theorem AN{n b off:Nat}:S5 n (.pointer (some ⟨b,off,none⟩)) h=.ok (.pointer (some ⟨b,off+n,none⟩)) h:=rfl
def Mh(n es:Nat)(p i:Value)(h:Hp):R:=Lp n es (DT p) (Cu i) h
theorem C0{n es:Nat}:CO n es x y F e h=Mh n es (x e) (y e) h:=rfl
theorem TO{n es b off i:Nat}(hi:i<n):Lp n es (.ok ⟨b,off,none⟩) (.ok i) h=.ok (.pointer (some ⟨b,off+i * es,none⟩)) h:=by
 show Bool.rec (motive:=fun _=>R) .no (Nf ⟨b,off,none⟩ (Nat.mul i es) h) (Nat.blt i n)=_
 rw[BD.2 hi]
 exact Aa _ _
theorem TR{n es b off i:Nat}{k:IntKind}(hi:i<n):Mh n es (.pointer (some ⟨b,off,none⟩)) (.int k (i:Int)) h=.ok (.pointer (some ⟨b,off+i * es,none⟩)) h:=TO hi
def idxSR(es:Nat)(s i:Value)(h:Hp):R:=match s with
 |.slice (some a) n _=>Lp n es (.ok a) (Cu i) h
 |_=>.no
theorem Az{es:Nat}:CA es x y F e h=idxSR es (x e) (y e) h:=rfl
theorem DX{n c es b off i:Nat}{k:IntKind}(hi:i<n):idxSR es (.slice (some ⟨b,off,none⟩) n c) (.int k (i:Int)) h=.ok (.pointer (some ⟨b,off+i * es,none⟩)) h:=TO hi
def lenSR(v:Value)(h:Hp):R:=match v with
 |.slice _ n _=>.ok (.int .i64 (.ofNat n)) h
 |.chan (some _)=>.ok (.int .i64 (.ofNat 0)) h
 |_=>.no
theorem Ae:Bi x F e h=lenSR (x e) h:=rfl
theorem Dt{o:Option Addr}{n c:Nat}:lenSR (.slice o n c) h=.ok (.int .i64 (n:Int)) h:=rfl
end
end
noncomputable section
open Go
section
variable {F:CallF}{e:Env}{h h':Hp}{x y:O}
def eO:X→Bool
 |.norm _ _=>false
 |.no=>false
 |_=>true
theorem Pn{body:C}{I:Nat→Env→Hp→Prop}{Q:X→Prop}(N:Nat)
  (step:∀ i e h,I i e h→(i<N∧∃ e' h',body F e h=.norm e' h'∧I (i+1) e' h')∨(eO (body F e h)=true∧Q (body F e h))):
  ∀ n i e h,N - i<n→I i e h→Q (iter body n F e h)
 |0,i,e,h,hn,_=>absurd hn (Nat.not_lt_zero _)
 |n+1,i,e,h,hn,hi=>by
  unfold iter
  rcases step i e h hi with ⟨h1,e',h',h2,h3⟩|⟨h1,h2⟩
  ·rw[h2]
   exact Pn N step n (i+1) e' h' (by omega) h3
  ·cases hb:body F e h with
   |norm e' h'=>rw[hb]at h1;cases h1
   |no=>rw[hb]at h1;cases h1
   |exit i e' h'=>rw[hb]at h2;exact h2
   |ret e' h'=>rw[hb]at h2;exact h2
theorem BZ{body:C}(I:Nat→Env→Hp→Prop)(Q:X→Prop)(N:Nat)(hN:N<8796093022208)
  (step:∀ i e h,I i e h→(i<N∧∃ e' h',body F e h=.norm e' h'∧I (i+1) e' h')∨(eO (body F e h)=true∧Q (body F e h)))(h0:I 0 e h):Q (Ax body F e h):=
 Pn N step rounds 0 e h (by show N - 0<8796093022208;omega) h0
theorem Ba{n:Nat}(h:n≤9223372036854775807):IntKind.i64.wrap (n:Int)=n:=HN h
theorem ZP{n:Int}(h0:0≤n)(h:n≤9223372036854775807):IntKind.i64.wrap n=n:=by
 obtain⟨m,rfl⟩:=Int.eq_ofNat_of_zero_le h0
 exact HN (by omega)
theorem D7{n:Nat}(h:n≤18446744073709551615):IntKind.u64.wrap (n:Int)=n:=C1 .u64 n h
theorem Hn(n:Nat):IntKind.u8.wrap (n:Int)=((n % 256:Nat):Int):=by
 have:IntKind.u8.wrap (n:Int)=(n:Int) % 256:=rfl
 rw[this];omega
def bv(n:Nat):Value:=.int .u8 (n:Int)
theorem LL:∀ l:List Nat,ET (l.map bv)=some (l.map UInt8.ofNat)
 |[]=>rfl
 |n::l=>by
  show(match ET (l.map bv)with|some bs=>forceN n fun n=>some (UInt8.ofNat n::bs)|none=>none)=_
  rw[LL l]
  exact Aa _ _
theorem C7:∀ l:List Nat,BO (l.map bv)=true
 |[]=>rfl
 |n::l=>C7 l
def Hp.Bytes(h:Hp)(v:Value)(l:List Nat):Prop:=(v=.slice none 0 0∧l=[])∨∃ b off c el L,v=.slice (some ⟨b,off,none⟩) l.length c∧h.Row b el L∧off+l.length≤L.length∧(L.drop off).take l.length=l.map bv
theorem Hp.Bytes.src{v:Value}{l:List Nat}(b:h.Bytes v l){n:Nat}(hn:n=l.length)(k:List Value→R):BF h 1 v n k=k (l.map bv):=by
 subst hn
 rcases b with ⟨h1,h2⟩|⟨b,off,c,el,L,h1,h2,h3,h4⟩
 ·rw[h1,h2];rfl
 ·rw[h1,h2.src h3,h4]
theorem Hp.Bytes.shape{v:Value}{l:List Nat}(b:h.Bytes v l):∃ a c,v=.slice a l.length c:=by
 rcases b with ⟨h1,h2⟩|⟨b,off,c,el,L,h1,h2,h3,h4⟩
 ·exact⟨none,0,by rw[h1,h2];rfl⟩
 ·exact⟨_,_,h1⟩
def oY(v:Value)(h:Hp):R:=match v with
 |.slice a n c=>BF h 1 (.slice a n c) n fun cs=>match ET cs with
  |some bs=>.ok (.string ⟨⟨bs⟩⟩) h
  |none=>.no
 |_=>.no
theorem Jz:FB x F e h=oY (x e) h:=rfl
theorem Hp.Bytes.str{v:Value}{l:List Nat}(b:h.Bytes v l):oY v h=.ok (.string ⟨⟨l.map UInt8.ofNat⟩⟩) h:=by
 obtain⟨a,c,rfl⟩:=b.shape
 show BF h 1 (.slice a l.length c) l.length (fun cs=>match ET cs with
  |some bs=>.ok (.string ⟨⟨bs⟩⟩) h
  |none=>.no)=_
 rw[b.src rfl,LL]
def nu(f:List UInt8→List UInt8→Bool)(a b:Value)(h:Hp):R:=Y9 f a b h
theorem OX{f:List UInt8→List UInt8→Bool}:I6 f x y F e h=nu f (x e) (y e) h:=rfl
theorem N3{f:List UInt8→List UInt8→Bool}{a b:List UInt8}:nu f (.string ⟨⟨a⟩⟩) (.string ⟨⟨b⟩⟩) h=.ok (.bool (f a b)) h:=Fp
theorem dX{v:Value}{l:List Nat}(b:h.Bytes v l):lenV v=.ok l.length:=by
 obtain⟨a,c,rfl⟩:=b.shape;rfl
theorem Ow{eb en b n c el:Nat}{l:List Value}{v:Value}(W:h.Wf)(h256:256≤b)(r:h.Row b el l)(hx:h.Bytes v [])(hc:n≤c)(hn:n≤l.length):
  DN 1 eb en (.slice (some ⟨b,0,none⟩) n c) v h=.ok (.slice (some ⟨b,0,none⟩) n c) (h.wr b n []):=by
 unfold DN
 simp only[dX hx,hx.src rfl,Aa,Nat.add_eq]
 have e1:Nat.ble n c=true:=Af.2 hc
 have e0:n+([]:List Nat).length=n:=rfl
 simp only[e0,e1,List.map_nil]
 have e2:Ej ⟨b,0,none⟩ (Nat.mul n 1)=⟨b,n,none⟩:=by
  rw[show Nat.mul n 1=n from Nat.mul_one n]
  cases n with
  |zero=>rfl
  |succ n=>show(⟨b,Nat.add 0 (Nat.succ n),none⟩:Addr)=_;rw[Nat.add_eq,Nat.zero_add]
 rw[e2,r.store W h256 (by simpa using hn) rfl]
def DM(es eb en:Nat)(s v:Value)(h:Hp):R:=DN es eb en s v h
theorem BE{es eb en:Nat}:Be es eb en x y F e h=DM es eb en (x e) (y e) h:=rfl
theorem CL{cs:List Value}{k:List Value→R}:D9 cs e k []=k cs:=CM _ _
theorem A6{cs:List Value}{k:List Value→R}{off size:Nat}{rest:List (Nat×Nat×O)}(hk:known (x e)=true:=by rfl):D9 cs e k ((off,size,x)::rest)=(if(cellsOf (x e)).length=size then(if off+size≤cs.length then D9 (over cs off (cellsOf (x e))) e k rest else .no)else .no):=by
 have e0:D9 cs e k ((off,size,x)::rest)=(bif known (x e)then(bif Nat.beq (A9 (cellsOf (x e))) size then(bif Nat.ble (Nat.add off size) (A9 cs)then D9 (lay cs off (cellsOf (x e))) e k rest else .no)else .no)else .no):=A8 _ _
 have e1:D9 cs e k ((off,size,x)::rest)=(bif Nat.beq (A9 (cellsOf (x e))) size then(bif Nat.ble (Nat.add off size) (A9 cs)then D9 (lay cs off (cellsOf (x e))) e k rest else .no)else .no):=by rw[e0,hk];rfl
 rw[e1,BN,BN,lay_is]
 by_cases h1:(cellsOf (x e)).length=size
 ·rw[if_pos h1,Al.2 h1]
  by_cases h2:off+size≤cs.length
  ·rw[if_pos h2,show Nat.ble (Nat.add off size) cs.length=true from Af.2 h2];rfl
  ·rw[if_neg h2]
   have:Nat.ble (Nat.add off size) cs.length=false:=by
    cases e:Nat.ble (Nat.add off size) cs.length
    ·rfl
    ·exact absurd (Af.1 e) h2
   rw[this];rfl
 ·rw[if_neg h1]
  have:Nat.beq (cellsOf (x e)).length size=false:=by
   cases e:Nat.beq (cellsOf (x e)).length size
   ·rfl
   ·exact absurd (Al.1 e) h1
  rw[this];rfl
theorem DO{k:IntKind}{n:Int}:cellsOf (.int k n)=[.int k n]:=rfl
theorem HE{l vs:List Value}(hl:l.length=vs.length):over l 0 vs=vs:=by
 unfold over
 rw[List.take_zero,List.nil_append,List.drop_of_length_le (by omega),List.append_nil]
theorem EN{zero:List Value}{ps:List (Nat×Nat×O)}:Bp zero ps F e h=D9 zero e (fun cs=>.ok (.agg ⟨cs⟩) h) ps:=rfl
theorem Ca{n:Nat}{zero:List Value}{ps:List (Nat×Nat×O)}:Ah n zero ps F e h=D9 zero e (fun cs=>newRow h 0 cs (Fs n n)) ps:=rfl
def Hp.marked(h:Hp):Hp:={next:=h.next,low:=h.low,high:=h.high,mark:=h.next,bl:=h.bl}
def Hp.quiet(h:Hp):Hp:={next:=h.next,low:=h.next,high:=0,mark:=h.mark,bl:=h.bl}
def Hp.back(h h':Hp):Hp:={next:=h'.next,low:=B0 h.low h'.low,high:=Cf h.high h'.high,mark:=h.mark,bl:=h'.bl}
theorem Ay{k:C}:CH k F e h=k F e h.marked:=rfl
theorem Hp.Wf.marked(W:h.Wf):h.marked.Wf:=⟨W.big,W.has,W.fresh⟩
theorem Hp.Wf.quiet(W:h.Wf):h.quiet.Wf:=⟨W.big,W.has,W.fresh⟩
theorem Hp.Ext.marked{h0:Hp}(x:h0.Ext h):h0.Ext h.marked:=⟨x.next,x.get,x.low,x.wf.marked⟩
theorem Hp.Row.same{b el:Nat}{l:List Value}(r:h.Row b el l)(hb:h'.bl=h.bl):h'.Row b el l:=by
 obtain⟨c,hc,hl⟩:=r
 exact⟨c,by rw[hb];exact hc,hl⟩
theorem Hp.Ext.back(x:h.quiet.Ext h'):h.Ext (h.back h') where
 next:=x.next
 get:=x.get
 low:=by
  show _≤B0 h.low h'.low
  rw[BC]
  have h1:min h.next h.next≤h'.low:=x.low
  omega
 wf:=⟨x.wf.big,x.wf.has,x.wf.fresh⟩
theorem DJ{f:OpF}{m:Qm}{v:Value}(hf:f F e h.quiet=.ok v h')(x:h.quiet.Ext h')(hm:h.mark≤h.next):Am m f F e h=.ok v (h.back h'):=by
 have h1:min h.next h.next≤h'.low:=x.low
 have hq:qOk m h h'.low=true:=by
  cases m with
  |strong=>exact Af.2 (by omega)
  |weak=>exact Af.2 (by omega)
  |free=>rfl
 show(match f F e h.quiet with|.ok v h'=>bif qOk m h h'.low then Dj h v h' else .no|.no=>.no)=_
 rw[hf]
 simp only[hq,cond_true]
 unfold Dj
 simp only[Aa];rfl
theorem BQ{f:OpF}{v:Value}(hf:f F e h.quiet=.ok v h'):Am .free f F e h=.ok v (h.back h'):=by
 show(match f F e h.quiet with|.ok v h'=>bif qOk .free h h'.low then Dj h v h' else .no|.no=>.no)=_
 rw[hf]
 show Dj h v h'=_
 unfold Dj
 simp only[Aa];rfl
def J1(v:Value)(k:C)(F:CallF)(e:Env)(h:Hp):X:=match blkOf v with
 |.ok b=>bif Nat.blt b h.mark then k F e h else .no
 |.no=>k F e h
theorem EU{k:C}:El x k F e h=J1 (x e) k F e h:=rfl
theorem Dy{b off:Nat}{k:C}(hb:b<h.mark):J1 (.pointer (some ⟨b,off,none⟩)) k F e h=k F e h:=by
 show(bif Nat.blt b h.mark then k F e h else .no)=_
 rw[BD.2 hb];rfl
theorem DW{k:C}:Cx x [] k F e h=k F e h:=by
 unfold Cx
 cases blkOf (x e)<;>rfl
theorem Hp.Ext.quiet{h0:Hp}(x:h0.Ext h):h0.Ext h.quiet:=⟨x.next,x.get,by show _≤h.next;have:=x.next;omega,x.wf.quiet⟩
theorem Hp.Ext.back2{h0:Hp}(x:h0.Ext h)(y:h0.Ext h'):h0.Ext (h.back h') where
 next:=y.next
 get:=y.get
 low:=by
  show _≤B0 h.low h'.low
  rw[BC]
  have:=x.low
  have:=y.low
  omega
 wf:=⟨y.wf.big,y.wf.has,y.wf.fresh⟩
end
end
noncomputable section
open Go Go.RowKit Go.WideShapes Go.ChangeShapes
def sliceAt(b:Nat)(a:Addr)(n c:Nat):Phi:=fun i=>if i=b then some {blk:=a.block,off:=a.off,sz:=c,room:=c,es:=1,inp:=true}else none
theorem Vj{P:Program}{W:World}{base t e:Nat}{v:Value}(ht:P.underlying t=some (.slice e))(h:Value.okWide P W .any base t v):
  v=.slice none 0 0∨∃ a n c,v=.slice (some a) n c∧n≤c∧a.spot=none∧a.block<W.heap.size:=by
 unfold Value.okWide at h
 rw[ht]at h
 simp only at h
 unfold Cell.okWide at h
 rw[ht]at h
 have h:Cell.ok P W .any base t v:=by cases v<;>exact h
 unfold Cell.ok at h
 rw[ht]at h
 split at h<;>first|(exact h.elim;done)|skip
 all_goals (rename_i e1 _;cases e1)
 ·exact .inl rfl
 ·obtain⟨h1,_,h2⟩:=h
  obtain⟨_,h3,row,cells,h4,_⟩:=h2
  refine .inr ⟨_,_,_,rfl,h1,h3,?_⟩
  unfold World.shape? at h4
  split at h4
  ·rename_i hb;exact(Array.getElem?_eq_some_iff.1 hb).1
  all_goals first|(cases h4;done)|(rename_i hb;exact(Array.getElem?_eq_some_iff.1 hb).1)
theorem MY{P:Program}{W:World}{base t e:Nat}{v:Value}(ht:P.underlying t=some (.slice e))(h:Cell.okWide P W .any base t v):
  v=.slice none 0 0∨∃ a n c,v=.slice (some a) n c∧n≤c∧a.spot=none∧a.block<W.heap.size:=
 Vj (base:=base) ht (by unfold Value.okWide;rw[ht];exact h)
end
noncomputable section
open Go Go.RowKit Go.WideShapes Go.ChangeShapes
theorem dQ{P:Program}{ty:TTy}{bs:FT}(hC:∀ n,Cw P ty (call bs n)){n f:Nat}{xs args:List Value}{φ:Phi}{w:World}{h0 h':Hp}(hr:call bs n f xs h0=.ok (.bool true) h')(x:h0.Ext h')(hl:h0.low=h0.next)
  (ha:RelL φ xs args)(H:RelW ty φ nil h0 w):Calls P f ⟨args⟩ w fun e w'=>e=.returned (.bool true)∧Below w.heap.size w w':=by
 obtain⟨_,hc⟩:=hC n f xs h0 _ h' hr
 refine(hc φ w args ha H).mono fun e w' ⟨v',ψ,he,hv,_,ev⟩=>?_
 have:=hv.bool_inv
 subst this
 refine⟨he,⟨ev.os,ev.tape,ev.output,ev.size,fun k hk=>ev.frame k hk fun i p hp hn h1 _ _=>?_⟩⟩
 have h2:=(H.dom i p hp).1
 have h3:=x.low
 omega
theorem NB:∀ (n i:Nat),i+1<2 ^ n→(E0 n).has i
 |0,i,h=>by rw[Nat.pow_zero]at h;omega
 |n+1,0,_=>trivial
 |n+1,k+1,h=>by
  show(BT.nd .dead (E0 n) (E0 n)).has (k+1)
  rw[BT.has_succ]
  have h1:k / 2+1<2 ^ n:=by
   have:2 ^ (n+1)=2 * 2 ^ n:=by rw[Nat.pow_succ,Nat.mul_comm]
   omega
  split<;>exact NB n _ h1
def KG(L:List Value):Blk:=.cells (ofL L) L.length 0
def inB:List (List Value)→Nat→BT→BT
 |[],_,t=>t
 |L::Ls,i,t=>inB Ls (i+1) (t.lay i (KG L))
theorem OC:∀ (Ls:List (List Value)) (i:Nat) (t:BT),(∀ j,j<256→t.has j)→i+Ls.length≤256→
  (∀ j,j<256→(inB Ls i t).has j)∧(∀ k L,Ls[k]? =some L→(inB Ls i t).get (i+k)=KG L)∧(∀ j,j<i∨i+Ls.length≤j→(inB Ls i t).get j=t.get j)
 |[],i,t,ht,_=>⟨ht,(fun k L h=>by cases h),fun _ _=>rfl⟩
 |L::Ls,i,t,ht,hl=>by
  have hl':i+1+Ls.length≤256:=by simp only[List.length_cons]at hl;omega
  have hi:∀ j,j<i→t.has j:=fun j hj=>ht j (by omega)
  obtain⟨a,b,c⟩:=OC Ls (i+1) (t.lay i (KG L)) (fun j hj=>BT.lay_has hi j (.inr (ht j hj))) hl'
  refine⟨a,fun k M h=>?_,fun j hj=>?_⟩
  ·cases k with
   |zero=>
    obtain rfl:L=M:=Option.some.inj h
    show(inB Ls (i+1) (t.lay i (KG L))).get i=_
    rw[c i (.inl (Nat.lt_succ_self i)),BT.lay_get hi,if_pos rfl]
   |succ k=>
    have:=b k M h
    rw[show i+1+k=i+(k+1)by omega]at this
    exact this
  ·show(inB Ls (i+1) (t.lay i (KG L))).get j=_
   simp only[List.length_cons]at hj
   rw[c j (by omega),BT.lay_get hi,if_neg (by omega)]
def inH(Ls:List (List Value)):Hp:={next:=256,low:=256,high:=0,mark:=256,bl:=inB Ls 0 (E0 9)}
theorem Ll(j:Nat)(hj:j<256):(E0 9).has j:=NB 9 j (by omega)
theorem OE{Ls:List (List Value)}(hl:Ls.length≤256){i:Nat}{L:List Value}(h:Ls[i]? =some L):(inH Ls).bl.get i=KG L:=by
 have:=(OC Ls 0 (E0 9) Ll (by omega)).2.1 i L h
 rwa [Nat.zero_add]at this
theorem Xi{Ls:List (List Value)}(hl:Ls.length≤256):(inH Ls).Wf where
 big:=Nat.le_refl _
 has:=(OC Ls 0 (E0 9) Ll (by omega)).1
 fresh:=fun i hi=>by
  have hi:256≤i:=hi
  have:=(OC Ls 0 (E0 9) Ll (by omega)).2.2 i (.inr (by omega))
  show(inB Ls 0 (E0 9)).get i=_
  rw[this];exact Jn 9 i
theorem Ko{Ls:List (List Value)}(hl:Ls.length≤256){i:Nat}{L:List Value}(h:Ls[i]? =some L):(inH Ls).Row i 0 L:=⟨ofL L,OE hl h,(HC L).2⟩
def J8(W:World)(a:Addr)(L:List Value):Prop:=∃ cs t fr,W.heap[a.block]? =some (.cells cs t fr)∧(∀ j,j<L.length→cs[a.off+j]? =some (L.getD j noRes))∧∀ j,j<L.length→¬ (fr.1≤a.off+j∧a.off+j<fr.2)
def Mp(a:Addr)(c:Nat):Pl:={blk:=a.block,off:=if c=0 then 0 else a.off,sz:=c,room:=c,es:=1,inp:=true}
def NL(ps:List (Option Pl)):Phi:=fun i=>(ps[i]?).getD none
theorem Ym{W:World}{ty:TTy}{φ:Phi}{a:Addr}{L L':List Value}(h:J8 W a L')(hL:RelL φ L L'):RelB ty φ (Mp a L.length) (KG L) W.heap[a.block]?:=by
 obtain⟨cs,t,fr,hb,hc,hf⟩:=h
 have hlen:L'.length=L.length:=hL.length
 rw[hlen]at hc hf
 rw[hb]
 refine .cells {kind:=⟨rfl,.inl ⟨rfl,rfl,rfl,.inr rfl⟩⟩,room:=Nat.le_refl _,fits:=?_,loose:=.inr ⟨rfl,rfl,fun o h1 h2=>?_⟩,cell:=fun j hj=>?_}
 ·show(if L.length=0 then 0 else a.off)+L.length≤cs.size
  rcases Nat.eq_zero_or_pos L.length with h0|h0
  ·rw[if_pos h0,h0];exact Nat.zero_le _
  ·rw[if_neg (by omega)]
   have:=(Array.getElem?_eq_some_iff.1 (hc (L.length - 1) (by omega))).1
   omega
 ·have h1:(if L.length=0 then 0 else a.off)≤o:=h1
  have h2:o<(if L.length=0 then 0 else a.off)+L.length:=h2
  rcases Nat.eq_zero_or_pos L.length with h0|h0
  ·rw[if_pos h0]at h2;omega
  ·rw[if_neg (by omega)]at h1 h2
   have:=hf (o - a.off) (by omega)
   have e:a.off+(o - a.off)=o:=by omega
   rw[e]at this;exact this
 ·have h1:=hc j hj
  obtain⟨v',hv1,hv2⟩:=hL.get j (L.getD j noRes) (by rw[List.getD_eq_getElem?_getD,List.getElem?_eq_getElem hj];rfl)
  refine⟨v',?_,?_⟩
  ·show cs[(if L.length=0 then 0 else a.off)+j]? =_
   rw[if_neg (by omega),h1,List.getD_eq_getElem?_getD,hv1];rfl
  ·rw[((HC L).2 j hj).2];exact hv2
theorem J8.lt{W:World}{a:Addr}{L:List Value}(h:J8 W a L):a.block<W.heap.size:=by
 obtain⟨cs,t,fr,hb,_⟩:=h
 exact(Array.getElem?_eq_some_iff.1 hb).1
theorem kH{W:World}{ty:TTy}{ps:List (Option Pl)}{Ls:List (List Value)}(h256:Ls.length≤256)
  (h:∀ i p,NL ps i=some p→∃ a L,p=Mp a L.length∧Ls[i]? =some L∧a.block<W.heap.size∧RelB ty (NL ps) (Mp a L.length) (KG L) W.heap[a.block]?):RelW ty (NL ps) nil (inH Ls) W where
 dom:=fun i p e=>by
  obtain⟨a,L,rfl,h1,h2,_⟩:=h i p e
  have h3:=(List.getElem?_eq_some_iff.1 h1).1
  exact⟨by show i<256;omega,h2⟩
 inj:=fun i j p q h1 h2 _ _ _ _ hor=>by
  obtain⟨a,L,rfl,_⟩:=h i p h1
  obtain⟨b,M,rfl,_⟩:=h j q h2
  rcases hor with h3|h3<;>cases h3
 row:=fun i p e _=>by
  obtain⟨a,L,rfl,h1,_,h3⟩:=h i p e
  rw[OE h256 h1];exact h3
 fresh:=(Xi h256).fresh
 kind:=fun i p c s e hp hc=>by
  obtain⟨a,L,rfl,h1,_,h3⟩:=h i p hp
  rw[OE h256 h1]at hc
  have hc:Blk.cells (ofL L) L.length 0=.cells c s e:=hc
  cases hc
  exact⟨rfl,.inl ⟨rfl,rfl,rfl,.inr rfl⟩⟩
 inp:=fun i p e _=>by
  obtain⟨a,L,rfl,h1,_⟩:=h i p e
  have h3:=(List.getElem?_eq_some_iff.1 h1).1
  omega
theorem Y4{φ:Phi}{a:Addr}{n c i:Nat}(hs:a.spot=none)(hn:n≤c)(hp:φ i=some (Mp a c)):RelV φ (.slice (some ⟨i,0,none⟩) n c) (.slice (some a) n c):=by
 refine .slice hn ⟨rfl,hs,_,hp,rfl,?_⟩
 rcases Nat.eq_zero_or_pos c with h|h
 ·exact .inr ⟨h,.inl h⟩
 ·refine .inl ⟨h,?_,.inl rfl⟩
  show a.off=(if c=0 then 0 else a.off)+0
  rw[if_neg (by omega),Nat.add_zero]
def ints(k:IntKind)(Z:List Int):List Value:=Z.map (.int k)
theorem Lr(φ:Phi)(k:IntKind):∀ Z:List Int,RelL φ (ints k Z) (ints k Z)
 |[]=>.nil
 |z::Z=>.cons (.int k z) (Lr φ k Z)
def RG(k:IntKind)(W:World)(v:Value)(zs:List Int):Prop:=(v=.slice none 0 0∧zs=[])∨∃ (a:Addr) (n c:Nat) (Z:List Int),v=.slice (some a) n c∧n≤c∧a.spot=none∧Z.length=c∧zs=Z.take n∧J8 W a (ints k Z)
theorem TY{H:Type}{enc:TypeId×Value→H}{P:Program}{t e:TypeId}{k:IntKind}(ht:P.underlying t=some (.slice e))(he:P.underlying e=some (.int k))(hc:P.cellsOf e=1){W:World}{base fuel:Nat}{v:Value}{x:DataW H×List MemPlace}
  (hval:Cell.okWide P W .any base t v)(hf:DataW.trod enc P W 0 (fun _=>true) true fuel t [v]=some x)(hfz:∀ b off,MemPlace.cell b off∈x.2→W.frozen? ⟨b,off,none⟩=false):∃ zs:List Int,(∀ z∈zs,(Lit.int k z).wf=true)∧RG k W v zs:=by
 rcases MY ht hval with rfl|⟨a,n,c,rfl,h1,h2,h3⟩
 ·exact⟨[],(fun x hx=>by cases hx),.inl ⟨rfl,rfl⟩⟩
 rcases open_ints ht he hc hf with ⟨hcs,_⟩|⟨a',n',c',zs,hcs,_,hl,hm,hz,hx,hcell,hwz⟩
 ·simp at hcs
 ·simp at hcs
  obtain⟨rfl,rfl,rfl⟩:=hcs
  simp only[if_true]at hz
  subst hx
  obtain⟨ab,ao,spot⟩:=a
  simp only at h2
  subst h2
  have hblk:∃ cs tt fr,W.heap[ab]? =some (.cells cs tt fr):=by
   unfold Cell.okWide at hval
   rw[ht]at hval
   have hval:Cell.ok P W .any base t (.slice (some ⟨ab,ao,none⟩) n c):=hval
   unfold Cell.ok at hval
   rw[ht]at hval
   obtain⟨_,_,_,_,row,cells,hsh,_⟩:=hval
   unfold World.shape? at hsh
   split at hsh
   ·rename_i cs tt fr hb;exact⟨cs,tt,fr,hb⟩
   all_goals cases hsh
  obtain⟨cs,tt,fr,hb⟩:=hblk
  have hlen:(ints k zs).length=c:=by unfold ints;rw[List.length_map];exact hz
  refine⟨zs.take n,fun x hx=>hwz x (List.mem_of_mem_take hx),.inr ⟨⟨ab,ao,none⟩,n,c,zs,rfl,h1,rfl,hz,rfl,cs,tt,fr,hb,fun i hi=>?_,fun i hi hh=>?_⟩⟩
  ·rw[hlen]at hi
   have h4:=hcell i (by omega)
   rw[Addr.add_is,HS hb]at h4
   show cs[ao+i]? =_
   have h5:i<zs.length:=by omega
   rw[h4]
   unfold ints
   rw[List.getD_eq_getElem?_getD,List.getD_eq_getElem?_getD,List.getElem?_map,List.getElem?_eq_getElem h5];rfl
  ·rw[hlen]at hi
   have h6:=hfz ab (ao+i) (by simp only[MemPlace.row,List.mem_map,List.mem_range];exact⟨i,by omega,rfl⟩)
   obtain⟨lo,hi'⟩:=fr
   simp only[World.frozen?,hb]at h6
   simp only at hh
   simp only[Bool.and_eq_false_iff,decide_eq_false_iff_not]at h6
   omega
def Hp.Vals(h:Hp)(v:Value)(xs:List Value):Prop:=(v=.slice none 0 0∧xs=[])∨∃ b off c el L,v=.slice (some ⟨b,off,none⟩) xs.length c∧h.Row b el L∧off+xs.length≤L.length∧(L.drop off).take xs.length=xs
def UQ(W:World)(L:List Value)(q:Option Pl):Prop:=q=none∨∃ a,q=some (Mp a L.length)∧J8 W a L
theorem RG.rel{k:IntKind}{W:World}{v:Value}{zs:List Int}(b:RG k W v zs)(i:Nat):∃ (u:Value) (q:Option Pl) (Z:List Int),UQ W (ints k Z) q∧(∀ φ:Phi,φ i=q→RelV φ u v)∧(∀ h:Hp,h.Row i 0 (ints k Z)→h.Vals u (ints k zs)):=by
 rcases b with ⟨rfl,rfl⟩|⟨a,n,c,Z,rfl,hn,hs,hZ,rfl,hr⟩
 ·exact⟨.slice none 0 0,none,[],.inl rfl,fun _ _=>.slice0,fun _ _=>.inl ⟨rfl,rfl⟩⟩
 ·have hlen:(ints k Z).length=c:=by unfold ints;rw[List.length_map];exact hZ
  have hlen2:(ints k (Z.take n)).length=n:=by unfold ints;rw[List.length_map,List.length_take];omega
  refine⟨.slice (some ⟨i,0,none⟩) n c,some (Mp a (ints k Z).length),Z,.inr ⟨a,rfl,hr⟩,fun φ hφ=>Y4 hs hn (by rw[hφ,hlen]),fun h hrow=>.inr ⟨i,0,c,0,ints k Z,?_,hrow,?_,?_⟩⟩
  ·rw[hlen2]
  ·rw[hlen2,hlen];omega
  ·rw[hlen2,List.drop_zero];unfold ints;rw[List.map_take]
end
noncomputable section
open Go Go.RowKit Go.ChangeShapes
theorem sT:type_of% (And.intro @GJ (And.intro @WU (And.intro @IY (And.intro @BH (And.intro @Aw (And.intro @LN (And.intro @Ss (And.intro @O7 (And.intro @GQ (And.intro @XO (And.intro @H8 (And.intro @Gp (And.intro @BB (And.intro @Nh (And.intro @Co (And.intro @DE (And.intro @B8 (And.intro @A1 (And.intro @Dx (And.intro @G1 @AG)))))))))))))))))))):=And.intro @GJ (And.intro @WU (And.intro @IY (And.intro @BH (And.intro @Aw (And.intro @LN (And.intro @Ss (And.intro @O7 (And.intro @GQ (And.intro @XO (And.intro @H8 (And.intro @Gp (And.intro @BB (And.intro @Nh (And.intro @Co (And.intro @DE (And.intro @B8 (And.intro @A1 (And.intro @Dx (And.intro @G1 @AG)))))))))))))))))))
theorem iN:type_of% (And.intro @JG (And.intro @KP (And.intro @Nat.succ_eq_add_one @Nat.zero_add))):=And.intro @JG (And.intro @KP (And.intro @Nat.succ_eq_add_one @Nat.zero_add))
theorem cA0:type_of% (And.intro @Bb (And.intro @AY @A3)):=(And.intro @Bb (And.intro @AY @A3))
theorem lV0:type_of% (And.intro @BX @PS):=(And.intro @BX @PS)
theorem gD:type_of% (And.intro @WV (And.intro @NG (And.intro @NF (And.intro @NE (And.intro @ND (And.intro @KE (And.intro @Qx (And.intro @QN (And.intro @ML @KJ))))))))):=And.intro @WV (And.intro @NG (And.intro @NF (And.intro @NE (And.intro @ND (And.intro @KE (And.intro @Qx (And.intro @QN (And.intro @ML @KJ))))))))
section
variable {F:CallF}{e:Env}{h h':Hp}{x y:O}
theorem Hp.Vals.ext{v:Value}{l:List Value}(b:h.Vals v l)(W:h.Wf)(x:h.Ext h'):h'.Vals v l:=by
 rcases b with h1|⟨b,off,c,el,L,h1,h2,h3⟩
 ·exact .inl h1
 ·exact .inr ⟨b,off,c,el,L,h1,h2.ext W x,h3⟩
theorem Hp.Vals.same{v:Value}{l:List Value}(b:h.Vals v l)(hb:h'.bl=h.bl):h'.Vals v l:=by
 rcases b with h1|⟨b,off,c,el,L,h1,h2,h3⟩
 ·exact .inl h1
 ·exact .inr ⟨b,off,c,el,L,h1,h2.same hb,h3⟩
theorem Hp.Vals.src{v:Value}{l:List Value}(b:h.Vals v l){n:Nat}(hn:n=l.length)(k:List Value→R):BF h 1 v n k=k l:=by
 subst hn
 rcases b with ⟨h1,h2⟩|⟨b,off,c,el,L,h1,h2,h3,h4⟩
 ·rw[h1,h2];rfl
 ·rw[h1,h2.src h3,h4]
theorem Hp.Vals.shape{v:Value}{l:List Value}(b:h.Vals v l):∃ a c,v=.slice a l.length c:=by
 rcases b with ⟨h1,h2⟩|⟨b,off,c,el,L,h1,h2,h3,h4⟩
 ·exact⟨none,0,by rw[h1,h2];rfl⟩
 ·exact⟨_,_,h1⟩
theorem Hp.Vals.len{v:Value}{l:List Value}(b:h.Vals v l):lenSR v h=.ok (.int .i64 (l.length:Int)) h:=by
 obtain⟨a,c,rfl⟩:=b.shape;rfl
theorem Hp.Vals.lenV{v:Value}{l:List Value}(b:h.Vals v l):lenV v=.ok l.length:=by
 obtain⟨a,c,rfl⟩:=b.shape;rfl
theorem Hp.Vals.at{v:Value}{l:List Value}(b:h.Vals v l){i:Nat}(hi:i<l.length):∃ a,idxSR 1 v (.int .i64 (i:Int)) h=.ok (.pointer (some a)) h∧G7 (.pointer (some a)) h=.ok (l.getD i noRes) h:=by
 rcases b with ⟨h1,h2⟩|⟨b,off,c,el,L,h1,h2,h3,h4⟩
 ·rw[h2]at hi;cases hi
 ·refine⟨⟨b,off+i * 1,none⟩,by rw[h1];exact DX hi,?_⟩
  rw[AP,h2.load1 (by omega)]
  have:=congrArg (fun m=>m[i]?) h4
  simp only[List.getElem?_take,List.getElem?_drop,if_pos hi]at this
  rw[List.getD_eq_getElem?_getD,Nat.mul_one,this,List.getD_eq_getElem?_getD]
theorem Hp.Vals.bytes{v:Value}{l:List Nat}(b:h.Vals v (l.map bv)):h.Bytes v l:=by
 rcases b with ⟨h1,h2⟩|⟨b,off,c,el,L,h1,h2,h3,h4⟩
 ·exact .inl ⟨h1,by cases l with
   |nil=>rfl
   |cons a l=>cases h2⟩
 ·rw[List.length_map]at h1 h3 h4
  exact .inr ⟨b,off,c,el,L,h1,h2,h3,h4⟩
theorem Hp.Vals.cut{v:Value}{l:List Value}(b:h.Vals v l){n:Nat}(hn:n<l.length):∃ o c,v=.slice (some o) l.length c∧h.Vals (.slice (some o) n c) (l.take n):=by
 rcases b with ⟨h1,h2⟩|⟨b,off,c,el,L,h1,h2,h3,h4⟩
 ·rw[h2]at hn;cases hn
 ·have hl:(l.take n).length=n:=by rw[List.length_take];omega
  refine⟨⟨b,off,none⟩,c,h1,.inr ⟨b,off,c,el,L,by rw[hl],h2,by omega,?_⟩⟩
  rw[hl,← h4,List.take_take,Nat.min_eq_left (by omega)]
def blkV(v:Value)(b:Nat):Prop:=∃ off n c,v=.slice (some ⟨b,off,none⟩) n c
theorem Ft{b:Nat}:¬ blkV (.slice none 0 0) b:=fun⟨_,_,_,h⟩=>by cases h
theorem Kk{b b' n c:Nat}(h:b'≠b):¬ blkV (.slice (some ⟨b,0,none⟩) n c) b':=fun⟨_,_,_,e⟩=>by
 injection e with e _ _
 injection e with e
 injection e with e _ _
 exact h e.symm
def Hp.Own(h:Hp)(k en:Nat)(v:Value)(xs:List Value):Prop:=(v=.slice none 0 0∧xs=[])∨∃ b,v=.slice (some ⟨b,0,none⟩) xs.length xs.length∧h.Row b (en+1) xs∧k≤b∧256≤b
theorem Hp.Own.vals{k en:Nat}{v:Value}{xs:List Value}(o:h.Own k en v xs):h.Vals v xs:=by
 rcases o with h1|⟨b,h1,h2,_⟩
 ·exact .inl h1
 ·exact .inr ⟨b,0,_,_,xs,h1,h2,by omega,by rw[List.drop_zero,List.take_length]⟩
theorem Hp.Own.le{k k' en:Nat}{v:Value}{xs:List Value}(o:h.Own k en v xs)(hk:k'≤k):h.Own k' en v xs:=by
 rcases o with h1|⟨b,h1,h2,h3,h4⟩
 ·exact .inl h1
 ·exact .inr ⟨b,h1,h2,Nat.le_trans hk h3,h4⟩
theorem Hp.Own.keep{k en:Nat}{v:Value}{xs:List Value}(o:h.Own k en v xs)(hk:∀ b el L,blkV v b→h.Row b el L→h'.Row b el L):h'.Own k en v xs:=by
 rcases o with h1|⟨b,h1,h2,h3,h4⟩
 ·exact .inl h1
 ·exact .inr ⟨b,h1,hk b _ _ ⟨0,_,_,h1⟩ h2,h3,h4⟩
theorem Hp.Own.ext{k en:Nat}{v:Value}{xs:List Value}(o:h.Own k en v xs)(W:h.Wf)(x:h.Ext h'):h'.Own k en v xs:=o.keep fun _ _ _ _ r=>r.ext W x
theorem Hp.Own.same{k en:Nat}{v:Value}{xs:List Value}(o:h.Own k en v xs)(hb:h'.bl=h.bl):h'.Own k en v xs:=o.keep fun _ _ _ _ r=>r.same hb
theorem EQ{h0:Hp}{eb en k:Nat}{v u:Value}{xs ys:List Value}(x0:h0.Ext h)(hk:h0.next≤k)(hk2:k≤h.next)(o:h.Own k en v xs)(y:h.Vals u ys)(hy:0<ys.length)(ha:BO ys=true)(hm:(xs.length+ys.length+1) * (eb+1)≤1099511627776):
  ∃ h' v',DM 1 eb en v u h=.ok v' h'∧h0.Ext h'∧h'.Own k en v' (xs++ys)∧h'.next=h.next+1∧∀ b el L,¬ blkV v b→h.Row b el L→h'.Row b el L∧¬ blkV v' b:=by
 have W:=x0.wf
 rcases o with ⟨rfl,rfl⟩|⟨b,rfl,r,hb,hb2⟩
 ·obtain⟨t1,t2⟩:=HC ys
  refine⟨h.push (.cells (ofL ys) ys.length (en+1)),.slice (some ⟨h.next,0,none⟩) ys.length ys.length,?_,x0.push _,.inr ⟨h.next,rfl,⟨ofL ys,by rw[W.push_get,if_pos rfl];rfl,t2⟩,hk2,W.big⟩,rfl,fun b' el' L' _ r'=>⟨r'.push W _,Kk (by have:=r'.lt W;omega)⟩⟩
  unfold DM DN
  simp only[y.lenV,y.src rfl,Aa,Nat.add_eq,Nat.zero_add]
  have e1:Nat.ble ys.length 0=false:=by
   cases e:Nat.ble ys.length 0
   ·rfl
   ·have:=Af.1 e;omega
  have e2:Nat.ble (Nat.mul (Nat.succ ys.length) (Nat.succ eb)) Ix=true:=Af.2 (Hb (by
   have:=hm
   simp only[List.length_nil,Nat.zero_add]at this
   exact this))
  rw[e1]
  simp only[e2,cond_true,ha]
  unfold Gh BF Iu
  simp only[List.nil_append,t1]
  unfold Ed
  simp only[BN]
  unfold CG
  rw[Aa,Ci W];rfl
 ·obtain⟨cc,hcc,hl⟩:=r.rowOf
  obtain⟨t,h2,h3⟩:=Dh ys cc xs xs.length hl (.inr rfl)
  have h3:t.Is (xs++ys):=by
   have e:xs.drop (xs.length+ys.length)=[]:=List.drop_of_length_le (by omega)
   rw[e]at h3
   simpa using h3
  have hlen:(xs++ys).length=xs.length+ys.length:=List.length_append
  have hlt:=r.lt W
  have W1:(h.put b .dead).Wf:=W.put hlt _
  have x1:h0.Ext (h.put b .dead):=x0.put (by omega) hlt _
  refine⟨(h.put b .dead).push (.cells t (xs.length+ys.length) (en+1)),.slice (some ⟨h.next,0,none⟩) (xs.length+ys.length) (xs.length+ys.length),?_,x1.push _,.inr ⟨h.next,by rw[hlen],⟨t,by
   have:=W1.push_get (.cells t (xs.length+ys.length) (en+1)) h.next
   rw[this,if_pos (show h.next=(h.put b .dead).next from rfl),hlen],h3⟩,hk2,W.big⟩,rfl,fun b' el' L' hne r'=>?_⟩
  ·unfold DM DN
   simp only[y.lenV,y.src rfl,Aa,Nat.add_eq]
   have e1:Nat.ble (xs.length+ys.length) xs.length=false:=by
    cases e:Nat.ble (xs.length+ys.length) xs.length
    ·rfl
    ·have:=Af.1 e;omega
   have e2:Nat.ble (Nat.mul (Nat.succ (xs.length+ys.length)) (Nat.succ eb)) Ix=true:=Af.2 (Hb hm)
   rw[e1]
   simp only[e2,cond_true,ha]
   unfold Gh
   have e3:Nat.beq xs.length (Nat.mul xs.length 1)=true:=Al.2 (Nat.mul_one _).symm
   simp only[hcc,e3,h2]
   unfold Ed
   have e4:KA 0 xs.length 1 xs.length=true:=by
    unfold KA
    cases xs.length with
    |zero=>rfl
    |succ n=>exact Al.2 (by show 0+(n+1) * 1=n+1;omega)
   simp only[hcc,BN,Nat.add_eq,Nat.beq_refl,cond_true,e4]
   rw[Df W hb2 hlt]
   unfold CG
   rw[Aa,Ci W1];rfl
  ·have hne':b'≠b:=fun e=>hne ⟨0,_,_,by rw[e]⟩
   have hb':b'<h.next:=r'.lt W
   obtain⟨c',hc',hl'⟩:=r'
   refine⟨⟨c',?_,hl'⟩,Kk (by omega)⟩
   rw[W1.push_get,if_neg (by show b'≠h.next;omega),W.put_get hlt,if_neg hne',hc']
theorem Hh(W:h.Wf){g:O}{z v:Value}(hv:g e=v)(hk:known v=true)(h1:cellsOf v=[v]):Ah 1 [z] [(0,1,g)] F e h=.ok (.slice (some ⟨h.next,0,none⟩) 1 1) (h.pushRow 0 [v]):=by
 rw[Ca,A6 (hk:=by rw[hv];exact hk),hv,h1,if_pos (show [v].length=1 from rfl),if_pos (show 0+1≤[z].length from Nat.le_refl _),CL,DA W];rfl
theorem QT(W:h.Wf){v:Value}:(h.pushRow 0 [v]).Vals (.slice (some ⟨h.next,0,none⟩) 1 1) [v]:=.inr ⟨h.next,0,1,0,[v],rfl,Hp.Row.new W 0 [v],by simp,rfl⟩
theorem Gm(k:IntKind):∀ Z:List Int,BO (ints k Z)=true
 |[]=>rfl
 |z::Z=>Gm k Z
theorem I8{h0:Hp}{eb en k:Nat}{v:Value}{xs:List Value}{n:Int}{kd:IntKind}(x0:h0.Ext h)(hk:h0.next≤k)(hk2:k≤h.next)(o:h.Own k en v xs)(hm:(xs.length+2) * (eb+1)≤1099511627776):
  ∃ h' v',DM 1 eb en v (.slice (some ⟨h.next,0,none⟩) 1 1) (h.pushRow 0 [.int kd n])=.ok v' h'∧h0.Ext h'∧h'.Own k en v' (xs++[.int kd n])∧h'.next=h.next+2∧∀ b el L,¬ blkV v b→h.Row b el L→h'.Row b el L∧¬ blkV v' b:=by
 have W:=x0.wf
 have x1:=x0.pushRow 0 [.int kd n]
 have o1:(h.pushRow 0 [.int kd n]).Own k en v xs:=o.ext W ((Hp.Ext.refl W).pushRow _ _)
 obtain⟨h',v',a,b,c,d,f⟩:=EQ (eb:=eb) x1 hk (Nat.le_succ_of_le hk2) o1 (QT W) (by simp) rfl (by simpa using hm)
 exact⟨h',v',a,b,c,d,fun b' el L hb r=>f b' el L hb (r.push W _)⟩
def LF(F:CallF)(v:Value)(args:List Value)(h:Hp):R:=match v with
 |.func (.func g) first cap=>F g (first.toList++(args++cap.toList)) h
 |_=>.no
theorem Cj{f:O}{l:List O}:EM f l F e h=LF F (f e) (vals e l) h:=by
 show(match f e with|.func (.func g) first cap=>forceL (vals e l) (fun args=>F g (first.toList++(args++cap.toList)) h)|_=>.no)=_
 unfold LF
 split<;>simp only[CM]
theorem Ch{g:Nat}{l c args:List Value}:LF F (.func (.func g) ⟨l⟩ ⟨c⟩) args h=F g (l++(args++c)) h:=rfl
theorem Dw{fn:Fn}{l c:List O}:Em fn l c F e h=.ok (.func fn ⟨vals e l⟩ ⟨vals e c⟩) h:=by
 show forceL (vals e l) (fun f=>forceL (vals e c) fun c=>.ok (.func fn ⟨f⟩ ⟨c⟩) h)=_
 rw[CM,CM]
end
def WH(args:List Value)(h:Hp):R:=match args with
 |[]=>.ok (.bool true) h
 |_::_=>.no
def JU:Body:=⟨[.x (fun _=>WH)],cNo⟩
theorem GT{ty:TTy}{φ:Phi}{E:Nat→Prop}{h:Hp}{w w':World}(H:RelW ty φ E h w)(hb:Below w.heap.size w w'):RelW ty φ E h w'∧Evo φ h w φ h w':=
 ⟨{dom:=fun i p e=>⟨(H.dom i p e).1,Nat.lt_of_lt_of_le (H.dom i p e).2 hb.size⟩
   inj:=H.inj
   row:=fun i p e hE=>(by rw[hb.block _ (H.dom i p e).2];exact H.row i p e hE)
   fresh:=H.fresh
   kind:=H.kind
   inp:=H.inp},
  {le:=.refl _
   new:=fun _ _ e=>.inl e
   next:=Nat.le_refl _
   size:=hb.size
   tape:=hb.tape
   os:=hb.os
   output:=hb.output
   frame:=fun k hk _=>hb.block k hk
   back:=fun i p e hl _=>⟨i,p,e,hl,rfl,rfl,.inl rfl⟩
   kept:=fun _ _ _=>rfl
   low:=Nat.le_refl _
   high:=Nat.le_refl _
   shape:=fun _ _=>.refl _
   only:=fun _ _ _=>rfl
   all:=fun _ h1 h2=>absurd h2 (Nat.not_lt.2 h1)}⟩
theorem Vr{P:Program}{ty:TTy}{f:Nat}(hS:∃ fn,P.funcs[f]? =some fn∧fn.name≠"runtime.NumGoroutine" ∧fn.body.isNone=false)(hc:∀ w:World,Calls P f #[] w fun e w'=>e=.returned (.bool true)∧Below w.heap.size w w'):LC P ty f JU:=fun F args h v h' _ hr=>⟨hS,fun φ w args' hrel H=>by
 have hr:WH args h=.ok v h':=hr
 cases args with
 |cons a l=>cases hr
 |nil=>
  cases hr
  cases hrel
  exact(hc w).mono fun e w' ⟨he,hb⟩=>⟨_,φ,he,.bool true,(GT H hb).1,(GT H hb).2⟩⟩
theorem LR{bs:FT}{n f:Nat}(hb:bs.get f=some JU){h:Hp}:call bs (Nat.succ n) f [] h=.ok (.bool true) h:=by
 rw[Ai hb];rfl
end
noncomputable section
open Go
def Bz(n:Nat):List Nat:=if h:n<128 then [n]else(n % 128+128)::Bz (n / 128)
termination_by n
decreasing_by exact Nat.div_lt_self (by omega) (by omega)
theorem Eh{n:Nat}(h:n<128):Bz n=[n]:=by rw[Bz,dif_pos h]
theorem GF{n:Nat}(h:128≤n):Bz n=(n % 128+128)::Bz (n / 128):=by rw[Bz,dif_neg (by omega)]
theorem ZL:∀ (n x:Nat),x∈Bz n→x<256:=by
 intro n
 induction n using Nat.strongRecOn with
 |_ n ih=>
  intro x hx
  by_cases h:n<128
  ·rw[Eh h,List.mem_singleton]at hx
   omega
  ·rw[GF (by omega)]at hx
   rcases List.mem_cons.1 hx with rfl|hx
   ·omega
   ·exact ih (n / 128) (Nat.div_lt_self (by omega) (by omega)) x hx
theorem Vv(n:Nat):0<(Bz n).length:=by
 by_cases h:n<128
 ·rw[Eh h];exact Nat.one_pos
 ·rw[GF (by omega)];exact Nat.succ_pos _
theorem Di:∀ (k n:Nat),n<128 ^ (k+1)→(Bz n).length≤k+1
 |0,n,h=>by
  have h:n<128:=by simpa using h
  rw[Eh h];exact Nat.le_refl _
 |k+1,n,h=>by
  by_cases h1:n<128
  ·rw[Eh h1];show 1≤_;omega
  ·rw[GF (by omega),List.length_cons]
   have h2:n<128 * 128 ^ (k+1):=by rw[Nat.pow_succ]at h;rw[Nat.mul_comm];exact h
   have:=Di k (n / 128) (Nat.div_lt_of_lt_mul h2)
   omega
theorem J6{n:Nat}(h:n<18446744073709551616):(Bz n).length≤10:=Di 9 n (by
 have:(128:Nat) ^ (9+1)=1180591620717411303424:=by decide
 rw[this];omega)
def FP:Nat→Nat→List Nat→Option (Nat×Nat)
 |_,_,[]=>none
 |k,acc,c::r=>if(0<k∧c=0)∨(8<k∧1<c)then none else if c<128 then some (acc+c * 2 ^ (7 * k),k+1)else FP (k+1) (acc+c % 128 * 2 ^ (7 * k)) r
theorem MO(k:Nat):2 ^ (7 * (k+1))=128 * 2 ^ (7 * k):=by
 rw[show 7 * (k+1)=7+7 * k by omega,Nat.pow_add,show(2:Nat) ^ 7=128 from rfl]
theorem Qe{k:Nat}(hk:k≤8):2 ^ (64 - 7 * k)=128 * 2 ^ (64 - 7 * (k+1)):=by
 rw[show 64 - 7 * k=7+(64 - 7 * (k+1))by omega,Nat.pow_add,show(2:Nat) ^ 7=128 from rfl]
theorem ZK:∀ (n k acc:Nat) (r:List Nat),k≤9→n<2 ^ (64 - 7 * k)→(0<k→n≠0)→FP k acc (Bz n++r)=some (acc+n * 2 ^ (7 * k),k+(Bz n).length):=by
 intro n
 induction n using Nat.strongRecOn with
 |_ n ih=>
  intro k acc r hk hn h0
  by_cases h:n<128
  ·rw[Eh h]
   show FP k acc (n::r)=_
   have h1:¬ ((0<k∧n=0)∨(8<k∧1<n)):=by
    rintro (⟨a,b⟩|⟨a,b⟩)
    ·exact h0 a b
    ·have:k=9:=by omega
     subst this
     have:n<2:=hn
     omega
   rw[FP,if_neg h1,if_pos h];rfl
  ·have hk8:k≤8:=by
    rcases Nat.lt_or_ge k 9 with h1|h1
    ·omega
    ·have:k=9:=by omega
     subst this
     have:n<2:=hn
     omega
   rw[GF (by omega)]
   show FP k acc ((n % 128+128)::(Bz (n / 128)++r))=_
   have h1:¬ ((0<k∧n % 128+128=0)∨(8<k∧1<n % 128+128)):=by omega
   have h2:¬ n % 128+128<128:=by omega
   rw[FP,if_neg h1,if_neg h2]
   have hlt:n / 128<2 ^ (64 - 7 * (k+1)):=by
    rw[Qe hk8]at hn
    exact Nat.div_lt_of_lt_mul hn
   rw[ih (n / 128) (Nat.div_lt_self (by omega) (by omega)) (k+1) _ r (by omega) hlt (by omega)]
   have e2:(n % 128+128) % 128=n % 128:=by omega
   have e4:acc+n % 128 * 2 ^ (7 * k)+n / 128 * (128 * 2 ^ (7 * k))=acc+n * 2 ^ (7 * k):=by
    have e5:n * 2 ^ (7 * k)=(128 * (n / 128)+n % 128) * 2 ^ (7 * k):=by rw[Nat.div_add_mod]
    rw[e5,Nat.add_mul,Nat.mul_comm 128 (n / 128),Nat.mul_assoc];omega
   rw[e2,MO,e4,List.length_cons,show k+1+(Bz (n / 128)).length=k+((Bz (n / 128)).length+1)by omega]
theorem RA:∀ (l:List Nat) (k acc v j:Nat),k≤9→(∀ x∈l,x<256)→FP k acc l=some (v,j)→∃ n r,l=Bz n++r∧v=acc+n * 2 ^ (7 * k)∧j=k+(Bz n).length∧(0<k→n≠0)∧n<2 ^ (64 - 7 * k)
 |[],k,acc,v,j,_,_,h=>by cases h
 |c::r,k,acc,v,j,hk,hb,h=>by
  rw[FP]at h
  split at h
  ·cases h
  ·rename_i h1
   split at h
   ·rename_i h2
    cases h
    refine⟨c,r,by rw[Eh h2];rfl,rfl,by rw[Eh h2];rfl,by omega,?_⟩
    rcases Nat.lt_or_ge k 9 with h3|h3
    ·have h4:2 ^ 8≤2 ^ (64 - 7 * k):=Nat.pow_le_pow_right (by omega) (by omega)
     have h5:(2:Nat) ^ 8=256:=rfl
     omega
    ·have:k=9:=by omega
     subst this
     show c<2
     omega
   ·rename_i h2
    have hk8:k≤8:=by omega
    obtain⟨n,q,rfl,e2,e3,e4,e5⟩:=RA r (k+1) _ v j (by omega) (fun x hx=>hb x (List.mem_cons_of_mem _ hx)) h
    have hc:=hb c List.mem_cons_self
    have hn:n≠0:=e4 (Nat.succ_pos k)
    have hi:Bz (c % 128+128 * n)=c::Bz n:=by
     rw[GF (by omega)]
     have a1:(c % 128+128 * n) % 128+128=c:=by omega
     have a2:(c % 128+128 * n) / 128=n:=by omega
     rw[a1,a2]
    refine⟨c % 128+128 * n,q,by rw[hi];rfl,?_,?_,fun _=>by omega,?_⟩
    ·have e6:n * (128 * 2 ^ (7 * k))=128 * n * 2 ^ (7 * k):=by rw[← Nat.mul_assoc,Nat.mul_comm n 128]
     rw[e2,MO,Nat.add_mul,e6];omega
    ·rw[e3,hi,List.length_cons];omega
    ·rw[Qe hk8];omega
theorem lV{v:Nat}(h:v<18446744073709551616)(r:List Nat):FP 0 0 (Bz v++r)=some (v,(Bz v).length):=by
 have:=ZK v 0 0 r (by omega) h (by omega)
 simpa using this
theorem ZJ{l:List Nat}{v j:Nat}(hb:∀ x∈l,x<256)(h:FP 0 0 l=some (v,j)):l=Bz v++l.drop j∧j=(Bz v).length∧v<18446744073709551616:=by
 obtain⟨n,r,e1,e2,e3,_,e5⟩:=RA l 0 0 v j (by omega) hb h
 have hv:v=n:=by simpa using e2
 subst hv
 have hj:j=(Bz v).length:=by simpa using e3
 have e5:v<18446744073709551616:=e5
 refine⟨?_,hj,e5⟩
 subst e1
 rw[hj,List.drop_left]
theorem ed{l:List Nat}{v j:Nat}(hb:∀ x∈l,x<256)(h:FP 0 0 l=some (v,j)):j≤l.length:=by
 obtain⟨e1,e2,_⟩:=ZJ hb h
 have:=congrArg List.length e1
 rw[List.length_append]at this
 omega
end
noncomputable section
open Go
def veq:Value→Value→Bool
 |.bool a,.bool b=>a == b
 |.int j a,.int k b=>FE j k && iEq a b
 |.string a,.string b=>bEq a.data.toList b.data.toList
 |.pointer none,.pointer none=>true
 |.slice none 0 0,.slice none 0 0=>true
 |.map none,.map none=>true
 |.nilFunc,.nilFunc=>true
 |.nilIface,.nilIface=>true
 |_,_=>false
def leq:List Value→List Value→Bool
 |[],[]=>true
 |a::x,b::y=>veq a b && leq x y
 |_,_=>false
def zeq:Value→Value→Bool
 |.agg a,.agg b=>leq a.toList b.toList
 |.agg _,_=>false
 |a,b=>veq a b
theorem ZN{a b:Value}(h:veq a b=true):a=b:=by
 unfold veq at h
 split at h
 ·simpa using h
 ·rw[Bool.and_eq_true,Dp]at h
  have h1:=HI h.1
  rw[h1,eq_of_beq h.2]
 ·rw[LG]at h
  rename_i a b
  have e1:=Gq (a:=a) (eq_of_beq h)
  have e2:=Gq (a:=b) rfl
  exact congrArg Value.string (e1.trans e2.symm)
 all_goals first|rfl|cases h
theorem Xs:∀ {a b:List Value},leq a b=true→a=b
 |[],[],_=>rfl
 |x::a,y::b,h=>by
  have h:(veq x y && leq a b)=true:=h
  rw[Bool.and_eq_true]at h
  rw[ZN h.1,Xs h.2]
 |[],_::_,h=>by cases h
 |_::_,[],h=>by cases h
theorem la{a b:Value}(h:zeq a b=true):a=b:=by
 unfold zeq at h
 split at h
 ·rename_i x y
  have:=Xs h
  congr 1
  exact Array.ext' this
 ·cases h
 ·exact ZN h
def au:List (Nat×Nat×Nat)→List (Nat×Nat×Nat)→Bool
 |[],[]=>true
 |(a,b,c)::x,(d,e,f)::y=>Nat.beq a d && (Nat.beq b e && (Nat.beq c f && au x y))
 |_,_=>false
theorem S3:∀ {x y:List (Nat×Nat×Nat)},au x y=true→x=y
 |[],[],_=>rfl
 |(a,b,c)::x,(d,e,f)::y,h=>by
  have h:(Nat.beq a d && (Nat.beq b e && (Nat.beq c f && au x y)))=true:=h
  simp only[Bool.and_eq_true]at h
  rw[Al.1 h.1,Al.1 h.2.1,Al.1 h.2.2.1,S3 h.2.2.2]
 |[],_::_,h=>by cases h
 |_::_,[],h=>by cases h
def Xp(P:Program)(k:TK)(d:TypeDesc):Bool:=match k,d with
 |.int a,.int b=>FE a b
 |.bool,.bool=>true
 |.string,.string=>true
 |.ptr a,.pointer b=>Nat.beq a b
 |.slice a,.slice b=>Nat.beq a b
 |.arr n a,.array m b=>Nat.beq n m && Nat.beq a b
 |.map n a,.map m b=>Nat.beq n m && Nat.beq a b
 |.struct fs,.struct fields=>au (fields.toList.map fun f=>(f.offset,P.cellsOf f.type,f.type)) fs && fields.toList.all fun f=>(P.info? f.type).isSome
 |.iface,.interface _=>true
 |.func,.func _ _ _=>true
 |.other,.struct _=>false
 |.other,.array _ _=>false
 |.other,.interface _=>false
 |.other,_=>true
 |_,_=>false
theorem Xq{P:Program}{k:TK}{d:TypeDesc}(h:Xp P k d=true):KOk P k d:=by
 unfold Xp at h
 split at h
 ·rw[HI h];exact .int _
 ·exact .bool
 ·exact .string
 ·rw[Al.1 h];exact .ptr _
 ·rw[Al.1 h];exact .slice _
 ·rw[Bool.and_eq_true]at h
  rw[Al.1 h.1,Al.1 h.2];exact .arr _ _
 ·rw[Bool.and_eq_true]at h
  rw[Al.1 h.1,Al.1 h.2];exact .map _ _
 ·rw[Bool.and_eq_true]at h
  exact .struct (S3 h.1) h.2
 ·exact .iface _
 ·exact .func _ _ _
 ·cases h
 ·cases h
 ·cases h
 ·rename_i q1 q2 q3
  refine .other ?_
  split
  ·rename_i f;exact absurd rfl (q1 f)
  ·rename_i n e;exact absurd rfl (q2 n e)
  ·rename_i m;exact absurd rfl (q3 m)
  ·rfl
 ·cases h
def ZT(ti:TI)(z:Option Value):Bool:=
 (match ti.zero with
  |[]=>Nat.blt 0 ti.size
  |_::_=>false) ||
 (match zeroV ti,z with
  |some a,some b=>zeq a b && (ti.zero.all plainV && Nat.beq (A9 ti.zero) ti.size)
  |_,_=>false)
theorem ZU{ti:TI}{z:Option Value}(h:ZT ti z=true):(ti.zero=[]∧0<ti.size)∨∃ y,zeroV ti=some y∧z=some y∧ti.zero.all plainV=true∧ti.zero.length=ti.size:=by
 unfold ZT at h
 rw[Bool.or_eq_true]at h
 rcases h with h|h
 ·left
  split at h
  ·rename_i hz;exact⟨hz,BD.1 h⟩
  ·cases h
 ·right
  split at h
  ·rename_i a b ha
   simp only[Bool.and_eq_true]at h
   have h3:=Al.1 h.2.2
   rw[BN]at h3
   exact⟨a,ha,by rw[la h.1],h.2.1,h3⟩
  ·cases h
def qu(b:Bool):TypeDesc→Bool
 |.pointer _=>b
 |_=>not b
def Te(P:Program)(t:Nat)(name:String)(f:Nat):Bool:=match P.info? t with
 |some i=>match i.methods.find? (·.name == name)with
  |some m=>match m.path.toList with
   |[]=>match m.func with
    |some (g,b)=>match P.underlying t with
     |some d=>Nat.beq g f && qu b d
     |none=>false
    |none=>false
   |_::_=>false
  |none=>false
 |none=>false
theorem Xv{P:Program}{t:Nat}{name:String}{f:Nat}(h:Te P t name f=true)(v:Value)(w:World):(method (P.types.size+Made.depth) t v name).run P w=.ok (f,v) w:=by
 unfold Te at h
 split at h
 ·rename_i i hi
  split at h
  ·rename_i m hm
   split at h
   ·rename_i hp
    split at h
    ·rename_i g b hg
     split at h
     ·rename_i d hd
      rw[Bool.and_eq_true]at h
      have e1:=Al.1 h.1
      subst e1
      have h2:=h.2
      show(method ((P.types.size+99)+1) t v name).run P w=_
      unfold method
      simp only[typeInfo,Sem.run_bind,run_program,Result.andThen_ok,hi,Sem.run_pure,hm,hp,follow,hg,receiverAt,underlying,hd]
      cases d with
      |pointer e=>
       have hb:b=true:=h2
       subst hb
       simp only[Place.get,Sem.run_bind,Sem.run_pure,Result.andThen_ok]
      |_=>
       have hb:b=false:=by
        have h2:(!b)=true:=h2
        cases b with
        |true=>cases h2
        |false=>rfl
       subst hb
       simp only[Place.get,Sem.run_bind,Sem.run_pure,Result.andThen_ok]
     ·cases h
    ·cases h
   ·cases h
  ·cases h
 ·cases h
def Tf(P:Program)(t:Nat):List (String×Nat)→Bool
 |[]=>true
 |x::l=>Te P t x.1 x.2 && Tf P t l
theorem P6{P:Program}{t:Nat}:∀ {l:List (String×Nat)},Tf P t l=true→∀ name f,findM name l=some f→∀ v w,(method (P.types.size+Made.depth) t v name).run P w=.ok (f,v) w
 |[],_,name,f,h=>by cases h
 |x::l,hb,name,f,h=>by
  have hb:(Te P t x.1 x.2 && Tf P t l)=true:=hb
  rw[Bool.and_eq_true]at hb
  unfold findM at h
  split at h
  ·rename_i hn
   cases h
   rw[← eq_of_beq hn]
   exact fun v w=>Xv hb.1 v w
  ·exact P6 hb.2 name f h
def tyB(P:Program)(t:Nat)(ti:TI):Bool:=match P.info? t with
 |some i=>match P.underlying t with
  |some d=>Nat.beq i.size ti.size && (Nat.beq i.bytes ti.bytes && (ZT ti i.zero && (Xp P ti.k d && (fineS P t && Tf P t ti.ms))))
  |none=>false
 |none=>false
theorem lU{P:Program}(hd:8≤P.depth){t:Nat}{ti:TI}(h:tyB P t ti=true):TyOk P t ti:=by
 unfold tyB at h
 split at h
 ·rename_i i hi
  split at h
  ·rename_i d hu
   simp only[Bool.and_eq_true]at h
   exact⟨h.2.2.2.2.1,hd,⟨i,hi,Al.1 h.1,Al.1 h.2.1,ZU h.2.2.1⟩,⟨d,hu,Xq h.2.2.2.1⟩,P6 h.2.2.2.2.2⟩
  ·cases h
 ·cases h
def qd(P:Program)(t:Nat):Option TI→Bool
 |some ti=>tyB P t ti
 |none=>true
def Vo(P:Program):TTy→(Nat→Nat)→Bool
 |.mt,_=>true
 |.nd ti l r,ix=>qd P (ix 0) ti && (Vo P l (fun k=>ix (Nat.succ (Nat.mul 2 k))) && Vo P r (fun k=>ix (Nat.succ (Nat.succ (Nat.mul 2 k)))))
theorem Ma{P:Program}(hd:8≤P.depth):∀ {t:TTy} {ix:Nat→Nat},Vo P t ix=true→∀ i ti,t.get i=some ti→TyOk P (ix i) ti
 |.mt,ix,_,i,b,h=>by cases h
 |.nd c l r,ix,hb,i,b,h=>by
  have hb:(qd P (ix 0) c && (Vo P l (fun k=>ix (Nat.succ (Nat.mul 2 k))) && Vo P r (fun k=>ix (Nat.succ (Nat.succ (Nat.mul 2 k))))))=true:=hb
  simp only[Bool.and_eq_true]at hb
  cases i with
  |zero=>
   have h:c=some b:=h
   subst h
   exact lU hd hb.1
  |succ k=>
   unfold TTy.get at h
   have e1:Nat.mod k 2=k % 2:=rfl
   have e2:Nat.div k 2=k / 2:=rfl
   rw[e1,e2]at h
   rcases Nat.mod_two_eq_zero_or_one k with hk|hk
   ·rw[hk]at h
    have:=Ma hd hb.2.1 (k / 2) b h
    have e:Nat.succ (Nat.mul 2 (k / 2))=k+1:=by show 2 * (k / 2)+1=k+1;omega
    simp only[e]at this;exact this
   ·rw[hk]at h
    have:=Ma hd hb.2.2 (k / 2) b h
    have e:Nat.succ (Nat.succ (Nat.mul 2 (k / 2)))=k+1:=by show 2 * (k / 2)+1+1=k+1;omega
    simp only[e]at this;exact this
theorem lR{P:Program}{ty:TTy}(hd:Nat.ble 8 P.depth=true)(h:Vo P ty (fun k=>k)=true):Cc P ty:=fun t ti ht=>Ma (Af.1 hd) h t ti ht
end
noncomputable section
open Go
def ty0:TI:=⟨.other,1,0,[],[]⟩
def ty1:TI:=⟨.func,1,8,[.nilFunc],[]⟩
def ty2:TI:=⟨.int .i64,1,8,[.int .i64 0],[]⟩
def ty3:TI:=⟨.int .i64,1,8,[.int .i64 0],[]⟩
def ty4:TI:=⟨.bool,1,1,[.bool false],[]⟩
def ty5:TI:=⟨.int .u8,1,1,[.int .u8 0],[]⟩
def ty6:TI:=⟨.int .u8,1,1,[.int .u8 0],[]⟩
def ty7:TI:=⟨.struct [(0,1,2),(1,1,3),(2,1,4),(3,1,6)],4,24,[.int .i64 0,.int .i64 0,.bool false,.int .u8 0],[]⟩
def ty9:TI:=⟨.string,1,16,[.string .empty],[]⟩
def qz:TI:=⟨.string,1,16,[.string .empty],[("Error",135),("RuntimeError",136)]⟩
def rA:TI:=⟨.string,1,16,[.string .empty],[("Error",137),("RuntimeError",138)]⟩
def rB:TI:=⟨.int .u64,1,8,[.int .u64 0],[]⟩
def rC:TI:=⟨.ptr 172,1,8,[.pointer none],[("Error",141),("RuntimeError",142)]⟩
def rD:TI:=⟨.ptr 175,1,8,[.pointer none],[("Error",143),("RuntimeError",144)]⟩
def rE:TI:=⟨.ptr 183,1,8,[.pointer none],[("Align",145)]⟩
def rF:TI:=⟨.iface,1,16,[.nilIface],[]⟩
def rG:TI:=⟨.int .i32,1,4,[.int .i32 0],[]⟩
def Ki:TI:=⟨.slice 5,1,24,[.slice none 0 0],[]⟩
def rH:TI:=⟨.arr 4 5,4,4,[.int .u8 0,.int .u8 0,.int .u8 0,.int .u8 0],[]⟩
def rI:TI:=⟨.func,1,8,[.nilFunc],[]⟩
def rJ:TI:=⟨.int .u32,1,4,[.int .u32 0],[]⟩
def rK:TI:=⟨.arr 256 25,256,1024,BJ [.int .u32 0] 256,[]⟩
def dj:TI:=⟨.arr 256 25,256,1024,BJ [.int .u32 0] 256,[]⟩
def rL:TI:=⟨.func,1,8,[.nilFunc],[]⟩
def Vt:TI:=⟨.ptr 98,1,8,[.pointer none],[("Arm",26),("Cached",28),("Crash",31),("Down",58),("Flush",76),("Read",84),("Size",56),("Spoil",14),("Write",75),("cooperage/disk.none",54),("cooperage/disk.operation",96),("cooperage/disk.there",95)]⟩
def HM:TI:=⟨.ptr 80,1,8,[.pointer none],[("Abort",29),("All",21),("Bad",19),("Commit",12),("Drop",30),("Get",18),("Now",17),("Over",27),("Prepare",11),("Room",20),("Sound",15),("cooperage/slots.all",47),("cooperage/slots.at",46),("cooperage/slots.find",41),("cooperage/slots.gone",52),("cooperage/slots.look",55),("cooperage/slots.now",64),("cooperage/slots.out",68),("cooperage/slots.read",88),("cooperage/slots.stale",43),("cooperage/slots.strike",53),("cooperage/slots.up",38),("cooperage/slots.write",45)]⟩
def rM:TI:=⟨.other,1,0,[],[]⟩
def rN:TI:=⟨.func,1,8,[.nilFunc],[]⟩
def Q8:TI:=⟨.ptr 27,1,8,[.pointer none],[]⟩
def rO:TI:=⟨.int .i64,1,8,[.int .i64 0],[]⟩
def rP:TI:=⟨.func,1,8,[.nilFunc],[]⟩
def rQ:TI:=⟨.func,1,8,[.nilFunc],[]⟩
def rR:TI:=⟨.func,1,8,[.nilFunc],[]⟩
def rS:TI:=⟨.func,1,8,[.nilFunc],[]⟩
def rT:TI:=⟨.other,1,0,[],[]⟩
def rU:TI:=⟨.func,1,8,[.nilFunc],[]⟩
def rV:TI:=⟨.int .u8,1,1,[.int .u8 0],[]⟩
def rW:TI:=⟨.struct [(0,1,3),(1,1,3),(2,1,3),(3,1,41),(4,1,22)],5,56,[.int .i64 0,.int .i64 0,.int .i64 0,.int .u8 0,.slice none 0 0],[]⟩
def Hq:TI:=⟨.struct [(0,1,3),(1,1,3),(2,1,3),(3,1,41),(4,1,22)],5,56,[.int .i64 0,.int .i64 0,.int .i64 0,.int .u8 0,.slice none 0 0],[]⟩
def rX:TI:=⟨.other,1,0,[],[]⟩
def rY:TI:=⟨.func,1,8,[.nilFunc],[]⟩
def rZ:TI:=⟨.func,1,8,[.nilFunc],[]⟩
def ra:TI:=⟨.func,1,8,[.nilFunc],[]⟩
def rc:TI:=⟨.slice 43,1,24,[.slice none 0 0],[]⟩
def rd:TI:=⟨.func,1,8,[.nilFunc],[]⟩
def re:TI:=⟨.func,1,8,[.nilFunc],[]⟩
def rh:TI:=⟨.slice 54,1,24,[.slice none 0 0],[]⟩
def ri:TI:=⟨.slice 4,1,24,[.slice none 0 0],[]⟩
def rj:TI:=⟨.struct [(0,1,3),(1,1,3),(2,1,3),(3,1,3),(4,1,3),(5,1,22),(6,1,52)],7,88,[.int .i64 0,.int .i64 0,.int .i64 0,.int .i64 0,.int .i64 0,.slice none 0 0,.slice none 0 0],[]⟩
def rk:TI:=⟨.struct [(0,1,3),(1,1,3),(2,1,3),(3,1,3),(4,1,3),(5,1,22),(6,1,52)],7,88,[.int .i64 0,.int .i64 0,.int .i64 0,.int .i64 0,.int .i64 0,.slice none 0 0,.slice none 0 0],[]⟩
def rl:TI:=⟨.func,1,8,[.nilFunc],[]⟩
def rm:TI:=⟨.func,1,8,[.nilFunc],[]⟩
def rn:TI:=⟨.slice 30,1,24,[.slice none 0 0],[]⟩
def ro:TI:=⟨.func,1,8,[.nilFunc],[]⟩
def rq:TI:=⟨.func,1,8,[.nilFunc],[]⟩
def rr:TI:=⟨.func,1,8,[.nilFunc],[]⟩
def rt:TI:=⟨.func,1,8,[.nilFunc],[]⟩
def Se:TI:=⟨.slice 3,1,24,[.slice none 0 0],[]⟩
def ru:TI:=⟨.func,1,8,[.nilFunc],[]⟩
def rv:TI:=⟨.func,1,8,[.nilFunc],[]⟩
def rx:TI:=⟨.func,1,8,[.nilFunc],[]⟩
def ry:TI:=⟨.func,1,8,[.nilFunc],[]⟩
def rz:TI:=⟨.func,1,8,[.nilFunc],[]⟩
def sA:TI:=⟨.other,1,0,[],[]⟩
def sB:TI:=⟨.func,1,8,[.nilFunc],[]⟩
def sC:TI:=⟨.func,1,8,[.nilFunc],[]⟩
def sD:TI:=⟨.other,1,0,[],[]⟩
def sE:TI:=⟨.func,1,8,[.nilFunc],[]⟩
def sF:TI:=⟨.func,1,8,[.nilFunc],[]⟩
def sG:TI:=⟨.func,1,8,[.nilFunc],[]⟩
def Q9:TI:=⟨.func,1,8,[.nilFunc],[]⟩
def sH:TI:=⟨.func,1,8,[.nilFunc],[]⟩
def sI:TI:=⟨.func,1,8,[.nilFunc],[]⟩
def Vu:TI:=⟨.slice 83,1,24,[.slice none 0 0],[]⟩
def sJ:TI:=⟨.struct [(0,1,29),(1,1,33),(2,1,3),(3,1,78),(4,1,62),(5,1,3),(6,1,4)],7,88,[.pointer none,.pointer none,.int .i64 0,.slice none 0 0,.slice none 0 0,.int .i64 0,.bool false],[]⟩
def ZI:TI:=⟨.struct [(0,1,29),(1,1,33),(2,1,3),(3,1,78),(4,1,62),(5,1,3),(6,1,4)],7,88,[.pointer none,.pointer none,.int .i64 0,.slice none 0 0,.slice none 0 0,.int .i64 0,.bool false],[]⟩
def sK:TI:=⟨.func,1,8,[.nilFunc],[]⟩
def sL:TI:=⟨.struct [(0,5,43),(5,1,3)],6,64,[.int .i64 0,.int .i64 0,.int .i64 0,.int .u8 0,.slice none 0 0,.int .i64 0],[]⟩
def FH:TI:=⟨.struct [(0,5,43),(5,1,3)],6,64,[.int .i64 0,.int .i64 0,.int .i64 0,.int .u8 0,.slice none 0 0,.int .i64 0],[]⟩
def sM:TI:=⟨.other,1,0,[],[]⟩
def sN:TI:=⟨.func,1,8,[.nilFunc],[]⟩
def sO:TI:=⟨.slice 75,1,24,[.slice none 0 0],[]⟩
def sP:TI:=⟨.func,1,8,[.nilFunc],[]⟩
def sQ:TI:=⟨.func,1,8,[.nilFunc],[]⟩
def sR:TI:=⟨.func,1,8,[.nilFunc],[]⟩
def sS:TI:=⟨.func,1,8,[.nilFunc],[]⟩
def sU:TI:=⟨.func,1,8,[.nilFunc],[]⟩
def sV:TI:=⟨.func,1,8,[.nilFunc],[]⟩
def sW:TI:=⟨.func,1,8,[.nilFunc],[]⟩
def sX:TI:=⟨.func,1,8,[.nilFunc],[]⟩
def sY:TI:=⟨.slice 100,1,24,[.slice none 0 0],[]⟩
def dm:TI:=⟨.map 3 100,1,8,[.map none],[]⟩
def sZ:TI:=⟨.struct [(0,1,95),(1,1,96),(2,1,3),(3,1,4)],4,48,[.slice none 0 0,.map none,.int .i64 0,.bool false],[]⟩
def dp:TI:=⟨.struct [(0,1,95),(1,1,96),(2,1,3),(3,1,4)],4,48,[.slice none 0 0,.map none,.int .i64 0,.bool false],[]⟩
def sd:TI:=⟨.arr 64 5,64,64,BJ [.int .u8 0] 64,[]⟩
def GE:TI:=⟨.arr 64 5,64,64,BJ [.int .u8 0] 64,[]⟩
def od:TI:=⟨.other,1,0,[],[]⟩
def oe:TI:=⟨.func,1,8,[.nilFunc],[]⟩
def oh:TI:=⟨.func,1,8,[.nilFunc],[]⟩
def oo:TI:=⟨.func,1,8,[.nilFunc],[]⟩
def oq:TI:=⟨.func,1,8,[.nilFunc],[]⟩
def ot:TI:=⟨.func,1,8,[.nilFunc],[]⟩
def ox:TI:=⟨.func,1,8,[.nilFunc],[]⟩
def oy:TI:=⟨.func,1,8,[.nilFunc],[]⟩
def oz:TI:=⟨.func,1,8,[.nilFunc],[]⟩
def o7:TI:=⟨.func,1,8,[.nilFunc],[]⟩
def pA:TI:=⟨.func,1,8,[.nilFunc],[]⟩
def pB:TI:=⟨.func,1,8,[.nilFunc],[]⟩
def pC:TI:=⟨.func,1,8,[.nilFunc],[]⟩
def pD:TI:=⟨.int .u64,1,8,[.int .u64 0],[]⟩
def pE:TI:=⟨.func,1,8,[.nilFunc],[]⟩
def Q7:TI:=⟨.int .u64,1,8,[.int .u64 0],[]⟩
def pF:TI:=⟨.func,1,8,[.nilFunc],[]⟩
def pG:TI:=⟨.slice 116,1,24,[.slice none 0 0],[]⟩
def pH:TI:=⟨.func,1,8,[.nilFunc],[]⟩
def pI:TI:=⟨.func,1,8,[.nilFunc],[]⟩
def pJ:TI:=⟨.func,1,8,[.nilFunc],[]⟩
def pK:TI:=⟨.func,1,8,[.nilFunc],[]⟩
def pL:TI:=⟨.func,1,8,[.nilFunc],[]⟩
def pM:TI:=⟨.func,1,8,[.nilFunc],[]⟩
def pN:TI:=⟨.func,1,8,[.nilFunc],[]⟩
def pO:TI:=⟨.func,1,8,[.nilFunc],[]⟩
def pP:TI:=⟨.func,1,8,[.nilFunc],[]⟩
def pQ:TI:=⟨.func,1,8,[.nilFunc],[]⟩
def pR:TI:=⟨.func,1,8,[.nilFunc],[]⟩
def pS:TI:=⟨.other,1,0,[],[]⟩
def pT:TI:=⟨.func,1,8,[.nilFunc],[]⟩
def pU:TI:=⟨.func,1,8,[.nilFunc],[]⟩
def pV:TI:=⟨.func,1,8,[.nilFunc],[]⟩
def pW:TI:=⟨.func,1,8,[.nilFunc],[]⟩
def pX:TI:=⟨.int .i64,1,8,[.int .i64 0],[]⟩
def pY:TI:=⟨.other,1,0,[],[]⟩
def pZ:TI:=⟨.func,1,8,[.nilFunc],[]⟩
def pf:TI:=⟨.func,1,8,[.nilFunc],[]⟩
def ph:TI:=⟨.func,1,8,[.nilFunc],[]⟩
def pi:TI:=⟨.other,1,0,[],[]⟩
def pj:TI:=⟨.func,1,8,[.nilFunc],[]⟩
def pk:TI:=⟨.func,1,8,[.nilFunc],[]⟩
def pn:TI:=⟨.func,1,8,[.nilFunc],[]⟩
def po:TI:=⟨.func,1,8,[.nilFunc],[]⟩
def pp:TI:=⟨.other,1,0,[],[]⟩
def pq:TI:=⟨.func,1,8,[.nilFunc],[]⟩
def pr:TI:=⟨.func,1,8,[.nilFunc],[]⟩
def pu:TI:=⟨.arr 6 116,6,48,BJ [.int .u64 0] 6,[]⟩
def px:TI:=⟨.other,1,0,[],[]⟩
def py:TI:=⟨.func,1,8,[.nilFunc],[]⟩
def pz:TI:=⟨.func,1,8,[.nilFunc],[]⟩
def qA:TI:=⟨.int .u64,1,8,[.int .u64 0],[]⟩
def qB:TI:=⟨.func,1,8,[.nilFunc],[]⟩
def qC:TI:=⟨.func,1,8,[.nilFunc],[]⟩
def qD:TI:=⟨.func,1,8,[.nilFunc],[]⟩
def qE:TI:=⟨.ptr 3,1,8,[.pointer none],[]⟩
def qF:TI:=⟨.func,1,8,[.nilFunc],[]⟩
def qG:TI:=⟨.func,1,8,[.nilFunc],[]⟩
def qH:TI:=⟨.func,1,8,[.nilFunc],[]⟩
def qI:TI:=⟨.func,1,8,[.nilFunc],[]⟩
def qJ:TI:=⟨.func,1,8,[.nilFunc],[]⟩
def qK:TI:=⟨.func,1,8,[.nilFunc],[]⟩
def qL:TI:=⟨.func,1,8,[.nilFunc],[]⟩
def qM:TI:=⟨.ptr 152,1,8,[.pointer none],[("Next",116)]⟩
def qN:TI:=⟨.other,1,0,[],[]⟩
def qO:TI:=⟨.func,1,8,[.nilFunc],[]⟩
def qP:TI:=⟨.func,1,8,[.nilFunc],[]⟩
def qQ:TI:=⟨.func,1,8,[.nilFunc],[]⟩
def qR:TI:=⟨.func,1,8,[.nilFunc],[]⟩
def qS:TI:=⟨.func,1,8,[.nilFunc],[]⟩
def qT:TI:=⟨.arr 0 16,0,0,[],[]⟩
def qU:TI:=⟨.int .u8,1,1,[.int .u8 0],[]⟩
def qV:TI:=⟨.int .u8,1,1,[.int .u8 0],[("String",148)]⟩
def qW:TI:=⟨.func,1,8,[.nilFunc],[]⟩
def qX:TI:=⟨.ptr 5,1,8,[.pointer none],[]⟩
def qY:TI:=⟨.int .i32,1,4,[.int .i32 0],[]⟩
def qZ:TI:=⟨.int .i32,1,4,[.int .i32 0],[]⟩
def qa:TI:=⟨.other,1,8,[.pointer none],[]⟩
set_option maxRecDepth 100000 in
def ty:TTy:=(.nd (some ty0) (.nd (some ty1) (.nd (some ty3) (.nd (some ty7) (.nd (some rC) (.nd (some rM) (.nd (some ru) (.nd (some pP) .mt .mt) .mt) (.nd (some sY) (.nd (some qH) .mt .mt) .mt)) (.nd (some ra) (.nd (some sJ) (.nd (some pn) .mt .mt) .mt) (.nd (some pA) (.nd none .mt .mt) .mt))) (.nd (some rH) (.nd (some rT) (.nd (some sD) (.nd (some pX) .mt .mt) .mt) (.nd (some oh) (.nd (some qP) .mt .mt) .mt)) (.nd (some rl) (.nd (some sP) (.nd (some pz) .mt .mt) .mt) (.nd (some pH) (.nd none .mt .mt) .mt)))) (.nd (some rA) (.nd none (.nd (some rP) (.nd (some rz) (.nd (some pT) .mt .mt) .mt) (.nd (some sd) (.nd (some qL) .mt .mt) .mt)) (.nd (some rh) (.nd (some FH) (.nd (some pr) .mt .mt) .mt) (.nd (some pE) (.nd (some qX) .mt .mt) .mt))) (.nd (some dj) (.nd (some Hq) (.nd (some Q9) (.nd (some ph) .mt .mt) .mt) (.nd (some ox) (.nd none .mt .mt) .mt)) (.nd (some rq) (.nd (some sU) (.nd (some qD) .mt .mt) .mt) (.nd (some pL) .mt .mt))))) (.nd (some ty5) (.nd (some ty9) (.nd (some rE) (.nd (some Q8) (.nd (some rx) (.nd (some pR) .mt .mt) .mt) (.nd (some sZ) (.nd (some qJ) .mt .mt) .mt)) (.nd (some rd) (.nd (some sK) (.nd (some pp) .mt .mt) .mt) (.nd (some pC) (.nd (some qV) .mt .mt) .mt))) (.nd (some rJ) (.nd (some rV) (.nd (some sF) (.nd (some pZ) .mt .mt) .mt) (.nd (some oq) (.nd (some qR) .mt .mt) .mt)) (.nd (some rn) (.nd (some sR) (.nd (some qB) .mt .mt) .mt) (.nd (some pJ) .mt .mt)))) (.nd none (.nd (some rG) (.nd (some rR) (.nd (some sB) (.nd (some pV) .mt .mt) .mt) (.nd (some od) (.nd (some qN) .mt .mt) .mt)) (.nd (some rj) (.nd (some sN) (.nd (some px) .mt .mt) .mt) (.nd (some pF) (.nd (some qZ) .mt .mt) .mt))) (.nd (some Vt) (.nd (some rY) (.nd (some sI) (.nd (some pj) .mt .mt) .mt) (.nd (some oz) (.nd (some qT) .mt .mt) .mt)) (.nd (some rt) (.nd (some sW) (.nd (some qF) .mt .mt) .mt) (.nd (some pN) .mt .mt)))))) (.nd (some ty2) (.nd (some ty4) (.nd none (.nd (some rD) (.nd (some rN) (.nd (some rv) (.nd (some pQ) .mt .mt) .mt) (.nd (some dm) (.nd (some qI) .mt .mt) .mt)) (.nd (some rc) (.nd (some ZI) (.nd (some po) .mt .mt) .mt) (.nd (some pB) (.nd (some qU) .mt .mt) .mt))) (.nd (some rI) (.nd (some rU) (.nd (some sE) (.nd (some pY) .mt .mt) .mt) (.nd (some oo) (.nd (some qQ) .mt .mt) .mt)) (.nd (some rm) (.nd (some sQ) (.nd (some qA) .mt .mt) .mt) (.nd (some pI) (.nd (some qa) .mt .mt) .mt)))) (.nd (some rB) (.nd (some rF) (.nd (some rQ) (.nd (some sA) (.nd (some pU) .mt .mt) .mt) (.nd (some GE) (.nd (some qM) .mt .mt) .mt)) (.nd (some ri) (.nd (some sM) (.nd (some pu) .mt .mt) .mt) (.nd (some Q7) (.nd (some qY) .mt .mt) .mt))) (.nd (some rL) (.nd (some rX) (.nd (some sH) (.nd (some pi) .mt .mt) .mt) (.nd (some oy) (.nd none .mt .mt) .mt)) (.nd (some rr) (.nd (some sV) (.nd (some qE) .mt .mt) .mt) (.nd (some pM) .mt .mt))))) (.nd (some ty6) (.nd (some qz) (.nd none (.nd (some rO) (.nd (some ry) (.nd (some pS) .mt .mt) .mt) (.nd (some dp) (.nd (some qK) .mt .mt) .mt)) (.nd (some re) (.nd (some sL) (.nd (some pq) .mt .mt) .mt) (.nd (some pD) (.nd (some qW) .mt .mt) .mt))) (.nd (some rK) (.nd (some rW) (.nd (some sG) (.nd (some pf) .mt .mt) .mt) (.nd (some ot) (.nd (some qS) .mt .mt) .mt)) (.nd (some ro) (.nd (some sS) (.nd (some qC) .mt .mt) .mt) (.nd (some pK) .mt .mt)))) (.nd none (.nd (some Ki) (.nd (some rS) (.nd (some sC) (.nd (some pW) .mt .mt) .mt) (.nd (some oe) (.nd (some qO) .mt .mt) .mt)) (.nd (some rk) (.nd (some sO) (.nd (some py) .mt .mt) .mt) (.nd (some pG) (.nd none .mt .mt) .mt))) (.nd (some HM) (.nd (some rZ) (.nd (some Vu) (.nd (some pk) .mt .mt) .mt) (.nd (some o7) (.nd none .mt .mt) .mt)) (.nd (some Se) (.nd (some sX) (.nd (some qG) .mt .mt) .mt) (.nd (some pO) .mt .mt)))))))
end
end Go.Proofs.YtedbmmfebjfibaaGreat

/-
  Part ZH of what Lawso stands on: printed by program, names and spaces cut.
-/
import Derived.Test.YtedbmmfebjfibaaGreatZG
import Derived.ChangeSlices
import Derived.ChangeArms
import Derived.Test.YtedbmmfebjfibaaGreatProg
set_option linter.unusedVariables false
set_option linter.unusedSimpArgs false
namespace Go.Proofs.YtedbmmfebjfibaaGreat
noncomputable section
open Go
section
variable {F:CallF}{e:Env}{h h':Hp}{x y:O}
structure Hp.Wf (h:Hp):Prop where
 big:256≤h.next
 has:∀ i,i<h.next→h.bl.has i
 fresh:∀ i,h.next≤i→h.bl.get i=.dead
def Hp.push(h:Hp)(o:Blk):Hp:={next:=Nat.succ h.next,low:=h.low,high:=h.high,mark:=h.mark,bl:=h.bl.lay h.next o}
def Hp.put(h:Hp)(b:Nat)(o:Blk):Hp:={next:=h.next,low:=CC h.low b,high:=Cq h.high b,mark:=h.mark,bl:=h.bl.lay b o}
theorem Cr(W:h.Wf){o:Blk}{K:Nat→Hp→R}:Fs h o K=K h.next (h.push o):=by
 unfold Fs
 rw[BT.lay_is fun j hj=>W.has j hj]
 simp only[Ao];rfl
theorem Dp(W:h.Wf){b:Nat}(h256:256≤b)(hb:b<h.next){o:Blk}{K:Hp→R}:D9 h b o K=K (h.put b o):=by
 unfold D9
 rw[BT.lay_is fun j hj=>W.has j (Nat.lt_trans hj hb),Aq.2 h256]
 simp only[Ao];rfl
theorem Hp.Wf.push_get(W:h.Wf)(o:Blk)(i:Nat):(h.push o).bl.get i=if i=h.next then o else h.bl.get i:=BT.lay_get (fun j hj=>W.has j hj) i
theorem Hp.Wf.put_get(W:h.Wf){b:Nat}(hb:b<h.next)(o:Blk)(i:Nat):(h.put b o).bl.get i=if i=b then o else h.bl.get i:=BT.lay_get (fun j hj=>W.has j (Nat.lt_trans hj hb)) i
theorem Hp.Wf.push(W:h.Wf)(o:Blk):(h.push o).Wf where
 big:=Nat.le_succ_of_le W.big
 has:=fun i hi=>BT.lay_has (fun j hj=>W.has j hj) i (by
  have hi:i<h.next+1:=hi
  rcases Nat.lt_or_ge i h.next with h1|h1
  ·exact .inr (W.has i h1)
  ·exact .inl (by omega))
 fresh:=fun i hi=>by
  have hi:h.next+1≤i:=hi
  rw[W.push_get o i,if_neg (by omega)]
  exact W.fresh i (by omega)
theorem Hp.Wf.put(W:h.Wf){b:Nat}(hb:b<h.next)(o:Blk):(h.put b o).Wf where
 big:=W.big
 has:=fun i hi=>BT.lay_has (fun j hj=>W.has j (Nat.lt_trans hj hb)) i (.inr (W.has i hi))
 fresh:=fun i hi=>by
  have hi:h.next≤i:=hi
  rw[W.put_get hb o i,if_neg (by omega)]
  exact W.fresh i hi
structure Hp.Ext (h h':Hp):Prop where
 next:h.next≤h'.next
 get:∀ i,i<h.next→h'.bl.get i=h.bl.get i
 low:min h.low h.next≤h'.low
 wf:h'.Wf
theorem Hp.Ext.refl(W:h.Wf):h.Ext h:=⟨Nat.le_refl _,fun _ _=>rfl,Nat.min_le_left _ _,W⟩
theorem Hp.Ext.trans{h₁ h₂ h₃:Hp}(a:h₁.Ext h₂)(b:h₂.Ext h₃):h₁.Ext h₃ where
 next:=Nat.le_trans a.next b.next
 get:=fun i hi=>by rw[b.get i (Nat.lt_of_lt_of_le hi a.next),a.get i hi]
 low:=by have:=a.low;have:=b.low;have:=a.next;omega
 wf:=b.wf
theorem Hp.Ext.push(a:h.Ext h')(o:Blk):h.Ext (h'.push o) where
 next:=Nat.le_succ_of_le a.next
 get:=fun i hi=>by rw[a.wf.push_get,if_neg (by have:=a.next;omega),a.get i hi]
 low:=a.low
 wf:=a.wf.push o
theorem Hp.Ext.put(a:h.Ext h'){b:Nat}(h1:h.next≤b)(hb:b<h'.next)(o:Blk):h.Ext (h'.put b o) where
 next:=a.next
 get:=fun i hi=>by rw[a.wf.put_get hb,if_neg (by omega),a.get i hi]
 low:=by
  show _≤CC h'.low b
  rw[BK]
  have:=a.low;omega
 wf:=a.wf.put hb o
def VT.Is(t:VT)(l:List Value):Prop:=∀ i,i<l.length→t.has i∧t.get i=l.getD i noRes
theorem Dq:∀ (vs:List Value) (t:VT) (l:List Value) (i:Nat),t.Is l→i+vs.length≤l.length∨i=l.length→∃ t',B6 t i vs=some t'∧t'.Is (l.take i++vs++l.drop (i+vs.length))
 |[],t,l,i,ht,hi=>⟨t,rfl,by simpa using ht⟩
 |v::vs,t,l,i,ht,hi=>by
  have hi':i≤l.length:=by simp only[List.length_cons]at hi;omega
  have hh:∀ j,j<i→t.has j:=fun j hj=>(ht j (by omega)).1
  have h1:(t.lay i v).Is (l.take i++[v]++l.drop (i+1)):=fun j hj=>by
   have hl:(l.take i).length=i:=by simp;omega
   refine⟨VT.lay_has hh j ?_,?_⟩
   ·by_cases hji:j=i
    ·exact .inl hji
    ·right
     refine(ht j ?_).1
     simp only[List.length_append,List.length_cons,List.length_nil,List.length_drop,List.length_take]at hj
     omega
   ·rw[VT.lay_get hh]
    by_cases hji:j=i
    ·rw[if_pos hji,hji,List.getD_eq_getElem?_getD,List.append_assoc,List.getElem?_append_right (by omega)]
     simp[hl]
    ·rw[if_neg hji]
     have hjl:j<l.length:=by
      simp only[List.length_append,List.length_cons,List.length_nil,List.length_drop,List.length_take]at hj
      omega
     rw[(ht j hjl).2,List.getD_eq_getElem?_getD,List.getD_eq_getElem?_getD]
     congr 1
     rcases Nat.lt_or_ge j i with h2|h2
     ·rw[List.append_assoc,List.getElem?_append_left (by omega),List.getElem?_take,if_pos h2]
     ·rw[List.getElem?_append_right (by simp only[List.length_append,hl,List.length_cons,List.length_nil];omega),List.getElem?_drop]
      congr 1
      simp only[List.length_append,hl,List.length_cons,List.length_nil];omega
  have hlen:(l.take i++[v]++l.drop (i+1)).length=max l.length (i+1):=by
   simp only[List.length_append,List.length_cons,List.length_nil,List.length_drop,List.length_take];omega
  obtain⟨t',h2,h3⟩:=Dq vs (t.lay i v) _ (i+1) h1 (by simp only[List.length_cons]at hi;omega)
  refine⟨t',?_,?_⟩
  ·show(match t.set i v with|some t'=>B6 t' (Nat.succ i) vs|none=>none)=_
   rw[VT.lay_is hh];exact h2
  ·have e:(l.take i++[v]++l.drop (i+1)).take (i+1)++vs++(l.take i++[v]++l.drop (i+1)).drop (i+1+vs.length)=l.take i++(v::vs)++l.drop (i+(v::vs).length):=by
    have hl:(l.take i++[v]).length=i+1:=by simp;omega
    rw[List.take_left' hl]
    have e2:i+1+vs.length=(l.take i++[v]).length+vs.length:=by rw[hl]
    rw[e2,List.drop_length_add_append,List.drop_drop]
    have e3:i+1+vs.length=i+(v::vs).length:=by simp only[List.length_cons];omega
    rw[e3];simp
   rw[e]at h3;exact h3
theorem kC:VT.mt.Is []:=fun i h=>by cases h
def ofL(l:List Value):VT:=(B6 .mt 0 l).getD .mt
theorem HH(l:List Value):B6 .mt 0 l=some (ofL l)∧(ofL l).Is l:=by
 obtain⟨t',h1,h2⟩:=Dq l .mt [] 0 kC (.inr rfl)
 unfold ofL
 rw[h1]
 refine⟨rfl,?_⟩
 simpa using h2
theorem VT.Is.of{t:VT}{l:List Value}(h:B6 .mt 0 l=some t):t.Is l:=by
 have:=HH l
 rw[h]at this
 rw[Option.some.inj this.1];exact this.2
def Hp.Row(h:Hp)(b el:Nat)(l:List Value):Prop:=∃ c,h.bl.get b=.cells c l.length el∧c.Is l
def Hp.pushRow(h:Hp)(el:Nat)(l:List Value):Hp:=h.push (.cells (ofL l) l.length el)
theorem DH(W:h.Wf){el:Nat}{l:List Value}{K:Nat→Hp→R}:newRow h el l K=K h.next (h.pushRow el l):=by
 unfold newRow
 rw[(HH l).1]
 show CO h el (ofL l) (BI l) K=_
 unfold CO
 rw[Ao,Cr W,BW];rfl
theorem Hp.Row.lt(W:h.Wf){b el:Nat}{l:List Value}(r:h.Row b el l):b<h.next:=by
 obtain⟨c,hc,_⟩:=r
 rcases Nat.lt_or_ge b h.next with h1|h1
 ·exact h1
 ·rw[W.fresh b h1]at hc;cases hc
theorem Hp.Row.new(W:h.Wf)(el:Nat)(l:List Value):(h.pushRow el l).Row h.next el l:=⟨ofL l,by unfold Hp.pushRow;rw[W.push_get,if_pos rfl],(HH l).2⟩
theorem Hp.Row.ext{b el:Nat}{l:List Value}(r:h.Row b el l)(W:h.Wf)(x:h.Ext h'):h'.Row b el l:=by
 have:=r.lt W
 obtain⟨c,hc,hl⟩:=r
 exact⟨c,(x.get b this).trans hc,hl⟩
theorem Hp.Row.push{b el:Nat}{l:List Value}(r:h.Row b el l)(W:h.Wf)(o:Blk):(h.push o).Row b el l:=r.ext W ((Hp.Ext.refl W).push o)
theorem Hp.Ext.pushRow(a:h.Ext h')(el:Nat)(l:List Value):h.Ext (h'.pushRow el l):=a.push _
theorem Hp.Row.rowOf{b el:Nat}{l:List Value}(r:h.Row b el l):∃ c,rowOf h b=.ok c l.length el∧c.Is l:=by
 obtain⟨c,hc,hl⟩:=r
 exact⟨c,by unfold Go.Proofs.YtedbmmfebjfibaaGreat.rowOf;rw[hc];rfl,hl⟩
theorem Hp.Row.load1{b el off:Nat}{l:List Value}(r:h.Row b el l)(ho:off<l.length):load1 ⟨b,off,none⟩ h=.ok (l.getD off noRes) h:=by
 obtain⟨c,hc,hl⟩:=r.rowOf
 unfold Go.Proofs.YtedbmmfebjfibaaGreat.load1
 simp only[hc]
 rw[BL.2 ho]
 simp only[BA,(hl off ho).2]
theorem Is.rowL{c:VT}{l:List Value}(hl:c.Is l)(off n:Nat)(ho:off+n≤l.length):rowL c off n=(l.drop off).take n:=by
 refine List.ext_getElem? fun i=>?_
 unfold Go.Proofs.YtedbmmfebjfibaaGreat.rowL
 rw[List.getElem?_map,List.getElem?_take,List.getElem?_drop]
 by_cases hi:i<n
 ·rw[if_pos hi,List.getElem?_range hi]
  have:=(hl (off+i) (by omega)).2
  rw[List.getD_eq_getElem?_getD,List.getElem?_eq_getElem (by omega)]at this
  show some (c.get (off+i))=_
  rw[this,List.getElem?_eq_getElem (by omega)];rfl
 ·rw[if_neg hi,List.getElem?_eq_none (by simpa using hi)];rfl
theorem Hp.Row.loadN{b el off n:Nat}{l:List Value}(r:h.Row b el l)(ho:off+n≤l.length):loadN n ⟨b,off,none⟩ h=.ok (.agg ⟨(l.drop off).take n⟩) h:=by
 obtain⟨c,hc,hl⟩:=r.rowOf
 unfold Go.Proofs.YtedbmmfebjfibaaGreat.loadN
 simp only[hc,Nat.add_eq]
 rw[Aq.2 ho]
 simp only[cond_true,FY,List.append_nil,Is.rowL hl off n ho]
theorem Hp.Row.src{b el off n c:Nat}{l:List Value}(r:h.Row b el l)(ho:off+n≤l.length){sl:Nat}{k:List Value→R}:BQ h 1 (.slice (some ⟨b,off,none⟩) sl c) n k=k ((l.drop off).take n):=by
 obtain⟨cc,hc,hl⟩:=r.rowOf
 unfold BQ
 simp only[hc]
 have e:Nat.mul n 1=n:=Nat.mul_one n
 rw[e]
 simp only[Nat.add_eq]
 rw[Aq.2 ho]
 simp only[cond_true,FY,List.append_nil,Is.rowL hl off n ho]
def Hp.wr(h:Hp)(b off:Nat)(vs:List Value):Hp:=match rowOf h b with
 |.ok c s e=>h.put b (.cells ((B6 c off vs).getD c) s e)
 |.no=>h
def over(l:List Value)(off:Nat)(vs:List Value):List Value:=l.take off++vs++l.drop (off+vs.length)
theorem PV{l vs:List Value}{off:Nat}(ho:off+vs.length≤l.length):(over l off vs).length=l.length:=by
 unfold over
 simp only[List.length_append,List.length_take,List.length_drop];omega
theorem Hp.Row.wr_is{b el off:Nat}{l vs:List Value}(r:h.Row b el l)(ho:off+vs.length≤l.length):∃ c,c.Is (over l off vs)∧h.wr b off vs=h.put b (.cells c (over l off vs).length el)∧
  ∀ (W:h.Wf) (h256:256≤b) (h1:Bg vs=true) (K:Hp→R),Cw ⟨b,off,none⟩ vs h K=K (h.wr b off vs):=by
 obtain⟨c,hc,hl⟩:=r.rowOf
 obtain⟨c',h2,h3⟩:=Dq vs c l off hl (.inl ho)
 have e:h.wr b off vs=h.put b (.cells c' l.length el):=by
  unfold Hp.wr
  rw[hc]
  simp only[h2,Option.getD_some]
 refine⟨c',h3,by rw[PV ho];exact e,fun W h256 h1 K=>?_⟩
 unfold Cw
 simp only[hc,Nat.add_eq]
 rw[BW,Aq.2 ho,h1]
 simp only[cond_true,h2]
 rw[e,Dp W h256 (r.lt W)]
theorem Hp.Row.store{b el off:Nat}{l vs:List Value}(r:h.Row b el l)(W:h.Wf)(h256:256≤b)(ho:off+vs.length≤l.length)(h1:Bg vs=true)(K:Hp→R):Cw ⟨b,off,none⟩ vs h K=K (h.wr b off vs):=by
 obtain⟨_,_,_,h4⟩:=r.wr_is ho
 exact h4 W h256 h1 K
theorem Hp.Row.wr_self{b el off:Nat}{l vs:List Value}(r:h.Row b el l)(W:h.Wf)(ho:off+vs.length≤l.length):(h.wr b off vs).Row b el (over l off vs):=by
 obtain⟨c,h3,e,_⟩:=r.wr_is ho
 exact⟨c,by rw[e,W.put_get (r.lt W),if_pos rfl],h3⟩
theorem Hp.Row.wr_other{b el off b' el':Nat}{l vs l':List Value}(r:h.Row b el l)(W:h.Wf)(ho:off+vs.length≤l.length)(r':h.Row b' el' l')(hb:b'≠b):(h.wr b off vs).Row b' el' l':=by
 obtain⟨c,h3,e,_⟩:=r.wr_is ho
 obtain⟨c',hc',hl'⟩:=r'
 exact⟨c',by rw[e,W.put_get (r.lt W),if_neg hb,hc'],hl'⟩
theorem Hp.Row.wr_ext{h0:Hp}{b el off:Nat}{l vs:List Value}(r:h.Row b el l)(x:h0.Ext h)(hb:h0.next≤b)(ho:off+vs.length≤l.length):h0.Ext (h.wr b off vs):=by
 obtain⟨c,h3,e,_⟩:=r.wr_is ho
 rw[e];exact x.put hb (r.lt x.wf) _
theorem Hp.Row.wr_next{b el off:Nat}{l vs:List Value}(r:h.Row b el l)(ho:off+vs.length≤l.length):(h.wr b off vs).next=h.next:=by
 obtain⟨c,h3,e,_⟩:=r.wr_is ho
 rw[e];rfl
def Gl(v:Value)(h:Hp):R:=match DW v with
 |.ok a=>load1 a h
 |.no=>.no
theorem AV:AL x F e h=Gl (x e) h:=by
 unfold AL Gl
 cases DW (x e)<;>rfl
theorem Ac{a:Addr}:Gl (.pointer (some a)) h=load1 a h:=rfl
def LS(n:Nat)(v:Value)(h:Hp):R:=match DW v with
 |.ok a=>loadN n a h
 |.no=>.no
theorem BP{n:Nat}:BE n x F e h=LS n (x e) h:=rfl
theorem BF{n:Nat}{a:Addr}:LS n (.pointer (some a)) h=loadN n a h:=rfl
def storeR(n:Nat)(p v:Value)(h:Hp):R:=match DW p with
 |.ok a=>bif Nat.beq (BI (cellsOf v)) n then Cw a (cellsOf v) h El else .no
 |.no=>.no
theorem Av{n:Nat}:Ae n x y F e h=storeR n (x e) (y e) h:=by
 unfold Ae storeR
 simp only[BA]
 cases DW (x e)<;>rfl
theorem Hp.Row.storeR{n b el off:Nat}{l:List Value}{v:Value}(r:h.Row b el l)(W:h.Wf)(h256:256≤b)(hn:(cellsOf v).length=n)(ho:off+(cellsOf v).length≤l.length)(h1:Bg (cellsOf v)=true):
  storeR n (.pointer (some ⟨b,off,none⟩)) v h=.ok noRes (h.wr b off (cellsOf v)):=by
 show(bif Nat.beq (BI (cellsOf v)) n then Cw ⟨b,off,none⟩ (cellsOf v) h El else .no)=_
 rw[BW,Au.2 hn,r.store W h256 ho h1];rfl
def X3(v:Value)(h:Hp):R:=bif known v then newRow h 0 (cellsOf v) IH else .no
theorem Fe:DL x F e h=X3 (x e) h:=by
 unfold DL X3
 simp only[BA]
theorem FR(W:h.Wf){v:Value}(hk:known v=true:=by rfl):X3 v h=.ok (.pointer (some ⟨h.next,0,none⟩)) (h.pushRow 0 (cellsOf v)):=by
 unfold X3
 rw[hk,cond_true,DH W];rfl
theorem Bt(W:h.Wf){n:Nat}{t:VT}:A2 n t F e h=.ok (.pointer (some ⟨h.next,0,none⟩)) (h.push (.cells t n 0)):=by
 unfold A2
 rw[Cr W];rfl
theorem Hp.Row.alloc(W:h.Wf){n:Nat}{t:VT}{l:List Value}(ht:B6 .mt 0 l=some t)(hn:l.length=n):(h.push (.cells t n 0)).Row h.next 0 l:=⟨t,by rw[W.push_get,if_pos rfl,hn],.of ht⟩
theorem MF{n:Nat}:AH n x F e h=match DW (x e)with|.ok a=>.ok (.pointer (some ⟨a.block,a.off+n,none⟩)) h|.no=>.no:=by
 unfold AH
 cases DW (x e)with
 |ok a=>exact Ao _ _
 |no=>rfl
def Ro(n:Nat)(v:Value)(h:Hp):R:=match DW v with
 |.ok a=>.ok (.pointer (some ⟨a.block,a.off+n,none⟩)) h
 |.no=>.no
theorem AM{n:Nat}:AH n x F e h=Ro n (x e) h:=MF
theorem AY{n b off:Nat}:Ro n (.pointer (some ⟨b,off,none⟩)) h=.ok (.pointer (some ⟨b,off+n,none⟩)) h:=rfl
def J5(n es:Nat)(p i:Value)(h:Hp):R:=LJ n es (DW p) (C8 i) h
theorem CZ{n es:Nat}:Bk n es x y F e h=J5 n es (x e) (y e) h:=rfl
theorem SH{n es b off i:Nat}(hi:i<n):LJ n es (.ok ⟨b,off,none⟩) (.ok i) h=.ok (.pointer (some ⟨b,off+i * es,none⟩)) h:=by
 show Bool.rec (motive:=fun _=>R) .no (Mt ⟨b,off,none⟩ (Nat.mul i es) h) (Nat.blt i n)=_
 rw[BL.2 hi]
 exact Ao _ _
theorem KG{n es b off i:Nat}{k:IntKind}(hi:i<n):J5 n es (.pointer (some ⟨b,off,none⟩)) (.int k (i:Int)) h=.ok (.pointer (some ⟨b,off+i * es,none⟩)) h:=SH hi
def Fa(es:Nat)(s i:Value)(h:Hp):R:=match s with
 |.slice (some a) n _=>LJ n es (.ok a) (C8 i) h
 |_=>.no
theorem Bb{es:Nat}:Bp es x y F e h=Fa es (x e) (y e) h:=rfl
theorem D0{n c es b off i:Nat}{k:IntKind}(hi:i<n):Fa es (.slice (some ⟨b,off,none⟩) n c) (.int k (i:Int)) h=.ok (.pointer (some ⟨b,off+i * es,none⟩)) h:=SH hi
def Fc(v:Value)(h:Hp):R:=match v with
 |.slice _ n _=>.ok (.int .i64 (.ofNat n)) h
 |.chan (some _)=>.ok (.int .i64 (.ofNat 0)) h
 |_=>.no
theorem Ay:BR x F e h=Fc (x e) h:=rfl
theorem E7{o:Option Addr}{n c:Nat}:Fc (.slice o n c) h=.ok (.int .i64 (n:Int)) h:=rfl
end
end
noncomputable section
open Go
section
variable {F:CallF}{e:Env}{h h':Hp}{x y:O}
def bA:X→Bool
 |.norm _ _=>false
 |.no=>false
 |_=>true
theorem Oo{body:C}{I:Nat→Env→Hp→Prop}{Q:X→Prop}(N:Nat)
  (step:∀ i e h,I i e h→(i<N∧∃ e' h',body F e h=.norm e' h'∧I (i+1) e' h')∨(bA (body F e h)=true∧Q (body F e h))):
  ∀ n i e h,N - i<n→I i e h→Q (iter body n F e h)
 |0,i,e,h,hn,_=>absurd hn (Nat.not_lt_zero _)
 |n+1,i,e,h,hn,hi=>by
  unfold iter
  rcases step i e h hi with ⟨h1,e',h',h2,h3⟩|⟨h1,h2⟩
  ·rw[h2]
   exact Oo N step n (i+1) e' h' (by omega) h3
  ·cases hb:body F e h with
   |norm e' h'=>rw[hb]at h1;cases h1
   |no=>rw[hb]at h1;cases h1
   |exit i e' h'=>rw[hb]at h2;exact h2
   |ret e' h'=>rw[hb]at h2;exact h2
theorem Bz{body:C}(I:Nat→Env→Hp→Prop)(Q:X→Prop)(N:Nat)(hN:N<8796093022208)
  (step:∀ i e h,I i e h→(i<N∧∃ e' h',body F e h=.norm e' h'∧I (i+1) e' h')∨(bA (body F e h)=true∧Q (body F e h)))(h0:I 0 e h):Q (A1 body F e h):=
 Oo N step rounds 0 e h (by show N - 0<8796093022208;omega) h0
theorem Br{n:Nat}(h:n≤9223372036854775807):IntKind.i64.wrap (n:Int)=n:=HT h
theorem Xa{n:Int}(h0:0≤n)(h:n≤9223372036854775807):IntKind.i64.wrap n=n:=by
 obtain⟨m,rfl⟩:=Int.eq_ofNat_of_zero_le h0
 exact HT (by omega)
theorem FI{n:Nat}(h:n≤18446744073709551615):IntKind.u64.wrap (n:Int)=n:=C9 .u64 n h
theorem Ht(n:Nat):IntKind.u8.wrap (n:Int)=((n % 256:Nat):Int):=by
 have:IntKind.u8.wrap (n:Int)=(n:Int) % 256:=rfl
 rw[this];omega
def bv(n:Nat):Value:=.int .u8 (n:Int)
theorem Kn:∀ l:List Nat,EV (l.map bv)=some (l.map UInt8.ofNat)
 |[]=>rfl
 |n::l=>by
  show(match EV (l.map bv)with|some bs=>forceN n fun n=>some (UInt8.ofNat n::bs)|none=>none)=_
  rw[Kn l]
  exact Ao _ _
theorem DE:∀ l:List Nat,Bg (l.map bv)=true
 |[]=>rfl
 |n::l=>DE l
def Hp.Bytes(h:Hp)(v:Value)(l:List Nat):Prop:=(v=.slice none 0 0∧l=[])∨∃ b off c el L,v=.slice (some ⟨b,off,none⟩) l.length c∧h.Row b el L∧off+l.length≤L.length∧(L.drop off).take l.length=l.map bv
theorem Hp.Bytes.ext{v:Value}{l:List Nat}(b:h.Bytes v l)(W:h.Wf)(x:h.Ext h'):h'.Bytes v l:=by
 rcases b with ⟨h1,h2⟩|⟨b,off,c,el,L,h1,h2,h3,h4⟩
 ·exact .inl ⟨h1,h2⟩
 ·exact .inr ⟨b,off,c,el,L,h1,h2.ext W x,h3,h4⟩
theorem Hp.Bytes.src{v:Value}{l:List Nat}(b:h.Bytes v l){n:Nat}(hn:n=l.length)(k:List Value→R):BQ h 1 v n k=k (l.map bv):=by
 subst hn
 rcases b with ⟨h1,h2⟩|⟨b,off,c,el,L,h1,h2,h3,h4⟩
 ·rw[h1,h2];rfl
 ·rw[h1,h2.src h3,h4]
theorem Hp.Bytes.shape{v:Value}{l:List Nat}(b:h.Bytes v l):∃ a c,v=.slice a l.length c:=by
 rcases b with ⟨h1,h2⟩|⟨b,off,c,el,L,h1,h2,h3,h4⟩
 ·exact⟨none,0,by rw[h1,h2];rfl⟩
 ·exact⟨_,_,h1⟩
def kX(v:Value)(h:Hp):R:=match v with
 |.slice a n c=>BQ h 1 (.slice a n c) n fun cs=>match EV cs with
  |some bs=>.ok (.string ⟨⟨bs⟩⟩) h
  |none=>.no
 |_=>.no
theorem Mq:FA x F e h=kX (x e) h:=rfl
theorem Hp.Bytes.str{v:Value}{l:List Nat}(b:h.Bytes v l):kX v h=.ok (.string ⟨⟨l.map UInt8.ofNat⟩⟩) h:=by
 obtain⟨a,c,rfl⟩:=b.shape
 show BQ h 1 (.slice a l.length c) l.length (fun cs=>match EV cs with
  |some bs=>.ok (.string ⟨⟨bs⟩⟩) h
  |none=>.no)=_
 rw[b.src rfl,Kn]
def jz(f:List UInt8→List UInt8→Bool)(a b:Value)(h:Hp):R:=XG f a b h
theorem Sb{f:List UInt8→List UInt8→Bool}:It f x y F e h=jz f (x e) (y e) h:=rfl
theorem Rj{f:List UInt8→List UInt8→Bool}{a b:List UInt8}:jz f (.string ⟨⟨a⟩⟩) (.string ⟨⟨b⟩⟩) h=.ok (.bool (f a b)) h:=Ft
theorem Hp.Bytes.len{v:Value}{l:List Nat}(b:h.Bytes v l):Fc v h=.ok (.int .i64 (l.length:Int)) h:=by
 obtain⟨a,c,rfl⟩:=b.shape;rfl
theorem Hp.Bytes.at{v:Value}{l:List Nat}(b:h.Bytes v l){i:Nat}(hi:i<l.length):∃ a,Fa 1 v (.int .i64 (i:Int)) h=.ok (.pointer (some a)) h∧Gl (.pointer (some a)) h=.ok (bv (l.getD i 0)) h:=by
 rcases b with ⟨h1,h2⟩|⟨b,off,c,el,L,h1,h2,h3,h4⟩
 ·rw[h2]at hi;cases hi
 ·refine⟨⟨b,off+i * 1,none⟩,by rw[h1];exact D0 hi,?_⟩
  rw[Ac,h2.load1 (by omega)]
  have:=congrArg (fun m=>m[i]?) h4
  simp only[List.getElem?_take,List.getElem?_drop,if_pos hi,List.getElem?_map]at this
  rw[List.getD_eq_getElem?_getD,Nat.mul_one,this,List.getD_eq_getElem?_getD,List.getElem?_eq_getElem hi];rfl
theorem aI{v:Value}{l:List Nat}(b:h.Bytes v l):lenV v=.ok l.length:=by
 obtain⟨a,c,rfl⟩:=b.shape;rfl
theorem N8{eb en b n c el:Nat}{l:List Value}{v:Value}(W:h.Wf)(h256:256≤b)(r:h.Row b el l)(hx:h.Bytes v [])(hc:n≤c)(hn:n≤l.length):
  Dg 1 eb en (.slice (some ⟨b,0,none⟩) n c) v h=.ok (.slice (some ⟨b,0,none⟩) n c) (h.wr b n []):=by
 unfold Dg
 simp only[aI hx,hx.src rfl,Ao,Nat.add_eq]
 have e1:Nat.ble n c=true:=Aq.2 hc
 have e0:n+([]:List Nat).length=n:=rfl
 simp only[e0,e1,List.map_nil]
 have e2:Fp ⟨b,0,none⟩ (Nat.mul n 1)=⟨b,n,none⟩:=by
  rw[show Nat.mul n 1=n from Nat.mul_one n]
  cases n with
  |zero=>rfl
  |succ n=>show(⟨b,Nat.add 0 (Nat.succ n),none⟩:Addr)=_;rw[Nat.add_eq,Nat.zero_add]
 rw[e2,r.store W h256 (by simpa using hn) rfl]
def Eb(es eb en:Nat)(s v:Value)(h:Hp):R:=Dg es eb en s v h
theorem Bn{es eb en:Nat}:A8 es eb en x y F e h=Eb es eb en (x e) (y e) h:=rfl
theorem CV{cs:List Value}{k:List Value→R}:EE cs e k []=k cs:=CW _ _
theorem BC{cs:List Value}{k:List Value→R}{off size:Nat}{rest:List (Nat×Nat×O)}(hk:known (x e)=true:=by rfl):EE cs e k ((off,size,x)::rest)=(if(cellsOf (x e)).length=size then(if off+size≤cs.length then EE (over cs off (cellsOf (x e))) e k rest else .no)else .no):=by
 have e0:EE cs e k ((off,size,x)::rest)=(bif known (x e)then(bif Nat.beq (BI (cellsOf (x e))) size then(bif Nat.ble (Nat.add off size) (BI cs)then EE (lay cs off (cellsOf (x e))) e k rest else .no)else .no)else .no):=BA _ _
 have e1:EE cs e k ((off,size,x)::rest)=(bif Nat.beq (BI (cellsOf (x e))) size then(bif Nat.ble (Nat.add off size) (BI cs)then EE (lay cs off (cellsOf (x e))) e k rest else .no)else .no):=by rw[e0,hk];rfl
 rw[e1,BW,BW,lay_is]
 by_cases h1:(cellsOf (x e)).length=size
 ·rw[if_pos h1,Au.2 h1]
  by_cases h2:off+size≤cs.length
  ·rw[if_pos h2,show Nat.ble (Nat.add off size) cs.length=true from Aq.2 h2];rfl
  ·rw[if_neg h2]
   have:Nat.ble (Nat.add off size) cs.length=false:=by
    cases e:Nat.ble (Nat.add off size) cs.length
    ·rfl
    ·exact absurd (Aq.1 e) h2
   rw[this];rfl
 ·rw[if_neg h1]
  have:Nat.beq (cellsOf (x e)).length size=false:=by
   cases e:Nat.beq (cellsOf (x e)).length size
   ·rfl
   ·exact absurd (Au.1 e) h1
  rw[this];rfl
theorem EG{k:IntKind}{n:Int}:cellsOf (.int k n)=[.int k n]:=rfl
theorem HI{l vs:List Value}(hl:l.length=vs.length):over l 0 vs=vs:=by
 unfold over
 rw[List.take_zero,List.nil_append,List.drop_of_length_le (by omega),List.append_nil]
theorem EO{zero:List Value}{ps:List (Nat×Nat×O)}:Bj zero ps F e h=EE zero e (fun cs=>.ok (.agg ⟨cs⟩) h) ps:=rfl
theorem Ck{n:Nat}{zero:List Value}{ps:List (Nat×Nat×O)}:Af n zero ps F e h=EE zero e (fun cs=>newRow h 0 cs (Fv n n)) ps:=rfl
def Hp.marked(h:Hp):Hp:={next:=h.next,low:=h.low,high:=h.high,mark:=h.next,bl:=h.bl}
def Hp.quiet(h:Hp):Hp:={next:=h.next,low:=h.next,high:=0,mark:=h.mark,bl:=h.bl}
def Hp.back(h h':Hp):Hp:={next:=h'.next,low:=CC h.low h'.low,high:=Cq h.high h'.high,mark:=h.mark,bl:=h'.bl}
theorem BD{k:C}:Bm k F e h=k F e h.marked:=rfl
theorem Hp.Wf.marked(W:h.Wf):h.marked.Wf:=⟨W.big,W.has,W.fresh⟩
theorem Hp.Wf.quiet(W:h.Wf):h.quiet.Wf:=⟨W.big,W.has,W.fresh⟩
theorem Hp.Ext.marked{h0:Hp}(x:h0.Ext h):h0.Ext h.marked:=⟨x.next,x.get,x.low,x.wf.marked⟩
theorem Hp.Row.same{b el:Nat}{l:List Value}(r:h.Row b el l)(hb:h'.bl=h.bl):h'.Row b el l:=by
 obtain⟨c,hc,hl⟩:=r
 exact⟨c,by rw[hb];exact hc,hl⟩
theorem Hp.Ext.back(x:h.quiet.Ext h'):h.Ext (h.back h') where
 next:=x.next
 get:=x.get
 low:=by
  show _≤CC h.low h'.low
  rw[BK]
  have h1:min h.next h.next≤h'.low:=x.low
  omega
 wf:=⟨x.wf.big,x.wf.has,x.wf.fresh⟩
theorem DQ{f:OpF}{m:Qm}{v:Value}(hf:f F e h.quiet=.ok v h')(x:h.quiet.Ext h')(hm:h.mark≤h.next):Ak m f F e h=.ok v (h.back h'):=by
 have h1:min h.next h.next≤h'.low:=x.low
 have hq:qOk m h h'.low=true:=by
  cases m with
  |strong=>exact Aq.2 (by omega)
  |weak=>exact Aq.2 (by omega)
  |free=>rfl
 show(match f F e h.quiet with|.ok v h'=>bif qOk m h h'.low then Dt h v h' else .no|.no=>.no)=_
 rw[hf]
 simp only[hq,cond_true]
 unfold Dt
 simp only[Ao];rfl
theorem Bq{f:OpF}{v:Value}(hf:f F e h.quiet=.ok v h'):Ak .free f F e h=.ok v (h.back h'):=by
 show(match f F e h.quiet with|.ok v h'=>bif qOk .free h h'.low then Dt h v h' else .no|.no=>.no)=_
 rw[hf]
 show Dt h v h'=_
 unfold Dt
 simp only[Ao];rfl
def Ja(v:Value)(k:C)(F:CallF)(e:Env)(h:Hp):X:=match blkOf v with
 |.ok b=>bif Nat.blt b h.mark then k F e h else .no
 |.no=>k F e h
theorem EW{k:C}:Ds x k F e h=Ja (x e) k F e h:=rfl
theorem D7{b off:Nat}{k:C}(hb:b<h.mark):Ja (.pointer (some ⟨b,off,none⟩)) k F e h=k F e h:=by
 show(bif Nat.blt b h.mark then k F e h else .no)=_
 rw[BL.2 hb];rfl
theorem DY{k:C}:Ce x [] k F e h=k F e h:=by
 unfold Ce
 cases blkOf (x e)<;>rfl
theorem Hp.Ext.quiet{h0:Hp}(x:h0.Ext h):h0.Ext h.quiet:=⟨x.next,x.get,by show _≤h.next;have:=x.next;omega,x.wf.quiet⟩
theorem Hp.Ext.back2{h0:Hp}(x:h0.Ext h)(y:h0.Ext h'):h0.Ext (h.back h') where
 next:=y.next
 get:=y.get
 low:=by
  show _≤CC h.low h'.low
  rw[BK]
  have:=x.low
  have:=y.low
  omega
 wf:=⟨y.wf.big,y.wf.has,y.wf.fresh⟩
end
end
noncomputable section
open Go Go.RowKit Go.WideShapes Go.ChangeShapes
def sliceAt(b:Nat)(a:Addr)(n c:Nat):Phi:=fun i=>if i=b then some {blk:=a.block,off:=a.off,sz:=c,room:=c,es:=1,inp:=true}else none
theorem UH{P:Program}{W:World}{base t e:Nat}{v:Value}(ht:P.underlying t=some (.slice e))(h:Value.okWide P W .any base t v):
  v=.slice none 0 0∨∃ a n c,v=.slice (some a) n c∧n≤c∧a.spot=none∧a.block<W.heap.size:=by
 unfold Value.okWide at h
 rw[ht]at h
 simp only at h
 unfold Cell.okWide at h
 rw[ht]at h
 have h:Cell.ok P W .any base t v:=by cases v<;>exact h
 unfold Cell.ok at h
 rw[ht]at h
 split at h<;>first|(exact h.elim;done)|skip
 all_goals (rename_i e1 _;cases e1)
 ·exact .inl rfl
 ·obtain⟨h1,_,h2⟩:=h
  obtain⟨_,h3,row,cells,h4,_⟩:=h2
  refine .inr ⟨_,_,_,rfl,h1,h3,?_⟩
  unfold World.shape? at h4
  split at h4
  ·rename_i hb;exact(Array.getElem?_eq_some_iff.1 hb).1
  all_goals first|(cases h4;done)|(rename_i hb;exact(Array.getElem?_eq_some_iff.1 hb).1)
theorem L4{P:Program}{W:World}{base t e:Nat}{v:Value}(ht:P.underlying t=some (.slice e))(h:Cell.okWide P W .any base t v):
  v=.slice none 0 0∨∃ a n c,v=.slice (some a) n c∧n≤c∧a.spot=none∧a.block<W.heap.size:=
 UH (base:=base) ht (by unfold Value.okWide;rw[ht];exact h)
end
noncomputable section
open Go Go.RowKit Go.WideShapes Go.ChangeShapes
theorem aD{P:Program}{ty:TTy}{bs:FT}(hC:∀ n,C6 P ty (call bs n)){n f:Nat}{xs args:List Value}{φ:Phi}{w:World}{h0 h':Hp}(hr:call bs n f xs h0=.ok (.bool true) h')(x:h0.Ext h')(hl:h0.low=h0.next)
  (ha:RelL φ xs args)(H:RelW ty φ nil h0 w):Calls P f ⟨args⟩ w fun e w'=>e=.returned (.bool true)∧Below w.heap.size w w':=by
 obtain⟨_,hc⟩:=hC n f xs h0 _ h' hr
 refine(hc φ w args ha H).mono fun e w' ⟨v',ψ,he,hv,_,ev⟩=>?_
 have:=hv.bool_inv
 subst this
 refine⟨he,⟨ev.os,ev.tape,ev.output,ev.size,fun k hk=>ev.frame k hk fun i p hp hn h1 _ _=>?_⟩⟩
 have h2:=(H.dom i p hp).1
 have h3:=x.low
 omega
theorem MW:∀ (n i:Nat),i+1<2 ^ n→(E5 n).has i
 |0,i,h=>by rw[Nat.pow_zero]at h;omega
 |n+1,0,_=>trivial
 |n+1,k+1,h=>by
  show(BT.nd .dead (E5 n) (E5 n)).has (k+1)
  rw[BT.has_succ]
  have h1:k / 2+1<2 ^ n:=by
   have:2 ^ (n+1)=2 * 2 ^ n:=by rw[Nat.pow_succ,Nat.mul_comm]
   omega
  split<;>exact MW n _ h1
def Js(L:List Value):Blk:=.cells (ofL L) L.length 0
def inB:List (List Value)→Nat→BT→BT
 |[],_,t=>t
 |L::Ls,i,t=>inB Ls (i+1) (t.lay i (Js L))
theorem NQ:∀ (Ls:List (List Value)) (i:Nat) (t:BT),(∀ j,j<256→t.has j)→i+Ls.length≤256→
  (∀ j,j<256→(inB Ls i t).has j)∧(∀ k L,Ls[k]? =some L→(inB Ls i t).get (i+k)=Js L)∧(∀ j,j<i∨i+Ls.length≤j→(inB Ls i t).get j=t.get j)
 |[],i,t,ht,_=>⟨ht,(fun k L h=>by cases h),fun _ _=>rfl⟩
 |L::Ls,i,t,ht,hl=>by
  have hl':i+1+Ls.length≤256:=by simp only[List.length_cons]at hl;omega
  have hi:∀ j,j<i→t.has j:=fun j hj=>ht j (by omega)
  obtain⟨a,b,c⟩:=NQ Ls (i+1) (t.lay i (Js L)) (fun j hj=>BT.lay_has hi j (.inr (ht j hj))) hl'
  refine⟨a,fun k M h=>?_,fun j hj=>?_⟩
  ·cases k with
   |zero=>
    obtain rfl:L=M:=Option.some.inj h
    show(inB Ls (i+1) (t.lay i (Js L))).get i=_
    rw[c i (.inl (Nat.lt_succ_self i)),BT.lay_get hi,if_pos rfl]
   |succ k=>
    have:=b k M h
    rw[show i+1+k=i+(k+1)by omega]at this
    exact this
  ·show(inB Ls (i+1) (t.lay i (Js L))).get j=_
   simp only[List.length_cons]at hj
   rw[c j (by omega),BT.lay_get hi,if_neg (by omega)]
def inH(Ls:List (List Value)):Hp:={next:=256,low:=256,high:=0,mark:=256,bl:=inB Ls 0 (E5 9)}
theorem LF(j:Nat)(hj:j<256):(E5 9).has j:=MW 9 j (by omega)
theorem NR{Ls:List (List Value)}(hl:Ls.length≤256){i:Nat}{L:List Value}(h:Ls[i]? =some L):(inH Ls).bl.get i=Js L:=by
 have:=(NQ Ls 0 (E5 9) LF (by omega)).2.1 i L h
 rwa [Nat.zero_add]at this
theorem Vi{Ls:List (List Value)}(hl:Ls.length≤256):(inH Ls).Wf where
 big:=Nat.le_refl _
 has:=(NQ Ls 0 (E5 9) LF (by omega)).1
 fresh:=fun i hi=>by
  have hi:256≤i:=hi
  have:=(NQ Ls 0 (E5 9) LF (by omega)).2.2 i (.inr (by omega))
  show(inB Ls 0 (E5 9)).get i=_
  rw[this];exact JR 9 i
theorem Yx{Ls:List (List Value)}(hl:Ls.length≤256){i:Nat}{L:List Value}(h:Ls[i]? =some L):(inH Ls).Row i 0 L:=⟨ofL L,NR hl h,(HH L).2⟩
def N4(W:World)(a:Addr)(L:List Value):Prop:=∃ cs t fr,W.heap[a.block]? =some (.cells cs t fr)∧(∀ j,j<L.length→cs[a.off+j]? =some (L.getD j noRes))∧∀ j,j<L.length→¬ (fr.1≤a.off+j∧a.off+j<fr.2)
def UA(a:Addr)(c:Nat):Pl:={blk:=a.block,off:=if c=0 then 0 else a.off,sz:=c,room:=c,es:=1,inp:=true}
def Ol(ps:List (Option Pl)):Phi:=fun i=>(ps[i]?).getD none
theorem Pe{W:World}{ty:TTy}{φ:Phi}{a:Addr}{L L':List Value}(h:N4 W a L')(hL:RelL φ L L'):RelB ty φ (UA a L.length) (Js L) W.heap[a.block]?:=by
 obtain⟨cs,t,fr,hb,hc,hf⟩:=h
 have hlen:L'.length=L.length:=hL.length
 rw[hlen]at hc hf
 rw[hb]
 refine .cells {kind:=⟨rfl,.inl ⟨rfl,rfl,rfl,.inr rfl⟩⟩,room:=Nat.le_refl _,fits:=?_,loose:=.inr ⟨rfl,rfl,fun o h1 h2=>?_⟩,cell:=fun j hj=>?_}
 ·show(if L.length=0 then 0 else a.off)+L.length≤cs.size
  rcases Nat.eq_zero_or_pos L.length with h0|h0
  ·rw[if_pos h0,h0];exact Nat.zero_le _
  ·rw[if_neg (by omega)]
   have:=(Array.getElem?_eq_some_iff.1 (hc (L.length - 1) (by omega))).1
   omega
 ·have h1:(if L.length=0 then 0 else a.off)≤o:=h1
  have h2:o<(if L.length=0 then 0 else a.off)+L.length:=h2
  rcases Nat.eq_zero_or_pos L.length with h0|h0
  ·rw[if_pos h0]at h2;omega
  ·rw[if_neg (by omega)]at h1 h2
   have:=hf (o - a.off) (by omega)
   have e:a.off+(o - a.off)=o:=by omega
   rw[e]at this;exact this
 ·have h1:=hc j hj
  obtain⟨v',hv1,hv2⟩:=hL.get j (L.getD j noRes) (by rw[List.getD_eq_getElem?_getD,List.getElem?_eq_getElem hj];rfl)
  refine⟨v',?_,?_⟩
  ·show cs[(if L.length=0 then 0 else a.off)+j]? =_
   rw[if_neg (by omega),h1,List.getD_eq_getElem?_getD,hv1];rfl
  ·rw[((HH L).2 j hj).2];exact hv2
theorem N4.lt{W:World}{a:Addr}{L:List Value}(h:N4 W a L):a.block<W.heap.size:=by
 obtain⟨cs,t,fr,hb,_⟩:=h
 exact(Array.getElem?_eq_some_iff.1 hb).1
theorem gN{W:World}{ty:TTy}{ps:List (Option Pl)}{Ls:List (List Value)}(h256:Ls.length≤256)
  (h:∀ i p,Ol ps i=some p→∃ a L,p=UA a L.length∧Ls[i]? =some L∧a.block<W.heap.size∧RelB ty (Ol ps) (UA a L.length) (Js L) W.heap[a.block]?):RelW ty (Ol ps) nil (inH Ls) W where
 dom:=fun i p e=>by
  obtain⟨a,L,rfl,h1,h2,_⟩:=h i p e
  have h3:=(List.getElem?_eq_some_iff.1 h1).1
  exact⟨by show i<256;omega,h2⟩
 inj:=fun i j p q h1 h2 _ _ _ _ hor=>by
  obtain⟨a,L,rfl,_⟩:=h i p h1
  obtain⟨b,M,rfl,_⟩:=h j q h2
  rcases hor with h3|h3<;>cases h3
 row:=fun i p e _=>by
  obtain⟨a,L,rfl,h1,_,h3⟩:=h i p e
  rw[NR h256 h1];exact h3
 fresh:=(Vi h256).fresh
 kind:=fun i p c s e hp hc=>by
  obtain⟨a,L,rfl,h1,_,h3⟩:=h i p hp
  rw[NR h256 h1]at hc
  have hc:Blk.cells (ofL L) L.length 0=.cells c s e:=hc
  cases hc
  exact⟨rfl,.inl ⟨rfl,rfl,rfl,.inr rfl⟩⟩
 inp:=fun i p e _=>by
  obtain⟨a,L,rfl,h1,_⟩:=h i p e
  have h3:=(List.getElem?_eq_some_iff.1 h1).1
  omega
theorem XB{φ:Phi}{a:Addr}{n c i:Nat}(hs:a.spot=none)(hn:n≤c)(hp:φ i=some (UA a c)):RelV φ (.slice (some ⟨i,0,none⟩) n c) (.slice (some a) n c):=by
 refine .slice hn ⟨rfl,hs,_,hp,rfl,?_⟩
 rcases Nat.eq_zero_or_pos c with h|h
 ·exact .inr ⟨h,.inl h⟩
 ·refine .inl ⟨h,?_,.inl rfl⟩
  show a.off=(if c=0 then 0 else a.off)+0
  rw[if_neg (by omega),Nat.add_zero]
def ints(k:IntKind)(Z:List Int):List Value:=Z.map (.int k)
theorem On(φ:Phi)(k:IntKind):∀ Z:List Int,RelL φ (ints k Z) (ints k Z)
 |[]=>.nil
 |z::Z=>.cons (.int k z) (On φ k Z)
def QL(k:IntKind)(W:World)(v:Value)(zs:List Int):Prop:=(v=.slice none 0 0∧zs=[])∨∃ (a:Addr) (n c:Nat) (Z:List Int),v=.slice (some a) n c∧n≤c∧a.spot=none∧Z.length=c∧zs=Z.take n∧N4 W a (ints k Z)
theorem Yz{H:Type}{enc:TypeId×Value→H}{P:Program}{t e:TypeId}{k:IntKind}(ht:P.underlying t=some (.slice e))(he:P.underlying e=some (.int k))(hc:P.cellsOf e=1){W:World}{base fuel:Nat}{v:Value}{x:DataW H×List MemPlace}
  (hval:Cell.okWide P W .any base t v)(hf:DataW.trod enc P W 0 (fun _=>true) true fuel t [v]=some x)(hfz:∀ b off,MemPlace.cell b off∈x.2→W.frozen? ⟨b,off,none⟩=false):∃ zs:List Int,(∀ z∈zs,(Lit.int k z).wf=true)∧QL k W v zs:=by
 rcases L4 ht hval with rfl|⟨a,n,c,rfl,h1,h2,h3⟩
 ·exact⟨[],(fun x hx=>by cases hx),.inl ⟨rfl,rfl⟩⟩
 rcases open_ints ht he hc hf with ⟨hcs,_⟩|⟨a',n',c',zs,hcs,_,hl,hm,hz,hx,hcell,hwz⟩
 ·simp at hcs
 ·simp at hcs
  obtain⟨rfl,rfl,rfl⟩:=hcs
  simp only[if_true]at hz
  subst hx
  obtain⟨ab,ao,spot⟩:=a
  simp only at h2
  subst h2
  have hblk:∃ cs tt fr,W.heap[ab]? =some (.cells cs tt fr):=by
   unfold Cell.okWide at hval
   rw[ht]at hval
   have hval:Cell.ok P W .any base t (.slice (some ⟨ab,ao,none⟩) n c):=hval
   unfold Cell.ok at hval
   rw[ht]at hval
   obtain⟨_,_,_,_,row,cells,hsh,_⟩:=hval
   unfold World.shape? at hsh
   split at hsh
   ·rename_i cs tt fr hb;exact⟨cs,tt,fr,hb⟩
   all_goals cases hsh
  obtain⟨cs,tt,fr,hb⟩:=hblk
  have hlen:(ints k zs).length=c:=by unfold ints;rw[List.length_map];exact hz
  refine⟨zs.take n,fun x hx=>hwz x (List.mem_of_mem_take hx),.inr ⟨⟨ab,ao,none⟩,n,c,zs,rfl,h1,rfl,hz,rfl,cs,tt,fr,hb,fun i hi=>?_,fun i hi hh=>?_⟩⟩
  ·rw[hlen]at hi
   have h4:=hcell i (by omega)
   rw[Addr.add_is,IV hb]at h4
   show cs[ao+i]? =_
   have h5:i<zs.length:=by omega
   rw[h4]
   unfold ints
   rw[List.getD_eq_getElem?_getD,List.getD_eq_getElem?_getD,List.getElem?_map,List.getElem?_eq_getElem h5];rfl
  ·rw[hlen]at hi
   have h6:=hfz ab (ao+i) (by simp only[MemPlace.row,List.mem_map,List.mem_range];exact⟨i,by omega,rfl⟩)
   obtain⟨lo,hi'⟩:=fr
   simp only[World.frozen?,hb]at h6
   simp only at hh
   simp only[Bool.and_eq_false_iff,decide_eq_false_iff_not]at h6
   omega
def Hp.Vals(h:Hp)(v:Value)(xs:List Value):Prop:=(v=.slice none 0 0∧xs=[])∨∃ b off c el L,v=.slice (some ⟨b,off,none⟩) xs.length c∧h.Row b el L∧off+xs.length≤L.length∧(L.drop off).take xs.length=xs
def bP(W:World)(L:List Value)(q:Option Pl):Prop:=q=none∨∃ a,q=some (UA a L.length)∧N4 W a L
theorem QL.rel{k:IntKind}{W:World}{v:Value}{zs:List Int}(b:QL k W v zs)(i:Nat):∃ (u:Value) (q:Option Pl) (Z:List Int),bP W (ints k Z) q∧(∀ φ:Phi,φ i=q→RelV φ u v)∧(∀ h:Hp,h.Row i 0 (ints k Z)→h.Vals u (ints k zs)):=by
 rcases b with ⟨rfl,rfl⟩|⟨a,n,c,Z,rfl,hn,hs,hZ,rfl,hr⟩
 ·exact⟨.slice none 0 0,none,[],.inl rfl,fun _ _=>.slice0,fun _ _=>.inl ⟨rfl,rfl⟩⟩
 ·have hlen:(ints k Z).length=c:=by unfold ints;rw[List.length_map];exact hZ
  have hlen2:(ints k (Z.take n)).length=n:=by unfold ints;rw[List.length_map,List.length_take];omega
  refine⟨.slice (some ⟨i,0,none⟩) n c,some (UA a (ints k Z).length),Z,.inr ⟨a,rfl,hr⟩,fun φ hφ=>XB hs hn (by rw[hφ,hlen]),fun h hrow=>.inr ⟨i,0,c,0,ints k Z,?_,hrow,?_,?_⟩⟩
  ·rw[hlen2]
  ·rw[hlen2,hlen];omega
  ·rw[hlen2,List.drop_zero];unfold ints;rw[List.map_take]
theorem aP{W:World}{ty:TTy}{L0 L1:List Value}{q0 q1:Option Pl}(h0:bP W L0 q0)(h1:bP W L1 q1)(r0:∀ φ,RelL φ L0 L0)(r1:∀ φ,RelL φ L1 L1):RelW ty (Ol [q0,q1]) nil (inH [L0,L1]) W:=by
 refine gN (by show 2≤256;omega) fun i p e=>?_
 match i,e with
 |0,e=>
  have e:q0=some p:=e
  rcases h0 with h|⟨a,ha,hr⟩
  ·rw[h]at e;cases e
  ·rw[ha]at e;cases e
   exact⟨a,L0,rfl,rfl,hr.lt,Pe hr (r0 _)⟩
 |1,e=>
  have e:q1=some p:=e
  rcases h1 with h|⟨a,ha,hr⟩
  ·rw[h]at e;cases e
  ·rw[ha]at e;cases e
   exact⟨a,L1,rfl,rfl,hr.lt,Pe hr (r1 _)⟩
 |n+2,e=>cases e
end
noncomputable section
open Go Go.RowKit Go.ChangeShapes
theorem sT:type_of% (And.intro @GL (And.intro @Us (And.intro @IQ (And.intro @BU (And.intro @A3 (And.intro @Kq (And.intro @RT (And.intro @OE (And.intro @GT (And.intro @VQ (And.intro @H7 (And.intro @Gt (And.intro @BH (And.intro @Mv (And.intro @DD (And.intro @Ec (And.intro @CY (And.intro @A9 (And.intro @D6 (And.intro @G6 @AE)))))))))))))))))))):=And.intro @GL (And.intro @Us (And.intro @IQ (And.intro @BU (And.intro @A3 (And.intro @Kq (And.intro @RT (And.intro @OE (And.intro @GT (And.intro @VQ (And.intro @H7 (And.intro @Gt (And.intro @BH (And.intro @Mv (And.intro @DD (And.intro @Ec (And.intro @CY (And.intro @A9 (And.intro @D6 (And.intro @G6 @AE)))))))))))))))))))
theorem gD:type_of% (And.intro @Ut (And.intro @Mb (And.intro @Ma (And.intro @MZ (And.intro @MY (And.intro @Jq (And.intro @Pz (And.intro @PQ (And.intro @Lq @Jv))))))))):=And.intro @Ut (And.intro @Mb (And.intro @Ma (And.intro @MZ (And.intro @MY (And.intro @Jq (And.intro @Pz (And.intro @PQ (And.intro @Lq @Jv))))))))
section
variable {F:CallF}{e:Env}{h h':Hp}{x y:O}
theorem Hp.Vals.ext{v:Value}{l:List Value}(b:h.Vals v l)(W:h.Wf)(x:h.Ext h'):h'.Vals v l:=by
 rcases b with h1|⟨b,off,c,el,L,h1,h2,h3⟩
 ·exact .inl h1
 ·exact .inr ⟨b,off,c,el,L,h1,h2.ext W x,h3⟩
theorem Hp.Vals.same{v:Value}{l:List Value}(b:h.Vals v l)(hb:h'.bl=h.bl):h'.Vals v l:=by
 rcases b with h1|⟨b,off,c,el,L,h1,h2,h3⟩
 ·exact .inl h1
 ·exact .inr ⟨b,off,c,el,L,h1,h2.same hb,h3⟩
theorem Hp.Vals.src{v:Value}{l:List Value}(b:h.Vals v l){n:Nat}(hn:n=l.length)(k:List Value→R):BQ h 1 v n k=k l:=by
 subst hn
 rcases b with ⟨h1,h2⟩|⟨b,off,c,el,L,h1,h2,h3,h4⟩
 ·rw[h1,h2];rfl
 ·rw[h1,h2.src h3,h4]
theorem Hp.Vals.shape{v:Value}{l:List Value}(b:h.Vals v l):∃ a c,v=.slice a l.length c:=by
 rcases b with ⟨h1,h2⟩|⟨b,off,c,el,L,h1,h2,h3,h4⟩
 ·exact⟨none,0,by rw[h1,h2];rfl⟩
 ·exact⟨_,_,h1⟩
theorem Hp.Vals.len{v:Value}{l:List Value}(b:h.Vals v l):Fc v h=.ok (.int .i64 (l.length:Int)) h:=by
 obtain⟨a,c,rfl⟩:=b.shape;rfl
theorem Hp.Vals.lenV{v:Value}{l:List Value}(b:h.Vals v l):lenV v=.ok l.length:=by
 obtain⟨a,c,rfl⟩:=b.shape;rfl
theorem Hp.Vals.at{v:Value}{l:List Value}(b:h.Vals v l){i:Nat}(hi:i<l.length):∃ a,Fa 1 v (.int .i64 (i:Int)) h=.ok (.pointer (some a)) h∧Gl (.pointer (some a)) h=.ok (l.getD i noRes) h:=by
 rcases b with ⟨h1,h2⟩|⟨b,off,c,el,L,h1,h2,h3,h4⟩
 ·rw[h2]at hi;cases hi
 ·refine⟨⟨b,off+i * 1,none⟩,by rw[h1];exact D0 hi,?_⟩
  rw[Ac,h2.load1 (by omega)]
  have:=congrArg (fun m=>m[i]?) h4
  simp only[List.getElem?_take,List.getElem?_drop,if_pos hi]at this
  rw[List.getD_eq_getElem?_getD,Nat.mul_one,this,List.getD_eq_getElem?_getD]
theorem Hp.Vals.bytes{v:Value}{l:List Nat}(b:h.Vals v (l.map bv)):h.Bytes v l:=by
 rcases b with ⟨h1,h2⟩|⟨b,off,c,el,L,h1,h2,h3,h4⟩
 ·exact .inl ⟨h1,by cases l with
   |nil=>rfl
   |cons a l=>cases h2⟩
 ·rw[List.length_map]at h1 h3 h4
  exact .inr ⟨b,off,c,el,L,h1,h2,h3,h4⟩
theorem Hp.Vals.cut{v:Value}{l:List Value}(b:h.Vals v l){n:Nat}(hn:n<l.length):∃ o c,v=.slice (some o) l.length c∧h.Vals (.slice (some o) n c) (l.take n):=by
 rcases b with ⟨h1,h2⟩|⟨b,off,c,el,L,h1,h2,h3,h4⟩
 ·rw[h2]at hn;cases hn
 ·have hl:(l.take n).length=n:=by rw[List.length_take];omega
  refine⟨⟨b,off,none⟩,c,h1,.inr ⟨b,off,c,el,L,by rw[hl],h2,by omega,?_⟩⟩
  rw[hl,← h4,List.take_take,Nat.min_eq_left (by omega)]
def blkV(v:Value)(b:Nat):Prop:=∃ off n c,v=.slice (some ⟨b,off,none⟩) n c
theorem Gr{b:Nat}:¬ blkV (.slice none 0 0) b:=fun⟨_,_,_,h⟩=>by cases h
theorem KB{b b' n c:Nat}(h:b'≠b):¬ blkV (.slice (some ⟨b,0,none⟩) n c) b':=fun⟨_,_,_,e⟩=>by
 injection e with e _ _
 injection e with e
 injection e with e _ _
 exact h e.symm
def Hp.Own(h:Hp)(k en:Nat)(v:Value)(xs:List Value):Prop:=(v=.slice none 0 0∧xs=[])∨∃ b,v=.slice (some ⟨b,0,none⟩) xs.length xs.length∧h.Row b (en+1) xs∧k≤b∧256≤b
theorem Hp.Own.vals{k en:Nat}{v:Value}{xs:List Value}(o:h.Own k en v xs):h.Vals v xs:=by
 rcases o with h1|⟨b,h1,h2,_⟩
 ·exact .inl h1
 ·exact .inr ⟨b,0,_,_,xs,h1,h2,by omega,by rw[List.drop_zero,List.take_length]⟩
theorem Hp.Own.le{k k' en:Nat}{v:Value}{xs:List Value}(o:h.Own k en v xs)(hk:k'≤k):h.Own k' en v xs:=by
 rcases o with h1|⟨b,h1,h2,h3,h4⟩
 ·exact .inl h1
 ·exact .inr ⟨b,h1,h2,Nat.le_trans hk h3,h4⟩
theorem Hp.Own.keep{k en:Nat}{v:Value}{xs:List Value}(o:h.Own k en v xs)(hk:∀ b el L,blkV v b→h.Row b el L→h'.Row b el L):h'.Own k en v xs:=by
 rcases o with h1|⟨b,h1,h2,h3,h4⟩
 ·exact .inl h1
 ·exact .inr ⟨b,h1,hk b _ _ ⟨0,_,_,h1⟩ h2,h3,h4⟩
theorem Hp.Own.ext{k en:Nat}{v:Value}{xs:List Value}(o:h.Own k en v xs)(W:h.Wf)(x:h.Ext h'):h'.Own k en v xs:=o.keep fun _ _ _ _ r=>r.ext W x
theorem Hp.Own.same{k en:Nat}{v:Value}{xs:List Value}(o:h.Own k en v xs)(hb:h'.bl=h.bl):h'.Own k en v xs:=o.keep fun _ _ _ _ r=>r.same hb
theorem GV{h0:Hp}{eb en k:Nat}{v u:Value}{xs ys:List Value}(x0:h0.Ext h)(hk:h0.next≤k)(hk2:k≤h.next)(o:h.Own k en v xs)(y:h.Vals u ys)(hy:0<ys.length)(ha:Bg ys=true)(hm:(xs.length+ys.length+1) * (eb+1)≤1099511627776):
  ∃ h' v',Eb 1 eb en v u h=.ok v' h'∧h0.Ext h'∧h'.Own k en v' (xs++ys)∧h'.next=h.next+1∧∀ b el L,¬ blkV v b→h.Row b el L→h'.Row b el L∧¬ blkV v' b:=by
 have W:=x0.wf
 rcases o with ⟨rfl,rfl⟩|⟨b,rfl,r,hb,hb2⟩
 ·obtain⟨t1,t2⟩:=HH ys
  refine⟨h.push (.cells (ofL ys) ys.length (en+1)),.slice (some ⟨h.next,0,none⟩) ys.length ys.length,?_,x0.push _,.inr ⟨h.next,rfl,⟨ofL ys,by rw[W.push_get,if_pos rfl];rfl,t2⟩,hk2,W.big⟩,rfl,fun b' el' L' _ r'=>⟨r'.push W _,KB (by have:=r'.lt W;omega)⟩⟩
  unfold Eb Dg
  simp only[y.lenV,y.src rfl,Ao,Nat.add_eq,Nat.zero_add]
  have e1:Nat.ble ys.length 0=false:=by
   cases e:Nat.ble ys.length 0
   ·rfl
   ·have:=Aq.1 e;omega
  have e2:Nat.ble (Nat.mul (Nat.succ ys.length) (Nat.succ eb)) Ip=true:=Aq.2 (Hi (by
   have:=hm
   simp only[List.length_nil,Nat.zero_add]at this
   exact this))
  rw[e1]
  simp only[e2,cond_true,ha]
  unfold Gj BQ Il
  simp only[List.nil_append,t1]
  unfold Ee
  simp only[BW]
  unfold CO
  rw[Ao,Cr W];rfl
 ·obtain⟨cc,hcc,hl⟩:=r.rowOf
  obtain⟨t,h2,h3⟩:=Dq ys cc xs xs.length hl (.inr rfl)
  have h3:t.Is (xs++ys):=by
   have e:xs.drop (xs.length+ys.length)=[]:=List.drop_of_length_le (by omega)
   rw[e]at h3
   simpa using h3
  have hlen:(xs++ys).length=xs.length+ys.length:=List.length_append
  have hlt:=r.lt W
  have W1:(h.put b .dead).Wf:=W.put hlt _
  have x1:h0.Ext (h.put b .dead):=x0.put (by omega) hlt _
  refine⟨(h.put b .dead).push (.cells t (xs.length+ys.length) (en+1)),.slice (some ⟨h.next,0,none⟩) (xs.length+ys.length) (xs.length+ys.length),?_,x1.push _,.inr ⟨h.next,by rw[hlen],⟨t,by
   have:=W1.push_get (.cells t (xs.length+ys.length) (en+1)) h.next
   rw[this,if_pos (show h.next=(h.put b .dead).next from rfl),hlen],h3⟩,hk2,W.big⟩,rfl,fun b' el' L' hne r'=>?_⟩
  ·unfold Eb Dg
   simp only[y.lenV,y.src rfl,Ao,Nat.add_eq]
   have e1:Nat.ble (xs.length+ys.length) xs.length=false:=by
    cases e:Nat.ble (xs.length+ys.length) xs.length
    ·rfl
    ·have:=Aq.1 e;omega
   have e2:Nat.ble (Nat.mul (Nat.succ (xs.length+ys.length)) (Nat.succ eb)) Ip=true:=Aq.2 (Hi hm)
   rw[e1]
   simp only[e2,cond_true,ha]
   unfold Gj
   have e3:Nat.beq xs.length (Nat.mul xs.length 1)=true:=Au.2 (Nat.mul_one _).symm
   simp only[hcc,e3,h2]
   unfold Ee
   have e4:Jl 0 xs.length 1 xs.length=true:=by
    unfold Jl
    cases xs.length with
    |zero=>rfl
    |succ n=>exact Au.2 (by show 0+(n+1) * 1=n+1;omega)
   simp only[hcc,BW,Nat.add_eq,Nat.beq_refl,cond_true,e4]
   rw[Dp W hb2 hlt]
   unfold CO
   rw[Ao,Cr W1];rfl
  ·have hne':b'≠b:=fun e=>hne ⟨0,_,_,by rw[e]⟩
   have hb':b'<h.next:=r'.lt W
   obtain⟨c',hc',hl'⟩:=r'
   refine⟨⟨c',?_,hl'⟩,KB (by omega)⟩
   rw[W1.push_get,if_neg (by show b'≠h.next;omega),W.put_get hlt,if_neg hne',hc']
theorem Hr(W:h.Wf){g:O}{z v:Value}(hv:g e=v)(hk:known v=true)(h1:cellsOf v=[v]):Af 1 [z] [(0,1,g)] F e h=.ok (.slice (some ⟨h.next,0,none⟩) 1 1) (h.pushRow 0 [v]):=by
 rw[Ck,BC (hk:=by rw[hv];exact hk),hv,h1,if_pos (show [v].length=1 from rfl),if_pos (show 0+1≤[z].length from Nat.le_refl _),CV,DH W];rfl
theorem PU(W:h.Wf){v:Value}:(h.pushRow 0 [v]).Vals (.slice (some ⟨h.next,0,none⟩) 1 1) [v]:=.inr ⟨h.next,0,1,0,[v],rfl,Hp.Row.new W 0 [v],by simp,rfl⟩
theorem Jj(k:IntKind):∀ Z:List Int,Bg (ints k Z)=true
 |[]=>rfl
 |z::Z=>Jj k Z
theorem Iu{h0:Hp}{eb en k:Nat}{v:Value}{xs:List Value}{n:Int}{kd:IntKind}(x0:h0.Ext h)(hk:h0.next≤k)(hk2:k≤h.next)(o:h.Own k en v xs)(hm:(xs.length+2) * (eb+1)≤1099511627776):
  ∃ h' v',Eb 1 eb en v (.slice (some ⟨h.next,0,none⟩) 1 1) (h.pushRow 0 [.int kd n])=.ok v' h'∧h0.Ext h'∧h'.Own k en v' (xs++[.int kd n])∧h'.next=h.next+2∧∀ b el L,¬ blkV v b→h.Row b el L→h'.Row b el L∧¬ blkV v' b:=by
 have W:=x0.wf
 have x1:=x0.pushRow 0 [.int kd n]
 have o1:(h.pushRow 0 [.int kd n]).Own k en v xs:=o.ext W ((Hp.Ext.refl W).pushRow _ _)
 obtain⟨h',v',a,b,c,d,f⟩:=GV (eb:=eb) x1 hk (Nat.le_succ_of_le hk2) o1 (PU W) (by simp) rfl (by simpa using hm)
 exact⟨h',v',a,b,c,d,fun b' el L hb r=>f b' el L hb (r.push W _)⟩
def Ki(F:CallF)(v:Value)(args:List Value)(h:Hp):R:=match v with
 |.func (.func g) first cap=>F g (first.toList++(args++cap.toList)) h
 |_=>.no
theorem Ci{f:O}{l:List O}:B0 f l F e h=Ki F (f e) (vals e l) h:=by
 show(match f e with|.func (.func g) first cap=>forceL (vals e l) (fun args=>F g (first.toList++(args++cap.toList)) h)|_=>.no)=_
 unfold Ki
 split<;>simp only[CW]
theorem CU{g:Nat}{l c args:List Value}:Ki F (.func (.func g) ⟨l⟩ ⟨c⟩) args h=F g (l++(args++c)) h:=rfl
theorem Dc{fn:Fn}{l c:List O}:Cx fn l c F e h=.ok (.func fn ⟨vals e l⟩ ⟨vals e c⟩) h:=by
 show forceL (vals e l) (fun f=>forceL (vals e c) fun c=>.ok (.func fn ⟨f⟩ ⟨c⟩) h)=_
 rw[CW,CW]
end
def Ue(args:List Value)(h:Hp):R:=match args with
 |[]=>.ok (.bool true) h
 |_::_=>.no
def JD:Body:=⟨[.x (fun _=>Ue)],cNo⟩
theorem GX{ty:TTy}{φ:Phi}{E:Nat→Prop}{h:Hp}{w w':World}(H:RelW ty φ E h w)(hb:Below w.heap.size w w'):RelW ty φ E h w'∧Evo φ h w φ h w':=
 ⟨{dom:=fun i p e=>⟨(H.dom i p e).1,Nat.lt_of_lt_of_le (H.dom i p e).2 hb.size⟩
   inj:=H.inj
   row:=fun i p e hE=>(by rw[hb.block _ (H.dom i p e).2];exact H.row i p e hE)
   fresh:=H.fresh
   kind:=H.kind
   inp:=H.inp},
  {le:=.refl _
   new:=fun _ _ e=>.inl e
   next:=Nat.le_refl _
   size:=hb.size
   tape:=hb.tape
   os:=hb.os
   output:=hb.output
   frame:=fun k hk _=>hb.block k hk
   back:=fun i p e hl _=>⟨i,p,e,hl,rfl,rfl,.inl rfl⟩
   kept:=fun _ _ _=>rfl
   low:=Nat.le_refl _
   high:=Nat.le_refl _
   shape:=fun _ _=>.refl _
   only:=fun _ _ _=>rfl
   all:=fun _ h1 h2=>absurd h2 (Nat.not_lt.2 h1)}⟩
theorem UO{P:Program}{ty:TTy}{f:Nat}(hS:∃ fn,P.funcs[f]? =some fn∧fn.name≠"runtime.NumGoroutine" ∧fn.body.isNone=false)(hc:∀ w:World,Calls P f #[] w fun e w'=>e=.returned (.bool true)∧Below w.heap.size w w'):Ke P ty f JD:=fun F args h v h' _ hr=>⟨hS,fun φ w args' hrel H=>by
 have hr:Ue args h=.ok v h':=hr
 cases args with
 |cons a l=>cases hr
 |nil=>
  cases hr
  cases hrel
  exact(hc w).mono fun e w' ⟨he,hb⟩=>⟨_,φ,he,.bool true,(GX H hb).1,(GX H hb).2⟩⟩
theorem Kv{bs:FT}{n f:Nat}(hb:bs.get f=some JD){h:Hp}:call bs (Nat.succ n) f [] h=.ok (.bool true) h:=by
 rw[Aw hb];rfl
end
noncomputable section
open Go
def B4(n:Nat):List Nat:=if h:n<128 then [n]else(n % 128+128)::B4 (n / 128)
termination_by n
decreasing_by exact Nat.div_lt_self (by omega) (by omega)
theorem Ei{n:Nat}(h:n<128):B4 n=[n]:=by rw[B4,dif_pos h]
theorem GI{n:Nat}(h:128≤n):B4 n=(n % 128+128)::B4 (n / 128):=by rw[B4,dif_neg (by omega)]
theorem XU:∀ (n x:Nat),x∈B4 n→x<256:=by
 intro n
 induction n using Nat.strongRecOn with
 |_ n ih=>
  intro x hx
  by_cases h:n<128
  ·rw[Ei h,List.mem_singleton]at hx
   omega
  ·rw[GI (by omega)]at hx
   rcases List.mem_cons.1 hx with rfl|hx
   ·omega
   ·exact ih (n / 128) (Nat.div_lt_self (by omega) (by omega)) x hx
theorem UR(n:Nat):0<(B4 n).length:=by
 by_cases h:n<128
 ·rw[Ei h];exact Nat.one_pos
 ·rw[GI (by omega)];exact Nat.succ_pos _
theorem Dr:∀ (k n:Nat),n<128 ^ (k+1)→(B4 n).length≤k+1
 |0,n,h=>by
  have h:n<128:=by simpa using h
  rw[Ei h];exact Nat.le_refl _
 |k+1,n,h=>by
  by_cases h1:n<128
  ·rw[Ei h1];show 1≤_;omega
  ·rw[GI (by omega),List.length_cons]
   have h2:n<128 * 128 ^ (k+1):=by rw[Nat.pow_succ]at h;rw[Nat.mul_comm];exact h
   have:=Dr k (n / 128) (Nat.div_lt_of_lt_mul h2)
   omega
theorem Jg{n:Nat}(h:n<18446744073709551616):(B4 n).length≤10:=Dr 9 n (by
 have:(128:Nat) ^ (9+1)=1180591620717411303424:=by decide
 rw[this];omega)
def FO:Nat→Nat→List Nat→Option (Nat×Nat)
 |_,_,[]=>none
 |k,acc,c::r=>if(0<k∧c=0)∨(8<k∧1<c)then none else if c<128 then some (acc+c * 2 ^ (7 * k),k+1)else FO (k+1) (acc+c % 128 * 2 ^ (7 * k)) r
theorem Lu(k:Nat):2 ^ (7 * (k+1))=128 * 2 ^ (7 * k):=by
 rw[show 7 * (k+1)=7+7 * k by omega,Nat.pow_add,show(2:Nat) ^ 7=128 from rfl]
theorem Pg{k:Nat}(hk:k≤8):2 ^ (64 - 7 * k)=128 * 2 ^ (64 - 7 * (k+1)):=by
 rw[show 64 - 7 * k=7+(64 - 7 * (k+1))by omega,Nat.pow_add,show(2:Nat) ^ 7=128 from rfl]
theorem XT:∀ (n k acc:Nat) (r:List Nat),k≤9→n<2 ^ (64 - 7 * k)→(0<k→n≠0)→FO k acc (B4 n++r)=some (acc+n * 2 ^ (7 * k),k+(B4 n).length):=by
 intro n
 induction n using Nat.strongRecOn with
 |_ n ih=>
  intro k acc r hk hn h0
  by_cases h:n<128
  ·rw[Ei h]
   show FO k acc (n::r)=_
   have h1:¬ ((0<k∧n=0)∨(8<k∧1<n)):=by
    rintro (⟨a,b⟩|⟨a,b⟩)
    ·exact h0 a b
    ·have:k=9:=by omega
     subst this
     have:n<2:=hn
     omega
   rw[FO,if_neg h1,if_pos h];rfl
  ·have hk8:k≤8:=by
    rcases Nat.lt_or_ge k 9 with h1|h1
    ·omega
    ·have:k=9:=by omega
     subst this
     have:n<2:=hn
     omega
   rw[GI (by omega)]
   show FO k acc ((n % 128+128)::(B4 (n / 128)++r))=_
   have h1:¬ ((0<k∧n % 128+128=0)∨(8<k∧1<n % 128+128)):=by omega
   have h2:¬ n % 128+128<128:=by omega
   rw[FO,if_neg h1,if_neg h2]
   have hlt:n / 128<2 ^ (64 - 7 * (k+1)):=by
    rw[Pg hk8]at hn
    exact Nat.div_lt_of_lt_mul hn
   rw[ih (n / 128) (Nat.div_lt_self (by omega) (by omega)) (k+1) _ r (by omega) hlt (by omega)]
   have e2:(n % 128+128) % 128=n % 128:=by omega
   have e4:acc+n % 128 * 2 ^ (7 * k)+n / 128 * (128 * 2 ^ (7 * k))=acc+n * 2 ^ (7 * k):=by
    have e5:n * 2 ^ (7 * k)=(128 * (n / 128)+n % 128) * 2 ^ (7 * k):=by rw[Nat.div_add_mod]
    rw[e5,Nat.add_mul,Nat.mul_comm 128 (n / 128),Nat.mul_assoc];omega
   rw[e2,Lu,e4,List.length_cons,show k+1+(B4 (n / 128)).length=k+((B4 (n / 128)).length+1)by omega]
theorem QF:∀ (l:List Nat) (k acc v j:Nat),k≤9→(∀ x∈l,x<256)→FO k acc l=some (v,j)→∃ n r,l=B4 n++r∧v=acc+n * 2 ^ (7 * k)∧j=k+(B4 n).length∧(0<k→n≠0)∧n<2 ^ (64 - 7 * k)
 |[],k,acc,v,j,_,_,h=>by cases h
 |c::r,k,acc,v,j,hk,hb,h=>by
  rw[FO]at h
  split at h
  ·cases h
  ·rename_i h1
   split at h
   ·rename_i h2
    cases h
    refine⟨c,r,by rw[Ei h2];rfl,rfl,by rw[Ei h2];rfl,by omega,?_⟩
    rcases Nat.lt_or_ge k 9 with h3|h3
    ·have h4:2 ^ 8≤2 ^ (64 - 7 * k):=Nat.pow_le_pow_right (by omega) (by omega)
     have h5:(2:Nat) ^ 8=256:=rfl
     omega
    ·have:k=9:=by omega
     subst this
     show c<2
     omega
   ·rename_i h2
    have hk8:k≤8:=by omega
    obtain⟨n,q,rfl,e2,e3,e4,e5⟩:=QF r (k+1) _ v j (by omega) (fun x hx=>hb x (List.mem_cons_of_mem _ hx)) h
    have hc:=hb c List.mem_cons_self
    have hn:n≠0:=e4 (Nat.succ_pos k)
    have hi:B4 (c % 128+128 * n)=c::B4 n:=by
     rw[GI (by omega)]
     have a1:(c % 128+128 * n) % 128+128=c:=by omega
     have a2:(c % 128+128 * n) / 128=n:=by omega
     rw[a1,a2]
    refine⟨c % 128+128 * n,q,by rw[hi];rfl,?_,?_,fun _=>by omega,?_⟩
    ·have e6:n * (128 * 2 ^ (7 * k))=128 * n * 2 ^ (7 * k):=by rw[← Nat.mul_assoc,Nat.mul_comm n 128]
     rw[e2,Lu,Nat.add_mul,e6];omega
    ·rw[e3,hi,List.length_cons];omega
    ·rw[Pg hk8];omega
theorem iJ{v:Nat}(h:v<18446744073709551616)(r:List Nat):FO 0 0 (B4 v++r)=some (v,(B4 v).length):=by
 have:=XT v 0 0 r (by omega) h (by omega)
 simpa using this
theorem XS{l:List Nat}{v j:Nat}(hb:∀ x∈l,x<256)(h:FO 0 0 l=some (v,j)):l=B4 v++l.drop j∧j=(B4 v).length∧v<18446744073709551616:=by
 obtain⟨n,r,e1,e2,e3,_,e5⟩:=QF l 0 0 v j (by omega) hb h
 have hv:v=n:=by simpa using e2
 subst hv
 have hj:j=(B4 v).length:=by simpa using e3
 have e5:v<18446744073709551616:=e5
 refine⟨?_,hj,e5⟩
 subst e1
 rw[hj,List.drop_left]
theorem bL{l:List Nat}{v j:Nat}(hb:∀ x∈l,x<256)(h:FO 0 0 l=some (v,j)):j≤l.length:=by
 obtain⟨e1,e2,_⟩:=XS hb h
 have:=congrArg List.length e1
 rw[List.length_append]at this
 omega
end
noncomputable section
open Go
def veq:Value→Value→Bool
 |.bool a,.bool b=>a == b
 |.int j a,.int k b=>FD j k && iEq a b
 |.string a,.string b=>bEq a.data.toList b.data.toList
 |.pointer none,.pointer none=>true
 |.slice none 0 0,.slice none 0 0=>true
 |.map none,.map none=>true
 |.nilFunc,.nilFunc=>true
 |.nilIface,.nilIface=>true
 |_,_=>false
def leq:List Value→List Value→Bool
 |[],[]=>true
 |a::x,b::y=>veq a b && leq x y
 |_,_=>false
def zeq:Value→Value→Bool
 |.agg a,.agg b=>leq a.toList b.toList
 |.agg _,_=>false
 |a,b=>veq a b
theorem XW{a b:Value}(h:veq a b=true):a=b:=by
 unfold veq at h
 split at h
 ·simpa using h
 ·rw[Bool.and_eq_true,Dz]at h
  have h1:=HN h.1
  rw[h1,eq_of_beq h.2]
 ·rw[Kj]at h
  rename_i a b
  have e1:=Gv (a:=a) (eq_of_beq h)
  have e2:=Gv (a:=b) rfl
  exact congrArg Value.string (e1.trans e2.symm)
 all_goals first|rfl|cases h
theorem Vs:∀ {a b:List Value},leq a b=true→a=b
 |[],[],_=>rfl
 |x::a,y::b,h=>by
  have h:(veq x y && leq a b)=true:=h
  rw[Bool.and_eq_true]at h
  rw[XW h.1,Vs h.2]
 |[],_::_,h=>by cases h
 |_::_,[],h=>by cases h
theorem iN{a b:Value}(h:zeq a b=true):a=b:=by
 unfold zeq at h
 split at h
 ·rename_i x y
  have:=Vs h
  congr 1
  exact Array.ext' this
 ·cases h
 ·exact XW h
def Yk:List (Nat×Nat×Nat)→List (Nat×Nat×Nat)→Bool
 |[],[]=>true
 |(a,b,c)::x,(d,e,f)::y=>Nat.beq a d && (Nat.beq b e && (Nat.beq c f && Yk x y))
 |_,_=>false
theorem Ri:∀ {x y:List (Nat×Nat×Nat)},Yk x y=true→x=y
 |[],[],_=>rfl
 |(a,b,c)::x,(d,e,f)::y,h=>by
  have h:(Nat.beq a d && (Nat.beq b e && (Nat.beq c f && Yk x y)))=true:=h
  simp only[Bool.and_eq_true]at h
  rw[Au.1 h.1,Au.1 h.2.1,Au.1 h.2.2.1,Ri h.2.2.2]
 |[],_::_,h=>by cases h
 |_::_,[],h=>by cases h
def Vq(P:Program)(k:TK)(d:TypeDesc):Bool:=match k,d with
 |.int a,.int b=>FD a b
 |.bool,.bool=>true
 |.string,.string=>true
 |.ptr a,.pointer b=>Nat.beq a b
 |.slice a,.slice b=>Nat.beq a b
 |.arr n a,.array m b=>Nat.beq n m && Nat.beq a b
 |.map n a,.map m b=>Nat.beq n m && Nat.beq a b
 |.struct fs,.struct fields=>Yk (fields.toList.map fun f=>(f.offset,P.cellsOf f.type,f.type)) fs && fields.toList.all fun f=>(P.info? f.type).isSome
 |.iface,.interface _=>true
 |.func,.func _ _ _=>true
 |.other,.struct _=>false
 |.other,.array _ _=>false
 |.other,.interface _=>false
 |.other,_=>true
 |_,_=>false
theorem Vr{P:Program}{k:TK}{d:TypeDesc}(h:Vq P k d=true):KOk P k d:=by
 unfold Vq at h
 split at h
 ·rw[HN h];exact .int _
 ·exact .bool
 ·exact .string
 ·rw[Au.1 h];exact .ptr _
 ·rw[Au.1 h];exact .slice _
 ·rw[Bool.and_eq_true]at h
  rw[Au.1 h.1,Au.1 h.2];exact .arr _ _
 ·rw[Bool.and_eq_true]at h
  rw[Au.1 h.1,Au.1 h.2];exact .map _ _
 ·rw[Bool.and_eq_true]at h
  exact .struct (Ri h.1) h.2
 ·exact .iface _
 ·exact .func _ _ _
 ·cases h
 ·cases h
 ·cases h
 ·rename_i q1 q2 q3
  refine .other ?_
  split
  ·rename_i f;exact absurd rfl (q1 f)
  ·rename_i n e;exact absurd rfl (q2 n e)
  ·rename_i m;exact absurd rfl (q3 m)
  ·rfl
 ·cases h
def Xg(ti:TI)(z:Option Value):Bool:=
 (match ti.zero with
  |[]=>Nat.blt 0 ti.size
  |_::_=>false) ||
 (match zeroV ti,z with
  |some a,some b=>zeq a b && (ti.zero.all plainV && Nat.beq (BI ti.zero) ti.size)
  |_,_=>false)
theorem Xh{ti:TI}{z:Option Value}(h:Xg ti z=true):(ti.zero=[]∧0<ti.size)∨∃ y,zeroV ti=some y∧z=some y∧ti.zero.all plainV=true∧ti.zero.length=ti.size:=by
 unfold Xg at h
 rw[Bool.or_eq_true]at h
 rcases h with h|h
 ·left
  split at h
  ·rename_i hz;exact⟨hz,BL.1 h⟩
  ·cases h
 ·right
  split at h
  ·rename_i a b ha
   simp only[Bool.and_eq_true]at h
   have h3:=Au.1 h.2.2
   rw[BW]at h3
   exact⟨a,ha,by rw[iN h.1],h.2.1,h3⟩
  ·cases h
def nN(b:Bool):TypeDesc→Bool
 |.pointer _=>b
 |_=>not b
def SR(P:Program)(t:Nat)(name:String)(f:Nat):Bool:=match P.info? t with
 |some i=>match i.methods.find? (·.name == name)with
  |some m=>match m.path.toList with
   |[]=>match m.func with
    |some (g,b)=>match P.underlying t with
     |some d=>Nat.beq g f && nN b d
     |none=>false
    |none=>false
   |_::_=>false
  |none=>false
 |none=>false
theorem V5{P:Program}{t:Nat}{name:String}{f:Nat}(h:SR P t name f=true)(v:Value)(w:World):(method (P.types.size+Made.depth) t v name).run P w=.ok (f,v) w:=by
 unfold SR at h
 split at h
 ·rename_i i hi
  split at h
  ·rename_i m hm
   split at h
   ·rename_i hp
    split at h
    ·rename_i g b hg
     split at h
     ·rename_i d hd
      rw[Bool.and_eq_true]at h
      have e1:=Au.1 h.1
      subst e1
      have h2:=h.2
      show(method ((P.types.size+99)+1) t v name).run P w=_
      unfold method
      simp only[typeInfo,Sem.run_bind,run_program,Result.andThen_ok,hi,Sem.run_pure,hm,hp,follow,hg,receiverAt,underlying,hd]
      cases d with
      |pointer e=>
       have hb:b=true:=h2
       subst hb
       simp only[Place.get,Sem.run_bind,Sem.run_pure,Result.andThen_ok]
      |_=>
       have hb:b=false:=by
        have h2:(!b)=true:=h2
        cases b with
        |true=>cases h2
        |false=>rfl
       subst hb
       simp only[Place.get,Sem.run_bind,Sem.run_pure,Result.andThen_ok]
     ·cases h
    ·cases h
   ·cases h
  ·cases h
 ·cases h
def SS(P:Program)(t:Nat):List (String×Nat)→Bool
 |[]=>true
 |x::l=>SR P t x.1 x.2 && SS P t l
theorem O9{P:Program}{t:Nat}:∀ {l:List (String×Nat)},SS P t l=true→∀ name f,findM name l=some f→∀ v w,(method (P.types.size+Made.depth) t v name).run P w=.ok (f,v) w
 |[],_,name,f,h=>by cases h
 |x::l,hb,name,f,h=>by
  have hb:(SR P t x.1 x.2 && SS P t l)=true:=hb
  rw[Bool.and_eq_true]at hb
  unfold findM at h
  split at h
  ·rename_i hn
   cases h
   rw[← eq_of_beq hn]
   exact fun v w=>V5 hb.1 v w
  ·exact O9 hb.2 name f h
def tyB(P:Program)(t:Nat)(ti:TI):Bool:=match P.info? t with
 |some i=>match P.underlying t with
  |some d=>Nat.beq i.size ti.size && (Nat.beq i.bytes ti.bytes && (Xg ti i.zero && (Vq P ti.k d && (fineS P t && SS P t ti.ms))))
  |none=>false
 |none=>false
theorem iH{P:Program}(hd:8≤P.depth){t:Nat}{ti:TI}(h:tyB P t ti=true):TyOk P t ti:=by
 unfold tyB at h
 split at h
 ·rename_i i hi
  split at h
  ·rename_i d hu
   simp only[Bool.and_eq_true]at h
   exact⟨h.2.2.2.2.1,hd,⟨i,hi,Au.1 h.1,Au.1 h.2.1,Xh h.2.2.1⟩,⟨d,hu,Vr h.2.2.2.1⟩,O9 h.2.2.2.2.2⟩
  ·cases h
 ·cases h
def my(P:Program)(t:Nat):Option TI→Bool
 |some ti=>tyB P t ti
 |none=>true
def UM(P:Program):TTy→(Nat→Nat)→Bool
 |.mt,_=>true
 |.nd ti l r,ix=>my P (ix 0) ti && (UM P l (fun k=>ix (Nat.succ (Nat.mul 2 k))) && UM P r (fun k=>ix (Nat.succ (Nat.succ (Nat.mul 2 k)))))
theorem L9{P:Program}(hd:8≤P.depth):∀ {t:TTy} {ix:Nat→Nat},UM P t ix=true→∀ i ti,t.get i=some ti→TyOk P (ix i) ti
 |.mt,ix,_,i,b,h=>by cases h
 |.nd c l r,ix,hb,i,b,h=>by
  have hb:(my P (ix 0) c && (UM P l (fun k=>ix (Nat.succ (Nat.mul 2 k))) && UM P r (fun k=>ix (Nat.succ (Nat.succ (Nat.mul 2 k))))))=true:=hb
  simp only[Bool.and_eq_true]at hb
  cases i with
  |zero=>
   have h:c=some b:=h
   subst h
   exact iH hd hb.1
  |succ k=>
   unfold TTy.get at h
   have e1:Nat.mod k 2=k % 2:=rfl
   have e2:Nat.div k 2=k / 2:=rfl
   rw[e1,e2]at h
   rcases Nat.mod_two_eq_zero_or_one k with hk|hk
   ·rw[hk]at h
    have:=L9 hd hb.2.1 (k / 2) b h
    have e:Nat.succ (Nat.mul 2 (k / 2))=k+1:=by show 2 * (k / 2)+1=k+1;omega
    simp only[e]at this;exact this
   ·rw[hk]at h
    have:=L9 hd hb.2.2 (k / 2) b h
    have e:Nat.succ (Nat.succ (Nat.mul 2 (k / 2)))=k+1:=by show 2 * (k / 2)+1+1=k+1;omega
    simp only[e]at this;exact this
theorem iE{P:Program}{ty:TTy}(hd:Nat.ble 8 P.depth=true)(h:UM P ty (fun k=>k)=true):Cn P ty:=fun t ti ht=>L9 (Aq.1 hd) h t ti ht
end
noncomputable section
open Go
def ty0:TI:=⟨.other,1,0,[],[]⟩
def ty1:TI:=⟨.func,1,8,[.nilFunc],[]⟩
def ty2:TI:=⟨.int .i64,1,8,[.int .i64 0],[]⟩
def ty3:TI:=⟨.int .i64,1,8,[.int .i64 0],[]⟩
def ty4:TI:=⟨.bool,1,1,[.bool false],[]⟩
def ty5:TI:=⟨.int .u8,1,1,[.int .u8 0],[]⟩
def ty6:TI:=⟨.int .u8,1,1,[.int .u8 0],[]⟩
def ty7:TI:=⟨.struct [(0,1,2),(1,1,3),(2,1,4),(3,1,6)],4,24,[.int .i64 0,.int .i64 0,.bool false,.int .u8 0],[]⟩
def ty9:TI:=⟨.string,1,16,[.string .empty],[]⟩
def nR:TI:=⟨.string,1,16,[.string .empty],[("Error",135),("RuntimeError",136)]⟩
def nS:TI:=⟨.string,1,16,[.string .empty],[("Error",137),("RuntimeError",138)]⟩
def nT:TI:=⟨.int .u64,1,8,[.int .u64 0],[]⟩
def nU:TI:=⟨.ptr 172,1,8,[.pointer none],[("Error",141),("RuntimeError",142)]⟩
def nV:TI:=⟨.ptr 175,1,8,[.pointer none],[("Error",143),("RuntimeError",144)]⟩
def nW:TI:=⟨.ptr 183,1,8,[.pointer none],[("Align",145)]⟩
def nX:TI:=⟨.iface,1,16,[.nilIface],[]⟩
def nY:TI:=⟨.int .i32,1,4,[.int .i32 0],[]⟩
def MK:TI:=⟨.slice 5,1,24,[.slice none 0 0],[]⟩
def nZ:TI:=⟨.arr 4 5,4,4,[.int .u8 0,.int .u8 0,.int .u8 0,.int .u8 0],[]⟩
def na:TI:=⟨.func,1,8,[.nilFunc],[]⟩
def nc:TI:=⟨.int .u32,1,4,[.int .u32 0],[]⟩
def nf:TI:=⟨.arr 256 25,256,1024,BG [.int .u32 0] 256,[]⟩
def aQ:TI:=⟨.arr 256 25,256,1024,BG [.int .u32 0] 256,[]⟩
def ng:TI:=⟨.func,1,8,[.nilFunc],[]⟩
def UQ:TI:=⟨.ptr 98,1,8,[.pointer none],[("Arm",26),("Cached",28),("Crash",31),("Down",58),("Flush",76),("Read",84),("Size",56),("Spoil",14),("Write",75),("cooperage/disk.none",54),("cooperage/disk.operation",96),("cooperage/disk.there",95)]⟩
def HS:TI:=⟨.ptr 80,1,8,[.pointer none],[("Abort",29),("All",21),("Bad",19),("Commit",12),("Drop",30),("Get",18),("Now",17),("Over",27),("Prepare",11),("Room",20),("Sound",15),("cooperage/slots.all",47),("cooperage/slots.at",46),("cooperage/slots.find",41),("cooperage/slots.gone",52),("cooperage/slots.look",55),("cooperage/slots.now",64),("cooperage/slots.out",68),("cooperage/slots.read",88),("cooperage/slots.stale",43),("cooperage/slots.strike",53),("cooperage/slots.up",38),("cooperage/slots.write",45)]⟩
def nh:TI:=⟨.other,1,0,[],[]⟩
def nk:TI:=⟨.func,1,8,[.nilFunc],[]⟩
def QE:TI:=⟨.ptr 27,1,8,[.pointer none],[]⟩
def nl:TI:=⟨.int .i64,1,8,[.int .i64 0],[]⟩
def np:TI:=⟨.func,1,8,[.nilFunc],[]⟩
def nr:TI:=⟨.func,1,8,[.nilFunc],[]⟩
def nu:TI:=⟨.func,1,8,[.nilFunc],[]⟩
def nw:TI:=⟨.func,1,8,[.nilFunc],[]⟩
def ny:TI:=⟨.other,1,0,[],[]⟩
def nz:TI:=⟨.func,1,8,[.nilFunc],[]⟩
def n8:TI:=⟨.int .u8,1,1,[.int .u8 0],[]⟩
def oB:TI:=⟨.struct [(0,1,3),(1,1,3),(2,1,3),(3,1,41),(4,1,22)],5,56,[.int .i64 0,.int .i64 0,.int .i64 0,.int .u8 0,.slice none 0 0],[]⟩
def FN:TI:=⟨.struct [(0,1,3),(1,1,3),(2,1,3),(3,1,41),(4,1,22)],5,56,[.int .i64 0,.int .i64 0,.int .i64 0,.int .u8 0,.slice none 0 0],[]⟩
def oC:TI:=⟨.other,1,0,[],[]⟩
def oD:TI:=⟨.func,1,8,[.nilFunc],[]⟩
def oE:TI:=⟨.func,1,8,[.nilFunc],[]⟩
def oF:TI:=⟨.func,1,8,[.nilFunc],[]⟩
def oG:TI:=⟨.slice 43,1,24,[.slice none 0 0],[]⟩
def oH:TI:=⟨.func,1,8,[.nilFunc],[]⟩
def oJ:TI:=⟨.func,1,8,[.nilFunc],[]⟩
def oK:TI:=⟨.slice 54,1,24,[.slice none 0 0],[]⟩
def oL:TI:=⟨.slice 4,1,24,[.slice none 0 0],[]⟩
def oM:TI:=⟨.struct [(0,1,3),(1,1,3),(2,1,3),(3,1,3),(4,1,3),(5,1,22),(6,1,52)],7,88,[.int .i64 0,.int .i64 0,.int .i64 0,.int .i64 0,.int .i64 0,.slice none 0 0,.slice none 0 0],[]⟩
def oN:TI:=⟨.struct [(0,1,3),(1,1,3),(2,1,3),(3,1,3),(4,1,3),(5,1,22),(6,1,52)],7,88,[.int .i64 0,.int .i64 0,.int .i64 0,.int .i64 0,.int .i64 0,.slice none 0 0,.slice none 0 0],[]⟩
def oO:TI:=⟨.func,1,8,[.nilFunc],[]⟩
def oP:TI:=⟨.func,1,8,[.nilFunc],[]⟩
def oQ:TI:=⟨.slice 30,1,24,[.slice none 0 0],[]⟩
def oR:TI:=⟨.func,1,8,[.nilFunc],[]⟩
def oS:TI:=⟨.func,1,8,[.nilFunc],[]⟩
def oU:TI:=⟨.func,1,8,[.nilFunc],[]⟩
def oV:TI:=⟨.func,1,8,[.nilFunc],[]⟩
def XP:TI:=⟨.slice 3,1,24,[.slice none 0 0],[]⟩
def oW:TI:=⟨.func,1,8,[.nilFunc],[]⟩
def oX:TI:=⟨.func,1,8,[.nilFunc],[]⟩
def oY:TI:=⟨.func,1,8,[.nilFunc],[]⟩
def oZ:TI:=⟨.func,1,8,[.nilFunc],[]⟩
def oa:TI:=⟨.func,1,8,[.nilFunc],[]⟩
def od:TI:=⟨.other,1,0,[],[]⟩
def oe:TI:=⟨.func,1,8,[.nilFunc],[]⟩
def oh:TI:=⟨.func,1,8,[.nilFunc],[]⟩
def oo:TI:=⟨.other,1,0,[],[]⟩
def oq:TI:=⟨.func,1,8,[.nilFunc],[]⟩
def ot:TI:=⟨.func,1,8,[.nilFunc],[]⟩
def ox:TI:=⟨.func,1,8,[.nilFunc],[]⟩
def J9:TI:=⟨.func,1,8,[.nilFunc],[]⟩
def oy:TI:=⟨.func,1,8,[.nilFunc],[]⟩
def oz:TI:=⟨.func,1,8,[.nilFunc],[]⟩
def XQ:TI:=⟨.slice 83,1,24,[.slice none 0 0],[]⟩
def pA:TI:=⟨.struct [(0,1,29),(1,1,33),(2,1,3),(3,1,78),(4,1,62),(5,1,3),(6,1,4)],7,88,[.pointer none,.pointer none,.int .i64 0,.slice none 0 0,.slice none 0 0,.int .i64 0,.bool false],[]⟩
def XR:TI:=⟨.struct [(0,1,29),(1,1,33),(2,1,3),(3,1,78),(4,1,62),(5,1,3),(6,1,4)],7,88,[.pointer none,.pointer none,.int .i64 0,.slice none 0 0,.slice none 0 0,.int .i64 0,.bool false],[]⟩
def pB:TI:=⟨.func,1,8,[.nilFunc],[]⟩
def pC:TI:=⟨.struct [(0,5,43),(5,1,3)],6,64,[.int .i64 0,.int .i64 0,.int .i64 0,.int .u8 0,.slice none 0 0,.int .i64 0],[]⟩
def ED:TI:=⟨.struct [(0,5,43),(5,1,3)],6,64,[.int .i64 0,.int .i64 0,.int .i64 0,.int .u8 0,.slice none 0 0,.int .i64 0],[]⟩
def pD:TI:=⟨.other,1,0,[],[]⟩
def pE:TI:=⟨.func,1,8,[.nilFunc],[]⟩
def pF:TI:=⟨.slice 75,1,24,[.slice none 0 0],[]⟩
def pG:TI:=⟨.func,1,8,[.nilFunc],[]⟩
def pH:TI:=⟨.func,1,8,[.nilFunc],[]⟩
def pI:TI:=⟨.func,1,8,[.nilFunc],[]⟩
def pJ:TI:=⟨.func,1,8,[.nilFunc],[]⟩
def pK:TI:=⟨.func,1,8,[.nilFunc],[]⟩
def pL:TI:=⟨.func,1,8,[.nilFunc],[]⟩
def pM:TI:=⟨.func,1,8,[.nilFunc],[]⟩
def pN:TI:=⟨.func,1,8,[.nilFunc],[]⟩
def pO:TI:=⟨.slice 100,1,24,[.slice none 0 0],[]⟩
def aR:TI:=⟨.map 3 100,1,8,[.map none],[]⟩
def pP:TI:=⟨.struct [(0,1,95),(1,1,96),(2,1,3),(3,1,4)],4,48,[.slice none 0 0,.map none,.int .i64 0,.bool false],[]⟩
def aS:TI:=⟨.struct [(0,1,95),(1,1,96),(2,1,3),(3,1,4)],4,48,[.slice none 0 0,.map none,.int .i64 0,.bool false],[]⟩
def pQ:TI:=⟨.arr 64 5,64,64,BG [.int .u8 0] 64,[]⟩
def GH:TI:=⟨.arr 64 5,64,64,BG [.int .u8 0] 64,[]⟩
def kr:TI:=⟨.other,1,0,[],[]⟩
def lA:TI:=⟨.func,1,8,[.nilFunc],[]⟩
def lB:TI:=⟨.func,1,8,[.nilFunc],[]⟩
def lC:TI:=⟨.func,1,8,[.nilFunc],[]⟩
def lD:TI:=⟨.func,1,8,[.nilFunc],[]⟩
def lE:TI:=⟨.func,1,8,[.nilFunc],[]⟩
def lF:TI:=⟨.func,1,8,[.nilFunc],[]⟩
def lG:TI:=⟨.func,1,8,[.nilFunc],[]⟩
def lH:TI:=⟨.func,1,8,[.nilFunc],[]⟩
def lI:TI:=⟨.func,1,8,[.nilFunc],[]⟩
def lJ:TI:=⟨.func,1,8,[.nilFunc],[]⟩
def lK:TI:=⟨.func,1,8,[.nilFunc],[]⟩
def lL:TI:=⟨.func,1,8,[.nilFunc],[]⟩
def lM:TI:=⟨.int .u64,1,8,[.int .u64 0],[]⟩
def lN:TI:=⟨.func,1,8,[.nilFunc],[]⟩
def QD:TI:=⟨.int .u64,1,8,[.int .u64 0],[]⟩
def lO:TI:=⟨.func,1,8,[.nilFunc],[]⟩
def lP:TI:=⟨.slice 116,1,24,[.slice none 0 0],[]⟩
def lQ:TI:=⟨.func,1,8,[.nilFunc],[]⟩
def lR:TI:=⟨.func,1,8,[.nilFunc],[]⟩
def lS:TI:=⟨.func,1,8,[.nilFunc],[]⟩
def lT:TI:=⟨.func,1,8,[.nilFunc],[]⟩
def lU:TI:=⟨.func,1,8,[.nilFunc],[]⟩
def lV:TI:=⟨.func,1,8,[.nilFunc],[]⟩
def lW:TI:=⟨.func,1,8,[.nilFunc],[]⟩
def lX:TI:=⟨.func,1,8,[.nilFunc],[]⟩
def lY:TI:=⟨.func,1,8,[.nilFunc],[]⟩
def lZ:TI:=⟨.func,1,8,[.nilFunc],[]⟩
def la:TI:=⟨.func,1,8,[.nilFunc],[]⟩
def lc:TI:=⟨.other,1,0,[],[]⟩
def lf:TI:=⟨.func,1,8,[.nilFunc],[]⟩
def lg:TI:=⟨.func,1,8,[.nilFunc],[]⟩
def li:TI:=⟨.func,1,8,[.nilFunc],[]⟩
def ll:TI:=⟨.func,1,8,[.nilFunc],[]⟩
def lm:TI:=⟨.int .i64,1,8,[.int .i64 0],[]⟩
def lq:TI:=⟨.other,1,0,[],[]⟩
def lr:TI:=⟨.func,1,8,[.nilFunc],[]⟩
def lw:TI:=⟨.func,1,8,[.nilFunc],[]⟩
def lx:TI:=⟨.func,1,8,[.nilFunc],[]⟩
def ly:TI:=⟨.other,1,0,[],[]⟩
def lz:TI:=⟨.func,1,8,[.nilFunc],[]⟩
def l7:TI:=⟨.func,1,8,[.nilFunc],[]⟩
def l8:TI:=⟨.func,1,8,[.nilFunc],[]⟩
def mA:TI:=⟨.func,1,8,[.nilFunc],[]⟩
def mB:TI:=⟨.other,1,0,[],[]⟩
def mC:TI:=⟨.func,1,8,[.nilFunc],[]⟩
def mD:TI:=⟨.func,1,8,[.nilFunc],[]⟩
def mE:TI:=⟨.arr 6 116,6,48,BG [.int .u64 0] 6,[]⟩
def mF:TI:=⟨.other,1,0,[],[]⟩
def mG:TI:=⟨.func,1,8,[.nilFunc],[]⟩
def mH:TI:=⟨.func,1,8,[.nilFunc],[]⟩
def mI:TI:=⟨.int .u64,1,8,[.int .u64 0],[]⟩
def mJ:TI:=⟨.func,1,8,[.nilFunc],[]⟩
def mK:TI:=⟨.func,1,8,[.nilFunc],[]⟩
def mL:TI:=⟨.func,1,8,[.nilFunc],[]⟩
def mM:TI:=⟨.ptr 3,1,8,[.pointer none],[]⟩
def mN:TI:=⟨.func,1,8,[.nilFunc],[]⟩
def mO:TI:=⟨.func,1,8,[.nilFunc],[]⟩
def mP:TI:=⟨.func,1,8,[.nilFunc],[]⟩
def mQ:TI:=⟨.func,1,8,[.nilFunc],[]⟩
def mR:TI:=⟨.func,1,8,[.nilFunc],[]⟩
def mS:TI:=⟨.func,1,8,[.nilFunc],[]⟩
def mT:TI:=⟨.func,1,8,[.nilFunc],[]⟩
def mU:TI:=⟨.ptr 152,1,8,[.pointer none],[("Next",116)]⟩
def mV:TI:=⟨.other,1,0,[],[]⟩
def mW:TI:=⟨.func,1,8,[.nilFunc],[]⟩
def mX:TI:=⟨.func,1,8,[.nilFunc],[]⟩
def mY:TI:=⟨.func,1,8,[.nilFunc],[]⟩
def mZ:TI:=⟨.func,1,8,[.nilFunc],[]⟩
def md:TI:=⟨.func,1,8,[.nilFunc],[]⟩
def me:TI:=⟨.arr 0 16,0,0,[],[]⟩
def mf:TI:=⟨.int .u8,1,1,[.int .u8 0],[]⟩
def mg:TI:=⟨.int .u8,1,1,[.int .u8 0],[("String",148)]⟩
def mh:TI:=⟨.func,1,8,[.nilFunc],[]⟩
def mi:TI:=⟨.ptr 5,1,8,[.pointer none],[]⟩
def mj:TI:=⟨.int .i32,1,4,[.int .i32 0],[]⟩
def mo:TI:=⟨.int .i32,1,4,[.int .i32 0],[]⟩
def mq:TI:=⟨.other,1,8,[.pointer none],[]⟩
set_option maxRecDepth 100000 in
def ty:TTy:=(.nd (some ty0) (.nd (some ty1) (.nd (some ty3) (.nd (some ty7) (.nd (some nU) (.nd (some nh) (.nd (some oW) (.nd (some lY) .mt .mt) .mt) (.nd (some pO) (.nd (some mP) .mt .mt) .mt)) (.nd (some oF) (.nd (some pA) (.nd (some l8) .mt .mt) .mt) (.nd (some lJ) (.nd none .mt .mt) .mt))) (.nd (some nZ) (.nd (some ny) (.nd (some oo) (.nd (some lm) .mt .mt) .mt) (.nd (some lB) (.nd (some mX) .mt .mt) .mt)) (.nd (some oO) (.nd (some pG) (.nd (some mH) .mt .mt) .mt) (.nd (some lQ) (.nd none .mt .mt) .mt)))) (.nd (some nS) (.nd none (.nd (some np) (.nd (some oa) (.nd (some lf) .mt .mt) .mt) (.nd (some pQ) (.nd (some mT) .mt .mt) .mt)) (.nd (some oK) (.nd (some ED) (.nd (some mD) .mt .mt) .mt) (.nd (some lN) (.nd (some mi) .mt .mt) .mt))) (.nd (some aQ) (.nd (some FN) (.nd (some J9) (.nd (some lx) .mt .mt) .mt) (.nd (some lF) (.nd none .mt .mt) .mt)) (.nd (some oS) (.nd (some pK) (.nd (some mL) .mt .mt) .mt) (.nd (some lU) .mt .mt))))) (.nd (some ty5) (.nd (some ty9) (.nd (some nW) (.nd (some QE) (.nd (some oY) (.nd (some la) .mt .mt) .mt) (.nd (some pP) (.nd (some mR) .mt .mt) .mt)) (.nd (some oH) (.nd (some pB) (.nd (some mB) .mt .mt) .mt) (.nd (some lL) (.nd (some mg) .mt .mt) .mt))) (.nd (some nc) (.nd (some n8) (.nd (some ot) (.nd (some lr) .mt .mt) .mt) (.nd (some lD) (.nd (some mZ) .mt .mt) .mt)) (.nd (some oQ) (.nd (some pI) (.nd (some mJ) .mt .mt) .mt) (.nd (some lS) .mt .mt)))) (.nd none (.nd (some nY) (.nd (some nu) (.nd (some oe) (.nd (some li) .mt .mt) .mt) (.nd (some kr) (.nd (some mV) .mt .mt) .mt)) (.nd (some oM) (.nd (some pE) (.nd (some mF) .mt .mt) .mt) (.nd (some lO) (.nd (some mo) .mt .mt) .mt))) (.nd (some UQ) (.nd (some oD) (.nd (some oz) (.nd (some lz) .mt .mt) .mt) (.nd (some lH) (.nd (some me) .mt .mt) .mt)) (.nd (some oV) (.nd (some pM) (.nd (some mN) .mt .mt) .mt) (.nd (some lW) .mt .mt)))))) (.nd (some ty2) (.nd (some ty4) (.nd none (.nd (some nV) (.nd (some nk) (.nd (some oX) (.nd (some lZ) .mt .mt) .mt) (.nd (some aR) (.nd (some mQ) .mt .mt) .mt)) (.nd (some oG) (.nd (some XR) (.nd (some mA) .mt .mt) .mt) (.nd (some lK) (.nd (some mf) .mt .mt) .mt))) (.nd (some na) (.nd (some nz) (.nd (some oq) (.nd (some lq) .mt .mt) .mt) (.nd (some lC) (.nd (some mY) .mt .mt) .mt)) (.nd (some oP) (.nd (some pH) (.nd (some mI) .mt .mt) .mt) (.nd (some lR) (.nd (some mq) .mt .mt) .mt)))) (.nd (some nT) (.nd (some nX) (.nd (some nr) (.nd (some od) (.nd (some lg) .mt .mt) .mt) (.nd (some GH) (.nd (some mU) .mt .mt) .mt)) (.nd (some oL) (.nd (some pD) (.nd (some mE) .mt .mt) .mt) (.nd (some QD) (.nd (some mj) .mt .mt) .mt))) (.nd (some ng) (.nd (some oC) (.nd (some oy) (.nd (some ly) .mt .mt) .mt) (.nd (some lG) (.nd none .mt .mt) .mt)) (.nd (some oU) (.nd (some pL) (.nd (some mM) .mt .mt) .mt) (.nd (some lV) .mt .mt))))) (.nd (some ty6) (.nd (some nR) (.nd none (.nd (some nl) (.nd (some oZ) (.nd (some lc) .mt .mt) .mt) (.nd (some aS) (.nd (some mS) .mt .mt) .mt)) (.nd (some oJ) (.nd (some pC) (.nd (some mC) .mt .mt) .mt) (.nd (some lM) (.nd (some mh) .mt .mt) .mt))) (.nd (some nf) (.nd (some oB) (.nd (some ox) (.nd (some lw) .mt .mt) .mt) (.nd (some lE) (.nd (some md) .mt .mt) .mt)) (.nd (some oR) (.nd (some pJ) (.nd (some mK) .mt .mt) .mt) (.nd (some lT) .mt .mt)))) (.nd none (.nd (some MK) (.nd (some nw) (.nd (some oh) (.nd (some ll) .mt .mt) .mt) (.nd (some lA) (.nd (some mW) .mt .mt) .mt)) (.nd (some oN) (.nd (some pF) (.nd (some mG) .mt .mt) .mt) (.nd (some lP) (.nd none .mt .mt) .mt))) (.nd (some HS) (.nd (some oE) (.nd (some XQ) (.nd (some l7) .mt .mt) .mt) (.nd (some lI) (.nd none .mt .mt) .mt)) (.nd (some XP) (.nd (some pN) (.nd (some mO) .mt .mt) .mt) (.nd (some lX) .mt .mt)))))))
end
end Go.Proofs.YtedbmmfebjfibaaGreat

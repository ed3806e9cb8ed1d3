/-
  Part ZH of what Lawru stands on: printed by program, names and spaces cut.
-/
import Derived.Test.YtedbmmfebjfibaaGreatZG
import Derived.ChangeSlices
import Derived.ChangeArms
import Derived.Test.YtedbmmfebjfibaaGreatProg
open Go renaming Value→BY,IntKind→vQ,World→vt,Program→wK,Addr→AAa,TypeDesc→AAc
open Nat renaming le_refl→IN,zero_add→sh,succ→vD,ble→vJ,beq→vO,lt_or_ge→vd,mul→vr,le_trans→vw,eq_zero_or_pos→vy,blt→wF,lt_of_lt_of_le→wW,add_eq→wd,add→wg,mul_comm→wj,mul_one→xd,le_succ_of_le→zr,add_mul→zy,div_lt_self→AAS,succ_pos→AAk,strongRecOn→AA5,lt_trans→ABH,div_lt_of_lt_mul→ABR,succ_eq_add_one→ABX,mul_assoc→ACW,pow_succ→ACn,pow_add→AC0
open Go.Result renaming andThen_ok→IS
open List renaming length_append→IT,length_map→If,getElem?_eq_getElem→No,getD_eq_getElem?_getD→OF,length_cons→vI,append_nil→vR,getElem?_eq_some_iff→vW,append_assoc→vX,getElem?_append_right→ve,length_take→vp,length_nil→wB,length_drop→wG,nil_append→wL,drop_zero→wM,getElem?_map→wN,drop_of_length_le→wR,getElem?_take→yA,getElem?_drop→yj
open Go.Sem renaming run_bind→vE,run_pure→vF
open Bool renaming and_eq_true→vT
open And renaming intro→vU
open Go.Value renaming okWide→wa
open Go.IntKind renaming i64→xH,u8→AAT
open Array renaming getElem?_eq_some_iff→xQ
open UInt8 renaming ofNat→yE
open Go.Cell renaming okWide→yc,ok→AB4
open Go.World renaming shape?→AAC
open Go.Place renaming get→ACx
open Go.Made renaming depth→AC3
set_option linter.unusedVariables false
set_option linter.unusedSimpArgs false
namespace Go.Proofs.YtedbmmfebjfibaaGreat
noncomputable section
open Go
section
variable {F:ADS}{e:Env}{h h':Hp}{x y:O}
structure Hp.Wf (h:Hp):Prop where
 big:256≤h.next
 has:∀ i,i<h.next→h.bl.has i
 fresh:∀ i,h.next≤i→h.bl.get i=.dead
def Hp.push(h:Hp)(o:Blk):Hp:={next:=vD h.next,low:=h.low,high:=h.high,mark:=h.mark,bl:=h.bl.lay h.next o}
def Hp.put(h:Hp)(b:Nat)(o:Blk):Hp:={next:=h.next,low:=B4 h.low b,high:=Co h.high b,mark:=h.mark,bl:=h.bl.lay b o}
theorem Cp(W:h.Wf){o:Blk}{K:Nat→Hp→R}:F6 h o K=K h.next (h.push o):=by
 unfold F6;rw[BT.AD8 fun j hj=>W.has j hj];simp only[AZ];rfl
theorem Df(W:h.Wf){b:Nat}(ADg:256≤b)(hb:b<h.next){o:Blk}{K:Hp→R}:EE h b o K=K (h.put b o):=by
 unfold EE;rw[BT.AD8 fun j hj=>W.has j (ABH hj hb),Ab.2 ADg];simp only[AZ];rfl
theorem Hp.Wf.ADs(W:h.Wf)(o:Blk)(i:Nat):(h.push o).bl.get i=if i=h.next then o else h.bl.get i:=BT.AEV (fun j hj=>W.has j hj) i
theorem Hp.Wf.AD0(W:h.Wf){b:Nat}(hb:b<h.next)(o:Blk)(i:Nat):(h.put b o).bl.get i=if i=b then o else h.bl.get i:=BT.AEV (fun j hj=>W.has j (ABH hj hb)) i
theorem Hp.Wf.push(W:h.Wf)(o:Blk):(h.push o).Wf where
 big:=zr W.big
 has:=fun i hi=>BT.AEb (fun j hj=>W.has j hj) i (by
  have hi:i<h.next+1:=hi;rcases vd i h.next with h1|h1
  ·exact .inr (W.has i h1)
  ·exact .inl (by omega))
 fresh:=fun i hi=>by
  have hi:h.next+1≤i:=hi;rw[W.ADs o i,if_neg (by omega)];exact W.fresh i (by omega)
theorem Hp.Wf.put(W:h.Wf){b:Nat}(hb:b<h.next)(o:Blk):(h.put b o).Wf where
 big:=W.big
 has:=fun i hi=>BT.AEb (fun j hj=>W.has j (ABH hj hb)) i (.inr (W.has i hi))
 fresh:=fun i hi=>by
  have hi:h.next≤i:=hi;rw[W.AD0 hb o i,if_neg (by omega)];exact W.fresh i hi
structure Hp.Ext (h h':Hp):Prop where
 next:h.next≤h'.next
 get:∀ i,i<h.next→h'.bl.get i=h.bl.get i
 low:min h.low h.next≤h'.low
 wf:h'.Wf
theorem Hp.Ext.refl(W:h.Wf):h.Ext h:=⟨IN _,fun _ _=>rfl,Nat.min_le_left _ _,W⟩
theorem Hp.Ext.trans{h₁ h₂ h₃:Hp}(a:h₁.Ext h₂)(b:h₂.Ext h₃):h₁.Ext h₃ where
 next:=vw a.next b.next
 get:=fun i hi=>by rw[b.get i (wW hi a.next),a.get i hi]
 low:=by have:=a.low;have:=b.low;have:=a.next;omega
 wf:=b.wf
theorem Hp.Ext.push(a:h.Ext h')(o:Blk):h.Ext (h'.push o) where
 next:=zr a.next
 get:=fun i hi=>by rw[a.wf.ADs,if_neg (by have:=a.next;omega),a.get i hi]
 low:=a.low
 wf:=a.wf.push o
theorem Hp.Ext.put(a:h.Ext h'){b:Nat}(h1:h.next≤b)(hb:b<h'.next)(o:Blk):h.Ext (h'.put b o) where
 next:=a.next
 get:=fun i hi=>by rw[a.wf.AD0 hb,if_neg (by omega),a.get i hi]
 low:=by
  show _≤B4 h'.low b;rw[BJ];have:=a.low;omega
 wf:=a.wf.put hb o
def VT.Is(t:VT)(l:List BY):Prop:=∀ i,i<l.length→t.has i∧t.get i=l.getD i ADV
theorem Dw:∀ (vs:List BY) (t:VT) (l:List BY) (i:Nat),t.Is l→i+vs.length≤l.length∨i=l.length→∃ t',Bx t i vs=some t'∧t'.Is (l.take i++vs++l.drop (i+vs.length))
 |[],t,l,i,ht,hi=>⟨t,rfl,by simpa using ht⟩
 |v::vs,t,l,i,ht,hi=>by
  have hi':i≤l.length:=by simp only[vI]at hi;omega
  have hh:∀ j,j<i→t.has j:=fun j hj=>(ht j (by omega)).1
  have h1:(t.lay i v).Is (l.take i++[v]++l.drop (i+1)):=fun j hj=>by
   have hl:(l.take i).length=i:=by simp;omega
   refine⟨VT.AEb hh j ?_,?_⟩
   ·by_cases hji:j=i
    ·exact .inl hji
    ·right
     refine(ht j ?_).1;simp only[IT,vI,wB,wG,vp]at hj;omega
   ·rw[VT.AEV hh]
    by_cases hji:j=i
    ·rw[if_pos hji,hji,OF,vX,ve (by omega)]
     simp[hl]
    ·rw[if_neg hji]
     have hjl:j<l.length:=by
      simp only[IT,vI,wB,wG,vp]at hj;omega
     rw[(ht j hjl).2,OF,OF]
     congr 1
     rcases vd j i with h2|h2
     ·rw[vX,List.getElem?_append_left (by omega),yA,if_pos h2]
     ·rw[ve (by simp only[IT,hl,vI,wB];omega),yj]
      congr 1
      simp only[IT,hl,vI,wB];omega
  have hlen:(l.take i++[v]++l.drop (i+1)).length=max l.length (i+1):=by
   simp only[IT,vI,wB,wG,vp];omega
  obtain⟨t',h2,h3⟩:=Dw vs (t.lay i v) _ (i+1) h1 (by simp only[vI]at hi;omega);refine⟨t',?_,?_⟩
  ·show(match t.set i v with|some t'=>Bx t' (vD i) vs|none=>none)=_
   rw[VT.AD8 hh];exact h2
  ·have e:(l.take i++[v]++l.drop (i+1)).take (i+1)++vs++(l.take i++[v]++l.drop (i+1)).drop (i+1+vs.length)=l.take i++(v::vs)++l.drop (i+(v::vs).length):=by
    have hl:(l.take i++[v]).length=i+1:=by simp;omega
    rw[List.take_left' hl];have e2:i+1+vs.length=(l.take i++[v]).length+vs.length:=by rw[hl]
    rw[e2,List.drop_length_add_append,List.drop_drop];have e3:i+1+vs.length=i+(v::vs).length:=by simp only[vI];omega
    rw[e3];simp
   rw[e]at h3;exact h3
theorem qX:VT.mt.Is []:=fun i h=>by cases h
def ofL(l:List BY):VT:=(Bx .mt 0 l).getD .mt
theorem HV(l:List BY):Bx .mt 0 l=some (ofL l)∧(ofL l).Is l:=by
 obtain⟨t',h1,h2⟩:=Dw l .mt [] 0 qX (.inr rfl);unfold ofL;rw[h1];refine⟨rfl,?_⟩
 simpa using h2
theorem VT.Is.of{t:VT}{l:List BY}(h:Bx .mt 0 l=some t):t.Is l:=by
 have:=HV l;rw[h]at this;rw[Option.some.inj this.1];exact this.2
def Hp.Row(h:Hp)(b el:Nat)(l:List BY):Prop:=∃ c,h.bl.get b=.cells c l.length el∧c.Is l
def Hp.ADR(h:Hp)(el:Nat)(l:List BY):Hp:=h.push (.cells (ofL l) l.length el)
theorem Cv(W:h.Wf){el:Nat}{l:List BY}{K:Nat→Hp→R}:newRow h el l K=K h.next (h.ADR el l):=by
 unfold newRow;rw[(HV l).1];show CE h el (ofL l) (A8 l) K=_;unfold CE;rw[AZ,Cp W,BI];rfl
theorem Hp.Row.lt(W:h.Wf){b el:Nat}{l:List BY}(r:h.Row b el l):b<h.next:=by
 obtain⟨c,hc,_⟩:=r;rcases vd b h.next with h1|h1
 ·exact h1
 ·rw[W.fresh b h1]at hc;cases hc
theorem Hp.Row.new(W:h.Wf)(el:Nat)(l:List BY):(h.ADR el l).Row h.next el l:=⟨ofL l,by unfold Hp.ADR;rw[W.ADs,if_pos rfl],(HV l).2⟩
theorem Hp.Row.ext{b el:Nat}{l:List BY}(r:h.Row b el l)(W:h.Wf)(x:h.Ext h'):h'.Row b el l:=by
 have:=r.lt W;obtain⟨c,hc,hl⟩:=r;exact⟨c,(x.get b this).trans hc,hl⟩
theorem Hp.Row.push{b el:Nat}{l:List BY}(r:h.Row b el l)(W:h.Wf)(o:Blk):(h.push o).Row b el l:=r.ext W ((Hp.Ext.refl W).push o)
theorem Hp.Ext.ADR(a:h.Ext h')(el:Nat)(l:List BY):h.Ext (h'.ADR el l):=a.push _
theorem Hp.Row.rowOf{b el:Nat}{l:List BY}(r:h.Row b el l):∃ c,rowOf h b=.ok c l.length el∧c.Is l:=by
 obtain⟨c,hc,hl⟩:=r;exact⟨c,by unfold Go.Proofs.YtedbmmfebjfibaaGreat.rowOf;rw[hc];rfl,hl⟩
theorem Hp.Row.ADW{b el off:Nat}{l:List BY}(r:h.Row b el l)(ho:off<l.length):ADW ⟨b,off,none⟩ h=.ok (l.getD off ADV) h:=by
 obtain⟨c,hc,hl⟩:=r.rowOf;unfold Go.Proofs.YtedbmmfebjfibaaGreat.ADW;simp only[hc];rw[A9.2 ho];simp only[BC,(hl off ho).2]
theorem Is.AEo{c:VT}{l:List BY}(hl:c.Is l)(off n:Nat)(ho:off+n≤l.length):AEo c off n=(l.drop off).take n:=by
 refine List.ext_getElem? fun i=>?_
 unfold Go.Proofs.YtedbmmfebjfibaaGreat.AEo;rw[wN,yA,yj];by_cases hi:i<n
 ·rw[if_pos hi,List.getElem?_range hi]
  have:=(hl (off+i) (by omega)).2;rw[OF,No (by omega)]at this;show some (c.get (off+i))=_;rw[this,No (by omega)];rfl
 ·rw[if_neg hi,List.getElem?_eq_none (by simpa using hi)];rfl
theorem Hp.Row.loadN{b el off n:Nat}{l:List BY}(r:h.Row b el l)(ho:off+n≤l.length):loadN n ⟨b,off,none⟩ h=.ok (.agg ⟨(l.drop off).take n⟩) h:=by
 obtain⟨c,hc,hl⟩:=r.rowOf;unfold Go.Proofs.YtedbmmfebjfibaaGreat.loadN;simp only[hc,wd];rw[Ab.2 ho];simp only[cond_true,Fo,vR,Is.AEo hl off n ho]
theorem Hp.Row.src{b el off n c:Nat}{l:List BY}(r:h.Row b el l)(ho:off+n≤l.length){sl:Nat}{k:List BY→R}:BH h 1 (.slice (some ⟨b,off,none⟩) sl c) n k=k ((l.drop off).take n):=by
 obtain⟨cc,hc,hl⟩:=r.rowOf;unfold BH;simp only[hc];have e:vr n 1=n:=xd n;rw[e];simp only[wd];rw[Ab.2 ho];simp only[cond_true,Fo,vR,Is.AEo hl off n ho]
def Hp.wr(h:Hp)(b off:Nat)(vs:List BY):Hp:=match rowOf h b with
 |.ok c s e=>h.put b (.cells ((Bx c off vs).getD c) s e)
 |.no=>h
def over(l:List BY)(off:Nat)(vs:List BY):List BY:=l.take off++vs++l.drop (off+vs.length)
theorem Q3{l vs:List BY}{off:Nat}(ho:off+vs.length≤l.length):(over l off vs).length=l.length:=by
 unfold over;simp only[IT,vp,wG];omega
theorem Hp.Row.AEh{b el off:Nat}{l vs:List BY}(r:h.Row b el l)(ho:off+vs.length≤l.length):∃ c,c.Is (over l off vs)∧h.wr b off vs=h.put b (.cells c (over l off vs).length el)∧
  ∀ (W:h.Wf) (ADg:256≤b) (h1:Bd vs=true) (K:Hp→R),Ci ⟨b,off,none⟩ vs h K=K (h.wr b off vs):=by
 obtain⟨c,hc,hl⟩:=r.rowOf;obtain⟨c',h2,h3⟩:=Dw vs c l off hl (.inl ho);have e:h.wr b off vs=h.put b (.cells c' l.length el):=by
  unfold Hp.wr;rw[hc];simp only[h2,Option.getD_some]
 refine⟨c',h3,by rw[Q3 ho];exact e,fun W ADg h1 K=>?_⟩;unfold Ci;simp only[hc,wd];rw[BI,Ab.2 ho,h1];simp only[cond_true,h2];rw[e,Df W ADg (r.lt W)]
theorem Hp.Row.store{b el off:Nat}{l vs:List BY}(r:h.Row b el l)(W:h.Wf)(ADg:256≤b)(ho:off+vs.length≤l.length)(h1:Bd vs=true)(K:Hp→R):Ci ⟨b,off,none⟩ vs h K=K (h.wr b off vs):=by
 obtain⟨_,_,_,h4⟩:=r.AEh ho;exact h4 W ADg h1 K
theorem Hp.Row.ADm{b el off:Nat}{l vs:List BY}(r:h.Row b el l)(W:h.Wf)(ho:off+vs.length≤l.length):(h.wr b off vs).Row b el (over l off vs):=by
 obtain⟨c,h3,e,_⟩:=r.AEh ho;exact⟨c,by rw[e,W.AD0 (r.lt W),if_pos rfl],h3⟩
theorem Hp.Row.AEd{b el off b' el':Nat}{l vs l':List BY}(r:h.Row b el l)(W:h.Wf)(ho:off+vs.length≤l.length)(r':h.Row b' el' l')(hb:b'≠b):(h.wr b off vs).Row b' el' l':=by
 obtain⟨c,h3,e,_⟩:=r.AEh ho;obtain⟨c',hc',hl'⟩:=r';exact⟨c',by rw[e,W.AD0 (r.lt W),if_neg hb,hc'],hl'⟩
theorem Hp.Row.AD5{h0:Hp}{b el off:Nat}{l vs:List BY}(r:h.Row b el l)(x:h0.Ext h)(hb:h0.next≤b)(ho:off+vs.length≤l.length):h0.Ext (h.wr b off vs):=by
 obtain⟨c,h3,e,_⟩:=r.AEh ho;rw[e];exact x.put hb (r.lt x.wf) _
theorem Hp.Row.AD9{b el off:Nat}{l vs:List BY}(r:h.Row b el l)(ho:off+vs.length≤l.length):(h.wr b off vs).next=h.next:=by
 obtain⟨c,h3,e,_⟩:=r.AEh ho;rw[e];rfl
def Gy(v:BY)(h:Hp):R:=match Dh v with
 |.ok a=>ADW a h
 |.no=>.no
theorem AN:AP x F e h=Gy (x e) h:=by
 unfold AP Gy;cases Dh (x e)<;>rfl
theorem AQ{a:AAa}:Gy (.pointer (some a)) h=ADW a h:=rfl
def Oq(n:Nat)(v:BY)(h:Hp):R:=match Dh v with
 |.ok a=>loadN n a h
 |.no=>.no
theorem Aw{n:Nat}:Bb n x F e h=Oq n (x e) h:=rfl
theorem Ar{n:Nat}{a:AAa}:Oq n (.pointer (some a)) h=loadN n a h:=rfl
def ADl(n:Nat)(p v:BY)(h:Hp):R:=match Dh p with
 |.ok a=>bif vO (A8 (cellsOf v)) n then Ci a (cellsOf v) h Dj else .no
 |.no=>.no
theorem Aa{n:Nat}:Au n x y F e h=ADl n (x e) (y e) h:=by
 unfold Au ADl;simp only[BC];cases Dh (x e)<;>rfl
theorem Hp.Row.ADl{n b el off:Nat}{l:List BY}{v:BY}(r:h.Row b el l)(W:h.Wf)(ADg:256≤b)(hn:(cellsOf v).length=n)(ho:off+(cellsOf v).length≤l.length)(h1:Bd (cellsOf v)=true):
  ADl n (.pointer (some ⟨b,off,none⟩)) v h=.ok ADV (h.wr b off (cellsOf v)):=by
 show(bif vO (A8 (cellsOf v)) n then Ci ⟨b,off,none⟩ (cellsOf v) h Dj else .no)=_;rw[BI,Am.2 hn,r.store W ADg ho h1];rfl
def bn(v:BY)(h:Hp):R:=bif known v then newRow h 0 (cellsOf v) Ii else .no
theorem E6:C7 x F e h=bn (x e) h:=by
 unfold C7 bn;simp only[BC]
theorem E3(W:h.Wf){v:BY}(hk:known v=true:=by rfl):bn v h=.ok (.pointer (some ⟨h.next,0,none⟩)) (h.ADR 0 (cellsOf v)):=by
 unfold bn;rw[hk,cond_true,Cv W];rfl
theorem Bm(W:h.Wf){n:Nat}{t:VT}:Bv n t F e h=.ok (.pointer (some ⟨h.next,0,none⟩)) (h.push (.cells t n 0)):=by
 unfold Bv;rw[Cp W];rfl
theorem Hp.Row.alloc(W:h.Wf){n:Nat}{t:VT}{l:List BY}(ht:Bx .mt 0 l=some t)(hn:l.length=n):(h.push (.cells t n 0)).Row h.next 0 l:=⟨t,by rw[W.ADs,if_pos rfl,hn],.of ht⟩
theorem NB{n:Nat}:AH n x F e h=match Dh (x e)with|.ok a=>.ok (.pointer (some ⟨a.block,a.off+n,none⟩)) h|.no=>.no:=by
 unfold AH;cases Dh (x e)with
 |ok a=>exact AZ _ _
 |no=>rfl
def UC(n:Nat)(v:BY)(h:Hp):R:=match Dh v with
 |.ok a=>.ok (.pointer (some ⟨a.block,a.off+n,none⟩)) h
 |.no=>.no
theorem AJ{n:Nat}:AH n x F e h=UC n (x e) h:=NB
theorem AO{n b off:Nat}:UC n (.pointer (some ⟨b,off,none⟩)) h=.ok (.pointer (some ⟨b,off+n,none⟩)) h:=rfl
def M8(n es:Nat)(p i:BY)(h:Hp):R:=MI n es (Dh p) (Cz i) h
theorem C8{n es:Nat}:CS n es x y F e h=M8 n es (x e) (y e) h:=rfl
theorem UR{n es b off i:Nat}(hi:i<n):MI n es (.ok ⟨b,off,none⟩) (.ok i) h=.ok (.pointer (some ⟨b,off+i*es,none⟩)) h:=by
 show Bool.rec (motive:=fun _=>R) .no (Nx ⟨b,off,none⟩ (vr i es) h) (wF i n)=_;rw[A9.2 hi];exact AZ _ _
theorem UU{n es b off i:Nat}{k:vQ}(hi:i<n):M8 n es (.pointer (some ⟨b,off,none⟩)) (.int k (i:Int)) h=.ok (.pointer (some ⟨b,off+i*es,none⟩)) h:=UR hi
def AEP(es:Nat)(s i:BY)(h:Hp):R:=match s with
 |.slice (some a) n _=>MI n es (.ok a) (Cz i) h
 |_=>.no
theorem A1{es:Nat}:CD es x y F e h=AEP es (x e) (y e) h:=rfl
theorem DD{n c es b off i:Nat}{k:vQ}(hi:i<n):AEP es (.slice (some ⟨b,off,none⟩) n c) (.int k (i:Int)) h=.ok (.pointer (some ⟨b,off+i*es,none⟩)) h:=UR hi
def AEL(v:BY)(h:Hp):R:=match v with
 |.slice _ n _=>.ok (.int .i64 (.ofNat n)) h
 |.chan (some _)=>.ok (.int .i64 (.ofNat 0)) h
 |_=>.no
theorem Af:Bl x F e h=AEL (x e) h:=rfl
theorem FO{o:Option AAa}{n c:Nat}:AEL (.slice o n c) h=.ok (.int .i64 (n:Int)) h:=rfl
end
end
noncomputable section
open Go
section
variable {F:ADS}{e:Env}{h h':Hp}{x y:O}
def gy:X→Bool
 |.norm _ _=>false
 |.no=>false
 |_=>true
theorem QP{body:C}{I:Nat→Env→Hp→Prop}{Q:X→Prop}(N:Nat)
  (step:∀ i e h,I i e h→(i<N∧∃ e' h',body F e h=.norm e' h'∧I (i+1) e' h')∨(gy (body F e h)=true∧Q (body F e h))):
  ∀ n i e h,N - i<n→I i e h→Q (iter body n F e h)
 |0,i,e,h,hn,_=>absurd hn (Nat.not_lt_zero _)
 |n+1,i,e,h,hn,hi=>by
  unfold iter;rcases step i e h hi with ⟨h1,e',h',h2,h3⟩|⟨h1,h2⟩
  ·rw[h2]
   exact QP N step n (i+1) e' h' (by omega) h3
  ·cases hb:body F e h with
   |norm e' h'=>rw[hb]at h1;cases h1
   |no=>rw[hb]at h1;cases h1
   |exit i e' h'=>rw[hb]at h2;exact h2
   |ret e' h'=>rw[hb]at h2;exact h2
theorem BU{body:C}(I:Nat→Env→Hp→Prop)(Q:X→Prop)(N:Nat)(hN:N<8796093022208)
  (step:∀ i e h,I i e h→(i<N∧∃ e' h',body F e h=.norm e' h'∧I (i+1) e' h')∨(gy (body F e h)=true∧Q (body F e h)))(h0:I 0 e h):Q (Ay body F e h):=
 QP N step rounds 0 e h (by show N - 0<8796093022208;omega) h0
theorem BW{n:Nat}(h:n≤9223372036854775807):xH.wrap (n:Int)=n:=Hh h
theorem bF{n:Int}(h0:0≤n)(h:n≤9223372036854775807):xH.wrap n=n:=by
 obtain⟨m,rfl⟩:=Int.eq_ofNat_of_zero_le h0;exact Hh (by omega)
theorem EI{n:Nat}(h:n≤18446744073709551615):IntKind.u64.wrap (n:Int)=n:=DA .u64 n h
theorem Gp(n:Nat):AAT.wrap (n:Int)=((n % 256:Nat):Int):=by
 have:AAT.wrap (n:Int)=(n:Int) % 256:=rfl;rw[this];omega
def bv(n:Nat):BY:=.int .u8 (n:Int)
theorem Lk:∀ l:List Nat,Ef (l.map bv)=some (l.map yE)
 |[]=>rfl
 |n::l=>by
  show(match Ef (l.map bv)with|some bs=>ADi n fun n=>some (yE n::bs)|none=>none)=_;rw[Lk l];exact AZ _ _
theorem Ct:∀ l:List Nat,Bd (l.map bv)=true
 |[]=>rfl
 |n::l=>Ct l
def Hp.Bytes(h:Hp)(v:BY)(l:List Nat):Prop:=(v=.slice none 0 0∧l=[])∨∃ b off c el L,v=.slice (some ⟨b,off,none⟩) l.length c∧h.Row b el L∧off+l.length≤L.length∧(L.drop off).take l.length=l.map bv
theorem Hp.Bytes.src{v:BY}{l:List Nat}(b:h.Bytes v l){n:Nat}(hn:n=l.length)(k:List BY→R):BH h 1 v n k=k (l.map bv):=by
 subst hn;rcases b with ⟨h1,h2⟩|⟨b,off,c,el,L,h1,h2,h3,h4⟩
 ·rw[h1,h2];rfl
 ·rw[h1,h2.src h3,h4]
theorem Hp.Bytes.shape{v:BY}{l:List Nat}(b:h.Bytes v l):∃ a c,v=.slice a l.length c:=by
 rcases b with ⟨h1,h2⟩|⟨b,off,c,el,L,h1,h2,h3,h4⟩
 ·exact⟨none,0,by rw[h1,h2];rfl⟩
 ·exact⟨_,_,h1⟩
def qv(v:BY)(h:Hp):R:=match v with
 |.slice a n c=>BH h 1 (.slice a n c) n fun cs=>match Ef cs with
  |some bs=>.ok (.string ⟨⟨bs⟩⟩) h
  |none=>.no
 |_=>.no
theorem KP:FR x F e h=qv (x e) h:=rfl
theorem Hp.Bytes.str{v:BY}{l:List Nat}(b:h.Bytes v l):qv v h=.ok (.string ⟨⟨l.map yE⟩⟩) h:=by
 obtain⟨a,c,rfl⟩:=b.shape;show BH h 1 (.slice a l.length c) l.length (fun cs=>match Ef cs with
  |some bs=>.ok (.string ⟨⟨bs⟩⟩) h
  |none=>.no)=_
 rw[b.src rfl,Lk]
def qQ(f:List UInt8→List UInt8→Bool)(a b:BY)(h:Hp):R:=aW f a b h
theorem Oy{f:List UInt8→List UInt8→Bool}:JS f x y F e h=qQ f (x e) (y e) h:=rfl
theorem OT{f:List UInt8→List UInt8→Bool}{a b:List UInt8}:qQ f (.string ⟨⟨a⟩⟩) (.string ⟨⟨b⟩⟩) h=.ok (.bool (f a b)) h:=F7
theorem gH{v:BY}{l:List Nat}(b:h.Bytes v l):lenV v=.ok l.length:=by
 obtain⟨a,c,rfl⟩:=b.shape;rfl
theorem PT{eb en b n c el:Nat}{l:List BY}{v:BY}(W:h.Wf)(ADg:256≤b)(r:h.Row b el l)(hx:h.Bytes v [])(hc:n≤c)(hn:n≤l.length):
  Db 1 eb en (.slice (some ⟨b,0,none⟩) n c) v h=.ok (.slice (some ⟨b,0,none⟩) n c) (h.wr b n []):=by
 unfold Db;simp only[gH hx,hx.src rfl,AZ,wd];have e1:vJ n c=true:=Ab.2 hc;have e0:n+([]:List Nat).length=n:=rfl;simp only[e0,e1,List.map_nil];have e2:Ey ⟨b,0,none⟩ (vr n 1)=⟨b,n,none⟩:=by
  rw[show vr n 1=n from xd n];cases n with
  |zero=>rfl
  |succ n=>show(⟨b,wg 0 (vD n),none⟩:AAa)=_;rw[wd,sh]
 rw[e2,r.store W ADg (by simpa using hn) rfl]
def DQ(es eb en:Nat)(s v:BY)(h:Hp):R:=Db es eb en s v h
theorem BG{es eb en:Nat}:Bi es eb en x y F e h=DQ es eb en (x e) (y e) h:=rfl
theorem CP{cs:List BY}{k:List BY→R}:EK cs e k []=k cs:=CQ _ _
theorem BD{cs:List BY}{k:List BY→R}{off size:Nat}{rest:List (Nat×Nat×O)}(hk:known (x e)=true:=by rfl):EK cs e k ((off,size,x)::rest)=(if(cellsOf (x e)).length=size then(if off+size≤cs.length then EK (over cs off (cellsOf (x e))) e k rest else .no)else .no):=by
 have e0:EK cs e k ((off,size,x)::rest)=(bif known (x e)then(bif vO (A8 (cellsOf (x e))) size then(bif vJ (wg off size) (A8 cs)then EK (lay cs off (cellsOf (x e))) e k rest else .no)else .no)else .no):=BC _ _;have e1:EK cs e k ((off,size,x)::rest)=(bif vO (A8 (cellsOf (x e))) size then(bif vJ (wg off size) (A8 cs)then EK (lay cs off (cellsOf (x e))) e k rest else .no)else .no):=by rw[e0,hk];rfl
 rw[e1,BI,BI,AD8];by_cases h1:(cellsOf (x e)).length=size
 ·rw[if_pos h1,Am.2 h1]
  by_cases h2:off+size≤cs.length
  ·rw[if_pos h2,show vJ (wg off size) cs.length=true from Ab.2 h2];rfl
  ·rw[if_neg h2]
   have:vJ (wg off size) cs.length=false:=by
    cases e:vJ (wg off size) cs.length
    ·rfl
    ·exact absurd (Ab.1 e) h2
   rw[this];rfl
 ·rw[if_neg h1]
  have:vO (cellsOf (x e)).length size=false:=by
   cases e:vO (cellsOf (x e)).length size
   ·rfl
   ·exact absurd (Am.1 e) h1
  rw[this];rfl
theorem Dc{k:vQ}{n:Int}:cellsOf (.int k n)=[.int k n]:=rfl
theorem KT{l vs:List BY}(hl:l.length=vs.length):over l 0 vs=vs:=by
 unfold over;rw[List.take_zero,wL,wR (by omega),vR]
theorem EZ{zero:List BY}{ps:List (Nat×Nat×O)}:Bs zero ps F e h=EK zero e (fun cs=>.ok (.agg ⟨cs⟩) h) ps:=rfl
theorem Ce{n:Nat}{zero:List BY}{ps:List (Nat×Nat×O)}:Ak n zero ps F e h=EK zero e (fun cs=>newRow h 0 cs (Ed n n)) ps:=rfl
def Hp.marked(h:Hp):Hp:={next:=h.next,low:=h.low,high:=h.high,mark:=h.next,bl:=h.bl}
def Hp.quiet(h:Hp):Hp:={next:=h.next,low:=h.next,high:=0,mark:=h.mark,bl:=h.bl}
def Hp.back(h h':Hp):Hp:={next:=h'.next,low:=B4 h.low h'.low,high:=Co h.high h'.high,mark:=h.mark,bl:=h'.bl}
theorem A3{k:C}:CJ k F e h=k F e h.marked:=rfl
theorem Hp.Wf.marked(W:h.Wf):h.marked.Wf:=⟨W.big,W.has,W.fresh⟩
theorem Hp.Wf.quiet(W:h.Wf):h.quiet.Wf:=⟨W.big,W.has,W.fresh⟩
theorem Hp.Ext.marked{h0:Hp}(x:h0.Ext h):h0.Ext h.marked:=⟨x.next,x.get,x.low,x.wf.marked⟩
theorem Hp.Row.same{b el:Nat}{l:List BY}(r:h.Row b el l)(hb:h'.bl=h.bl):h'.Row b el l:=by
 obtain⟨c,hc,hl⟩:=r;exact⟨c,by rw[hb];exact hc,hl⟩
theorem Hp.Ext.back(x:h.quiet.Ext h'):h.Ext (h.back h') where
 next:=x.next
 get:=x.get
 low:=by
  show _≤B4 h.low h'.low;rw[BJ];have h1:min h.next h.next≤h'.low:=x.low;omega
 wf:=⟨x.wf.big,x.wf.has,x.wf.fresh⟩
theorem DF{f:OpF}{m:Qm}{v:BY}(hf:f F e h.quiet=.ok v h')(x:h.quiet.Ext h')(hm:h.mark≤h.next):Al m f F e h=.ok v (h.back h'):=by
 have h1:min h.next h.next≤h'.low:=x.low;have hq:qOk m h h'.low=true:=by
  cases m with
  |ADk=>exact Ab.2 (by omega)
  |weak=>exact Ab.2 (by omega)
  |free=>rfl
 show(match f F e h.quiet with|.ok v h'=>bif qOk m h h'.low then Dz h v h' else .no|.no=>.no)=_;rw[hf];simp only[hq,cond_true];unfold Dz;simp only[AZ];rfl
theorem BQ{f:OpF}{v:BY}(hf:f F e h.quiet=.ok v h'):Al .free f F e h=.ok v (h.back h'):=by
 show(match f F e h.quiet with|.ok v h'=>bif qOk .free h h'.low then Dz h v h' else .no|.no=>.no)=_;rw[hf];show Dz h v h'=_;unfold Dz;simp only[AZ];rfl
def Ih(v:BY)(k:C)(F:ADS)(e:Env)(h:Hp):X:=match AD3 v with
 |.ok b=>bif wF b h.mark then k F e h else .no
 |.no=>k F e h
theorem D0{k:C}:Ez x k F e h=Ih (x e) k F e h:=rfl
theorem DZ{b off:Nat}{k:C}(hb:b<h.mark):Ih (.pointer (some ⟨b,off,none⟩)) k F e h=k F e h:=by
 show(bif wF b h.mark then k F e h else .no)=_;rw[A9.2 hb];rfl
theorem DT{k:C}:C3 x [] k F e h=k F e h:=by
 unfold C3;cases AD3 (x e)<;>rfl
theorem Hp.Ext.quiet{h0:Hp}(x:h0.Ext h):h0.Ext h.quiet:=⟨x.next,x.get,by show _≤h.next;have:=x.next;omega,x.wf.quiet⟩
theorem Hp.Ext.AEc{h0:Hp}(x:h0.Ext h)(y:h0.Ext h'):h0.Ext (h.back h') where
 next:=y.next
 get:=y.get
 low:=by
  show _≤B4 h.low h'.low;rw[BJ];have:=x.low;have:=y.low;omega
 wf:=⟨y.wf.big,y.wf.has,y.wf.fresh⟩
end
end
noncomputable section
open Go Go.RowKit Go.WideShapes Go.ChangeShapes
def sliceAt(b:Nat)(a:AAa)(n c:Nat):Phi:=fun i=>if i=b then some {blk:=a.block,off:=a.off,sz:=c,room:=c,es:=1,inp:=true}else none
theorem Wv{P:wK}{W:vt}{base t e:Nat}{v:BY}(ht:P.underlying t=some (.slice e))(h:wa P W .any base t v):
  v=.slice none 0 0∨∃ a n c,v=.slice (some a) n c∧n≤c∧a.spot=none∧a.block<W.heap.size:=by
 unfold wa at h;rw[ht]at h;simp only at h;unfold yc at h;rw[ht]at h;have h:AB4 P W .any base t v:=by cases v<;>exact h
 unfold AB4 at h;rw[ht]at h;split at h<;>first|(exact h.elim;done)|skip
 all_goals (rename_i e1 _;cases e1)
 ·exact .inl rfl
 ·obtain⟨h1,_,h2⟩:=h
  obtain⟨_,h3,row,cells,h4,_⟩:=h2;refine .inr ⟨_,_,_,rfl,h1,h3,?_⟩;unfold AAC at h4;split at h4
  ·rename_i hb;exact(xQ.1 hb).1
  all_goals first|(cases h4;done)|(rename_i hb;exact(xQ.1 hb).1)
theorem Mv{P:wK}{W:vt}{base t e:Nat}{v:BY}(ht:P.underlying t=some (.slice e))(h:yc P W .any base t v):
  v=.slice none 0 0∨∃ a n c,v=.slice (some a) n c∧n≤c∧a.spot=none∧a.block<W.heap.size:=
 Wv (base:=base) ht (by unfold wa;rw[ht];exact h)
end
noncomputable section
open Go Go.RowKit Go.WideShapes Go.ChangeShapes
theorem fz{P:wK}{ty:TTy}{bs:FT}(hC:∀ n,C2 P ty (call bs n)){n f:Nat}{xs args:List BY}{φ:Phi}{w:vt}{h0 h':Hp}(hr:call bs n f xs h0=.ok (.bool true) h')(x:h0.Ext h')(hl:h0.low=h0.next)
  (ha:ADp φ xs args)(H:ADX ty φ nil h0 w):Calls P f ⟨args⟩ w fun e w'=>e=.returned (.bool true)∧Below w.heap.size w w':=by
 obtain⟨_,hc⟩:=hC n f xs h0 _ h' hr;refine(hc φ w args ha H).mono fun e w' ⟨v',ψ,he,hv,_,ev⟩=>?_
 have:=hv.AEK;subst this;refine⟨he,⟨ev.os,ev.tape,ev.output,ev.size,fun k hk=>ev.frame k hk fun i p hp hn h1 _ _=>?_⟩⟩;have h2:=(H.dom i p hp).1;have h3:=x.low;omega
theorem NS:∀ (n i:Nat),i+1<2 ^ n→(FK n).has i
 |0,i,h=>by rw[Nat.pow_zero]at h;omega
 |n+1,0,_=>trivial
 |n+1,k+1,h=>by
  show(BT.nd .dead (FK n) (FK n)).has (k+1);rw[BT.ADb];have h1:k/2+1<2 ^ n:=by
   have:2 ^ (n+1)=2*2 ^ n:=by rw[ACn,wj]
   omega
  split<;>exact NS n _ h1
def Kl(L:List BY):Blk:=.cells (ofL L) L.length 0
def inB:List (List BY)→Nat→BT→BT
 |[],_,t=>t
 |L::Ls,i,t=>inB Ls (i+1) (t.lay i (Kl L))
theorem Od:∀ (Ls:List (List BY)) (i:Nat) (t:BT),(∀ j,j<256→t.has j)→i+Ls.length≤256→
  (∀ j,j<256→(inB Ls i t).has j)∧(∀ k L,Ls[k]? =some L→(inB Ls i t).get (i+k)=Kl L)∧(∀ j,j<i∨i+Ls.length≤j→(inB Ls i t).get j=t.get j)
 |[],i,t,ht,_=>⟨ht,(fun k L h=>by cases h),fun _ _=>rfl⟩
 |L::Ls,i,t,ht,hl=>by
  have hl':i+1+Ls.length≤256:=by simp only[vI]at hl;omega
  have hi:∀ j,j<i→t.has j:=fun j hj=>ht j (by omega)
  obtain⟨a,b,c⟩:=Od Ls (i+1) (t.lay i (Kl L)) (fun j hj=>BT.AEb hi j (.inr (ht j hj))) hl';refine⟨a,fun k M h=>?_,fun j hj=>?_⟩
  ·cases k with
   |zero=>
    obtain rfl:L=M:=Option.some.inj h;show(inB Ls (i+1) (t.lay i (Kl L))).get i=_;rw[c i (.inl (Nat.lt_succ_self i)),BT.AEV hi,if_pos rfl]
   |succ k=>
    have:=b k M h;rw[show i+1+k=i+(k+1)by omega]at this;exact this
  ·show(inB Ls (i+1) (t.lay i (Kl L))).get j=_
   simp only[vI]at hj;rw[c j (by omega),BT.AEV hi,if_neg (by omega)]
def inH(Ls:List (List BY)):Hp:={next:=256,low:=256,high:=0,mark:=256,bl:=inB Ls 0 (FK 9)}
theorem MB(j:Nat)(hj:j<256):(FK 9).has j:=NS 9 j (by omega)
theorem Oe{Ls:List (List BY)}(hl:Ls.length≤256){i:Nat}{L:List BY}(h:Ls[i]? =some L):(inH Ls).bl.get i=Kl L:=by
 have:=(Od Ls 0 (FK 9) MB (by omega)).2.1 i L h
 rwa [sh]at this
theorem Yq{Ls:List (List BY)}(hl:Ls.length≤256):(inH Ls).Wf where
 big:=IN _
 has:=(Od Ls 0 (FK 9) MB (by omega)).1
 fresh:=fun i hi=>by
  have hi:256≤i:=hi;have:=(Od Ls 0 (FK 9) MB (by omega)).2.2 i (.inr (by omega));show(inB Ls 0 (FK 9)).get i=_;rw[this];exact J9 9 i
theorem Of{Ls:List (List BY)}(hl:Ls.length≤256){i:Nat}{L:List BY}(h:Ls[i]? =some L):(inH Ls).Row i 0 L:=⟨ofL L,Oe hl h,(HV L).2⟩
def Ka(W:vt)(a:AAa)(L:List BY):Prop:=∃ cs t fr,W.heap[a.block]? =some (.cells cs t fr)∧(∀ j,j<L.length→cs[a.off+j]? =some (L.getD j ADV))∧∀ j,j<L.length→¬ (fr.1≤a.off+j∧a.off+j<fr.2)
def O7(a:AAa)(c:Nat):Pl:={blk:=a.block,off:=if c=0 then 0 else a.off,sz:=c,room:=c,es:=1,inp:=true}
def Na(ps:List (Option Pl)):Phi:=fun i=>(ps[i]?).getD none
theorem Zz{W:vt}{ty:TTy}{φ:Phi}{a:AAa}{L L':List BY}(h:Ka W a L')(hL:ADp φ L L'):AER ty φ (O7 a L.length) (Kl L) W.heap[a.block]?:=by
 obtain⟨cs,t,fr,hb,hc,hf⟩:=h;have hlen:L'.length=L.length:=hL.length;rw[hlen]at hc hf;rw[hb];refine .cells {kind:=⟨rfl,.inl ⟨rfl,rfl,rfl,.inr rfl⟩⟩,room:=IN _,fits:=?_,loose:=.inr ⟨rfl,rfl,fun o h1 h2=>?_⟩,cell:=fun j hj=>?_}
 ·show(if L.length=0 then 0 else a.off)+L.length≤cs.size
  rcases vy L.length with h0|h0
  ·rw[if_pos h0,h0];exact Nat.zero_le _
  ·rw[if_neg (by omega)]
   have:=(xQ.1 (hc (L.length - 1) (by omega))).1;omega
 ·have h1:(if L.length=0 then 0 else a.off)≤o:=h1
  have h2:o<(if L.length=0 then 0 else a.off)+L.length:=h2;rcases vy L.length with h0|h0
  ·rw[if_pos h0]at h2;omega
  ·rw[if_neg (by omega)]at h1 h2
   have:=hf (o - a.off) (by omega);have e:a.off+(o - a.off)=o:=by omega
   rw[e]at this;exact this
 ·have h1:=hc j hj
  obtain⟨v',hv1,hv2⟩:=hL.get j (L.getD j ADV) (by rw[OF,No hj];rfl);refine⟨v',?_,?_⟩
  ·show cs[(if L.length=0 then 0 else a.off)+j]? =_
   rw[if_neg (by omega),h1,OF,hv1];rfl
  ·rw[((HV L).2 j hj).2];exact hv2
theorem Ka.lt{W:vt}{a:AAa}{L:List BY}(h:Ka W a L):a.block<W.heap.size:=by
 obtain⟨cs,t,fr,hb,_⟩:=h;exact(xQ.1 hb).1
theorem mY{W:vt}{ty:TTy}{ps:List (Option Pl)}{Ls:List (List BY)}(ADg:Ls.length≤256)
  (h:∀ i p,Na ps i=some p→∃ a L,p=O7 a L.length∧Ls[i]? =some L∧a.block<W.heap.size∧AER ty (Na ps) (O7 a L.length) (Kl L) W.heap[a.block]?):ADX ty (Na ps) nil (inH Ls) W where
 dom:=fun i p e=>by
  obtain⟨a,L,rfl,h1,h2,_⟩:=h i p e;have h3:=(vW.1 h1).1;exact⟨by show i<256;omega,h2⟩
 inj:=fun i j p q h1 h2 _ _ _ _ hor=>by
  obtain⟨a,L,rfl,_⟩:=h i p h1;obtain⟨b,M,rfl,_⟩:=h j q h2;rcases hor with h3|h3<;>cases h3
 row:=fun i p e _=>by
  obtain⟨a,L,rfl,h1,_,h3⟩:=h i p e;rw[Oe ADg h1];exact h3
 fresh:=(Yq ADg).fresh
 kind:=fun i p c s e hp hc=>by
  obtain⟨a,L,rfl,h1,_,h3⟩:=h i p hp;rw[Oe ADg h1]at hc;have hc:Blk.cells (ofL L) L.length 0=.cells c s e:=hc;cases hc;exact⟨rfl,.inl ⟨rfl,rfl,rfl,.inr rfl⟩⟩
 inp:=fun i p e _=>by
  obtain⟨a,L,rfl,h1,_⟩:=h i p e;have h3:=(vW.1 h1).1;omega
theorem aR{φ:Phi}{a:AAa}{n c i:Nat}(hs:a.spot=none)(hn:n≤c)(hp:φ i=some (O7 a c)):ADU φ (.slice (some ⟨i,0,none⟩) n c) (.slice (some a) n c):=by
 refine .slice hn ⟨rfl,hs,_,hp,rfl,?_⟩;rcases vy c with h|h
 ·exact .inr ⟨h,.inl h⟩
 ·refine .inl ⟨h,?_,.inl rfl⟩
  show a.off=(if c=0 then 0 else a.off)+0;rw[if_neg (by omega),Nat.add_zero]
def ints(k:vQ)(Z:List Int):List BY:=Z.map (.int k)
theorem MK(φ:Phi)(k:vQ):∀ Z:List Int,ADp φ (ints k Z) (ints k Z)
 |[]=>.nil
 |z::Z=>.cons (.int k z) (MK φ k Z)
def SD(k:vQ)(W:vt)(v:BY)(zs:List Int):Prop:=(v=.slice none 0 0∧zs=[])∨∃ (a:AAa) (n c:Nat) (Z:List Int),v=.slice (some a) n c∧n≤c∧a.spot=none∧Z.length=c∧zs=Z.take n∧Ka W a (ints k Z)
theorem UZ{H:Type}{enc:TypeId×BY→H}{P:wK}{t e:TypeId}{k:vQ}(ht:P.underlying t=some (.slice e))(he:P.underlying e=some (.int k))(hc:P.cellsOf e=1){W:vt}{base fuel:Nat}{v:BY}{x:DataW H×List MemPlace}
  (hval:yc P W .any base t v)(hf:DataW.trod enc P W 0 (fun _=>true) true fuel t [v]=some x)(hfz:∀ b off,MemPlace.cell b off∈x.2→W.frozen? ⟨b,off,none⟩=false):∃ zs:List Int,(∀ z∈zs,(Lit.int k z).wf=true)∧SD k W v zs:=by
 rcases Mv ht hval with rfl|⟨a,n,c,rfl,h1,h2,h3⟩
 ·exact⟨[],(fun x hx=>by cases hx),.inl ⟨rfl,rfl⟩⟩
 rcases open_ints ht he hc hf with ⟨hcs,_⟩|⟨a',n',c',zs,hcs,_,hl,hm,hz,hx,hcell,hwz⟩
 ·simp at hcs
 ·simp at hcs
  obtain⟨rfl,rfl,rfl⟩:=hcs;simp only[if_true]at hz;subst hx;obtain⟨ab,ao,spot⟩:=a;simp only at h2;subst h2;have hblk:∃ cs tt fr,W.heap[ab]? =some (.cells cs tt fr):=by
   unfold yc at hval;rw[ht]at hval;have hval:AB4 P W .any base t (.slice (some ⟨ab,ao,none⟩) n c):=hval;unfold AB4 at hval;rw[ht]at hval;obtain⟨_,_,_,_,row,cells,hsh,_⟩:=hval;unfold AAC at hsh;split at hsh
   ·rename_i cs tt fr hb;exact⟨cs,tt,fr,hb⟩
   all_goals cases hsh
  obtain⟨cs,tt,fr,hb⟩:=hblk;have hlen:(ints k zs).length=c:=by unfold ints;rw[If];exact hz
  refine⟨zs.take n,fun x hx=>hwz x (List.mem_of_mem_take hx),.inr ⟨⟨ab,ao,none⟩,n,c,zs,rfl,h1,rfl,hz,rfl,cs,tt,fr,hb,fun i hi=>?_,fun i hi hh=>?_⟩⟩
  ·rw[hlen]at hi
   have h4:=hcell i (by omega);rw[Addr.AET,GU hb]at h4;show cs[ao+i]? =_;have h5:i<zs.length:=by omega
   rw[h4];unfold ints;rw[OF,OF,wN,No h5];rfl
  ·rw[hlen]at hi
   have h6:=hfz ab (ao+i) (by simp only[MemPlace.row,List.mem_map,List.mem_range];exact⟨i,by omega,rfl⟩);obtain⟨lo,hi'⟩:=fr;simp only[World.frozen?,hb]at h6;simp only at hh;simp only[Bool.and_eq_false_iff,decide_eq_false_iff_not]at h6;omega
def Hp.ADo(h:Hp)(v:BY)(xs:List BY):Prop:=(v=.slice none 0 0∧xs=[])∨∃ b off c el L,v=.slice (some ⟨b,off,none⟩) xs.length c∧h.Row b el L∧off+xs.length≤L.length∧(L.drop off).take xs.length=xs
def bO(W:vt)(L:List BY)(q:Option Pl):Prop:=q=none∨∃ a,q=some (O7 a L.length)∧Ka W a L
theorem SD.rel{k:vQ}{W:vt}{v:BY}{zs:List Int}(b:SD k W v zs)(i:Nat):∃ (u:BY) (q:Option Pl) (Z:List Int),bO W (ints k Z) q∧(∀ φ:Phi,φ i=q→ADU φ u v)∧(∀ h:Hp,h.Row i 0 (ints k Z)→h.ADo u (ints k zs)):=by
 rcases b with ⟨rfl,rfl⟩|⟨a,n,c,Z,rfl,hn,hs,hZ,rfl,hr⟩
 ·exact⟨.slice none 0 0,none,[],.inl rfl,fun _ _=>.AEF,fun _ _=>.inl ⟨rfl,rfl⟩⟩
 ·have hlen:(ints k Z).length=c:=by unfold ints;rw[If];exact hZ
  have AFX:(ints k (Z.take n)).length=n:=by unfold ints;rw[If,vp];omega
  refine⟨.slice (some ⟨i,0,none⟩) n c,some (O7 a (ints k Z).length),Z,.inr ⟨a,rfl,hr⟩,fun φ hφ=>aR hs hn (by rw[hφ,hlen]),fun h hrow=>.inr ⟨i,0,c,0,ints k Z,?_,hrow,?_,?_⟩⟩
  ·rw[AFX]
  ·rw[AFX,hlen];omega
  ·rw[AFX,wM];unfold ints;rw[List.map_take]
end
noncomputable section
open Go Go.RowKit Go.ChangeShapes
theorem sT:type_of% (vU @F3 (vU @XX (vU @It (vU @BE (vU @Ax (vU @Lm (vU @Tl (vU @Pa (vU @Gc (vU @YW (vU @IR (vU @HB (vU @BA (vU @N1 (vU @CY (vU @DR (vU @B0 (vU @A2 (vU @ED (vU @HN @AF)))))))))))))))))))):=vU @F3 (vU @XX (vU @It (vU @BE (vU @Ax (vU @Lm (vU @Tl (vU @Pa (vU @Gc (vU @YW (vU @IR (vU @HB (vU @BA (vU @N1 (vU @CY (vU @DR (vU @B0 (vU @A2 (vU @ED (vU @HN @AF)))))))))))))))))))
theorem iN:type_of% (vU @Jc (vU @Kx (vU @ABX @sh))):=vU @Jc (vU @Kx (vU @ABX @sh))
theorem cA0:type_of% (vU @BV (vU @AW @Az)):=(vU @BV (vU @AW @Az))
theorem lV0:type_of% (vU @Be @Pz):=(vU @Be @Pz)
theorem gD:type_of% (vU @XY (vU @NX (vU @NW (vU @NV (vU @NU (vU @Kj (vU @RW (vU @Qw (vU @Mj @Kq))))))))):=vU @XY (vU @NX (vU @NW (vU @NV (vU @NU (vU @Kj (vU @RW (vU @Qw (vU @Mj @Kq))))))))
section
variable {F:ADS}{e:Env}{h h':Hp}{x y:O}
theorem Hp.ADo.ext{v:BY}{l:List BY}(b:h.ADo v l)(W:h.Wf)(x:h.Ext h'):h'.ADo v l:=by
 rcases b with h1|⟨b,off,c,el,L,h1,h2,h3⟩
 ·exact .inl h1
 ·exact .inr ⟨b,off,c,el,L,h1,h2.ext W x,h3⟩
theorem Hp.ADo.same{v:BY}{l:List BY}(b:h.ADo v l)(hb:h'.bl=h.bl):h'.ADo v l:=by
 rcases b with h1|⟨b,off,c,el,L,h1,h2,h3⟩
 ·exact .inl h1
 ·exact .inr ⟨b,off,c,el,L,h1,h2.same hb,h3⟩
theorem Hp.ADo.src{v:BY}{l:List BY}(b:h.ADo v l){n:Nat}(hn:n=l.length)(k:List BY→R):BH h 1 v n k=k l:=by
 subst hn;rcases b with ⟨h1,h2⟩|⟨b,off,c,el,L,h1,h2,h3,h4⟩
 ·rw[h1,h2];rfl
 ·rw[h1,h2.src h3,h4]
theorem Hp.ADo.shape{v:BY}{l:List BY}(b:h.ADo v l):∃ a c,v=.slice a l.length c:=by
 rcases b with ⟨h1,h2⟩|⟨b,off,c,el,L,h1,h2,h3,h4⟩
 ·exact⟨none,0,by rw[h1,h2];rfl⟩
 ·exact⟨_,_,h1⟩
theorem Hp.ADo.len{v:BY}{l:List BY}(b:h.ADo v l):AEL v h=.ok (.int .i64 (l.length:Int)) h:=by
 obtain⟨a,c,rfl⟩:=b.shape;rfl
theorem Hp.ADo.lenV{v:BY}{l:List BY}(b:h.ADo v l):lenV v=.ok l.length:=by
 obtain⟨a,c,rfl⟩:=b.shape;rfl
theorem Hp.ADo.at{v:BY}{l:List BY}(b:h.ADo v l){i:Nat}(hi:i<l.length):∃ a,AEP 1 v (.int .i64 (i:Int)) h=.ok (.pointer (some a)) h∧Gy (.pointer (some a)) h=.ok (l.getD i ADV) h:=by
 rcases b with ⟨h1,h2⟩|⟨b,off,c,el,L,h1,h2,h3,h4⟩
 ·rw[h2]at hi;cases hi
 ·refine⟨⟨b,off+i*1,none⟩,by rw[h1];exact DD hi,?_⟩
  rw[AQ,h2.ADW (by omega)];have:=congrArg (fun m=>m[i]?) h4;simp only[yA,yj,if_pos hi]at this;rw[OF,xd,this,OF]
theorem Hp.ADo.bytes{v:BY}{l:List Nat}(b:h.ADo v (l.map bv)):h.Bytes v l:=by
 rcases b with ⟨h1,h2⟩|⟨b,off,c,el,L,h1,h2,h3,h4⟩
 ·exact .inl ⟨h1,by cases l with
   |nil=>rfl
   |cons a l=>cases h2⟩
 ·rw[If]at h1 h3 h4
  exact .inr ⟨b,off,c,el,L,h1,h2,h3,h4⟩
theorem Hp.ADo.cut{v:BY}{l:List BY}(b:h.ADo v l){n:Nat}(hn:n<l.length):∃ o c,v=.slice (some o) l.length c∧h.ADo (.slice (some o) n c) (l.take n):=by
 rcases b with ⟨h1,h2⟩|⟨b,off,c,el,L,h1,h2,h3,h4⟩
 ·rw[h2]at hn;cases hn
 ·have hl:(l.take n).length=n:=by rw[vp];omega
  refine⟨⟨b,off,none⟩,c,h1,.inr ⟨b,off,c,el,L,by rw[hl],h2,by omega,?_⟩⟩;rw[hl,← h4,List.take_take,Nat.min_eq_left (by omega)]
def ADv(v:BY)(b:Nat):Prop:=∃ off n c,v=.slice (some ⟨b,off,none⟩) n c
theorem F9{b:Nat}:¬ ADv (.slice none 0 0) b:=fun⟨_,_,_,h⟩=>by cases h
theorem LG{b b' n c:Nat}(h:b'≠b):¬ ADv (.slice (some ⟨b,0,none⟩) n c) b':=fun⟨_,_,_,e⟩=>by
 injection e with e _ _
 injection e with e
 injection e with e _ _
 exact h e.symm
def Hp.Own(h:Hp)(k en:Nat)(v:BY)(xs:List BY):Prop:=(v=.slice none 0 0∧xs=[])∨∃ b,v=.slice (some ⟨b,0,none⟩) xs.length xs.length∧h.Row b (en+1) xs∧k≤b∧256≤b
theorem Hp.Own.vals{k en:Nat}{v:BY}{xs:List BY}(o:h.Own k en v xs):h.ADo v xs:=by
 rcases o with h1|⟨b,h1,h2,_⟩
 ·exact .inl h1
 ·exact .inr ⟨b,0,_,_,xs,h1,h2,by omega,by rw[wM,List.take_length]⟩
theorem Hp.Own.le{k k' en:Nat}{v:BY}{xs:List BY}(o:h.Own k en v xs)(hk:k'≤k):h.Own k' en v xs:=by
 rcases o with h1|⟨b,h1,h2,h3,h4⟩
 ·exact .inl h1
 ·exact .inr ⟨b,h1,h2,vw hk h3,h4⟩
theorem Hp.Own.keep{k en:Nat}{v:BY}{xs:List BY}(o:h.Own k en v xs)(hk:∀ b el L,ADv v b→h.Row b el L→h'.Row b el L):h'.Own k en v xs:=by
 rcases o with h1|⟨b,h1,h2,h3,h4⟩
 ·exact .inl h1
 ·exact .inr ⟨b,h1,hk b _ _ ⟨0,_,_,h1⟩ h2,h3,h4⟩
theorem Hp.Own.ext{k en:Nat}{v:BY}{xs:List BY}(o:h.Own k en v xs)(W:h.Wf)(x:h.Ext h'):h'.Own k en v xs:=o.keep fun _ _ _ _ r=>r.ext W x
theorem Hp.Own.same{k en:Nat}{v:BY}{xs:List BY}(o:h.Own k en v xs)(hb:h'.bl=h.bl):h'.Own k en v xs:=o.keep fun _ _ _ _ r=>r.same hb
theorem Ec{h0:Hp}{eb en k:Nat}{v u:BY}{xs ys:List BY}(x0:h0.Ext h)(hk:h0.next≤k)(hk2:k≤h.next)(o:h.Own k en v xs)(y:h.ADo u ys)(hy:0<ys.length)(ha:Bd ys=true)(hm:(xs.length+ys.length+1)*(eb+1)≤1099511627776):
  ∃ h' v',DQ 1 eb en v u h=.ok v' h'∧h0.Ext h'∧h'.Own k en v' (xs++ys)∧h'.next=h.next+1∧∀ b el L,¬ ADv v b→h.Row b el L→h'.Row b el L∧¬ ADv v' b:=by
 have W:=x0.wf;rcases o with ⟨rfl,rfl⟩|⟨b,rfl,r,hb,hb2⟩
 ·obtain⟨t1,t2⟩:=HV ys
  refine⟨h.push (.cells (ofL ys) ys.length (en+1)),.slice (some ⟨h.next,0,none⟩) ys.length ys.length,?_,x0.push _,.inr ⟨h.next,rfl,⟨ofL ys,by rw[W.ADs,if_pos rfl];rfl,t2⟩,hk2,W.big⟩,rfl,fun b' el' L' _ r'=>⟨r'.push W _,LG (by have:=r'.lt W;omega)⟩⟩;unfold DQ Db;simp only[y.lenV,y.src rfl,AZ,wd,sh];have e1:vJ ys.length 0=false:=by
   cases e:vJ ys.length 0
   ·rfl
   ·have:=Ab.1 e;omega
  have e2:vJ (vr (vD ys.length) (vD eb)) JN=true:=Ab.2 (Hw (by
   have:=hm;simp only[wB,sh]at this;exact this))
  rw[e1];simp only[e2,cond_true,ha];unfold Gw BH JH;simp only[wL,t1];unfold Ep;simp only[BI];unfold CE;rw[AZ,Cp W];rfl
 ·obtain⟨cc,hcc,hl⟩:=r.rowOf
  obtain⟨t,h2,h3⟩:=Dw ys cc xs xs.length hl (.inr rfl);have h3:t.Is (xs++ys):=by
   have e:xs.drop (xs.length+ys.length)=[]:=wR (by omega);rw[e]at h3
   simpa using h3
  have hlen:(xs++ys).length=xs.length+ys.length:=IT;have hlt:=r.lt W;have W1:(h.put b .dead).Wf:=W.put hlt _;have x1:h0.Ext (h.put b .dead):=x0.put (by omega) hlt _;refine⟨(h.put b .dead).push (.cells t (xs.length+ys.length) (en+1)),.slice (some ⟨h.next,0,none⟩) (xs.length+ys.length) (xs.length+ys.length),?_,x1.push _,.inr ⟨h.next,by rw[hlen],⟨t,by
   have:=W1.ADs (.cells t (xs.length+ys.length) (en+1)) h.next;rw[this,if_pos (show h.next=(h.put b .dead).next from rfl),hlen],h3⟩,hk2,W.big⟩,rfl,fun b' el' L' hne r'=>?_⟩
  ·unfold DQ Db
   simp only[y.lenV,y.src rfl,AZ,wd];have e1:vJ (xs.length+ys.length) xs.length=false:=by
    cases e:vJ (xs.length+ys.length) xs.length
    ·rfl
    ·have:=Ab.1 e;omega
   have e2:vJ (vr (vD (xs.length+ys.length)) (vD eb)) JN=true:=Ab.2 (Hw hm);rw[e1];simp only[e2,cond_true,ha];unfold Gw;have e3:vO xs.length (vr xs.length 1)=true:=Am.2 (xd _).symm;simp only[hcc,e3,h2];unfold Ep;have e4:Kf 0 xs.length 1 xs.length=true:=by
    unfold Kf;cases xs.length with
    |zero=>rfl
    |succ n=>exact Am.2 (by show 0+(n+1)*1=n+1;omega)
   simp only[hcc,BI,wd,Nat.beq_refl,cond_true,e4];rw[Df W hb2 hlt];unfold CE;rw[AZ,Cp W1];rfl
  ·have AFv:b'≠b:=fun e=>hne ⟨0,_,_,by rw[e]⟩
   have hb':b'<h.next:=r'.lt W;obtain⟨c',hc',hl'⟩:=r';refine⟨⟨c',?_,hl'⟩,LG (by omega)⟩;rw[W1.ADs,if_neg (by show b'≠h.next;omega),W.AD0 hlt,if_neg AFv,hc']
theorem H6(W:h.Wf){g:O}{z v:BY}(hv:g e=v)(hk:known v=true)(h1:cellsOf v=[v]):Ak 1 [z] [(0,1,g)] F e h=.ok (.slice (some ⟨h.next,0,none⟩) 1 1) (h.ADR 0 [v]):=by
 rw[Ce,BD (hk:=by rw[hv];exact hk),hv,h1,if_pos (show [v].length=1 from rfl),if_pos (show 0+1≤[z].length from IN _),CP,Cv W];rfl
theorem Q0(W:h.Wf){v:BY}:(h.ADR 0 [v]).ADo (.slice (some ⟨h.next,0,none⟩) 1 1) [v]:=.inr ⟨h.next,0,1,0,[v],rfl,Hp.Row.new W 0 [v],by simp,rfl⟩
theorem G7(k:vQ):∀ Z:List Int,Bd (ints k Z)=true
 |[]=>rfl
 |z::Z=>G7 k Z
theorem JT{h0:Hp}{eb en k:Nat}{v:BY}{xs:List BY}{n:Int}{kd:vQ}(x0:h0.Ext h)(hk:h0.next≤k)(hk2:k≤h.next)(o:h.Own k en v xs)(hm:(xs.length+2)*(eb+1)≤1099511627776):
  ∃ h' v',DQ 1 eb en v (.slice (some ⟨h.next,0,none⟩) 1 1) (h.ADR 0 [.int kd n])=.ok v' h'∧h0.Ext h'∧h'.Own k en v' (xs++[.int kd n])∧h'.next=h.next+2∧∀ b el L,¬ ADv v b→h.Row b el L→h'.Row b el L∧¬ ADv v' b:=by
 have W:=x0.wf;have x1:=x0.ADR 0 [.int kd n];have o1:(h.ADR 0 [.int kd n]).Own k en v xs:=o.ext W ((Hp.Ext.refl W).ADR _ _);obtain⟨h',v',a,b,c,d,f⟩:=Ec (eb:=eb) x1 hk (zr hk2) o1 (Q0 W) (by simp) rfl (by simpa using hm);exact⟨h',v',a,b,c,d,fun b' el L hb r=>f b' el L hb (r.push W _)⟩
def G8(F:ADS)(v:BY)(args:List BY)(h:Hp):R:=match v with
 |.func (.func g) first cap=>F g (first.toList++(args++cap.toList)) h
 |_=>.no
theorem CR{f:O}{l:List O}:EY f l F e h=G8 F (f e) (vals e l) h:=by
 show(match f e with|.func (.func g) first cap=>AD7 (vals e l) (fun args=>F g (first.toList++(args++cap.toList)) h)|_=>.no)=_;unfold G8;split<;>simp only[CQ]
theorem B9{g:Nat}{l c args:List BY}:G8 F (.func (.func g) ⟨l⟩ ⟨c⟩) args h=F g (l++(args++c)) h:=rfl
theorem DY{fn:Fn}{l c:List O}:Eu fn l c F e h=.ok (.func fn ⟨vals e l⟩ ⟨vals e c⟩) h:=by
 show AD7 (vals e l) (fun f=>AD7 (vals e c) fun c=>.ok (.func fn ⟨f⟩ ⟨c⟩) h)=_;rw[CQ,CQ]
end
def XM(args:List BY)(h:Hp):R:=match args with
 |[]=>.ok (.bool true) h
 |_::_=>.no
def Jq:Body:=⟨[.x (fun _=>XM)],cNo⟩
theorem Gg{ty:TTy}{φ:Phi}{E:Nat→Prop}{h:Hp}{w w':vt}(H:ADX ty φ E h w)(hb:Below w.heap.size w w'):ADX ty φ E h w'∧Evo φ h w φ h w':=
 ⟨{dom:=fun i p e=>⟨(H.dom i p e).1,wW (H.dom i p e).2 hb.size⟩
   inj:=H.inj
   row:=fun i p e hE=>(by rw[hb.block _ (H.dom i p e).2];exact H.row i p e hE)
   fresh:=H.fresh
   kind:=H.kind
   inp:=H.inp},
  {le:=.refl _
   new:=fun _ _ e=>.inl e
   next:=IN _
   size:=hb.size
   tape:=hb.tape
   os:=hb.os
   output:=hb.output
   frame:=fun k hk _=>hb.block k hk
   back:=fun i p e hl _=>⟨i,p,e,hl,rfl,rfl,.inl rfl⟩
   kept:=fun _ _ _=>rfl
   low:=IN _
   high:=IN _
   shape:=fun _ _=>.refl _
   only:=fun _ _ _=>rfl
   all:=fun _ h1 h2=>absurd h2 (Nat.not_lt.2 h1)}⟩
theorem W7{P:wK}{ty:TTy}{f:Nat}(hS:∃ fn,P.funcs[f]? =some fn∧fn.name≠"runtime.NumGoroutine" ∧fn.body.isNone=false)(hc:∀ w:vt,Calls P f #[] w fun e w'=>e=.returned (.bool true)∧Below w.heap.size w w'):IK P ty f Jq:=fun F args h v h' _ hr=>⟨hS,fun φ w args' ADy H=>by
 have hr:XM args h=.ok v h':=hr;cases args with
 |cons a l=>cases hr
 |nil=>
  cases hr;cases ADy;exact(hc w).mono fun e w' ⟨he,hb⟩=>⟨_,φ,he,.bool true,(Gg H hb).1,(Gg H hb).2⟩⟩
theorem Lo{bs:FT}{n f:Nat}(hb:bs.get f=some Jq){h:Hp}:call bs (vD n) f [] h=.ok (.bool true) h:=by
 rw[Ah hb];rfl
end
noncomputable section
open Go
def B3(n:Nat):List Nat:=if h:n<128 then [n]else(n % 128+128)::B3 (n/128)
termination_by n
decreasing_by exact AAS (by omega) (by omega)
theorem Ew{n:Nat}(h:n<128):B3 n=[n]:=by rw[B3,dif_pos h]
theorem GQ{n:Nat}(h:128≤n):B3 n=(n % 128+128)::B3 (n/128):=by rw[B3,dif_neg (by omega)]
theorem bB:∀ (n x:Nat),x∈B3 n→x<256:=by
 intro n
 induction n using AA5 with
 |_ n ih=>
  intro x hx;by_cases h:n<128
  ·rw[Ew h,List.mem_singleton]at hx
   omega
  ·rw[GQ (by omega)]at hx
   rcases List.mem_cons.1 hx with rfl|hx
   ·omega
   ·exact ih (n/128) (AAS (by omega) (by omega)) x hx
theorem XB(n:Nat):0<(B3 n).length:=by
 by_cases h:n<128
 ·rw[Ew h];exact Nat.one_pos
 ·rw[GQ (by omega)];exact AAk _
theorem Dx:∀ (k n:Nat),n<128 ^ (k+1)→(B3 n).length≤k+1
 |0,n,h=>by
  have h:n<128:=by simpa using h
  rw[Ew h];exact IN _
 |k+1,n,h=>by
  by_cases h1:n<128
  ·rw[Ew h1];show 1≤_;omega
  ·rw[GQ (by omega),vI]
   have h2:n<128*128 ^ (k+1):=by rw[ACn]at h;rw[wj];exact h
   have:=Dx k (n/128) (ABR h2);omega
theorem KY{n:Nat}(h:n<18446744073709551616):(B3 n).length≤10:=Dx 9 n (by
 have:(128:Nat) ^ (9+1)=1180591620717411303424:=by decide
 rw[this];omega)
def Fg:Nat→Nat→List Nat→Option (Nat×Nat)
 |_,_,[]=>none
 |k,acc,c::r=>if(0<k∧c=0)∨(8<k∧1<c)then none else if c<128 then some (acc+c*2 ^ (7*k),k+1)else Fg (k+1) (acc+c % 128*2 ^ (7*k)) r
theorem Mn(k:Nat):2 ^ (7*(k+1))=128*2 ^ (7*k):=by
 rw[show 7*(k+1)=7+7*k by omega,AC0,show(2:Nat) ^ 7=128 from rfl]
theorem RC{k:Nat}(hk:k≤8):2 ^ (64 - 7*k)=128*2 ^ (64 - 7*(k+1)):=by
 rw[show 64 - 7*k=7+(64 - 7*(k+1))by omega,AC0,show(2:Nat) ^ 7=128 from rfl]
theorem bA:∀ (n k acc:Nat) (r:List Nat),k≤9→n<2 ^ (64 - 7*k)→(0<k→n≠0)→Fg k acc (B3 n++r)=some (acc+n*2 ^ (7*k),k+(B3 n).length):=by
 intro n
 induction n using AA5 with
 |_ n ih=>
  intro k acc r hk hn h0;by_cases h:n<128
  ·rw[Ew h]
   show Fg k acc (n::r)=_;have h1:¬ ((0<k∧n=0)∨(8<k∧1<n)):=by
    rintro (⟨a,b⟩|⟨a,b⟩)
    ·exact h0 a b
    ·have:k=9:=by omega
     subst this;have:n<2:=hn;omega
   rw[Fg,if_neg h1,if_pos h];rfl
  ·have hk8:k≤8:=by
    rcases vd k 9 with h1|h1
    ·omega
    ·have:k=9:=by omega
     subst this;have:n<2:=hn;omega
   rw[GQ (by omega)];show Fg k acc ((n % 128+128)::(B3 (n/128)++r))=_;have h1:¬ ((0<k∧n % 128+128=0)∨(8<k∧1<n % 128+128)):=by omega
   have h2:¬ n % 128+128<128:=by omega
   rw[Fg,if_neg h1,if_neg h2];have hlt:n/128<2 ^ (64 - 7*(k+1)):=by
    rw[RC hk8]at hn;exact ABR hn
   rw[ih (n/128) (AAS (by omega) (by omega)) (k+1) _ r (by omega) hlt (by omega)];have e2:(n % 128+128) % 128=n % 128:=by omega
   have e4:acc+n % 128*2 ^ (7*k)+n/128*(128*2 ^ (7*k))=acc+n*2 ^ (7*k):=by
    have e5:n*2 ^ (7*k)=(128*(n/128)+n % 128)*2 ^ (7*k):=by rw[Nat.div_add_mod]
    rw[e5,zy,wj 128 (n/128),ACW];omega
   rw[e2,Mn,e4,vI,show k+1+(B3 (n/128)).length=k+((B3 (n/128)).length+1)by omega]
theorem Ry:∀ (l:List Nat) (k acc v j:Nat),k≤9→(∀ x∈l,x<256)→Fg k acc l=some (v,j)→∃ n r,l=B3 n++r∧v=acc+n*2 ^ (7*k)∧j=k+(B3 n).length∧(0<k→n≠0)∧n<2 ^ (64 - 7*k)
 |[],k,acc,v,j,_,_,h=>by cases h
 |c::r,k,acc,v,j,hk,hb,h=>by
  rw[Fg]at h;split at h
  ·cases h
  ·rename_i h1
   split at h
   ·rename_i h2
    cases h;refine⟨c,r,by rw[Ew h2];rfl,rfl,by rw[Ew h2];rfl,by omega,?_⟩;rcases vd k 9 with h3|h3
    ·have h4:2 ^ 8≤2 ^ (64 - 7*k):=Nat.pow_le_pow_right (by omega) (by omega)
     have h5:(2:Nat) ^ 8=256:=rfl;omega
    ·have:k=9:=by omega
     subst this;show c<2;omega
   ·rename_i h2
    have hk8:k≤8:=by omega
    obtain⟨n,q,rfl,e2,e3,e4,e5⟩:=Ry r (k+1) _ v j (by omega) (fun x hx=>hb x (List.mem_cons_of_mem _ hx)) h;have hc:=hb c List.mem_cons_self;have hn:n≠0:=e4 (AAk k);have hi:B3 (c % 128+128*n)=c::B3 n:=by
     rw[GQ (by omega)];have a1:(c % 128+128*n) % 128+128=c:=by omega
     have a2:(c % 128+128*n)/128=n:=by omega
     rw[a1,a2]
    refine⟨c % 128+128*n,q,by rw[hi];rfl,?_,?_,fun _=>by omega,?_⟩
    ·have e6:n*(128*2 ^ (7*k))=128*n*2 ^ (7*k):=by rw[← ACW,wj n 128]
     rw[e2,Mn,zy,e6];omega
    ·rw[e3,hi,vI];omega
    ·rw[RC hk8];omega
theorem nt{v:Nat}(h:v<18446744073709551616)(r:List Nat):Fg 0 0 (B3 v++r)=some (v,(B3 v).length):=by
 have:=bA v 0 0 r (by omega) h (by omega)
 simpa using this
theorem az{l:List Nat}{v j:Nat}(hb:∀ x∈l,x<256)(h:Fg 0 0 l=some (v,j)):l=B3 v++l.drop j∧j=(B3 v).length∧v<18446744073709551616:=by
 obtain⟨n,r,e1,e2,e3,_,e5⟩:=Ry l 0 0 v j (by omega) hb h;have hv:v=n:=by simpa using e2
 subst hv;have hj:j=(B3 v).length:=by simpa using e3
 have e5:v<18446744073709551616:=e5;refine⟨?_,hj,e5⟩;subst e1;rw[hj,List.drop_left]
theorem iF{l:List Nat}{v j:Nat}(hb:∀ x∈l,x<256)(h:Fg 0 0 l=some (v,j)):j≤l.length:=by
 obtain⟨e1,e2,_⟩:=az hb h;have:=congrArg List.length e1;rw[IT]at this;omega
end
noncomputable section
open Go
def veq:BY→BY→Bool
 |.bool a,.bool b=>a == b
 |.int j a,.int k b=>FW j k && iEq a b
 |.string a,.string b=>bEq a.data.toList b.data.toList
 |.pointer none,.pointer none=>true
 |.slice none 0 0,.slice none 0 0=>true
 |.map none,.map none=>true
 |.nilFunc,.nilFunc=>true
 |.nilIface,.nilIface=>true
 |_,_=>false
def leq:List BY→List BY→Bool
 |[],[]=>true
 |a::x,b::y=>veq a b && leq x y
 |_,_=>false
def zeq:BY→BY→Bool
 |.agg a,.agg b=>leq a.toList b.toList
 |.agg _,_=>false
 |a,b=>veq a b
theorem bD{a b:BY}(h:veq a b=true):a=b:=by
 unfold veq at h;split at h
 ·simpa using h
 ·rw[vT,D9]at h
  have h1:=Hc h.1;rw[h1,eq_of_beq h.2]
 ·rw[Lh]at h
  rename_i a b;have e1:=HC (a:=a) (eq_of_beq h);have e2:=HC (a:=b) rfl;exact congrArg Value.string (e1.trans e2.symm)
 all_goals first|rfl|cases h
theorem Y5:∀ {a b:List BY},leq a b=true→a=b
 |[],[],_=>rfl
 |x::a,y::b,h=>by
  have h:(veq x y && leq a b)=true:=h;rw[vT]at h;rw[bD h.1,Y5 h.2]
 |[],_::_,h=>by cases h
 |_::_,[],h=>by cases h
theorem n8{a b:BY}(h:zeq a b=true):a=b:=by
 unfold zeq at h;split at h
 ·rename_i x y
  have:=Y5 h
  congr 1
  exact Array.ext' this
 ·cases h
 ·exact bD h
def dE:List (Nat×Nat×Nat)→List (Nat×Nat×Nat)→Bool
 |[],[]=>true
 |(a,b,c)::x,(d,e,f)::y=>vO a d && (vO b e && (vO c f && dE x y))
 |_,_=>false
theorem UA:∀ {x y:List (Nat×Nat×Nat)},dE x y=true→x=y
 |[],[],_=>rfl
 |(a,b,c)::x,(d,e,f)::y,h=>by
  have h:(vO a d && (vO b e && (vO c f && dE x y)))=true:=h;simp only[vT]at h;rw[Am.1 h.1,Am.1 h.2.1,Am.1 h.2.2.1,UA h.2.2.2]
 |[],_::_,h=>by cases h
 |_::_,[],h=>by cases h
def Y1(P:wK)(k:TK)(d:AAc):Bool:=match k,d with
 |.int a,.int b=>FW a b
 |.bool,.bool=>true
 |.string,.string=>true
 |.ptr a,.pointer b=>vO a b
 |.slice a,.slice b=>vO a b
 |.arr n a,.array m b=>vO n m && vO a b
 |.map n a,.map m b=>vO n m && vO a b
 |.struct fs,.struct fields=>dE (fields.toList.map fun f=>(f.offset,P.cellsOf f.type,f.type)) fs && fields.toList.all fun f=>(P.info? f.type).isSome
 |.iface,.interface _=>true
 |.func,.func _ _ _=>true
 |.other,.struct _=>false
 |.other,.array _ _=>false
 |.other,.interface _=>false
 |.other,_=>true
 |_,_=>false
theorem Y2{P:wK}{k:TK}{d:AAc}(h:Y1 P k d=true):KOk P k d:=by
 unfold Y1 at h;split at h
 ·rw[Hc h];exact .int _
 ·exact .bool
 ·exact .string
 ·rw[Am.1 h];exact .ptr _
 ·rw[Am.1 h];exact .slice _
 ·rw[vT]at h
  rw[Am.1 h.1,Am.1 h.2];exact .arr _ _
 ·rw[vT]at h
  rw[Am.1 h.1,Am.1 h.2];exact .map _ _
 ·rw[vT]at h
  exact .struct (UA h.1) h.2
 ·exact .iface _
 ·exact .func _ _ _
 ·cases h
 ·cases h
 ·cases h
 ·rename_i q1 q2 q3
  refine .other ?_;split
  ·rename_i f;exact absurd rfl (q1 f)
  ·rename_i n e;exact absurd rfl (q2 n e)
  ·rename_i m;exact absurd rfl (q3 m)
  ·rfl
 ·cases h
def bJ(ti:TI)(z:Option BY):Bool:=
 (match ti.zero with
  |[]=>wF 0 ti.size
  |_::_=>false) ||
 (match zeroV ti,z with
  |some a,some b=>zeq a b && (ti.zero.all plainV && vO (A8 ti.zero) ti.size)
  |_,_=>false)
theorem bK{ti:TI}{z:Option BY}(h:bJ ti z=true):(ti.zero=[]∧0<ti.size)∨∃ y,zeroV ti=some y∧z=some y∧ti.zero.all plainV=true∧ti.zero.length=ti.size:=by
 unfold bJ at h;rw[Bool.or_eq_true]at h;rcases h with h|h
 ·left
  split at h
  ·rename_i hz;exact⟨hz,A9.1 h⟩
  ·cases h
 ·right
  split at h
  ·rename_i a b ha
   simp only[vT]at h;have h3:=Am.1 h.2.2;rw[BI]at h3;exact⟨a,ha,by rw[n8 h.1],h.2.1,h3⟩
  ·cases h
def tK(b:Bool):AAc→Bool
 |.pointer _=>b
 |_=>not b
def Ui(P:wK)(t:Nat)(name:String)(f:Nat):Bool:=match P.info? t with
 |some i=>match i.methods.find? (·.name == name)with
  |some m=>match m.path.toList with
   |[]=>match m.func with
    |some (g,b)=>match P.underlying t with
     |some d=>vO g f && tK b d
     |none=>false
    |none=>false
   |_::_=>false
  |none=>false
 |none=>false
theorem ZB{P:wK}{t:Nat}{name:String}{f:Nat}(h:Ui P t name f=true)(v:BY)(w:vt):(method (P.types.size+AC3) t v name).run P w=.ok (f,v) w:=by
 unfold Ui at h;split at h
 ·rename_i i hi
  split at h
  ·rename_i m hm
   split at h
   ·rename_i hp
    split at h
    ·rename_i g b hg
     split at h
     ·rename_i d hd
      rw[vT]at h;have e1:=Am.1 h.1;subst e1;have h2:=h.2;show(method ((P.types.size+99)+1) t v name).run P w=_;unfold method;simp only[typeInfo,vE,run_program,IS,hi,vF,hm,hp,follow,hg,receiverAt,underlying,hd];cases d with
      |pointer e=>
       have hb:b=true:=h2;subst hb;simp only[ACx,vE,vF,IS]
      |_=>
       have hb:b=false:=by
        have h2:(!b)=true:=h2;cases b with
        |true=>cases h2
        |false=>rfl
       subst hb;simp only[ACx,vE,vF,IS]
     ·cases h
    ·cases h
   ·cases h
  ·cases h
 ·cases h
def Uj(P:wK)(t:Nat):List (String×Nat)→Bool
 |[]=>true
 |x::l=>Ui P t x.1 x.2 && Uj P t l
theorem Qg{P:wK}{t:Nat}:∀ {l:List (String×Nat)},Uj P t l=true→∀ name f,findM name l=some f→∀ v w,(method (P.types.size+AC3) t v name).run P w=.ok (f,v) w
 |[],_,name,f,h=>by cases h
 |x::l,hb,name,f,h=>by
  have hb:(Ui P t x.1 x.2 && Uj P t l)=true:=hb;rw[vT]at hb;unfold findM at h;split at h
  ·rename_i hn
   cases h;rw[← eq_of_beq hn];exact fun v w=>ZB hb.1 v w
  ·exact Qg hb.2 name f h
def tyB(P:wK)(t:Nat)(ti:TI):Bool:=match P.info? t with
 |some i=>match P.underlying t with
  |some d=>vO i.size ti.size && (vO i.bytes ti.bytes && (bJ ti i.zero && (Y1 P ti.k d && (AFc P t && Uj P t ti.ms))))
  |none=>false
 |none=>false
theorem nr{P:wK}(hd:8≤P.depth){t:Nat}{ti:TI}(h:tyB P t ti=true):ADt P t ti:=by
 unfold tyB at h;split at h
 ·rename_i i hi
  split at h
  ·rename_i d hu
   simp only[vT]at h;exact⟨h.2.2.2.2.1,hd,⟨i,hi,Am.1 h.1,Am.1 h.2.1,bK h.2.2.1⟩,⟨d,hu,Y2 h.2.2.2.1⟩,Qg h.2.2.2.2.2⟩
  ·cases h
 ·cases h
def tA(P:wK)(t:Nat):Option TI→Bool
 |some ti=>tyB P t ti
 |none=>true
def W3(P:wK):TTy→(Nat→Nat)→Bool
 |.mt,_=>true
 |.nd ti l r,ix=>tA P (ix 0) ti && (W3 P l (fun k=>ix (vD (vr 2 k))) && W3 P r (fun k=>ix (vD (vD (vr 2 k)))))
theorem Mz{P:wK}(hd:8≤P.depth):∀ {t:TTy} {ix:Nat→Nat},W3 P t ix=true→∀ i ti,t.get i=some ti→ADt P (ix i) ti
 |.mt,ix,_,i,b,h=>by cases h
 |.nd c l r,ix,hb,i,b,h=>by
  have hb:(tA P (ix 0) c && (W3 P l (fun k=>ix (vD (vr 2 k))) && W3 P r (fun k=>ix (vD (vD (vr 2 k))))))=true:=hb;simp only[vT]at hb;cases i with
  |zero=>
   have h:c=some b:=h;subst h;exact nr hd hb.1
  |succ k=>
   unfold TTy.get at h;have e1:Nat.mod k 2=k % 2:=rfl;have e2:Nat.div k 2=k / 2:=rfl;rw[e1,e2]at h;rcases Nat.mod_two_eq_zero_or_one k with hk|hk
   ·rw[hk]at h
    have:=Mz hd hb.2.1 (k/2) b h;have e:vD (vr 2 (k/2))=k+1:=by show 2*(k/2)+1=k+1;omega
    simp only[e]at this;exact this
   ·rw[hk]at h
    have:=Mz hd hb.2.2 (k/2) b h;have e:vD (vD (vr 2 (k/2)))=k+1:=by show 2*(k/2)+1+1=k+1;omega
    simp only[e]at this;exact this
theorem nl{P:wK}{ty:TTy}(hd:vJ 8 P.depth=true)(h:W3 P ty (fun k=>k)=true):Ck P ty:=fun t ti ht=>Mz (Ab.1 hd) h t ti ht
end
noncomputable section
open Go
def ty0:TI:=⟨.other,1,0,[],[]⟩
def ty1:TI:=⟨.func,1,8,[.nilFunc],[]⟩
def ty2:TI:=⟨.int .i64,1,8,[.int .i64 0],[]⟩
def ty3:TI:=⟨.int .i64,1,8,[.int .i64 0],[]⟩
def ty4:TI:=⟨.bool,1,1,[.bool false],[]⟩
def ty5:TI:=⟨.int .u8,1,1,[.int .u8 0],[]⟩
def ty6:TI:=⟨.int .u8,1,1,[.int .u8 0],[]⟩
def ty7:TI:=⟨.struct [(0,1,2),(1,1,3),(2,1,4),(3,1,6)],4,24,[.int .i64 0,.int .i64 0,.bool false,.int .u8 0],[]⟩
def ty9:TI:=⟨.string,1,16,[.string .empty],[]⟩
def tO:TI:=⟨.string,1,16,[.string .empty],[("Error",135),("RuntimeError",136)]⟩
def tP:TI:=⟨.string,1,16,[.string .empty],[("Error",137),("RuntimeError",138)]⟩
def tQ:TI:=⟨.int .u64,1,8,[.int .u64 0],[]⟩
def tR:TI:=⟨.ptr 172,1,8,[.pointer none],[("Error",141),("RuntimeError",142)]⟩
def tS:TI:=⟨.ptr 175,1,8,[.pointer none],[("Error",143),("RuntimeError",144)]⟩
def tT:TI:=⟨.ptr 183,1,8,[.pointer none],[("Align",145)]⟩
def tU:TI:=⟨.iface,1,16,[.nilIface],[]⟩
def tV:TI:=⟨.int .i32,1,4,[.int .i32 0],[]⟩
def LD:TI:=⟨.slice 5,1,24,[.slice none 0 0],[]⟩
def tW:TI:=⟨.arr 4 5,4,4,[.int .u8 0,.int .u8 0,.int .u8 0,.int .u8 0],[]⟩
def tX:TI:=⟨.func,1,8,[.nilFunc],[]⟩
def tY:TI:=⟨.int .u32,1,4,[.int .u32 0],[]⟩
def tZ:TI:=⟨.arr 256 25,256,1024,BO [.int .u32 0] 256,[]⟩
def an:TI:=⟨.arr 256 25,256,1024,BO [.int .u32 0] 256,[]⟩
def tc:TI:=⟨.func,1,8,[.nilFunc],[]⟩
def TV:TI:=⟨.ptr 98,1,8,[.pointer none],[("Arm",26),("Cached",28),("Crash",31),("Down",58),("Flush",76),("Read",84),("Size",56),("Spoil",14),("Write",75),("cooperage/disk.none",54),("cooperage/disk.operation",96),("cooperage/disk.there",95)]⟩
def LE:TI:=⟨.ptr 80,1,8,[.pointer none],[("Abort",29),("All",21),("Bad",19),("Commit",12),("Drop",30),("Get",18),("Now",17),("Over",27),("Prepare",11),("Room",20),("Sound",15),("cooperage/slots.all",47),("cooperage/slots.at",46),("cooperage/slots.find",41),("cooperage/slots.gone",52),("cooperage/slots.look",55),("cooperage/slots.now",64),("cooperage/slots.out",68),("cooperage/slots.read",88),("cooperage/slots.stale",43),("cooperage/slots.strike",53),("cooperage/slots.up",38),("cooperage/slots.write",45)]⟩
def td:TI:=⟨.other,1,0,[],[]⟩
def te:TI:=⟨.func,1,8,[.nilFunc],[]⟩
def Rv:TI:=⟨.ptr 27,1,8,[.pointer none],[]⟩
def tf:TI:=⟨.int .i64,1,8,[.int .i64 0],[]⟩
def tg:TI:=⟨.func,1,8,[.nilFunc],[]⟩
def th:TI:=⟨.func,1,8,[.nilFunc],[]⟩
def tm:TI:=⟨.func,1,8,[.nilFunc],[]⟩
def tq:TI:=⟨.func,1,8,[.nilFunc],[]⟩
def tu:TI:=⟨.other,1,0,[],[]⟩
def tv:TI:=⟨.func,1,8,[.nilFunc],[]⟩
def tw:TI:=⟨.int .u8,1,1,[.int .u8 0],[]⟩
def tz:TI:=⟨.struct [(0,1,3),(1,1,3),(2,1,3),(3,1,41),(4,1,22)],5,56,[.int .i64 0,.int .i64 0,.int .i64 0,.int .u8 0,.slice none 0 0],[]⟩
def G1:TI:=⟨.struct [(0,1,3),(1,1,3),(2,1,3),(3,1,41),(4,1,22)],5,56,[.int .i64 0,.int .i64 0,.int .i64 0,.int .u8 0,.slice none 0 0],[]⟩
def uA:TI:=⟨.other,1,0,[],[]⟩
def uB:TI:=⟨.func,1,8,[.nilFunc],[]⟩
def uC:TI:=⟨.func,1,8,[.nilFunc],[]⟩
def uD:TI:=⟨.func,1,8,[.nilFunc],[]⟩
def uE:TI:=⟨.slice 43,1,24,[.slice none 0 0],[]⟩
def uF:TI:=⟨.func,1,8,[.nilFunc],[]⟩
def uG:TI:=⟨.func,1,8,[.nilFunc],[]⟩
def uH:TI:=⟨.slice 54,1,24,[.slice none 0 0],[]⟩
def uI:TI:=⟨.slice 4,1,24,[.slice none 0 0],[]⟩
def uJ:TI:=⟨.struct [(0,1,3),(1,1,3),(2,1,3),(3,1,3),(4,1,3),(5,1,22),(6,1,52)],7,88,[.int .i64 0,.int .i64 0,.int .i64 0,.int .i64 0,.int .i64 0,.slice none 0 0,.slice none 0 0],[]⟩
def uK:TI:=⟨.struct [(0,1,3),(1,1,3),(2,1,3),(3,1,3),(4,1,3),(5,1,22),(6,1,52)],7,88,[.int .i64 0,.int .i64 0,.int .i64 0,.int .i64 0,.int .i64 0,.slice none 0 0,.slice none 0 0],[]⟩
def uL:TI:=⟨.func,1,8,[.nilFunc],[]⟩
def uM:TI:=⟨.func,1,8,[.nilFunc],[]⟩
def uN:TI:=⟨.slice 30,1,24,[.slice none 0 0],[]⟩
def uO:TI:=⟨.func,1,8,[.nilFunc],[]⟩
def uP:TI:=⟨.func,1,8,[.nilFunc],[]⟩
def uQ:TI:=⟨.func,1,8,[.nilFunc],[]⟩
def uR:TI:=⟨.func,1,8,[.nilFunc],[]⟩
def TW:TI:=⟨.slice 3,1,24,[.slice none 0 0],[]⟩
def uS:TI:=⟨.func,1,8,[.nilFunc],[]⟩
def uT:TI:=⟨.func,1,8,[.nilFunc],[]⟩
def uU:TI:=⟨.func,1,8,[.nilFunc],[]⟩
def uV:TI:=⟨.func,1,8,[.nilFunc],[]⟩
def uW:TI:=⟨.func,1,8,[.nilFunc],[]⟩
def uX:TI:=⟨.other,1,0,[],[]⟩
def uY:TI:=⟨.func,1,8,[.nilFunc],[]⟩
def uZ:TI:=⟨.func,1,8,[.nilFunc],[]⟩
def ua:TI:=⟨.other,1,0,[],[]⟩
def ub:TI:=⟨.func,1,8,[.nilFunc],[]⟩
def uc:TI:=⟨.func,1,8,[.nilFunc],[]⟩
def ud:TI:=⟨.func,1,8,[.nilFunc],[]⟩
def Rx:TI:=⟨.func,1,8,[.nilFunc],[]⟩
def ue:TI:=⟨.func,1,8,[.nilFunc],[]⟩
def uf:TI:=⟨.func,1,8,[.nilFunc],[]⟩
def XA:TI:=⟨.slice 83,1,24,[.slice none 0 0],[]⟩
def ug:TI:=⟨.struct [(0,1,29),(1,1,33),(2,1,3),(3,1,78),(4,1,62),(5,1,3),(6,1,4)],7,88,[.pointer none,.pointer none,.int .i64 0,.slice none 0 0,.slice none 0 0,.int .i64 0,.bool false],[]⟩
def ax:TI:=⟨.struct [(0,1,29),(1,1,33),(2,1,3),(3,1,78),(4,1,62),(5,1,3),(6,1,4)],7,88,[.pointer none,.pointer none,.int .i64 0,.slice none 0 0,.slice none 0 0,.int .i64 0,.bool false],[]⟩
def uh:TI:=⟨.func,1,8,[.nilFunc],[]⟩
def ui:TI:=⟨.struct [(0,5,43),(5,1,3)],6,64,[.int .i64 0,.int .i64 0,.int .i64 0,.int .u8 0,.slice none 0 0,.int .i64 0],[]⟩
def FZ:TI:=⟨.struct [(0,5,43),(5,1,3)],6,64,[.int .i64 0,.int .i64 0,.int .i64 0,.int .u8 0,.slice none 0 0,.int .i64 0],[]⟩
def uj:TI:=⟨.other,1,0,[],[]⟩
def uk:TI:=⟨.func,1,8,[.nilFunc],[]⟩
def um:TI:=⟨.slice 75,1,24,[.slice none 0 0],[]⟩
def un:TI:=⟨.func,1,8,[.nilFunc],[]⟩
def uo:TI:=⟨.func,1,8,[.nilFunc],[]⟩
def uq:TI:=⟨.func,1,8,[.nilFunc],[]⟩
def ur:TI:=⟨.func,1,8,[.nilFunc],[]⟩
def us:TI:=⟨.func,1,8,[.nilFunc],[]⟩
def ut:TI:=⟨.func,1,8,[.nilFunc],[]⟩
def uu:TI:=⟨.func,1,8,[.nilFunc],[]⟩
def uv:TI:=⟨.func,1,8,[.nilFunc],[]⟩
def uw:TI:=⟨.slice 100,1,24,[.slice none 0 0],[]⟩
def gO:TI:=⟨.map 3 100,1,8,[.map none],[]⟩
def uz:TI:=⟨.struct [(0,1,95),(1,1,96),(2,1,3),(3,1,4)],4,48,[.slice none 0 0,.map none,.int .i64 0,.bool false],[]⟩
def gP:TI:=⟨.struct [(0,1,95),(1,1,96),(2,1,3),(3,1,4)],4,48,[.slice none 0 0,.map none,.int .i64 0,.bool false],[]⟩
def u6:TI:=⟨.arr 64 5,64,64,BO [.int .u8 0] 64,[]⟩
def F0:TI:=⟨.arr 64 5,64,64,BO [.int .u8 0] 64,[]⟩
def qz:TI:=⟨.other,1,0,[],[]⟩
def rA:TI:=⟨.func,1,8,[.nilFunc],[]⟩
def rB:TI:=⟨.func,1,8,[.nilFunc],[]⟩
def rC:TI:=⟨.func,1,8,[.nilFunc],[]⟩
def rD:TI:=⟨.func,1,8,[.nilFunc],[]⟩
def rE:TI:=⟨.func,1,8,[.nilFunc],[]⟩
def rF:TI:=⟨.func,1,8,[.nilFunc],[]⟩
def rG:TI:=⟨.func,1,8,[.nilFunc],[]⟩
def rH:TI:=⟨.func,1,8,[.nilFunc],[]⟩
def rI:TI:=⟨.func,1,8,[.nilFunc],[]⟩
def rJ:TI:=⟨.func,1,8,[.nilFunc],[]⟩
def rK:TI:=⟨.func,1,8,[.nilFunc],[]⟩
def rL:TI:=⟨.func,1,8,[.nilFunc],[]⟩
def rM:TI:=⟨.int .u64,1,8,[.int .u64 0],[]⟩
def rN:TI:=⟨.func,1,8,[.nilFunc],[]⟩
def Ru:TI:=⟨.int .u64,1,8,[.int .u64 0],[]⟩
def rO:TI:=⟨.func,1,8,[.nilFunc],[]⟩
def rP:TI:=⟨.slice 116,1,24,[.slice none 0 0],[]⟩
def rQ:TI:=⟨.func,1,8,[.nilFunc],[]⟩
def rR:TI:=⟨.func,1,8,[.nilFunc],[]⟩
def rS:TI:=⟨.func,1,8,[.nilFunc],[]⟩
def rT:TI:=⟨.func,1,8,[.nilFunc],[]⟩
def rU:TI:=⟨.func,1,8,[.nilFunc],[]⟩
def rV:TI:=⟨.func,1,8,[.nilFunc],[]⟩
def rW:TI:=⟨.func,1,8,[.nilFunc],[]⟩
def rX:TI:=⟨.func,1,8,[.nilFunc],[]⟩
def rY:TI:=⟨.func,1,8,[.nilFunc],[]⟩
def rZ:TI:=⟨.func,1,8,[.nilFunc],[]⟩
def ra:TI:=⟨.func,1,8,[.nilFunc],[]⟩
def rc:TI:=⟨.other,1,0,[],[]⟩
def re:TI:=⟨.func,1,8,[.nilFunc],[]⟩
def rh:TI:=⟨.func,1,8,[.nilFunc],[]⟩
def ri:TI:=⟨.func,1,8,[.nilFunc],[]⟩
def rj:TI:=⟨.func,1,8,[.nilFunc],[]⟩
def rk:TI:=⟨.int .i64,1,8,[.int .i64 0],[]⟩
def rl:TI:=⟨.other,1,0,[],[]⟩
def rm:TI:=⟨.func,1,8,[.nilFunc],[]⟩
def rn:TI:=⟨.func,1,8,[.nilFunc],[]⟩
def ro:TI:=⟨.func,1,8,[.nilFunc],[]⟩
def rq:TI:=⟨.other,1,0,[],[]⟩
def rt:TI:=⟨.func,1,8,[.nilFunc],[]⟩
def ru:TI:=⟨.func,1,8,[.nilFunc],[]⟩
def rv:TI:=⟨.func,1,8,[.nilFunc],[]⟩
def rx:TI:=⟨.func,1,8,[.nilFunc],[]⟩
def ry:TI:=⟨.other,1,0,[],[]⟩
def rz:TI:=⟨.func,1,8,[.nilFunc],[]⟩
def sA:TI:=⟨.func,1,8,[.nilFunc],[]⟩
def sB:TI:=⟨.arr 6 116,6,48,BO [.int .u64 0] 6,[]⟩
def sC:TI:=⟨.other,1,0,[],[]⟩
def sD:TI:=⟨.func,1,8,[.nilFunc],[]⟩
def sE:TI:=⟨.func,1,8,[.nilFunc],[]⟩
def sF:TI:=⟨.int .u64,1,8,[.int .u64 0],[]⟩
def sG:TI:=⟨.func,1,8,[.nilFunc],[]⟩
def sH:TI:=⟨.func,1,8,[.nilFunc],[]⟩
def sI:TI:=⟨.func,1,8,[.nilFunc],[]⟩
def sJ:TI:=⟨.ptr 3,1,8,[.pointer none],[]⟩
def sK:TI:=⟨.func,1,8,[.nilFunc],[]⟩
def sL:TI:=⟨.func,1,8,[.nilFunc],[]⟩
def sM:TI:=⟨.func,1,8,[.nilFunc],[]⟩
def sN:TI:=⟨.func,1,8,[.nilFunc],[]⟩
def sO:TI:=⟨.func,1,8,[.nilFunc],[]⟩
def sP:TI:=⟨.func,1,8,[.nilFunc],[]⟩
def sQ:TI:=⟨.func,1,8,[.nilFunc],[]⟩
def sR:TI:=⟨.ptr 152,1,8,[.pointer none],[("Next",116)]⟩
def sS:TI:=⟨.other,1,0,[],[]⟩
def sU:TI:=⟨.func,1,8,[.nilFunc],[]⟩
def sV:TI:=⟨.func,1,8,[.nilFunc],[]⟩
def sW:TI:=⟨.func,1,8,[.nilFunc],[]⟩
def sX:TI:=⟨.func,1,8,[.nilFunc],[]⟩
def sY:TI:=⟨.func,1,8,[.nilFunc],[]⟩
def sZ:TI:=⟨.arr 0 16,0,0,[],[]⟩
def sd:TI:=⟨.int .u8,1,1,[.int .u8 0],[]⟩
def se:TI:=⟨.int .u8,1,1,[.int .u8 0],[("String",148)]⟩
def sk:TI:=⟨.func,1,8,[.nilFunc],[]⟩
def so:TI:=⟨.ptr 5,1,8,[.pointer none],[]⟩
def su:TI:=⟨.int .i32,1,4,[.int .i32 0],[]⟩
def sv:TI:=⟨.int .i32,1,4,[.int .i32 0],[]⟩
def sx:TI:=⟨.other,1,8,[.pointer none],[]⟩
set_option maxRecDepth 100000 in
def ty:TTy:=(.nd (some ty0) (.nd (some ty1) (.nd (some ty3) (.nd (some ty7) (.nd (some tR) (.nd (some td) (.nd (some uS) (.nd (some rY) .mt .mt) .mt) (.nd (some uw) (.nd (some sM) .mt .mt) .mt)) (.nd (some uD) (.nd (some ug) (.nd (some rv) .mt .mt) .mt) (.nd (some rJ) (.nd none .mt .mt) .mt))) (.nd (some tW) (.nd (some tu) (.nd (some ua) (.nd (some rk) .mt .mt) .mt) (.nd (some rB) (.nd (some sV) .mt .mt) .mt)) (.nd (some uL) (.nd (some un) (.nd (some sE) .mt .mt) .mt) (.nd (some rQ) (.nd none .mt .mt) .mt)))) (.nd (some tP) (.nd none (.nd (some tg) (.nd (some uW) (.nd (some re) .mt .mt) .mt) (.nd (some u6) (.nd (some sQ) .mt .mt) .mt)) (.nd (some uH) (.nd (some FZ) (.nd (some sA) .mt .mt) .mt) (.nd (some rN) (.nd (some so) .mt .mt) .mt))) (.nd (some an) (.nd (some G1) (.nd (some Rx) (.nd (some ro) .mt .mt) .mt) (.nd (some rF) (.nd none .mt .mt) .mt)) (.nd (some uP) (.nd (some us) (.nd (some sI) .mt .mt) .mt) (.nd (some rU) .mt .mt))))) (.nd (some ty5) (.nd (some ty9) (.nd (some tT) (.nd (some Rv) (.nd (some uU) (.nd (some ra) .mt .mt) .mt) (.nd (some uz) (.nd (some sO) .mt .mt) .mt)) (.nd (some uF) (.nd (some uh) (.nd (some ry) .mt .mt) .mt) (.nd (some rL) (.nd (some se) .mt .mt) .mt))) (.nd (some tY) (.nd (some tw) (.nd (some uc) (.nd (some rm) .mt .mt) .mt) (.nd (some rD) (.nd (some sX) .mt .mt) .mt)) (.nd (some uN) (.nd (some uq) (.nd (some sG) .mt .mt) .mt) (.nd (some rS) .mt .mt)))) (.nd none (.nd (some tV) (.nd (some tm) (.nd (some uY) (.nd (some ri) .mt .mt) .mt) (.nd (some qz) (.nd (some sS) .mt .mt) .mt)) (.nd (some uJ) (.nd (some uk) (.nd (some sC) .mt .mt) .mt) (.nd (some rO) (.nd (some sv) .mt .mt) .mt))) (.nd (some TV) (.nd (some uB) (.nd (some uf) (.nd (some rt) .mt .mt) .mt) (.nd (some rH) (.nd (some sZ) .mt .mt) .mt)) (.nd (some uR) (.nd (some uu) (.nd (some sK) .mt .mt) .mt) (.nd (some rW) .mt .mt)))))) (.nd (some ty2) (.nd (some ty4) (.nd none (.nd (some tS) (.nd (some te) (.nd (some uT) (.nd (some rZ) .mt .mt) .mt) (.nd (some gO) (.nd (some sN) .mt .mt) .mt)) (.nd (some uE) (.nd (some ax) (.nd (some rx) .mt .mt) .mt) (.nd (some rK) (.nd (some sd) .mt .mt) .mt))) (.nd (some tX) (.nd (some tv) (.nd (some ub) (.nd (some rl) .mt .mt) .mt) (.nd (some rC) (.nd (some sW) .mt .mt) .mt)) (.nd (some uM) (.nd (some uo) (.nd (some sF) .mt .mt) .mt) (.nd (some rR) (.nd (some sx) .mt .mt) .mt)))) (.nd (some tQ) (.nd (some tU) (.nd (some th) (.nd (some uX) (.nd (some rh) .mt .mt) .mt) (.nd (some F0) (.nd (some sR) .mt .mt) .mt)) (.nd (some uI) (.nd (some uj) (.nd (some sB) .mt .mt) .mt) (.nd (some Ru) (.nd (some su) .mt .mt) .mt))) (.nd (some tc) (.nd (some uA) (.nd (some ue) (.nd (some rq) .mt .mt) .mt) (.nd (some rG) (.nd none .mt .mt) .mt)) (.nd (some uQ) (.nd (some ut) (.nd (some sJ) .mt .mt) .mt) (.nd (some rV) .mt .mt))))) (.nd (some ty6) (.nd (some tO) (.nd none (.nd (some tf) (.nd (some uV) (.nd (some rc) .mt .mt) .mt) (.nd (some gP) (.nd (some sP) .mt .mt) .mt)) (.nd (some uG) (.nd (some ui) (.nd (some rz) .mt .mt) .mt) (.nd (some rM) (.nd (some sk) .mt .mt) .mt))) (.nd (some tZ) (.nd (some tz) (.nd (some ud) (.nd (some rn) .mt .mt) .mt) (.nd (some rE) (.nd (some sY) .mt .mt) .mt)) (.nd (some uO) (.nd (some ur) (.nd (some sH) .mt .mt) .mt) (.nd (some rT) .mt .mt)))) (.nd none (.nd (some LD) (.nd (some tq) (.nd (some uZ) (.nd (some rj) .mt .mt) .mt) (.nd (some rA) (.nd (some sU) .mt .mt) .mt)) (.nd (some uK) (.nd (some um) (.nd (some sD) .mt .mt) .mt) (.nd (some rP) (.nd none .mt .mt) .mt))) (.nd (some LE) (.nd (some uC) (.nd (some XA) (.nd (some ru) .mt .mt) .mt) (.nd (some rI) (.nd none .mt .mt) .mt)) (.nd (some TW) (.nd (some uv) (.nd (some sL) .mt .mt) .mt) (.nd (some rX) .mt .mt)))))))
end
end Go.Proofs.YtedbmmfebjfibaaGreat

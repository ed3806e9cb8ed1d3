/-
  Part ZH of what Lawnl stands on: printed by program, names and spaces cut.
-/
import Derived.Test.YtbjadbhkogcfeaaGreatZG
import Derived.ChangeSlices
import Derived.ChangeArms
import Derived.Test.YtbjadbhkogcfeaaGreatProg
open Go.Value renaming int→AI
open Go.IntKind renaming i64→AT
open Go renaming Value→IN,IntKind→xc,World→yJ,Program→yg,Addr→ABy,TypeDesc→AB0
open Nat renaming le_refl→IT,zero_add→OF,succ→xM,ble→xU,beq→xW,lt_or_ge→xx,mul→yK,le_trans→yO,eq_zero_or_pos→yV,blt→ye,lt_of_lt_of_le→yr,add→zA,add_eq→zC,mul_comm→zW,mul_one→AAN,le_succ_of_le→ABW,add_mul→ABY,div_lt_self→ABo,strongRecOn→ACO,lt_trans→ACW,succ_pos→ACe,div_lt_of_lt_mul→ACg,succ_eq_add_one→ACm,mul_assoc→ADU,pow_succ→ADh,pow_add→ADr
open Go.Result renaming andThen_ok→If
open List renaming length_append→No,getElem?_eq_getElem→xL,getD_eq_getElem?_getD→xN,length_cons→xP,append_nil→xZ,getElem?_append_right→xn,append_assoc→xp,getElem?_eq_some_iff→xy,length_take→yE,length_nil→yM,nil_append→yP,length_drop→yd,drop_of_length_le→yw,getElem?_take→AAE,getElem?_drop→AAj
open Go.Sem renaming run_bind→xO,run_pure→xQ
open And renaming intro→xY
open Bool renaming and_eq_true→xk
open Go.IntKind renaming i64→zU,u8→ABq
open Array renaming getElem?_eq_some_iff→zc
open Go.Value renaming okWide→AAB
open UInt8 renaming ofNat→AAH
open Go.Cell renaming okWide→ADm
open Go.Place renaming get→ADp
open Go.Made renaming depth→ADu
set_option linter.unusedVariables false
set_option linter.unusedSimpArgs false
namespace Go.Proofs.YtbjadbhkogcfeaaGreat
noncomputable section
open Go
section
variable {F:AEB}{e:Env}{h h':Hp}{x y:O}
structure Hp.Wf (h:Hp):Prop where
 big:256<=h.next
 has:∀ i,i<h.next->h.bl.has i
 fresh:∀ i,h.next<=i->h.bl.get i=.dead
def Hp.push(h:Hp)(o:Blk):Hp:={next:=xM h.next,low:=h.low,high:=h.high,mark:=h.mark,bl:=h.bl.lay h.next o}
def Hp.put(h:Hp)(b:Nat)(o:Blk):Hp:={next:=h.next,low:=B9 h.low b,high:=Cv h.high b,mark:=h.mark,bl:=h.bl.lay b o}
theorem C2(W:h.Wf){o:Blk}{K:Nat->Hp->R}:GI h o K=K h.next (h.push o):=by
 unfold GI;rw[BT.AEt fun j hj=>W.has j hj];simp only[Ao];rfl
theorem ED(W:h.Wf){b:Nat}(AEM:256<=b)(hb:b<h.next){o:Blk}{K:Hp->R}:ET h b o K=K (h.put b o):=by
 unfold ET;rw[BT.AEt fun j hj=>W.has j (ACW hj hb),Au.2 AEM];simp only[Ao];rfl
theorem Hp.Wf.AEb(W:h.Wf)(o:Blk)(i:Nat):(h.push o).bl.get i=if i=h.next then o else h.bl.get i:=BT.AFB (fun j hj=>W.has j hj) i
theorem Hp.Wf.AEq(W:h.Wf){b:Nat}(hb:b<h.next)(o:Blk)(i:Nat):(h.put b o).bl.get i=if i=b then o else h.bl.get i:=BT.AFB (fun j hj=>W.has j (ACW hj hb)) i
theorem Hp.Wf.push(W:h.Wf)(o:Blk):(h.push o).Wf where
 big:=ABW W.big
 has:=fun i hi=>BT.AFH (fun j hj=>W.has j hj) i (by
  have hi:i<h.next+1:=hi;rcases xx i h.next with h1|h1
  ·exact .inr (W.has i h1)
  ·exact .inl (by omega))
 fresh:=fun i hi=>by
  have hi:h.next+1<=i:=hi;rw[W.AEb o i,if_neg (by omega)];exact W.fresh i (by omega)
theorem Hp.Wf.put(W:h.Wf){b:Nat}(hb:b<h.next)(o:Blk):(h.put b o).Wf where
 big:=W.big
 has:=fun i hi=>BT.AFH (fun j hj=>W.has j (ACW hj hb)) i (.inr (W.has i hi))
 fresh:=fun i hi=>by
  have hi:h.next<=i:=hi;rw[W.AEq hb o i,if_neg (by omega)];exact W.fresh i hi
structure Hp.Ext (h h':Hp):Prop where
 next:h.next<=h'.next
 get:∀ i,i<h.next->h'.bl.get i=h.bl.get i
 low:min h.low h.next<=h'.low
 wf:h'.Wf
theorem Hp.Ext.refl(W:h.Wf):h.Ext h:=⟨IT _,fun _ _=>rfl,Nat.min_le_left _ _,W⟩
theorem Hp.Ext.trans{h₁ h₂ h₃:Hp}(a:h₁.Ext h₂)(b:h₂.Ext h₃):h₁.Ext h₃ where
 next:=yO a.next b.next
 get:=fun i hi=>by rw[b.get i (yr hi a.next),a.get i hi]
 low:=by have:=a.low;have:=b.low;have:=a.next;omega
 wf:=b.wf
theorem Hp.Ext.push(a:h.Ext h')(o:Blk):h.Ext (h'.push o) where
 next:=ABW a.next
 get:=fun i hi=>by rw[a.wf.AEb,if_neg (by have:=a.next;omega),a.get i hi]
 low:=a.low
 wf:=a.wf.push o
theorem Hp.Ext.put(a:h.Ext h'){b:Nat}(h1:h.next<=b)(hb:b<h'.next)(o:Blk):h.Ext (h'.put b o) where
 next:=a.next
 get:=fun i hi=>by rw[a.wf.AEq hb,if_neg (by omega),a.get i hi]
 low:=by
  show _<=B9 h'.low b;rw[BV];have:=a.low;omega
 wf:=a.wf.put hb o
def VT.Is(t:VT)(l:List IN):Prop:=∀ i,i<l.length->t.has i/\t.get i=l.getD i AEE
theorem EF:∀ (vs:List IN) (t:VT) (l:List IN) (i:Nat),t.Is l->i+vs.length<=l.length\/i=l.length->∃ t',Bt t i vs=some t'/\t'.Is (l.take i++vs++l.drop (i+vs.length))
 |[],t,l,i,ht,hi=>⟨t,rfl,by simpa using ht⟩
 |v::vs,t,l,i,ht,hi=>by
  have hi':i<=l.length:=by simp only[xP]at hi;omega
  have hh:∀ j,j<i->t.has j:=fun j hj=>(ht j (by omega)).1
  have h1:(t.lay i v).Is (l.take i++[v]++l.drop (i+1)):=fun j hj=>by
   have hl:(l.take i).length=i:=by simp;omega
   refine⟨VT.AFH hh j ?_,?_⟩
   ·by_cases hji:j=i
    ·exact .inl hji
    ·right
     refine(ht j ?_).1;simp only[No,xP,yM,yd,yE]at hj;omega
   ·rw[VT.AFB hh]
    by_cases hji:j=i
    ·rw[if_pos hji,hji,xN,xp,xn (by omega)]
     simp[hl]
    ·rw[if_neg hji]
     have hjl:j<l.length:=by
      simp only[No,xP,yM,yd,yE]at hj;omega
     rw[(ht j hjl).2,xN,xN]
     congr 1
     rcases xx j i with h2|h2
     ·rw[xp,List.getElem?_append_left (by omega),AAE,if_pos h2]
     ·rw[xn (by simp only[No,hl,xP,yM];omega),AAj]
      congr 1
      simp only[No,hl,xP,yM];omega
  have hlen:(l.take i++[v]++l.drop (i+1)).length=max l.length (i+1):=by
   simp only[No,xP,yM,yd,yE];omega
  obtain⟨t',h2,h3⟩:=EF vs (t.lay i v) _ (i+1) h1 (by simp only[xP]at hi;omega);refine⟨t',?_,?_⟩
  ·show(match t.set i v with|some t'=>Bt t' (xM i) vs|none=>none)=_
   rw[VT.AEt hh];exact h2
  ·have e:(l.take i++[v]++l.drop (i+1)).take (i+1)++vs++(l.take i++[v]++l.drop (i+1)).drop (i+1+vs.length)=l.take i++(v::vs)++l.drop (i+(v::vs).length):=by
    have hl:(l.take i++[v]).length=i+1:=by simp;omega
    rw[List.take_left' hl];have e2:i+1+vs.length=(l.take i++[v]).length+vs.length:=by rw[hl]
    rw[e2,List.drop_length_add_append,List.drop_drop];have e3:i+1+vs.length=i+(v::vs).length:=by simp only[xP];omega
    rw[e3];simp
   rw[e]at h3;exact h3
theorem vD:VT.mt.Is []:=fun i h=>by cases h
def ofL(l:List IN):VT:=(Bt .mt 0 l).getD .mt
theorem Hi(l:List IN):Bt .mt 0 l=some (ofL l)/\(ofL l).Is l:=by
 obtain⟨t',h1,h2⟩:=EF l .mt [] 0 vD (.inr rfl);unfold ofL;rw[h1];refine⟨rfl,?_⟩
 simpa using h2
theorem VT.Is.of{t:VT}{l:List IN}(h:Bt .mt 0 l=some t):t.Is l:=by
 have:=Hi l;rw[h]at this;rw[Option.some.inj this.1];exact this.2
def Hp.Row(h:Hp)(b el:Nat)(l:List IN):Prop:=∃ c,h.bl.get b=.cells c l.length el/\c.Is l
def Hp.AEA(h:Hp)(el:Nat)(l:List IN):Hp:=h.push (.cells (ofL l) l.length el)
theorem C3(W:h.Wf){el:Nat}{l:List IN}{K:Nat->Hp->R}:newRow h el l K=K h.next (h.AEA el l):=by
 unfold newRow;rw[(Hi l).1];show CX h el (ofL l) (BB l) K=_;unfold CX;rw[Ao,C2 W,Bf];rfl
theorem Hp.Row.lt(W:h.Wf){b el:Nat}{l:List IN}(r:h.Row b el l):b<h.next:=by
 obtain⟨c,hc,_⟩:=r;rcases xx b h.next with h1|h1
 ·exact h1
 ·rw[W.fresh b h1]at hc;cases hc
theorem Hp.Row.new(W:h.Wf)(el:Nat)(l:List IN):(h.AEA el l).Row h.next el l:=⟨ofL l,by unfold Hp.AEA;rw[W.AEb,if_pos rfl],(Hi l).2⟩
theorem Hp.Row.ext{b el:Nat}{l:List IN}(r:h.Row b el l)(W:h.Wf)(x:h.Ext h'):h'.Row b el l:=by
 have:=r.lt W;obtain⟨c,hc,hl⟩:=r;exact⟨c,(x.get b this).trans hc,hl⟩
theorem Hp.Row.push{b el:Nat}{l:List IN}(r:h.Row b el l)(W:h.Wf)(o:Blk):(h.push o).Row b el l:=r.ext W ((Hp.Ext.refl W).push o)
theorem Hp.Ext.AEA(a:h.Ext h')(el:Nat)(l:List IN):h.Ext (h'.AEA el l):=a.push _
theorem Hp.Row.rowOf{b el:Nat}{l:List IN}(r:h.Row b el l):∃ c,rowOf h b=.ok c l.length el/\c.Is l:=by
 obtain⟨c,hc,hl⟩:=r;exact⟨c,by unfold Go.Proofs.YtbjadbhkogcfeaaGreat.rowOf;rw[hc];rfl,hl⟩
theorem Hp.Row.AEF{b el off:Nat}{l:List IN}(r:h.Row b el l)(ho:off<l.length):AEF ⟨b,off,none⟩ h=.ok (l.getD off AEE) h:=by
 obtain⟨c,hc,hl⟩:=r.rowOf;unfold Go.Proofs.YtbjadbhkogcfeaaGreat.AEF;simp only[hc];rw[BW.2 ho];simp only[BK,(hl off ho).2]
theorem Is.AFU{c:VT}{l:List IN}(hl:c.Is l)(off n:Nat)(ho:off+n<=l.length):AFU c off n=(l.drop off).take n:=by
 refine List.ext_getElem? fun i=>?_
 unfold Go.Proofs.YtbjadbhkogcfeaaGreat.AFU;rw[List.getElem?_map,AAE,AAj];by_cases hi:i<n
 ·rw[if_pos hi,List.getElem?_range hi]
  have:=(hl (off+i) (by omega)).2;rw[xN,xL (by omega)]at this;show some (c.get (off+i))=_;rw[this,xL (by omega)];rfl
 ·rw[if_neg hi,List.getElem?_eq_none (by simpa using hi)];rfl
theorem Hp.Row.loadN{b el off n:Nat}{l:List IN}(r:h.Row b el l)(ho:off+n<=l.length):loadN n ⟨b,off,none⟩ h=.ok (.agg ⟨(l.drop off).take n⟩) h:=by
 obtain⟨c,hc,hl⟩:=r.rowOf;unfold Go.Proofs.YtbjadbhkogcfeaaGreat.loadN;simp only[hc,zC];rw[Au.2 ho];simp only[cond_true,F2,xZ,Is.AFU hl off n ho]
theorem Hp.Row.src{b el off n c:Nat}{l:List IN}(r:h.Row b el l)(ho:off+n<=l.length){sl:Nat}{k:List IN->R}:BO h 1 (.slice (some ⟨b,off,none⟩) sl c) n k=k ((l.drop off).take n):=by
 obtain⟨cc,hc,hl⟩:=r.rowOf;unfold BO;simp only[hc];have e:yK n 1=n:=AAN n;rw[e];simp only[zC];rw[Au.2 ho];simp only[cond_true,F2,xZ,Is.AFU hl off n ho]
def Hp.wr(h:Hp)(b off:Nat)(vs:List IN):Hp:=match rowOf h b with
 |.ok c s e=>h.put b (.cells ((Bt c off vs).getD c) s e)
 |.no=>h
def over(l:List IN)(off:Nat)(vs:List IN):List IN:=l.take off++vs++l.drop (off+vs.length)
theorem RC{l vs:List IN}{off:Nat}(ho:off+vs.length<=l.length):(over l off vs).length=l.length:=by
 unfold over;simp only[No,yE,yd];omega
theorem Hp.Row.AFN{b el off:Nat}{l vs:List IN}(r:h.Row b el l)(ho:off+vs.length<=l.length):∃ c,c.Is (over l off vs)/\h.wr b off vs=h.put b (.cells c (over l off vs).length el)/\
  ∀ (W:h.Wf) (AEM:256<=b) (h1:Bb vs=true) (K:Hp->R),Cw ⟨b,off,none⟩ vs h K=K (h.wr b off vs):=by
 obtain⟨c,hc,hl⟩:=r.rowOf;obtain⟨c',h2,h3⟩:=EF vs c l off hl (.inl ho);have e:h.wr b off vs=h.put b (.cells c' l.length el):=by
  unfold Hp.wr;rw[hc];simp only[h2,Option.getD_some]
 refine⟨c',h3,by rw[RC ho];exact e,fun W AEM h1 K=>?_⟩;unfold Cw;simp only[hc,zC];rw[Bf,Au.2 ho,h1];simp only[cond_true,h2];rw[e,ED W AEM (r.lt W)]
theorem Hp.Row.store{b el off:Nat}{l vs:List IN}(r:h.Row b el l)(W:h.Wf)(AEM:256<=b)(ho:off+vs.length<=l.length)(h1:Bb vs=true)(K:Hp->R):Cw ⟨b,off,none⟩ vs h K=K (h.wr b off vs):=by
 obtain⟨_,_,_,h4⟩:=r.AFN ho;exact h4 W AEM h1 K
theorem Hp.Row.AEP{b el off:Nat}{l vs:List IN}(r:h.Row b el l)(W:h.Wf)(ho:off+vs.length<=l.length):(h.wr b off vs).Row b el (over l off vs):=by
 obtain⟨c,h3,e,_⟩:=r.AFN ho;exact⟨c,by rw[e,W.AEq (r.lt W),if_pos rfl],h3⟩
theorem Hp.Row.AFK{b el off b' el':Nat}{l vs l':List IN}(r:h.Row b el l)(W:h.Wf)(ho:off+vs.length<=l.length)(r':h.Row b' el' l')(hb:b'≠b):(h.wr b off vs).Row b' el' l':=by
 obtain⟨c,h3,e,_⟩:=r.AFN ho;obtain⟨c',hc',hl'⟩:=r';exact⟨c',by rw[e,W.AEq (r.lt W),if_neg hb,hc'],hl'⟩
theorem Hp.Row.AEi{h0:Hp}{b el off:Nat}{l vs:List IN}(r:h.Row b el l)(x:h0.Ext h)(hb:h0.next<=b)(ho:off+vs.length<=l.length):h0.Ext (h.wr b off vs):=by
 obtain⟨c,h3,e,_⟩:=r.AFN ho;rw[e];exact x.put hb (r.lt x.wf) _
theorem Hp.Row.AEr{b el off:Nat}{l vs:List IN}(r:h.Row b el l)(ho:off+vs.length<=l.length):(h.wr b off vs).next=h.next:=by
 obtain⟨c,h3,e,_⟩:=r.AFN ho;rw[e];rfl
def He(v:IN)(h:Hp):R:=match Ds v with
 |.ok a=>AEF a h
 |.no=>.no
theorem AM:AO x F e h=He (x e) h:=by
 unfold AO He;cases Ds (x e)<;>rfl
theorem AP{a:ABy}:He (.pointer (some a)) h=AEF a h:=rfl
def KY(n:Nat)(v:IN)(h:Hp):R:=match Ds v with
 |.ok a=>loadN n a h
 |.no=>.no
theorem Ar{n:Nat}:BM n x F e h=KY n (x e) h:=rfl
theorem Aj{n:Nat}{a:ABy}:KY n (.pointer (some a)) h=loadN n a h:=rfl
def AEK(n:Nat)(p v:IN)(h:Hp):R:=match Ds p with
 |.ok a=>bif xW (BB (cellsOf v)) n then Cw a (cellsOf v) h Dv else .no
 |.no=>.no
theorem AX{n:Nat}:Ai n x y F e h=AEK n (x e) (y e) h:=by
 unfold Ai AEK;simp only[BK];cases Ds (x e)<;>rfl
theorem Hp.Row.AEK{n b el off:Nat}{l:List IN}{v:IN}(r:h.Row b el l)(W:h.Wf)(AEM:256<=b)(hn:(cellsOf v).length=n)(ho:off+(cellsOf v).length<=l.length)(h1:Bb (cellsOf v)=true):
  AEK n (.pointer (some ⟨b,off,none⟩)) v h=.ok AEE (h.wr b off (cellsOf v)):=by
 show(bif xW (BB (cellsOf v)) n then Cw ⟨b,off,none⟩ (cellsOf v) h Dv else .no)=_;rw[Bf,Ax.2 hn,r.store W AEM ho h1];rfl
def eB(v:IN)(h:Hp):R:=bif known v then newRow h 0 (cellsOf v) It else .no
theorem Ew:CZ x F e h=eB (x e) h:=by
 unfold CZ eB;simp only[BK]
theorem Et(W:h.Wf){v:IN}(hk:known v=true:=by rfl):eB v h=.ok (.pointer (some ⟨h.next,0,none⟩)) (h.AEA 0 (cellsOf v)):=by
 unfold eB;rw[hk,cond_true,C3 W];rfl
theorem BQ(W:h.Wf){n:Nat}{t:VT}:Bc n t F e h=.ok (.pointer (some ⟨h.next,0,none⟩)) (h.push (.cells t n 0)):=by
 unfold Bc;rw[C2 W];rfl
theorem Hp.Row.alloc(W:h.Wf){n:Nat}{t:VT}{l:List IN}(ht:Bt .mt 0 l=some t)(hn:l.length=n):(h.push (.cells t n 0)).Row h.next 0 l:=⟨t,by rw[W.AEb,if_pos rfl,hn],.of ht⟩
theorem NP{n:Nat}:AE n x F e h=match Ds (x e)with|.ok a=>.ok (.pointer (some ⟨a.block,a.off+n,none⟩)) h|.no=>.no:=by
 unfold AE;cases Ds (x e)with
 |ok a=>exact Ao _ _
 |no=>rfl
def Uu(n:Nat)(v:IN)(h:Hp):R:=match Ds v with
 |.ok a=>.ok (.pointer (some ⟨a.block,a.off+n,none⟩)) h
 |.no=>.no
theorem AH{n:Nat}:AE n x F e h=Uu n (x e) h:=NP
theorem AN{n b off:Nat}:Uu n (.pointer (some ⟨b,off,none⟩)) h=.ok (.pointer (some ⟨b,off+n,none⟩)) h:=rfl
def NM(n es:Nat)(p i:IN)(h:Hp):R:=MT n es (Ds p) (DG i) h
theorem DM{n es:Nat}:Cd n es x y F e h=NM n es (x e) (y e) h:=rfl
theorem VL{n es b off i:Nat}(hi:i<n):MT n es (.ok ⟨b,off,none⟩) (.ok i) h=.ok (.pointer (some ⟨b,off+i*es,none⟩)) h:=by
 show Bool.rec (motive:=fun _=>R) .no (OE ⟨b,off,none⟩ (yK i es) h) (ye i n)=_;rw[BW.2 hi];exact Ao _ _
theorem VO{n es b off i:Nat}{k:xc}(hi:i<n):NM n es (.pointer (some ⟨b,off,none⟩)) (.int k (i:Int)) h=.ok (.pointer (some ⟨b,off+i*es,none⟩)) h:=VL hi
def AE6(es:Nat)(s i:IN)(h:Hp):R:=match s with
 |.slice (some a) n _=>MT n es (.ok a) (DG i) h
 |_=>.no
theorem A8{es:Nat}:CF es x y F e h=AE6 es (x e) (y e) h:=rfl
theorem DT{n c es b off i:Nat}{k:xc}(hi:i<n):AE6 es (.slice (some ⟨b,off,none⟩) n c) (.int k (i:Int)) h=.ok (.pointer (some ⟨b,off+i*es,none⟩)) h:=VL hi
def AEv(v:IN)(h:Hp):R:=match v with
 |.slice _ n _=>.ok (AI AT (.ofNat n)) h
 |.chan (some _)=>.ok (AI AT (.ofNat 0)) h
 |_=>.no
theorem Ae:Bg x F e h=AEv (x e) h:=rfl
theorem Df{o:Option ABy}{n c:Nat}:AEv (.slice o n c) h=.ok (AI AT (n:Int)) h:=rfl
end
end
noncomputable section
open Go
section
variable {F:AEB}{e:Env}{h h':Hp}{x y:O}
def Ur:X->Bool
 |.norm _ _=>false
 |.no=>false
 |_=>true
theorem Qb{body:C}{I:Nat->Env->Hp->Prop}{Q:X->Prop}(N:Nat)
  (step:∀ i e h,I i e h->(i<N/\∃ e' h',body F e h=.norm e' h'/\I (i+1) e' h')\/(Ur (body F e h)=true/\Q (body F e h))):
  ∀ n i e h,N - i<n->I i e h->Q (iter body n F e h)
 |0,i,e,h,hn,_=>absurd hn (Nat.not_lt_zero _)
 |n+1,i,e,h,hn,hi=>by
  unfold iter;rcases step i e h hi with ⟨h1,e',h',h2,h3⟩|⟨h1,h2⟩
  ·rw[h2]
   exact Qb N step n (i+1) e' h' (by omega) h3
  ·cases hb:body F e h with
   |norm e' h'=>rw[hb]at h1;cases h1
   |no=>rw[hb]at h1;cases h1
   |exit i e' h'=>rw[hb]at h2;exact h2
   |ret e' h'=>rw[hb]at h2;exact h2
theorem Be{body:C}(I:Nat->Env->Hp->Prop)(Q:X->Prop)(N:Nat)(hN:N<8796093022208)
  (step:∀ i e h,I i e h->(i<N/\∃ e' h',body F e h=.norm e' h'/\I (i+1) e' h')\/(Ur (body F e h)=true/\Q (body F e h)))(h0:I 0 e h):Q (A6 body F e h):=
 Qb N step rounds 0 e h (by show N - 0<8796093022208;omega) h0
theorem Bj{n:Nat}(h:n<=9223372036854775807):zU.wrap (n:Int)=n:=Ht h
theorem ch{n:Int}(h0:0<=n)(h:n<=9223372036854775807):zU.wrap n=n:=by
 obtain⟨m,rfl⟩:=Int.eq_ofNat_of_zero_le h0;exact Ht (by omega)
theorem EY{n:Nat}(h:n<=18446744073709551615):IntKind.u64.wrap (n:Int)=n:=DN .u64 n h
theorem IK(n:Nat):ABq.wrap (n:Int)=((n % 256:Nat):Int):=by
 have:ABq.wrap (n:Int)=(n:Int) % 256:=rfl;rw[this];omega
def bv(n:Nat):IN:=.int .u8 (n:Int)
theorem Lw:∀ l:List Nat,Eu (l.map bv)=some (l.map AAH)
 |[]=>rfl
 |n::l=>by
  show(match Eu (l.map bv)with|some bs=>AEV n fun n=>some (AAH n::bs)|none=>none)=_;rw[Lw l];exact Ao _ _
theorem DW:∀ l:List Nat,Bb (l.map bv)=true
 |[]=>rfl
 |n::l=>DW l
def Hp.Bytes(h:Hp)(v:IN)(l:List Nat):Prop:=(v=.slice none 0 0/\l=[])\/∃ b off c el L,v=.slice (some ⟨b,off,none⟩) l.length c/\h.Row b el L/\off+l.length<=L.length/\(L.drop off).take l.length=l.map bv
theorem Hp.Bytes.src{v:IN}{l:List Nat}(b:h.Bytes v l){n:Nat}(hn:n=l.length)(k:List IN->R):BO h 1 v n k=k (l.map bv):=by
 subst hn;rcases b with ⟨h1,h2⟩|⟨b,off,c,el,L,h1,h2,h3,h4⟩
 ·rw[h1,h2];rfl
 ·rw[h1,h2.src h3,h4]
theorem Hp.Bytes.shape{v:IN}{l:List Nat}(b:h.Bytes v l):∃ a c,v=.slice a l.length c:=by
 rcases b with ⟨h1,h2⟩|⟨b,off,c,el,L,h1,h2,h3,h4⟩
 ·exact⟨none,0,by rw[h1,h2];rfl⟩
 ·exact⟨_,_,h1⟩
def wK(v:IN)(h:Hp):R:=match v with
 |.slice a n c=>BO h 1 (.slice a n c) n fun cs=>match Eu cs with
  |some bs=>.ok (.string ⟨⟨bs⟩⟩) h
  |none=>.no
 |_=>.no
theorem Ke:Fe x F e h=wK (x e) h:=rfl
theorem Hp.Bytes.str{v:IN}{l:List Nat}(b:h.Bytes v l):wK v h=.ok (.string ⟨⟨l.map AAH⟩⟩) h:=by
 obtain⟨a,c,rfl⟩:=b.shape;show BO h 1 (.slice a l.length c) l.length (fun cs=>match Eu cs with
  |some bs=>.ok (.string ⟨⟨bs⟩⟩) h
  |none=>.no)=_
 rw[b.src rfl,Lw]
def uq(f:List UInt8->List UInt8->Bool)(a b:IN)(h:Hp):R:=cJ f a b h
theorem PG{f:List UInt8->List UInt8->Bool}:Jg f x y F e h=uq f (x e) (y e) h:=rfl
theorem Oe{f:List UInt8->List UInt8->Bool}{a b:List UInt8}:uq f (.string ⟨⟨a⟩⟩) (.string ⟨⟨b⟩⟩) h=.ok (.bool (f a b)) h:=FC
theorem jy{v:IN}{l:List Nat}(b:h.Bytes v l):lenV v=.ok l.length:=by
 obtain⟨a,c,rfl⟩:=b.shape;rfl
theorem Pj{eb en b n c el:Nat}{l:List IN}{v:IN}(W:h.Wf)(AEM:256<=b)(r:h.Row b el l)(hx:h.Bytes v [])(hc:n<=c)(hn:n<=l.length):
  Dl 1 eb en (.slice (some ⟨b,0,none⟩) n c) v h=.ok (.slice (some ⟨b,0,none⟩) n c) (h.wr b n []):=by
 unfold Dl;simp only[jy hx,hx.src rfl,Ao,zC];have e1:xU n c=true:=Au.2 hc;have e0:n+([]:List Nat).length=n:=rfl;simp only[e0,e1,List.map_nil];have e2:FB ⟨b,0,none⟩ (yK n 1)=⟨b,n,none⟩:=by
  rw[show yK n 1=n from AAN n];cases n with
  |zero=>rfl
  |succ n=>show(⟨b,zA 0 (xM n),none⟩:ABy)=_;rw[zC,OF]
 rw[e2,r.store W AEM (by simpa using hn) rfl]
def DO(es eb en:Nat)(s v:IN)(h:Hp):R:=Dl es eb en s v h
theorem BL{es eb en:Nat}:Bo es eb en x y F e h=DO es eb en (x e) (y e) h:=rfl
theorem Bx{cs:List IN}{k:List IN->R}:EZ cs e k []=k cs:=Cb _ _
theorem A1{cs:List IN}{k:List IN->R}{off size:Nat}{rest:List (Nat×Nat×O)}(hk:known (x e)=true:=by rfl):EZ cs e k ((off,size,x)::rest)=(if(cellsOf (x e)).length=size then(if off+size<=cs.length then EZ (over cs off (cellsOf (x e))) e k rest else .no)else .no):=by
 have e0:EZ cs e k ((off,size,x)::rest)=(bif known (x e)then(bif xW (BB (cellsOf (x e))) size then(bif xU (zA off size) (BB cs)then EZ (lay cs off (cellsOf (x e))) e k rest else .no)else .no)else .no):=BK _ _;have e1:EZ cs e k ((off,size,x)::rest)=(bif xW (BB (cellsOf (x e))) size then(bif xU (zA off size) (BB cs)then EZ (lay cs off (cellsOf (x e))) e k rest else .no)else .no):=by rw[e0,hk];rfl
 rw[e1,Bf,Bf,AEt];by_cases h1:(cellsOf (x e)).length=size
 ·rw[if_pos h1,Ax.2 h1]
  by_cases h2:off+size<=cs.length
  ·rw[if_pos h2,show xU (zA off size) cs.length=true from Au.2 h2];rfl
  ·rw[if_neg h2]
   have:xU (zA off size) cs.length=false:=by
    cases e:xU (zA off size) cs.length
    ·rfl
    ·exact absurd (Au.1 e) h2
   rw[this];rfl
 ·rw[if_neg h1]
  have:xW (cellsOf (x e)).length size=false:=by
   cases e:xW (cellsOf (x e)).length size
   ·rfl
   ·exact absurd (Ax.1 e) h1
  rw[this];rfl
theorem Co{k:xc}{n:Int}:cellsOf (.int k n)=[.int k n]:=rfl
theorem Ff{l vs:List IN}(hl:l.length=vs.length):over l 0 vs=vs:=by
 unfold over;rw[List.take_zero,yP,yw (by omega),xZ]
theorem Cr{zero:List IN}{ps:List (Nat×Nat×O)}:BU zero ps F e h=EZ zero e (fun cs=>.ok (.agg ⟨cs⟩) h) ps:=rfl
theorem CM{n:Nat}{zero:List IN}{ps:List (Nat×Nat×O)}:As n zero ps F e h=EZ zero e (fun cs=>newRow h 0 cs (GK n n)) ps:=rfl
def Hp.marked(h:Hp):Hp:={next:=h.next,low:=h.low,high:=h.high,mark:=h.next,bl:=h.bl}
def Hp.quiet(h:Hp):Hp:={next:=h.next,low:=h.next,high:=0,mark:=h.mark,bl:=h.bl}
def Hp.back(h h':Hp):Hp:={next:=h'.next,low:=B9 h.low h'.low,high:=Cv h.high h'.high,mark:=h.mark,bl:=h'.bl}
theorem Ay{k:C}:B6 k F e h=k F e h.marked:=rfl
theorem Hp.Wf.marked(W:h.Wf):h.marked.Wf:=⟨W.big,W.has,W.fresh⟩
theorem Hp.Wf.quiet(W:h.Wf):h.quiet.Wf:=⟨W.big,W.has,W.fresh⟩
theorem Hp.Ext.marked{h0:Hp}(x:h0.Ext h):h0.Ext h.marked:=⟨x.next,x.get,x.low,x.wf.marked⟩
theorem Hp.Row.same{b el:Nat}{l:List IN}(r:h.Row b el l)(hb:h'.bl=h.bl):h'.Row b el l:=by
 obtain⟨c,hc,hl⟩:=r;exact⟨c,by rw[hb];exact hc,hl⟩
theorem Hp.Ext.back(x:h.quiet.Ext h'):h.Ext (h.back h') where
 next:=x.next
 get:=x.get
 low:=by
  show _<=B9 h.low h'.low;rw[BV];have h1:min h.next h.next<=h'.low:=x.low;omega
 wf:=⟨x.wf.big,x.wf.has,x.wf.fresh⟩
theorem Ci{f:OpF}{m:Qm}{v:IN}(hf:f F e h.quiet=.ok v h')(x:h.quiet.Ext h')(hm:h.mark<=h.next):Ad m f F e h=.ok v (h.back h'):=by
 have h1:min h.next h.next<=h'.low:=x.low;have hq:qOk m h h'.low=true:=by
  cases m with
  |AER=>exact Au.2 (by omega)
  |weak=>exact Au.2 (by omega)
  |free=>rfl
 show(match f F e h.quiet with|.ok v h'=>bif qOk m h h'.low then Dd h v h' else .no|.no=>.no)=_;rw[hf];simp only[hq,cond_true];unfold Dd;simp only[Ao];rfl
theorem BI{f:OpF}{v:IN}(hf:f F e h.quiet=.ok v h'):Ad .free f F e h=.ok v (h.back h'):=by
 show(match f F e h.quiet with|.ok v h'=>bif qOk .free h h'.low then Dd h v h' else .no|.no=>.no)=_;rw[hf];show Dd h v h'=_;unfold Dd;simp only[Ao];rfl
def Ir(v:IN)(k:C)(F:AEB)(e:Env)(h:Hp):X:=match AEl v with
 |.ok b=>bif ye b h.mark then k F e h else .no
 |.no=>k F e h
theorem D4{k:C}:EJ x k F e h=Ir (x e) k F e h:=rfl
theorem Dh{b off:Nat}{k:C}(hb:b<h.mark):Ir (.pointer (some ⟨b,off,none⟩)) k F e h=k F e h:=by
 show(bif ye b h.mark then k F e h else .no)=_;rw[BW.2 hb];rfl
theorem DP{k:C}:Cf x [] k F e h=k F e h:=by
 unfold Cf;cases AEl (x e)<;>rfl
theorem Hp.Ext.quiet{h0:Hp}(x:h0.Ext h):h0.Ext h.quiet:=⟨x.next,x.get,by show _<=h.next;have:=x.next;omega,x.wf.quiet⟩
theorem Hp.Ext.AFI{h0:Hp}(x:h0.Ext h)(y:h0.Ext h'):h0.Ext (h.back h') where
 next:=y.next
 get:=y.get
 low:=by
  show _<=B9 h.low h'.low;rw[BV];have:=x.low;have:=y.low;omega
 wf:=⟨y.wf.big,y.wf.has,y.wf.fresh⟩
end
end
noncomputable section
open Go Go.RowKit Go.WideShapes Go.ChangeShapes
def sliceAt(b:Nat)(a:ABy)(n c:Nat):Phi:=fun i=>if i=b then some {blk:=a.block,off:=a.off,sz:=c,room:=c,es:=1,inp:=true}else none
theorem YO{P:yg}{W:yJ}{base t e:Nat}{v:IN}(ht:P.underlying t=some (.slice e))(h:AAB P W .any base t v):
  v=.slice none 0 0\/∃ a n c,v=.slice (some a) n c/\n<=c/\a.spot=none/\a.block<W.heap.size:=by
 unfold AAB at h;rw[ht]at h;simp only at h;unfold ADm at h;rw[ht]at h;have h:Cell.ok P W .any base t v:=by cases v<;>exact h
 unfold Cell.ok at h;rw[ht]at h;split at h<;>first|(exact h.elim;done)|skip
 all_goals (rename_i e1 _;cases e1)
 ·exact .inl rfl
 ·obtain⟨h1,_,h2⟩:=h
  obtain⟨_,h3,row,cells,h4,_⟩:=h2;refine .inr ⟨_,_,_,rfl,h1,h3,?_⟩;unfold World.shape? at h4;split at h4
  ·rename_i hb;exact(zc.1 hb).1
  all_goals first|(cases h4;done)|(rename_i hb;exact(zc.1 hb).1)
theorem Th{P:yg}{W:yJ}{base t e:Nat}{v:IN}(ht:P.underlying t=some (.slice e))(h:ADm P W .any base t v):
  v=.slice none 0 0\/∃ a n c,v=.slice (some a) n c/\n<=c/\a.spot=none/\a.block<W.heap.size:=
 YO (base:=base) ht (by unfold AAB;rw[ht];exact h)
end
noncomputable section
open Go Go.RowKit Go.WideShapes Go.ChangeShapes
theorem jq{P:yg}{ty:TTy}{bs:FT}(hC:∀ n,DJ P ty (call bs n)){n f:Nat}{xs args:List IN}{φ:Phi}{w:yJ}{h0 h':Hp}(hr:call bs n f xs h0=.ok (.bool true) h')(x:h0.Ext h')(hl:h0.low=h0.next)
  (ha:AEX φ xs args)(H:AEI ty φ nil h0 w):Calls P f ⟨args⟩ w fun e w'=>e=.returned (.bool true)/\Below w.heap.size w w':=by
 obtain⟨_,hc⟩:=hC n f xs h0 _ h' hr;refine(hc φ w args ha H).mono fun e w' ⟨v',ψ,he,hv,_,ev⟩=>?_
 have:=hv.AE4;subst this;refine⟨he,⟨ev.os,ev.tape,ev.output,ev.size,fun k hk=>ev.frame k hk fun i p hp hn h1 _ _=>?_⟩⟩;have h2:=(H.dom i p hp).1;have h3:=x.low;omega
theorem Nm:∀ (n i:Nat),i+1<2 ^ n->(FY n).has i
 |0,i,h=>by rw[Nat.pow_zero]at h;omega
 |n+1,0,_=>trivial
 |n+1,k+1,h=>by
  show(BT.nd .dead (FY n) (FY n)).has (k+1);rw[BT.AEL];have h1:k/2+1<2 ^ n:=by
   have:2 ^ (n+1)=2*2 ^ n:=by rw[ADh,zW]
   omega
  split<;>exact Nm n _ h1
def Kz(L:List IN):Blk:=.cells (ofL L) L.length 0
def inB:List (List IN)->Nat->BT->BT
 |[],_,t=>t
 |L::Ls,i,t=>inB Ls (i+1) (t.lay i (Kz L))
theorem Ot:∀ (Ls:List (List IN)) (i:Nat) (t:BT),(∀ j,j<256->t.has j)->i+Ls.length<=256->
  (∀ j,j<256->(inB Ls i t).has j)/\(∀ k L,Ls[k]? =some L->(inB Ls i t).get (i+k)=Kz L)/\(∀ j,j<i\/i+Ls.length<=j->(inB Ls i t).get j=t.get j)
 |[],i,t,ht,_=>⟨ht,(fun k L h=>by cases h),fun _ _=>rfl⟩
 |L::Ls,i,t,ht,hl=>by
  have hl':i+1+Ls.length<=256:=by simp only[xP]at hl;omega
  have hi:∀ j,j<i->t.has j:=fun j hj=>ht j (by omega)
  obtain⟨a,b,c⟩:=Ot Ls (i+1) (t.lay i (Kz L)) (fun j hj=>BT.AFH hi j (.inr (ht j hj))) hl';refine⟨a,fun k M h=>?_,fun j hj=>?_⟩
  ·cases k with
   |zero=>
    obtain rfl:L=M:=Option.some.inj h;show(inB Ls (i+1) (t.lay i (Kz L))).get i=_;rw[c i (.inl (Nat.lt_succ_self i)),BT.AFB hi,if_pos rfl]
   |succ k=>
    have:=b k M h;rw[show i+1+k=i+(k+1)by omega]at this;exact this
  ·show(inB Ls (i+1) (t.lay i (Kz L))).get j=_
   simp only[xP]at hj;rw[c j (by omega),BT.AFB hi,if_neg (by omega)]
def inH(Ls:List (List IN)):Hp:={next:=256,low:=256,high:=0,mark:=256,bl:=inB Ls 0 (FY 9)}
theorem MP(j:Nat)(hj:j<256):(FY 9).has j:=Nm 9 j (by omega)
theorem Ou{Ls:List (List IN)}(hl:Ls.length<=256){i:Nat}{L:List IN}(h:Ls[i]? =some L):(inH Ls).bl.get i=Kz L:=by
 have:=(Ot Ls 0 (FY 9) MP (by omega)).2.1 i L h
 rwa [OF]at this
theorem Zx{Ls:List (List IN)}(hl:Ls.length<=256):(inH Ls).Wf where
 big:=IT _
 has:=(Ot Ls 0 (FY 9) MP (by omega)).1
 fresh:=fun i hi=>by
  have hi:256<=i:=hi;have:=(Ot Ls 0 (FY 9) MP (by omega)).2.2 i (.inr (by omega));show(inB Ls 0 (FY 9)).get i=_;rw[this];exact KP 9 i
theorem LY{Ls:List (List IN)}(hl:Ls.length<=256){i:Nat}{L:List IN}(h:Ls[i]? =some L):(inH Ls).Row i 0 L:=⟨ofL L,Ou hl h,(Hi L).2⟩
def Ko(W:yJ)(a:ABy)(L:List IN):Prop:=∃ cs t fr,W.heap[a.block]? =some (.cells cs t fr)/\(∀ j,j<L.length->cs[a.off+j]? =some (L.getD j AEE))/\∀ j,j<L.length->¬ (fr.1<=a.off+j/\a.off+j<fr.2)
def PM(a:ABy)(c:Nat):Pl:={blk:=a.block,off:=if c=0 then 0 else a.off,sz:=c,room:=c,es:=1,inp:=true}
def MU(ps:List (Option Pl)):Phi:=fun i=>(ps[i]?).getD none
theorem bV{W:yJ}{ty:TTy}{φ:Phi}{a:ABy}{L L':List IN}(h:Ko W a L')(hL:AEX φ L L'):AFC ty φ (PM a L.length) (Kz L) W.heap[a.block]?:=by
 obtain⟨cs,t,fr,hb,hc,hf⟩:=h;have hlen:L'.length=L.length:=hL.length;rw[hlen]at hc hf;rw[hb];refine .cells {kind:=⟨rfl,.inl ⟨rfl,rfl,rfl,.inr rfl⟩⟩,room:=IT _,fits:=?_,loose:=.inr ⟨rfl,rfl,fun o h1 h2=>?_⟩,cell:=fun j hj=>?_}
 ·show(if L.length=0 then 0 else a.off)+L.length<=cs.size
  rcases yV L.length with h0|h0
  ·rw[if_pos h0,h0];exact Nat.zero_le _
  ·rw[if_neg (by omega)]
   have:=(zc.1 (hc (L.length - 1) (by omega))).1;omega
 ·have h1:(if L.length=0 then 0 else a.off)<=o:=h1
  have h2:o<(if L.length=0 then 0 else a.off)+L.length:=h2;rcases yV L.length with h0|h0
  ·rw[if_pos h0]at h2;omega
  ·rw[if_neg (by omega)]at h1 h2
   have:=hf (o - a.off) (by omega);have e:a.off+(o - a.off)=o:=by omega
   rw[e]at this;exact this
 ·have h1:=hc j hj
  obtain⟨v',hv1,hv2⟩:=hL.get j (L.getD j AEE) (by rw[xN,xL hj];rfl);refine⟨v',?_,?_⟩
  ·show cs[(if L.length=0 then 0 else a.off)+j]? =_
   rw[if_neg (by omega),h1,xN,hv1];rfl
  ·rw[((Hi L).2 j hj).2];exact hv2
theorem Ko.lt{W:yJ}{a:ABy}{L:List IN}(h:Ko W a L):a.block<W.heap.size:=by
 obtain⟨cs,t,fr,hb,_⟩:=h;exact(zc.1 hb).1
theorem rC{W:yJ}{ty:TTy}{ps:List (Option Pl)}{Ls:List (List IN)}(AEM:Ls.length<=256)
  (h:∀ i p,MU ps i=some p->∃ a L,p=PM a L.length/\Ls[i]? =some L/\a.block<W.heap.size/\AFC ty (MU ps) (PM a L.length) (Kz L) W.heap[a.block]?):AEI ty (MU ps) nil (inH Ls) W where
 dom:=fun i p e=>by
  obtain⟨a,L,rfl,h1,h2,_⟩:=h i p e;have h3:=(xy.1 h1).1;exact⟨by show i<256;omega,h2⟩
 inj:=fun i j p q h1 h2 _ _ _ _ hor=>by
  obtain⟨a,L,rfl,_⟩:=h i p h1;obtain⟨b,M,rfl,_⟩:=h j q h2;rcases hor with h3|h3<;>cases h3
 row:=fun i p e _=>by
  obtain⟨a,L,rfl,h1,_,h3⟩:=h i p e;rw[Ou AEM h1];exact h3
 fresh:=(Zx AEM).fresh
 kind:=fun i p c s e hp hc=>by
  obtain⟨a,L,rfl,h1,_,h3⟩:=h i p hp;rw[Ou AEM h1]at hc;have hc:Blk.cells (ofL L) L.length 0=.cells c s e:=hc;cases hc;exact⟨rfl,.inl ⟨rfl,rfl,rfl,.inr rfl⟩⟩
 inp:=fun i p e _=>by
  obtain⟨a,L,rfl,h1,_⟩:=h i p e;have h3:=(xy.1 h1).1;omega
theorem wJ{φ:Phi}{a:ABy}{n c i:Nat}(hs:a.spot=none)(hn:n<=c)(hp:φ i=some (PM a c)):AED φ (.slice (some ⟨i,0,none⟩) n c) (.slice (some a) n c):=by
 refine .slice hn ⟨rfl,hs,_,hp,rfl,?_⟩;rcases yV c with h|h
 ·exact .inr ⟨h,.inl h⟩
 ·refine .inl ⟨h,?_,.inl rfl⟩
  show a.off=(if c=0 then 0 else a.off)+0;rw[if_neg (by omega),Nat.add_zero]
def ints(k:xc)(Z:List Int):List IN:=Z.map (.int k)
def wa(k:xc)(W:yJ)(v:IN)(zs:List Int):Prop:=(v=.slice none 0 0/\zs=[])\/∃ (a:ABy) (n c:Nat) (Z:List Int),v=.slice (some a) n c/\n<=c/\a.spot=none/\Z.length=c/\zs=Z.take n/\Ko W a (ints k Z)
def Hp.AEY(h:Hp)(v:IN)(xs:List IN):Prop:=(v=.slice none 0 0/\xs=[])\/∃ b off c el L,v=.slice (some ⟨b,off,none⟩) xs.length c/\h.Row b el L/\off+xs.length<=L.length/\(L.drop off).take xs.length=xs
def Ya(W:yJ)(L:List IN)(q:Option Pl):Prop:=q=none\/∃ a,q=some (PM a L.length)/\Ko W a L
end
noncomputable section
open Go Go.RowKit Go.ChangeShapes
theorem sT:type_of% (xY @Gp (xY @OX (xY @Gg (xY @Yy (xY @HJ (xY @BJ (xY @Az (xY @Ly (xY @UN (xY @Pt (xY @Gq (xY @ZZ (xY @Ie (xY @HL (xY @BD (xY @OI (xY @C7 (xY @C4 (xY @CJ (xY @A9 (xY @Dx (xY @HZ @AG)))))))))))))))))))))):=xY @Gp (xY @OX (xY @Gg (xY @Yy (xY @HJ (xY @BJ (xY @Az (xY @Ly (xY @UN (xY @Pt (xY @Gq (xY @ZZ (xY @Ie (xY @HL (xY @BD (xY @OI (xY @C7 (xY @C4 (xY @CJ (xY @A9 (xY @Dx (xY @HZ @AG)))))))))))))))))))))
theorem iN:type_of% (xY @Jp (xY @LB (xY @ACm @OF))):=xY @Jp (xY @LB (xY @ACm @OF))
theorem cA0:type_of% (xY @BN (xY @AV @A0)):=(xY @BN (xY @AV @A0))
theorem lV0:type_of% (xY @BE @QH):=(xY @BE @QH)
theorem gD:type_of% (xY @Sa (xY @Nt (xY @Ns (xY @Nr (xY @Nq (xY @Ky (xY @Rr (xY @Q5 (xY @Mw @K6))))))))):=xY @Sa (xY @Nt (xY @Ns (xY @Nr (xY @Nq (xY @Ky (xY @Rr (xY @Q5 (xY @Mw @K6))))))))
section
variable {F:AEB}{e:Env}{h h':Hp}{x y:O}
theorem Hp.AEY.ext{v:IN}{l:List IN}(b:h.AEY v l)(W:h.Wf)(x:h.Ext h'):h'.AEY v l:=by
 rcases b with h1|⟨b,off,c,el,L,h1,h2,h3⟩
 ·exact .inl h1
 ·exact .inr ⟨b,off,c,el,L,h1,h2.ext W x,h3⟩
theorem Hp.AEY.same{v:IN}{l:List IN}(b:h.AEY v l)(hb:h'.bl=h.bl):h'.AEY v l:=by
 rcases b with h1|⟨b,off,c,el,L,h1,h2,h3⟩
 ·exact .inl h1
 ·exact .inr ⟨b,off,c,el,L,h1,h2.same hb,h3⟩
theorem Hp.AEY.src{v:IN}{l:List IN}(b:h.AEY v l){n:Nat}(hn:n=l.length)(k:List IN->R):BO h 1 v n k=k l:=by
 subst hn;rcases b with ⟨h1,h2⟩|⟨b,off,c,el,L,h1,h2,h3,h4⟩
 ·rw[h1,h2];rfl
 ·rw[h1,h2.src h3,h4]
theorem Hp.AEY.shape{v:IN}{l:List IN}(b:h.AEY v l):∃ a c,v=.slice a l.length c:=by
 rcases b with ⟨h1,h2⟩|⟨b,off,c,el,L,h1,h2,h3,h4⟩
 ·exact⟨none,0,by rw[h1,h2];rfl⟩
 ·exact⟨_,_,h1⟩
theorem Hp.AEY.len{v:IN}{l:List IN}(b:h.AEY v l):AEv v h=.ok (AI AT (l.length:Int)) h:=by
 obtain⟨a,c,rfl⟩:=b.shape;rfl
theorem Hp.AEY.lenV{v:IN}{l:List IN}(b:h.AEY v l):lenV v=.ok l.length:=by
 obtain⟨a,c,rfl⟩:=b.shape;rfl
theorem Hp.AEY.at{v:IN}{l:List IN}(b:h.AEY v l){i:Nat}(hi:i<l.length):∃ a,AE6 1 v (AI AT (i:Int)) h=.ok (.pointer (some a)) h/\He (.pointer (some a)) h=.ok (l.getD i AEE) h:=by
 rcases b with ⟨h1,h2⟩|⟨b,off,c,el,L,h1,h2,h3,h4⟩
 ·rw[h2]at hi;cases hi
 ·refine⟨⟨b,off+i*1,none⟩,by rw[h1];exact DT hi,?_⟩
  rw[AP,h2.AEF (by omega)];have:=congrArg (fun m=>m[i]?) h4;simp only[AAE,AAj,if_pos hi]at this;rw[xN,AAN,this,xN]
theorem Hp.AEY.bytes{v:IN}{l:List Nat}(b:h.AEY v (l.map bv)):h.Bytes v l:=by
 rcases b with ⟨h1,h2⟩|⟨b,off,c,el,L,h1,h2,h3,h4⟩
 ·exact .inl ⟨h1,by cases l with
   |nil=>rfl
   |cons a l=>cases h2⟩
 ·rw[List.length_map]at h1 h3 h4
  exact .inr ⟨b,off,c,el,L,h1,h2,h3,h4⟩
theorem Hp.AEY.cut{v:IN}{l:List IN}(b:h.AEY v l){n:Nat}(hn:n<l.length):∃ o c,v=.slice (some o) l.length c/\h.AEY (.slice (some o) n c) (l.take n):=by
 rcases b with ⟨h1,h2⟩|⟨b,off,c,el,L,h1,h2,h3,h4⟩
 ·rw[h2]at hn;cases hn
 ·have hl:(l.take n).length=n:=by rw[yE];omega
  refine⟨⟨b,off,none⟩,c,h1,.inr ⟨b,off,c,el,L,by rw[hl],h2,by omega,?_⟩⟩;rw[hl,<- h4,List.take_take,Nat.min_eq_left (by omega)]
def AEe(v:IN)(b:Nat):Prop:=∃ off n c,v=.slice (some ⟨b,off,none⟩) n c
theorem GL{b:Nat}:¬ AEe (.slice none 0 0) b:=fun⟨_,_,_,h⟩=>by cases h
theorem LT{b b' n c:Nat}(h:b'≠b):¬ AEe (.slice (some ⟨b,0,none⟩) n c) b':=fun⟨_,_,_,e⟩=>by
 injection e with e _ _
 injection e with e
 injection e with e _ _
 exact h e.symm
def Hp.Own(h:Hp)(k en:Nat)(v:IN)(xs:List IN):Prop:=(v=.slice none 0 0/\xs=[])\/∃ b,v=.slice (some ⟨b,0,none⟩) xs.length xs.length/\h.Row b (en+1) xs/\k<=b/\256<=b
theorem Hp.Own.vals{k en:Nat}{v:IN}{xs:List IN}(o:h.Own k en v xs):h.AEY v xs:=by
 rcases o with h1|⟨b,h1,h2,_⟩
 ·exact .inl h1
 ·exact .inr ⟨b,0,_,_,xs,h1,h2,by omega,by rw[List.drop_zero,List.take_length]⟩
theorem Hp.Own.le{k k' en:Nat}{v:IN}{xs:List IN}(o:h.Own k en v xs)(hk:k'<=k):h.Own k' en v xs:=by
 rcases o with h1|⟨b,h1,h2,h3,h4⟩
 ·exact .inl h1
 ·exact .inr ⟨b,h1,h2,yO hk h3,h4⟩
theorem Hp.Own.keep{k en:Nat}{v:IN}{xs:List IN}(o:h.Own k en v xs)(hk:∀ b el L,AEe v b->h.Row b el L->h'.Row b el L):h'.Own k en v xs:=by
 rcases o with h1|⟨b,h1,h2,h3,h4⟩
 ·exact .inl h1
 ·exact .inr ⟨b,h1,hk b _ _ ⟨0,_,_,h1⟩ h2,h3,h4⟩
theorem Hp.Own.ext{k en:Nat}{v:IN}{xs:List IN}(o:h.Own k en v xs)(W:h.Wf)(x:h.Ext h'):h'.Own k en v xs:=o.keep fun _ _ _ _ r=>r.ext W x
theorem Hp.Own.same{k en:Nat}{v:IN}{xs:List IN}(o:h.Own k en v xs)(hb:h'.bl=h.bl):h'.Own k en v xs:=o.keep fun _ _ _ _ r=>r.same hb
theorem Es{h0:Hp}{eb en k:Nat}{v u:IN}{xs ys:List IN}(x0:h0.Ext h)(hk:h0.next<=k)(hk2:k<=h.next)(o:h.Own k en v xs)(y:h.AEY u ys)(hy:0<ys.length)(ha:Bb ys=true)(hm:(xs.length+ys.length+1)*(eb+1)<=1099511627776):
  ∃ h' v',DO 1 eb en v u h=.ok v' h'/\h0.Ext h'/\h'.Own k en v' (xs++ys)/\h'.next=h.next+1/\∀ b el L,¬ AEe v b->h.Row b el L->h'.Row b el L/\¬ AEe v' b:=by
 have W:=x0.wf;rcases o with ⟨rfl,rfl⟩|⟨b,rfl,r,hb,hb2⟩
 ·obtain⟨t1,t2⟩:=Hi ys
  refine⟨h.push (.cells (ofL ys) ys.length (en+1)),.slice (some ⟨h.next,0,none⟩) ys.length ys.length,?_,x0.push _,.inr ⟨h.next,rfl,⟨ofL ys,by rw[W.AEb,if_pos rfl];rfl,t2⟩,hk2,W.big⟩,rfl,fun b' el' L' _ r'=>⟨r'.push W _,LT (by have:=r'.lt W;omega)⟩⟩;unfold DO Dl;simp only[y.lenV,y.src rfl,Ao,zC,OF];have e1:xU ys.length 0=false:=by
   cases e:xU ys.length 0
   ·rfl
   ·have:=Au.1 e;omega
  have e2:xU (yK (xM ys.length) (xM eb)) JX=true:=Au.2 (H9 (by
   have:=hm;simp only[yM,OF]at this;exact this))
  rw[e1];simp only[e2,cond_true,ha];unfold G9 BO JS;simp only[yP,t1];unfold E4;simp only[Bf];unfold CX;rw[Ao,C2 W];rfl
 ·obtain⟨cc,hcc,hl⟩:=r.rowOf
  obtain⟨t,h2,h3⟩:=EF ys cc xs xs.length hl (.inr rfl);have h3:t.Is (xs++ys):=by
   have e:xs.drop (xs.length+ys.length)=[]:=yw (by omega);rw[e]at h3
   simpa using h3
  have hlen:(xs++ys).length=xs.length+ys.length:=No;have hlt:=r.lt W;have W1:(h.put b .dead).Wf:=W.put hlt _;have x1:h0.Ext (h.put b .dead):=x0.put (by omega) hlt _;refine⟨(h.put b .dead).push (.cells t (xs.length+ys.length) (en+1)),.slice (some ⟨h.next,0,none⟩) (xs.length+ys.length) (xs.length+ys.length),?_,x1.push _,.inr ⟨h.next,by rw[hlen],⟨t,by
   have:=W1.AEb (.cells t (xs.length+ys.length) (en+1)) h.next;rw[this,if_pos (show h.next=(h.put b .dead).next from rfl),hlen],h3⟩,hk2,W.big⟩,rfl,fun b' el' L' hne r'=>?_⟩
  ·unfold DO Dl
   simp only[y.lenV,y.src rfl,Ao,zC];have e1:xU (xs.length+ys.length) xs.length=false:=by
    cases e:xU (xs.length+ys.length) xs.length
    ·rfl
    ·have:=Au.1 e;omega
   have e2:xU (yK (xM (xs.length+ys.length)) (xM eb)) JX=true:=Au.2 (H9 hm);rw[e1];simp only[e2,cond_true,ha];unfold G9;have e3:xW xs.length (yK xs.length 1)=true:=Ax.2 (AAN _).symm;simp only[hcc,e3,h2];unfold E4;have e4:Ks 0 xs.length 1 xs.length=true:=by
    unfold Ks;cases xs.length with
    |zero=>rfl
    |succ n=>exact Ax.2 (by show 0+(n+1)*1=n+1;omega)
   simp only[hcc,Bf,zC,Nat.beq_refl,cond_true,e4];rw[ED W hb2 hlt];unfold CX;rw[Ao,C2 W1];rfl
  ·have AGf:b'≠b:=fun e=>hne ⟨0,_,_,by rw[e]⟩
   have hb':b'<h.next:=r'.lt W;obtain⟨c',hc',hl'⟩:=r';refine⟨⟨c',?_,hl'⟩,LT (by omega)⟩;rw[W1.AEb,if_neg (by show b'≠h.next;omega),W.AEq hlt,if_neg AGf,hc']
theorem IF(W:h.Wf){g:O}{z v:IN}(hv:g e=v)(hk:known v=true)(h1:cellsOf v=[v]):As 1 [z] [(0,1,g)] F e h=.ok (.slice (some ⟨h.next,0,none⟩) 1 1) (h.AEA 0 [v]):=by
 rw[CM,A1 (hk:=by rw[hv];exact hk),hv,h1,if_pos (show [v].length=1 from rfl),if_pos (show 0+1<=[z].length from IT _),Bx,C3 W];rfl
theorem RB(W:h.Wf){v:IN}:(h.AEA 0 [v]).AEY (.slice (some ⟨h.next,0,none⟩) 1 1) [v]:=.inr ⟨h.next,0,1,0,[v],rfl,Hp.Row.new W 0 [v],by simp,rfl⟩
theorem HH(k:xc):∀ Z:List Int,Bb (ints k Z)=true
 |[]=>rfl
 |z::Z=>HH k Z
theorem Ji{h0:Hp}{eb en k:Nat}{v:IN}{xs:List IN}{n:Int}{kd:xc}(x0:h0.Ext h)(hk:h0.next<=k)(hk2:k<=h.next)(o:h.Own k en v xs)(hm:(xs.length+2)*(eb+1)<=1099511627776):
  ∃ h' v',DO 1 eb en v (.slice (some ⟨h.next,0,none⟩) 1 1) (h.AEA 0 [.int kd n])=.ok v' h'/\h0.Ext h'/\h'.Own k en v' (xs++[.int kd n])/\h'.next=h.next+2/\∀ b el L,¬ AEe v b->h.Row b el L->h'.Row b el L/\¬ AEe v' b:=by
 have W:=x0.wf;have x1:=x0.AEA 0 [.int kd n];have o1:(h.AEA 0 [.int kd n]).Own k en v xs:=o.ext W ((Hp.Ext.refl W).AEA _ _);obtain⟨h',v',a,b,c,d,f⟩:=Es (eb:=eb) x1 hk (ABW hk2) o1 (RB W) (by simp) rfl (by simpa using hm);exact⟨h',v',a,b,c,d,fun b' el L hb r=>f b' el L hb (r.push W _)⟩
def J3(F:AEB)(v:IN)(args:List IN)(h:Hp):R:=match v with
 |.func (.func g) first cap=>F g (first.toList++(args++cap.toList)) h
 |_=>.no
theorem CT{f:O}{l:List O}:D7 f l F e h=J3 F (f e) (vals e l) h:=by
 show(match f e with|.func (.func g) first cap=>AEs (vals e l) (fun args=>F g (first.toList++(args++cap.toList)) h)|_=>.no)=_;unfold J3;split<;>simp only[Cb]
theorem Cn{g:Nat}{l c args:List IN}:J3 F (.func (.func g) ⟨l⟩ ⟨c⟩) args h=F g (l++(args++c)) h:=rfl
theorem Dg{fn:Fn}{l c:List O}:Eb fn l c F e h=.ok (.func fn ⟨vals e l⟩ ⟨vals e c⟩) h:=by
 show AEs (vals e l) (fun f=>AEs (vals e c) fun c=>.ok (.func fn ⟨f⟩ ⟨c⟩) h)=_;rw[Cb,Cb]
end
def Yl(args:List IN)(h:Hp):R:=match args with
 |[]=>.ok (.bool true) h
 |_::_=>.no
def J5:Body:=⟨[.x (fun _=>Yl)],cNo⟩
theorem Gt{ty:TTy}{φ:Phi}{E:Nat->Prop}{h:Hp}{w w':yJ}(H:AEI ty φ E h w)(hb:Below w.heap.size w w'):AEI ty φ E h w'/\Evo φ h w φ h w':=
 ⟨{dom:=fun i p e=>⟨(H.dom i p e).1,yr (H.dom i p e).2 hb.size⟩
   inj:=H.inj
   row:=fun i p e hE=>(by rw[hb.block _ (H.dom i p e).2];exact H.row i p e hE)
   fresh:=H.fresh
   kind:=H.kind
   inp:=H.inp},
  {le:=.refl _
   new:=fun _ _ e=>.inl e
   next:=IT _
   size:=hb.size
   tape:=hb.tape
   os:=hb.os
   output:=hb.output
   frame:=fun k hk _=>hb.block k hk
   back:=fun i p e hl _=>⟨i,p,e,hl,rfl,rfl,.inl rfl⟩
   kept:=fun _ _ _=>rfl
   low:=IT _
   high:=IT _
   shape:=fun _ _=>.refl _
   only:=fun _ _ _=>rfl
   all:=fun _ h1 h2=>absurd h2 (Nat.not_lt.2 h1)}⟩
theorem YU{P:yg}{ty:TTy}{f:Nat}(hS:∃ fn,P.funcs[f]? =some fn/\fn.name≠"runtime.NumGoroutine" /\fn.body.isNone=false)(hc:∀ w:yJ,Calls P f #[] w fun e w'=>e=.returned (.bool true)/\Below w.heap.size w w'):Lp P ty f J5:=fun F args h v h' _ hr=>⟨hS,fun φ w args' AEj H=>by
 have hr:Yl args h=.ok v h':=hr;cases args with
 |cons a l=>cases hr
 |nil=>
  cases hr;cases AEj;exact(hc w).mono fun e w' ⟨he,hb⟩=>⟨_,φ,he,.bool true,(Gt H hb).1,(Gt H hb).2⟩⟩
theorem Sj{bs:FT}{n f:Nat}(hb:bs.get f=some J5){h:Hp}:call bs (xM n) f [] h=.ok (.bool true) h:=by
 rw[Ab hb];rfl
end
noncomputable section
open Go
def CB(n:Nat):List Nat:=if h:n<128 then [n]else(n % 128+128)::CB (n/128)
termination_by n
decreasing_by exact ABo (by omega) (by omega)
theorem E8{n:Nat}(h:n<128):CB n=[n]:=by rw[CB,dif_pos h]
theorem Gd{n:Nat}(h:128<=n):CB n=(n % 128+128)::CB (n/128):=by rw[CB,dif_neg (by omega)]
theorem cd:∀ (n x:Nat),x∈CB n->x<256:=by
 intro n
 induction n using ACO with
 |_ n ih=>
  intro x hx;by_cases h:n<128
  ·rw[E8 h,List.mem_singleton]at hx
   omega
  ·rw[Gd (by omega)]at hx
   rcases List.mem_cons.1 hx with rfl|hx
   ·omega
   ·exact ih (n/128) (ABo (by omega) (by omega)) x hx
theorem YW(n:Nat):0<(CB n).length:=by
 by_cases h:n<128
 ·rw[E8 h];exact Nat.one_pos
 ·rw[Gd (by omega)];exact ACe _
theorem EH:∀ (k n:Nat),n<128 ^ (k+1)->(CB n).length<=k+1
 |0,n,h=>by
  have h:n<128:=by simpa using h
  rw[E8 h];exact IT _
 |k+1,n,h=>by
  by_cases h1:n<128
  ·rw[E8 h1];show 1<=_;omega
  ·rw[Gd (by omega),xP]
   have h2:n<128*128 ^ (k+1):=by rw[ADh]at h;rw[zW];exact h
   have:=EH k (n/128) (ACg h2);omega
theorem Km{n:Nat}(h:n<18446744073709551616):(CB n).length<=10:=EH 9 n (by
 have:(128:Nat) ^ (9+1)=1180591620717411303424:=by decide
 rw[this];omega)
def Fs:Nat->Nat->List Nat->Option (Nat×Nat)
 |_,_,[]=>none
 |k,acc,c::r=>if(0<k/\c=0)\/(8<k/\1<c)then none else if c<128 then some (acc+c*2 ^ (7*k),k+1)else Fs (k+1) (acc+c % 128*2 ^ (7*k)) r
theorem Mz(k:Nat):2 ^ (7*(k+1))=128*2 ^ (7*k):=by
 rw[show 7*(k+1)=7+7*k by omega,ADr,show(2:Nat) ^ 7=128 from rfl]
theorem RL{k:Nat}(hk:k<=8):2 ^ (64 - 7*k)=128*2 ^ (64 - 7*(k+1)):=by
 rw[show 64 - 7*k=7+(64 - 7*(k+1))by omega,ADr,show(2:Nat) ^ 7=128 from rfl]
theorem cZ:∀ (n k acc:Nat) (r:List Nat),k<=9->n<2 ^ (64 - 7*k)->(0<k->n≠0)->Fs k acc (CB n++r)=some (acc+n*2 ^ (7*k),k+(CB n).length):=by
 intro n
 induction n using ACO with
 |_ n ih=>
  intro k acc r hk hn h0;by_cases h:n<128
  ·rw[E8 h]
   show Fs k acc (n::r)=_;have h1:¬ ((0<k/\n=0)\/(8<k/\1<n)):=by
    rintro (⟨a,b⟩|⟨a,b⟩)
    ·exact h0 a b
    ·have:k=9:=by omega
     subst this;have:n<2:=hn;omega
   rw[Fs,if_neg h1,if_pos h];rfl
  ·have hk8:k<=8:=by
    rcases xx k 9 with h1|h1
    ·omega
    ·have:k=9:=by omega
     subst this;have:n<2:=hn;omega
   rw[Gd (by omega)];show Fs k acc ((n % 128+128)::(CB (n/128)++r))=_;have h1:¬ ((0<k/\n % 128+128=0)\/(8<k/\1<n % 128+128)):=by omega
   have h2:¬ n % 128+128<128:=by omega
   rw[Fs,if_neg h1,if_neg h2];have hlt:n/128<2 ^ (64 - 7*(k+1)):=by
    rw[RL hk8]at hn;exact ACg hn
   rw[ih (n/128) (ABo (by omega) (by omega)) (k+1) _ r (by omega) hlt (by omega)];have e2:(n % 128+128) % 128=n % 128:=by omega
   have e4:acc+n % 128*2 ^ (7*k)+n/128*(128*2 ^ (7*k))=acc+n*2 ^ (7*k):=by
    have e5:n*2 ^ (7*k)=(128*(n/128)+n % 128)*2 ^ (7*k):=by rw[Nat.div_add_mod]
    rw[e5,ABY,zW 128 (n/128),ADU];omega
   rw[e2,Mz,e4,xP,show k+1+(CB (n/128)).length=k+((CB (n/128)).length+1)by omega]
theorem SK:∀ (l:List Nat) (k acc v j:Nat),k<=9->(∀ x∈l,x<256)->Fs k acc l=some (v,j)->∃ n r,l=CB n++r/\v=acc+n*2 ^ (7*k)/\j=k+(CB n).length/\(0<k->n≠0)/\n<2 ^ (64 - 7*k)
 |[],k,acc,v,j,_,_,h=>by cases h
 |c::r,k,acc,v,j,hk,hb,h=>by
  rw[Fs]at h;split at h
  ·cases h
  ·rename_i h1
   split at h
   ·rename_i h2
    cases h;refine⟨c,r,by rw[E8 h2];rfl,rfl,by rw[E8 h2];rfl,by omega,?_⟩;rcases xx k 9 with h3|h3
    ·have h4:2 ^ 8<=2 ^ (64 - 7*k):=Nat.pow_le_pow_right (by omega) (by omega)
     have h5:(2:Nat) ^ 8=256:=rfl;omega
    ·have:k=9:=by omega
     subst this;show c<2;omega
   ·rename_i h2
    have hk8:k<=8:=by omega
    obtain⟨n,q,rfl,e2,e3,e4,e5⟩:=SK r (k+1) _ v j (by omega) (fun x hx=>hb x (List.mem_cons_of_mem _ hx)) h;have hc:=hb c List.mem_cons_self;have hn:n≠0:=e4 (ACe k);have hi:CB (c % 128+128*n)=c::CB n:=by
     rw[Gd (by omega)];have a1:(c % 128+128*n) % 128+128=c:=by omega
     have a2:(c % 128+128*n)/128=n:=by omega
     rw[a1,a2]
    refine⟨c % 128+128*n,q,by rw[hi];rfl,?_,?_,fun _=>by omega,?_⟩
    ·have e6:n*(128*2 ^ (7*k))=128*n*2 ^ (7*k):=by rw[<- ADU,zW n 128]
     rw[e2,Mz,ABY,e6];omega
    ·rw[e3,hi,xP];omega
    ·rw[RL hk8];omega
theorem sN{v:Nat}(h:v<18446744073709551616)(r:List Nat):Fs 0 0 (CB v++r)=some (v,(CB v).length):=by
 have:=cZ v 0 0 r (by omega) h (by omega)
 simpa using this
theorem cY{l:List Nat}{v j:Nat}(hb:∀ x∈l,x<256)(h:Fs 0 0 l=some (v,j)):l=CB v++l.drop j/\j=(CB v).length/\v<18446744073709551616:=by
 obtain⟨n,r,e1,e2,e3,_,e5⟩:=SK l 0 0 v j (by omega) hb h;have hv:v=n:=by simpa using e2
 subst hv;have hj:j=(CB v).length:=by simpa using e3
 have e5:v<18446744073709551616:=e5;refine⟨?_,hj,e5⟩;subst e1;rw[hj,List.drop_left]
theorem mB{l:List Nat}{v j:Nat}(hb:∀ x∈l,x<256)(h:Fs 0 0 l=some (v,j)):j<=l.length:=by
 obtain⟨e1,e2,_⟩:=cY hb h;have:=congrArg List.length e1;rw[No]at this;omega
end
noncomputable section
open Go
def veq:IN->IN->Bool
 |.bool a,.bool b=>a == b
 |.int j a,.int k b=>Fi j k && iEq a b
 |.string a,.string b=>bEq a.data.toList b.data.toList
 |.pointer none,.pointer none=>true
 |.slice none 0 0,.slice none 0 0=>true
 |.map none,.map none=>true
 |.nilFunc,.nilFunc=>true
 |.nilIface,.nilIface=>true
 |_,_=>false
def leq:List IN->List IN->Bool
 |[],[]=>true
 |a::x,b::y=>veq a b && leq x y
 |_,_=>false
def zeq:IN->IN->Bool
 |.agg a,.agg b=>leq a.toList b.toList
 |.agg _,_=>false
 |a,b=>veq a b
theorem cf{a b:IN}(h:veq a b=true):a=b:=by
 unfold veq at h;split at h
 ·simpa using h
 ·rw[xk,DZ]at h
  have h1:=Ho h.1;rw[h1,eq_of_beq h.2]
 ·rw[Lt]at h
  rename_i a b;have e1:=HM (a:=a) (eq_of_beq h);have e2:=HM (a:=b) rfl;exact congrArg Value.string (e1.trans e2.symm)
 all_goals first|rfl|cases h
theorem Z7:∀ {a b:List IN},leq a b=true->a=b
 |[],[],_=>rfl
 |x::a,y::b,h=>by
  have h:(veq x y && leq a b)=true:=h;rw[xk]at h;rw[cf h.1,Z7 h.2]
 |[],_::_,h=>by cases h
 |_::_,[],h=>by cases h
theorem sS{a b:IN}(h:zeq a b=true):a=b:=by
 unfold zeq at h;split at h
 ·rename_i x y
  have:=Z7 h
  congr 1
  exact Array.ext' this
 ·cases h
 ·exact cf h
def ge:List (Nat×Nat×Nat)->List (Nat×Nat×Nat)->Bool
 |[],[]=>true
 |(a,b,c)::x,(d,e,f)::y=>xW a d && (xW b e && (xW c f && ge x y))
 |_,_=>false
theorem Us:∀ {x y:List (Nat×Nat×Nat)},ge x y=true->x=y
 |[],[],_=>rfl
 |(a,b,c)::x,(d,e,f)::y,h=>by
  have h:(xW a d && (xW b e && (xW c f && ge x y)))=true:=h;simp only[xk]at h;rw[Ax.1 h.1,Ax.1 h.2.1,Ax.1 h.2.2.1,Us h.2.2.2]
 |[],_::_,h=>by cases h
 |_::_,[],h=>by cases h
def Z4(P:yg)(k:TK)(d:AB0):Bool:=match k,d with
 |.int a,.int b=>Fi a b
 |.bool,.bool=>true
 |.string,.string=>true
 |.ptr a,.pointer b=>xW a b
 |.slice a,.slice b=>xW a b
 |.arr n a,.array m b=>xW n m && xW a b
 |.map n a,.map m b=>xW n m && xW a b
 |.struct fs,.struct fields=>ge (fields.toList.map fun f=>(f.offset,P.cellsOf f.type,f.type)) fs && fields.toList.all fun f=>(P.info? f.type).isSome
 |.iface,.interface _=>true
 |.func,.func _ _ _=>true
 |.other,.struct _=>false
 |.other,.array _ _=>false
 |.other,.interface _=>false
 |.other,_=>true
 |_,_=>false
theorem Z5{P:yg}{k:TK}{d:AB0}(h:Z4 P k d=true):KOk P k d:=by
 unfold Z4 at h;split at h
 ·rw[Ho h];exact .int _
 ·exact .bool
 ·exact .string
 ·rw[Ax.1 h];exact .ptr _
 ·rw[Ax.1 h];exact .slice _
 ·rw[xk]at h
  rw[Ax.1 h.1,Ax.1 h.2];exact .arr _ _
 ·rw[xk]at h
  rw[Ax.1 h.1,Ax.1 h.2];exact .map _ _
 ·rw[xk]at h
  exact .struct (Us h.1) h.2
 ·exact .iface _
 ·exact .func _ _ _
 ·cases h
 ·cases h
 ·cases h
 ·rename_i q1 q2 q3
  refine .other ?_;split
  ·rename_i f;exact absurd rfl (q1 f)
  ·rename_i n e;exact absurd rfl (q2 n e)
  ·rename_i m;exact absurd rfl (q3 m)
  ·rfl
 ·cases h
def co(ti:TI)(z:Option IN):Bool:=
 (match ti.zero with
  |[]=>ye 0 ti.size
  |_::_=>false) ||
 (match zeroV ti,z with
  |some a,some b=>zeq a b && (ti.zero.all plainV && xW (BB ti.zero) ti.size)
  |_,_=>false)
theorem cq{ti:TI}{z:Option IN}(h:co ti z=true):(ti.zero=[]/\0<ti.size)\/∃ y,zeroV ti=some y/\z=some y/\ti.zero.all plainV=true/\ti.zero.length=ti.size:=by
 unfold co at h;rw[Bool.or_eq_true]at h;rcases h with h|h
 ·left
  split at h
  ·rename_i hz;exact⟨hz,BW.1 h⟩
  ·cases h
 ·right
  split at h
  ·rename_i a b ha
   simp only[xk]at h;have h3:=Ax.1 h.2.2;rw[Bf]at h3;exact⟨a,ha,by rw[sS h.1],h.2.1,h3⟩
  ·cases h
def wm(b:Bool):AB0->Bool
 |.pointer _=>b
 |_=>not b
def Vg(P:yg)(t:Nat)(name:String)(f:Nat):Bool:=match P.info? t with
 |some i=>match i.methods.find? (·.name == name)with
  |some m=>match m.path.toList with
   |[]=>match m.func with
    |some (g,b)=>match P.underlying t with
     |some d=>xW g f && wm b d
     |none=>false
    |none=>false
   |_::_=>false
  |none=>false
 |none=>false
theorem aH{P:yg}{t:Nat}{name:String}{f:Nat}(h:Vg P t name f=true)(v:IN)(w:yJ):(method (P.types.size+ADu) t v name).run P w=.ok (f,v) w:=by
 unfold Vg at h;split at h
 ·rename_i i hi
  split at h
  ·rename_i m hm
   split at h
   ·rename_i hp
    split at h
    ·rename_i g b hg
     split at h
     ·rename_i d hd
      rw[xk]at h;have e1:=Ax.1 h.1;subst e1;have h2:=h.2;show(method ((P.types.size+99)+1) t v name).run P w=_;unfold method;simp only[typeInfo,xO,run_program,If,hi,xQ,hm,hp,follow,hg,receiverAt,underlying,hd];cases d with
      |pointer e=>
       have hb:b=true:=h2;subst hb;simp only[ADp,xO,xQ,If]
      |_=>
       have hb:b=false:=by
        have h2:(!b)=true:=h2;cases b with
        |true=>cases h2
        |false=>rfl
       subst hb;simp only[ADp,xO,xQ,If]
     ·cases h
    ·cases h
   ·cases h
  ·cases h
 ·cases h
def Vh(P:yg)(t:Nat):List (String×Nat)->Bool
 |[]=>true
 |x::l=>Vg P t x.1 x.2 && Vh P t l
theorem Qr{P:yg}{t:Nat}:∀ {l:List (String×Nat)},Vh P t l=true->∀ name f,findM name l=some f->∀ v w,(method (P.types.size+ADu) t v name).run P w=.ok (f,v) w
 |[],_,name,f,h=>by cases h
 |x::l,hb,name,f,h=>by
  have hb:(Vg P t x.1 x.2 && Vh P t l)=true:=hb;rw[xk]at hb;unfold findM at h;split at h
  ·rename_i hn
   cases h;rw[<- eq_of_beq hn];exact fun v w=>aH hb.1 v w
  ·exact Qr hb.2 name f h
def tyB(P:yg)(t:Nat)(ti:TI):Bool:=match P.info? t with
 |some i=>match P.underlying t with
  |some d=>xW i.size ti.size && (xW i.bytes ti.bytes && (co ti i.zero && (Z4 P ti.k d && (AGL P t && Vh P t ti.ms))))
  |none=>false
 |none=>false
theorem sM{P:yg}(hd:8<=P.depth){t:Nat}{ti:TI}(h:tyB P t ti=true):AEd P t ti:=by
 unfold tyB at h;split at h
 ·rename_i i hi
  split at h
  ·rename_i d hu
   simp only[xk]at h;exact⟨h.2.2.2.2.1,hd,⟨i,hi,Ax.1 h.1,Ax.1 h.2.1,cq h.2.2.1⟩,⟨d,hu,Z5 h.2.2.2.1⟩,Qr h.2.2.2.2.2⟩
  ·cases h
 ·cases h
def wT(P:yg)(t:Nat):Option TI->Bool
 |some ti=>tyB P t ti
 |none=>true
def YS(P:yg):TTy->(Nat->Nat)->Bool
 |.mt,_=>true
 |.nd ti l r,ix=>wT P (ix 0) ti && (YS P l (fun k=>ix (xM (yK 2 k))) && YS P r (fun k=>ix (xM (xM (yK 2 k)))))
theorem NC{P:yg}(hd:8<=P.depth):∀ {t:TTy} {ix:Nat->Nat},YS P t ix=true->∀ i ti,t.get i=some ti->AEd P (ix i) ti
 |.mt,ix,_,i,b,h=>by cases h
 |.nd c l r,ix,hb,i,b,h=>by
  have hb:(wT P (ix 0) c && (YS P l (fun k=>ix (xM (yK 2 k))) && YS P r (fun k=>ix (xM (xM (yK 2 k))))))=true:=hb;simp only[xk]at hb;cases i with
  |zero=>
   have h:c=some b:=h;subst h;exact sM hd hb.1
  |succ k=>
   unfold TTy.get at h;have e1:Nat.mod k 2=k % 2:=rfl;have e2:Nat.div k 2=k / 2:=rfl;rw[e1,e2]at h;rcases Nat.mod_two_eq_zero_or_one k with hk|hk
   ·rw[hk]at h
    have:=NC hd hb.2.1 (k/2) b h;have e:xM (yK 2 (k/2))=k+1:=by show 2*(k/2)+1=k+1;omega
    simp only[e]at this;exact this
   ·rw[hk]at h
    have:=NC hd hb.2.2 (k/2) b h;have e:xM (xM (yK 2 (k/2)))=k+1:=by show 2*(k/2)+1+1=k+1;omega
    simp only[e]at this;exact this
theorem sK{P:yg}{ty:TTy}(hd:xU 8 P.depth=true)(h:YS P ty (fun k=>k)=true):Cx P ty:=fun t ti ht=>NC (Au.1 hd) h t ti ht
end
noncomputable section
open Go
def ty3:TI:=⟨.int .i64,1,8,[AI AT 0],[]⟩
def ty4:TI:=⟨.bool,1,1,[.bool false],[]⟩
def ty5:TI:=⟨.int .u8,1,1,[.int .u8 0],[]⟩
def ty9:TI:=⟨.string,1,16,[.string .empty],[]⟩
def xA:TI:=⟨.slice 36,1,24,[.slice none 0 0],[]⟩
def xC:TI:=⟨.int .u32,1,4,[.int .u32 0],[]⟩
def kD:TI:=⟨.arr 256 23,256,1024,Ba [.int .u32 0] 256,[]⟩
def YV:TI:=⟨.ptr 91,1,8,[.pointer none],[("Arm",17),("Cached",46),("Crash",20),("Down",19),("Flush",124),("Read",109),("Size",71),("Write",123),("cooperage/disk.none",45),("cooperage/disk.operation",147),("cooperage/disk.there",133)]⟩
def SH:TI:=⟨.ptr 83,1,8,[.pointer none],[("All",13),("Do",11),("Handle",24),("Life",12),("Over",27),("cooperage/node.abort",36),("cooperage/node.commit",35),("cooperage/node.drop",39),("cooperage/node.infos",61),("cooperage/node.list",38),("cooperage/node.prepare",34),("cooperage/node.read",37),("cooperage/node.told",33),("cooperage/node.up",31)]⟩
def SI:TI:=⟨.ptr 25,1,8,[.pointer none],[]⟩
def xD:TI:=⟨.int .u8,1,1,[.int .u8 0],[]⟩
def LR:TI:=⟨.slice 5,1,24,[.slice none 0 0],[]⟩
def cX:TI:=⟨.struct [(0,1,3),(1,1,3),(2,1,33),(3,1,3),(4,1,3),(5,1,3),(6,1,34)],7,72,[AI AT 0,AI AT 0,.int .u8 0,AI AT 0,AI AT 0,AI AT 0,.slice none 0 0],[]⟩
def xE:TI:=⟨.int .i64,1,8,[AI AT 0],[]⟩
def xF:TI:=⟨.slice 53,1,24,[.slice none 0 0],[]⟩
def G1:TI:=⟨.struct [(0,1,3),(1,1,3),(2,1,33),(3,1,37),(4,1,38),(5,1,34),(6,1,3)],7,88,[AI AT 0,AI AT 0,.int .u8 0,AI AT 0,.slice none 0 0,.slice none 0 0,AI AT 0],[]⟩
def xG:TI:=⟨.slice 55,1,24,[.slice none 0 0],[]⟩
def xI:TI:=⟨.int .u8,1,1,[.int .u8 0],[]⟩
def NG:TI:=⟨.struct [(0,1,3),(1,1,3),(2,1,3),(3,1,51)],4,32,[AI AT 0,AI AT 0,AI AT 0,.int .u8 0],[]⟩
def IO:TI:=⟨.struct [(0,1,3),(1,1,3),(2,1,3),(3,1,51),(4,1,34)],5,56,[AI AT 0,AI AT 0,AI AT 0,.int .u8 0,.slice none 0 0],[]⟩
def SJ:TI:=⟨.func,1,8,[.nilFunc],[]⟩
def Hs:TI:=⟨.ptr 121,1,8,[.pointer none],[("Abort",60),("All",40),("Bad",183),("Commit",59),("Drop",67),("Get",63),("Over",53),("Prepare",58),("Room",57),("Sound",64),("cooperage/slots.all",101),("cooperage/slots.at",100),("cooperage/slots.find",95),("cooperage/slots.gone",104),("cooperage/slots.look",73),("cooperage/slots.now",128),("cooperage/slots.out",105),("cooperage/slots.read",113),("cooperage/slots.stale",97),("cooperage/slots.strike",81),("cooperage/slots.up",92),("cooperage/slots.write",99)]⟩
def kE:TI:=⟨.struct [(0,1,27),(1,1,31),(2,1,81),(3,1,3)],4,32,[.pointer none,.pointer none,.pointer none,AI AT 0],[]⟩
def xJ:TI:=⟨.slice 95,1,24,[.slice none 0 0],[]⟩
def kF:TI:=⟨.map 3 95,1,8,[.map none],[]⟩
def kG:TI:=⟨.struct [(0,1,88),(1,1,89),(2,1,3),(3,1,4)],4,48,[.slice none 0 0,.map none,AI AT 0,.bool false],[]⟩
def To:TI:=⟨.slice 3,1,24,[.slice none 0 0],[]⟩
def Kl:TI:=⟨.arr 64 5,64,64,Ba [.int .u8 0] 64,[]⟩
def wN:TI:=⟨.int .u64,1,8,[.int .u64 0],[]⟩
def OP:TI:=⟨.slice 123,1,24,[.slice none 0 0],[]⟩
def SE:TI:=⟨.struct [(0,1,27),(1,1,31),(2,1,3),(3,1,119),(4,1,92),(5,1,3),(6,1,4)],7,88,[.pointer none,.pointer none,AI AT 0,.slice none 0 0,.slice none 0 0,AI AT 0,.bool false],[]⟩
def Dj:TI:=⟨.struct [(0,5,55),(5,1,3)],6,64,[AI AT 0,AI AT 0,AI AT 0,.int .u8 0,.slice none 0 0,AI AT 0],[]⟩
def SG:TI:=⟨.int .u64,1,8,[.int .u64 0],[]⟩
def wO:TI:=⟨.slice 76,1,24,[.slice none 0 0],[]⟩
def wP:TI:=⟨.slice 140,1,24,[.slice none 0 0],[]⟩
def wQ:TI:=⟨.arr 6 140,6,48,Ba [.int .u64 0] 6,[]⟩
def wR:TI:=⟨.int .i64,1,8,[AI AT 0],[]⟩
set_option maxRecDepth 100000 in
def ty:TTy:=(.nd none (.nd none (.nd (some ty3) (.nd none (.nd none (.nd (some SI) .mt (.nd (some Kl) .mt .mt)) .mt) (.nd (some xC) .mt (.nd (some IO) .mt (.nd (some OP) .mt .mt)))) (.nd none (.nd none .mt (.nd (some xI) (.nd (some kE) .mt .mt) .mt)) (.nd (some YV) .mt (.nd none (.nd (some kG) .mt .mt) (.nd (some Dj) .mt .mt))))) (.nd (some ty5) (.nd (some ty9) (.nd none (.nd (some xD) .mt .mt) (.nd none (.nd (some Hs) .mt .mt) .mt)) (.nd (some kD) .mt (.nd none (.nd (some kF) .mt .mt) (.nd (some SE) .mt .mt)))) (.nd none (.nd none (.nd (some xE) .mt .mt) (.nd (some NG) .mt .mt)) .mt))) (.nd none (.nd (some ty4) (.nd none .mt (.nd none (.nd (some G1) .mt .mt) (.nd none (.nd (some xJ) (.nd (some wO) .mt .mt) .mt) .mt))) (.nd none (.nd none (.nd (some cX) .mt .mt) (.nd none .mt (.nd none (.nd (some wR) .mt .mt) .mt))) (.nd (some SH) (.nd (some xG) (.nd (some SJ) (.nd (some SG) .mt .mt) .mt) (.nd (some wN) (.nd (some wP) .mt .mt) .mt)) (.nd none (.nd (some To) .mt .mt) .mt)))) (.nd none (.nd none (.nd none (.nd (some LR) .mt .mt) (.nd none .mt (.nd none (.nd (some wQ) .mt .mt) .mt))) .mt) (.nd none (.nd (some xA) (.nd (some xF) .mt .mt) .mt) .mt))))
end
end Go.Proofs.YtbjadbhkogcfeaaGreat

/-
  Part ZH of what Lawke stands on: printed by program, names and spaces cut.
-/
import Derived.Test.YtedbmmfebjfibaaGreatZG
import Derived.ChangeSlices
import Derived.ChangeArms
import Derived.Test.YtedbmmfebjfibaaGreatProg
open Go.Value renaming int→AI
open Go.IntKind renaming i64→AT
open Go renaming Value→IN,IntKind→wH,World→wb,Program→xD,Addr→ABF,TypeDesc→ABH
open Nat renaming le_refl→IT,zero_add→vk,succ→vo,ble→vx,beq→wB,lt_or_ge→wN,mul→wY,le_trans→wd,eq_zero_or_pos→wg,blt→wz,lt_of_lt_of_le→xT,add_eq→xZ,add→xc,mul_comm→xr,mul_one→yk,le_succ_of_le→AAh,add_mul→AAn,div_lt_self→AA6,succ_pos→ABQ,strongRecOn→ABn,lt_trans→ABy,div_lt_of_lt_mul→AB8,succ_eq_add_one→ACD,mul_assoc→ADE,pow_succ→ADW,pow_add→ADi
open Go.Result renaming andThen_ok→If
open List renaming length_append→No,getElem?_eq_getElem→sh,getD_eq_getElem?_getD→vm,length_cons→vw,getElem?_eq_some_iff→wC,append_nil→wF,append_assoc→wG,getElem?_append_right→wQ,length_take→wT,length_nil→wl,length_drop→xC,nil_append→xE,drop_of_length_le→xL,getElem?_take→zC,getElem?_drop→zd
open Go.Sem renaming run_bind→vq,run_pure→vt
open And renaming intro→wE
open Bool renaming and_eq_true→wJ
open Go.Value renaming okWide→xk
open Go.IntKind renaming i64→yK,u8→AA7
open Array renaming getElem?_eq_some_iff→yU
open UInt8 renaming ofNat→zF
open Go.Cell renaming okWide→ABX
open Go.Place renaming get→ADf
open Go.Made renaming depth→ADl
set_option linter.unusedVariables false
set_option linter.unusedSimpArgs false
namespace Go.Proofs.YtedbmmfebjfibaaGreat
noncomputable section
open Go
section
variable {F:AEB}{e:Env}{h h':Hp}{x y:O}
structure Hp.Wf (h:Hp):Prop where
 big:256<=h.next
 has:∀ i,i<h.next->h.bl.has i
 fresh:∀ i,h.next<=i->h.bl.get i=.dead
def Hp.push(h:Hp)(o:Blk):Hp:={next:=vo h.next,low:=h.low,high:=h.high,mark:=h.mark,bl:=h.bl.lay h.next o}
def Hp.put(h:Hp)(b:Nat)(o:Blk):Hp:={next:=h.next,low:=B6 h.low b,high:=Cq h.high b,mark:=h.mark,bl:=h.bl.lay b o}
theorem Cv(W:h.Wf){o:Blk}{K:Nat->Hp->R}:GL h o K=K h.next (h.push o):=by
 unfold GL;rw[BT.AEs fun j hj=>W.has j hj];simp only[AZ];rfl
theorem Do(W:h.Wf){b:Nat}(AEO:256<=b)(hb:b<h.next){o:Blk}{K:Hp->R}:EQ h b o K=K (h.put b o):=by
 unfold EQ;rw[BT.AEs fun j hj=>W.has j (ABy hj hb),Ac.2 AEO];simp only[AZ];rfl
theorem Hp.Wf.AEa(W:h.Wf)(o:Blk)(i:Nat):(h.push o).bl.get i=if i=h.next then o else h.bl.get i:=BT.AFD (fun j hj=>W.has j hj) i
theorem Hp.Wf.AEk(W:h.Wf){b:Nat}(hb:b<h.next)(o:Blk)(i:Nat):(h.put b o).bl.get i=if i=b then o else h.bl.get i:=BT.AFD (fun j hj=>W.has j (ABy hj hb)) i
theorem Hp.Wf.push(W:h.Wf)(o:Blk):(h.push o).Wf where
 big:=AAh W.big
 has:=fun i hi=>BT.AFJ (fun j hj=>W.has j hj) i (by
  have hi:i<h.next+1:=hi;rcases wN i h.next with h1|h1
  ·exact .inr (W.has i h1)
  ·exact .inl (by omega))
 fresh:=fun i hi=>by
  have hi:h.next+1<=i:=hi;rw[W.AEa o i,if_neg (by omega)];exact W.fresh i (by omega)
theorem Hp.Wf.put(W:h.Wf){b:Nat}(hb:b<h.next)(o:Blk):(h.put b o).Wf where
 big:=W.big
 has:=fun i hi=>BT.AFJ (fun j hj=>W.has j (ABy hj hb)) i (.inr (W.has i hi))
 fresh:=fun i hi=>by
  have hi:h.next<=i:=hi;rw[W.AEk hb o i,if_neg (by omega)];exact W.fresh i hi
structure Hp.Ext (h h':Hp):Prop where
 next:h.next<=h'.next
 get:∀ i,i<h.next->h'.bl.get i=h.bl.get i
 low:min h.low h.next<=h'.low
 wf:h'.Wf
theorem Hp.Ext.refl(W:h.Wf):h.Ext h:=⟨IT _,fun _ _=>rfl,Nat.min_le_left _ _,W⟩
theorem Hp.Ext.trans{h₁ h₂ h₃:Hp}(a:h₁.Ext h₂)(b:h₂.Ext h₃):h₁.Ext h₃ where
 next:=wd a.next b.next
 get:=fun i hi=>by rw[b.get i (xT hi a.next),a.get i hi]
 low:=by have:=a.low;have:=b.low;have:=a.next;omega
 wf:=b.wf
theorem Hp.Ext.push(a:h.Ext h')(o:Blk):h.Ext (h'.push o) where
 next:=AAh a.next
 get:=fun i hi=>by rw[a.wf.AEa,if_neg (by have:=a.next;omega),a.get i hi]
 low:=a.low
 wf:=a.wf.push o
theorem Hp.Ext.put(a:h.Ext h'){b:Nat}(h1:h.next<=b)(hb:b<h'.next)(o:Blk):h.Ext (h'.put b o) where
 next:=a.next
 get:=fun i hi=>by rw[a.wf.AEk hb,if_neg (by omega),a.get i hi]
 low:=by
  show _<=B6 h'.low b;rw[BM];have:=a.low;omega
 wf:=a.wf.put hb o
def VT.Is(t:VT)(l:List IN):Prop:=∀ i,i<l.length->t.has i/\t.get i=l.getD i AEE
theorem EC:∀ (vs:List IN) (t:VT) (l:List IN) (i:Nat),t.Is l->i+vs.length<=l.length\/i=l.length->∃ t',B3 t i vs=some t'/\t'.Is (l.take i++vs++l.drop (i+vs.length))
 |[],t,l,i,ht,hi=>⟨t,rfl,by simpa using ht⟩
 |v::vs,t,l,i,ht,hi=>by
  have hi':i<=l.length:=by simp only[vw]at hi;omega
  have hh:∀ j,j<i->t.has j:=fun j hj=>(ht j (by omega)).1
  have h1:(t.lay i v).Is (l.take i++[v]++l.drop (i+1)):=fun j hj=>by
   have hl:(l.take i).length=i:=by simp;omega
   refine⟨VT.AFJ hh j ?_,?_⟩
   ·by_cases hji:j=i
    ·exact .inl hji
    ·right
     refine(ht j ?_).1;simp only[No,vw,wl,xC,wT]at hj;omega
   ·rw[VT.AFD hh]
    by_cases hji:j=i
    ·rw[if_pos hji,hji,vm,wG,wQ (by omega)]
     simp[hl]
    ·rw[if_neg hji]
     have hjl:j<l.length:=by
      simp only[No,vw,wl,xC,wT]at hj;omega
     rw[(ht j hjl).2,vm,vm]
     congr 1
     rcases wN j i with h2|h2
     ·rw[wG,List.getElem?_append_left (by omega),zC,if_pos h2]
     ·rw[wQ (by simp only[No,hl,vw,wl];omega),zd]
      congr 1
      simp only[No,hl,vw,wl];omega
  have hlen:(l.take i++[v]++l.drop (i+1)).length=max l.length (i+1):=by
   simp only[No,vw,wl,xC,wT];omega
  obtain⟨t',h2,h3⟩:=EC vs (t.lay i v) _ (i+1) h1 (by simp only[vw]at hi;omega);refine⟨t',?_,?_⟩
  ·show(match t.set i v with|some t'=>B3 t' (vo i) vs|none=>none)=_
   rw[VT.AEs hh];exact h2
  ·have e:(l.take i++[v]++l.drop (i+1)).take (i+1)++vs++(l.take i++[v]++l.drop (i+1)).drop (i+1+vs.length)=l.take i++(v::vs)++l.drop (i+(v::vs).length):=by
    have hl:(l.take i++[v]).length=i+1:=by simp;omega
    rw[List.take_left' hl];have e2:i+1+vs.length=(l.take i++[v]).length+vs.length:=by rw[hl]
    rw[e2,List.drop_length_add_append,List.drop_drop];have e3:i+1+vs.length=i+(v::vs).length:=by simp only[vw];omega
    rw[e3];simp
   rw[e]at h3;exact h3
theorem uN:VT.mt.Is []:=fun i h=>by cases h
def ofL(l:List IN):VT:=(B3 .mt 0 l).getD .mt
theorem Hx(l:List IN):B3 .mt 0 l=some (ofL l)/\(ofL l).Is l:=by
 obtain⟨t',h1,h2⟩:=EC l .mt [] 0 uN (.inr rfl);unfold ofL;rw[h1];refine⟨rfl,?_⟩
 simpa using h2
theorem VT.Is.of{t:VT}{l:List IN}(h:B3 .mt 0 l=some t):t.Is l:=by
 have:=Hx l;rw[h]at this;rw[Option.some.inj this.1];exact this.2
def Hp.Row(h:Hp)(b el:Nat)(l:List IN):Prop:=∃ c,h.bl.get b=.cells c l.length el/\c.Is l
def Hp.AEA(h:Hp)(el:Nat)(l:List IN):Hp:=h.push (.cells (ofL l) l.length el)
theorem Cw(W:h.Wf){el:Nat}{l:List IN}{K:Nat->Hp->R}:newRow h el l K=K h.next (h.AEA el l):=by
 unfold newRow;rw[(Hx l).1];show CL h el (ofL l) (BA l) K=_;unfold CL;rw[AZ,Cv W,BL];rfl
theorem Hp.Row.lt(W:h.Wf){b el:Nat}{l:List IN}(r:h.Row b el l):b<h.next:=by
 obtain⟨c,hc,_⟩:=r;rcases wN b h.next with h1|h1
 ·exact h1
 ·rw[W.fresh b h1]at hc;cases hc
theorem Hp.Row.new(W:h.Wf)(el:Nat)(l:List IN):(h.AEA el l).Row h.next el l:=⟨ofL l,by unfold Hp.AEA;rw[W.AEa,if_pos rfl],(Hx l).2⟩
theorem Hp.Row.ext{b el:Nat}{l:List IN}(r:h.Row b el l)(W:h.Wf)(x:h.Ext h'):h'.Row b el l:=by
 have:=r.lt W;obtain⟨c,hc,hl⟩:=r;exact⟨c,(x.get b this).trans hc,hl⟩
theorem Hp.Row.push{b el:Nat}{l:List IN}(r:h.Row b el l)(W:h.Wf)(o:Blk):(h.push o).Row b el l:=r.ext W ((Hp.Ext.refl W).push o)
theorem Hp.Ext.AEA(a:h.Ext h')(el:Nat)(l:List IN):h.Ext (h'.AEA el l):=a.push _
theorem Hp.Row.rowOf{b el:Nat}{l:List IN}(r:h.Row b el l):∃ c,rowOf h b=.ok c l.length el/\c.Is l:=by
 obtain⟨c,hc,hl⟩:=r;exact⟨c,by unfold Go.Proofs.YtedbmmfebjfibaaGreat.rowOf;rw[hc];rfl,hl⟩
theorem Hp.Row.AEF{b el off:Nat}{l:List IN}(r:h.Row b el l)(ho:off<l.length):AEF ⟨b,off,none⟩ h=.ok (l.getD off AEE) h:=by
 obtain⟨c,hc,hl⟩:=r.rowOf;unfold Go.Proofs.YtedbmmfebjfibaaGreat.AEF;simp only[hc];rw[BD.2 ho];simp only[BH,(hl off ho).2]
theorem Is.AFZ{c:VT}{l:List IN}(hl:c.Is l)(off n:Nat)(ho:off+n<=l.length):AFZ c off n=(l.drop off).take n:=by
 refine List.ext_getElem? fun i=>?_
 unfold Go.Proofs.YtedbmmfebjfibaaGreat.AFZ;rw[List.getElem?_map,zC,zd];by_cases hi:i<n
 ·rw[if_pos hi,List.getElem?_range hi]
  have:=(hl (off+i) (by omega)).2;rw[vm,sh (by omega)]at this;show some (c.get (off+i))=_;rw[this,sh (by omega)];rfl
 ·rw[if_neg hi,List.getElem?_eq_none (by simpa using hi)];rfl
theorem Hp.Row.loadN{b el off n:Nat}{l:List IN}(r:h.Row b el l)(ho:off+n<=l.length):loadN n ⟨b,off,none⟩ h=.ok (.agg ⟨(l.drop off).take n⟩) h:=by
 obtain⟨c,hc,hl⟩:=r.rowOf;unfold Go.Proofs.YtedbmmfebjfibaaGreat.loadN;simp only[hc,xZ];rw[Ac.2 ho];simp only[cond_true,F6,wF,Is.AFZ hl off n ho]
theorem Hp.Row.src{b el off n c:Nat}{l:List IN}(r:h.Row b el l)(ho:off+n<=l.length){sl:Nat}{k:List IN->R}:BJ h 1 (.slice (some ⟨b,off,none⟩) sl c) n k=k ((l.drop off).take n):=by
 obtain⟨cc,hc,hl⟩:=r.rowOf;unfold BJ;simp only[hc];have e:wY n 1=n:=yk n;rw[e];simp only[xZ];rw[Ac.2 ho];simp only[cond_true,F6,wF,Is.AFZ hl off n ho]
def Hp.wr(h:Hp)(b off:Nat)(vs:List IN):Hp:=match rowOf h b with
 |.ok c s e=>h.put b (.cells ((B3 c off vs).getD c) s e)
 |.no=>h
def over(l:List IN)(off:Nat)(vs:List IN):List IN:=l.take off++vs++l.drop (off+vs.length)
theorem SW{l vs:List IN}{off:Nat}(ho:off+vs.length<=l.length):(over l off vs).length=l.length:=by
 unfold over;simp only[No,wT,xC];omega
theorem Hp.Row.AFT{b el off:Nat}{l vs:List IN}(r:h.Row b el l)(ho:off+vs.length<=l.length):∃ c,c.Is (over l off vs)/\h.wr b off vs=h.put b (.cells c (over l off vs).length el)/\
  ∀ (W:h.Wf) (AEO:256<=b) (h1:Bc vs=true) (K:Hp->R),Co ⟨b,off,none⟩ vs h K=K (h.wr b off vs):=by
 obtain⟨c,hc,hl⟩:=r.rowOf;obtain⟨c',h2,h3⟩:=EC vs c l off hl (.inl ho);have e:h.wr b off vs=h.put b (.cells c' l.length el):=by
  unfold Hp.wr;rw[hc];simp only[h2,Option.getD_some]
 refine⟨c',h3,by rw[SW ho];exact e,fun W AEO h1 K=>?_⟩;unfold Co;simp only[hc,xZ];rw[BL,Ac.2 ho,h1];simp only[cond_true,h2];rw[e,Do W AEO (r.lt W)]
theorem Hp.Row.store{b el off:Nat}{l vs:List IN}(r:h.Row b el l)(W:h.Wf)(AEO:256<=b)(ho:off+vs.length<=l.length)(h1:Bc vs=true)(K:Hp->R):Co ⟨b,off,none⟩ vs h K=K (h.wr b off vs):=by
 obtain⟨_,_,_,h4⟩:=r.AFT ho;exact h4 W AEO h1 K
theorem Hp.Row.AET{b el off:Nat}{l vs:List IN}(r:h.Row b el l)(W:h.Wf)(ho:off+vs.length<=l.length):(h.wr b off vs).Row b el (over l off vs):=by
 obtain⟨c,h3,e,_⟩:=r.AFT ho;exact⟨c,by rw[e,W.AEk (r.lt W),if_pos rfl],h3⟩
theorem Hp.Row.AFM{b el off b' el':Nat}{l vs l':List IN}(r:h.Row b el l)(W:h.Wf)(ho:off+vs.length<=l.length)(r':h.Row b' el' l')(hb:b'≠b):(h.wr b off vs).Row b' el' l':=by
 obtain⟨c,h3,e,_⟩:=r.AFT ho;obtain⟨c',hc',hl'⟩:=r';exact⟨c',by rw[e,W.AEk (r.lt W),if_neg hb,hc'],hl'⟩
theorem Hp.Row.AEi{h0:Hp}{b el off:Nat}{l vs:List IN}(r:h.Row b el l)(x:h0.Ext h)(hb:h0.next<=b)(ho:off+vs.length<=l.length):h0.Ext (h.wr b off vs):=by
 obtain⟨c,h3,e,_⟩:=r.AFT ho;rw[e];exact x.put hb (r.lt x.wf) _
theorem Hp.Row.AEt{b el off:Nat}{l vs:List IN}(r:h.Row b el l)(ho:off+vs.length<=l.length):(h.wr b off vs).next=h.next:=by
 obtain⟨c,h3,e,_⟩:=r.AFT ho;rw[e];rfl
def HN(v:IN)(h:Hp):R:=match Dq v with
 |.ok a=>AEF a h
 |.no=>.no
theorem AK:AN x F e h=HN (x e) h:=by
 unfold AN HN;cases Dq (x e)<;>rfl
theorem AO{a:ABF}:HN (.pointer (some a)) h=AEF a h:=rfl
def Kv(n:Nat)(v:IN)(h:Hp):R:=match Dq v with
 |.ok a=>loadN n a h
 |.no=>.no
theorem Aq{n:Nat}:Bd n x F e h=Kv n (x e) h:=rfl
theorem As{n:Nat}{a:ABF}:Kv n (.pointer (some a)) h=loadN n a h:=rfl
def AER(n:Nat)(p v:IN)(h:Hp):R:=match Dq p with
 |.ok a=>bif wB (BA (cellsOf v)) n then Co a (cellsOf v) h Dt else .no
 |.no=>.no
theorem Ab{n:Nat}:Av n x y F e h=AER n (x e) (y e) h:=by
 unfold Av AER;simp only[BH];cases Dq (x e)<;>rfl
theorem Hp.Row.AER{n b el off:Nat}{l:List IN}{v:IN}(r:h.Row b el l)(W:h.Wf)(AEO:256<=b)(hn:(cellsOf v).length=n)(ho:off+(cellsOf v).length<=l.length)(h1:Bc (cellsOf v)=true):
  AER n (.pointer (some ⟨b,off,none⟩)) v h=.ok AEE (h.wr b off (cellsOf v)):=by
 show(bif wB (BA (cellsOf v)) n then Co ⟨b,off,none⟩ (cellsOf v) h Dt else .no)=_;rw[BL,Am.2 hn,r.store W AEO ho h1];rfl
def fC(v:IN)(h:Hp):R:=bif known v then newRow h 0 (cellsOf v) JB else .no
theorem Ev:DA x F e h=fC (x e) h:=by
 unfold DA fC;simp only[BH]
theorem Es(W:h.Wf){v:IN}(hk:known v=true:=by rfl):fC v h=.ok (.pointer (some ⟨h.next,0,none⟩)) (h.AEA 0 (cellsOf v)):=by
 unfold fC;rw[hk,cond_true,Cw W];rfl
theorem Bx(W:h.Wf){n:Nat}{t:VT}:B7 n t F e h=.ok (.pointer (some ⟨h.next,0,none⟩)) (h.push (.cells t n 0)):=by
 unfold B7;rw[Cv W];rfl
theorem Hp.Row.alloc(W:h.Wf){n:Nat}{t:VT}{l:List IN}(ht:B3 .mt 0 l=some t)(hn:l.length=n):(h.push (.cells t n 0)).Row h.next 0 l:=⟨t,by rw[W.AEa,if_pos rfl,hn],.of ht⟩
theorem Ny{n:Nat}:AF n x F e h=match Dq (x e)with|.ok a=>.ok (.pointer (some ⟨a.block,a.off+n,none⟩)) h|.no=>.no:=by
 unfold AF;cases Dq (x e)with
 |ok a=>exact AZ _ _
 |no=>rfl
def Vr(n:Nat)(v:IN)(h:Hp):R:=match Dq v with
 |.ok a=>.ok (.pointer (some ⟨a.block,a.off+n,none⟩)) h
 |.no=>.no
theorem AG{n:Nat}:AF n x F e h=Vr n (x e) h:=Ny
theorem AM{n b off:Nat}:Vr n (.pointer (some ⟨b,off,none⟩)) h=.ok (.pointer (some ⟨b,off+n,none⟩)) h:=rfl
def Nv(n es:Nat)(p i:IN)(h:Hp):R:=My n es (Dq p) (DE i) h
theorem DL{n es:Nat}:Cb n es x y F e h=Nv n es (x e) (y e) h:=rfl
theorem WF{n es b off i:Nat}(hi:i<n):My n es (.ok ⟨b,off,none⟩) (.ok i) h=.ok (.pointer (some ⟨b,off+i*es,none⟩)) h:=by
 show Bool.rec (motive:=fun _=>R) .no (Ou ⟨b,off,none⟩ (wY i es) h) (wz i n)=_;rw[BD.2 hi];exact AZ _ _
theorem WJ{n es b off i:Nat}{k:wH}(hi:i<n):Nv n es (.pointer (some ⟨b,off,none⟩)) (.int k (i:Int)) h=.ok (.pointer (some ⟨b,off+i*es,none⟩)) h:=WF hi
def AE0(es:Nat)(s i:IN)(h:Hp):R:=match s with
 |.slice (some a) n _=>My n es (.ok a) (DE i) h
 |_=>.no
theorem Ay{es:Nat}:CB es x y F e h=AE0 es (x e) (y e) h:=rfl
theorem Cy{n c es b off i:Nat}{k:wH}(hi:i<n):AE0 es (.slice (some ⟨b,off,none⟩) n c) (.int k (i:Int)) h=.ok (.pointer (some ⟨b,off+i*es,none⟩)) h:=WF hi
def AE5(v:IN)(h:Hp):R:=match v with
 |.slice _ n _=>.ok (AI AT (.ofNat n)) h
 |.chan (some _)=>.ok (AI AT (.ofNat 0)) h
 |_=>.no
theorem AX:Bf x F e h=AE5 (x e) h:=rfl
theorem Dv{o:Option ABF}{n c:Nat}:AE5 (.slice o n c) h=.ok (AI AT (n:Int)) h:=rfl
end
end
noncomputable section
open Go
section
variable {F:AEB}{e:Env}{h h':Hp}{x y:O}
def aT:X->Bool
 |.norm _ _=>false
 |.no=>false
 |_=>true
theorem RS{body:C}{I:Nat->Env->Hp->Prop}{Q:X->Prop}(N:Nat)
  (step:∀ i e h,I i e h->(i<N/\∃ e' h',body F e h=.norm e' h'/\I (i+1) e' h')\/(aT (body F e h)=true/\Q (body F e h))):
  ∀ n i e h,N - i<n->I i e h->Q (iter body n F e h)
 |0,i,e,h,hn,_=>absurd hn (Nat.not_lt_zero _)
 |n+1,i,e,h,hn,hi=>by
  unfold iter;rcases step i e h hi with ⟨h1,e',h',h2,h3⟩|⟨h1,h2⟩
  ·rw[h2]
   exact RS N step n (i+1) e' h' (by omega) h3
  ·cases hb:body F e h with
   |norm e' h'=>rw[hb]at h1;cases h1
   |no=>rw[hb]at h1;cases h1
   |exit i e' h'=>rw[hb]at h2;exact h2
   |ret e' h'=>rw[hb]at h2;exact h2
theorem BU{body:C}(I:Nat->Env->Hp->Prop)(Q:X->Prop)(N:Nat)(hN:N<8796093022208)
  (step:∀ i e h,I i e h->(i<N/\∃ e' h',body F e h=.norm e' h'/\I (i+1) e' h')\/(aT (body F e h)=true/\Q (body F e h)))(h0:I 0 e h):Q (Aw body F e h):=
 RS N step rounds 0 e h (by show N - 0<8796093022208;omega) h0
theorem Bb{n:Nat}(h:n<=9223372036854775807):yK.wrap (n:Int)=n:=IA h
theorem eJ{n:Int}(h0:0<=n)(h:n<=9223372036854775807):yK.wrap n=n:=by
 obtain⟨m,rfl⟩:=Int.eq_ofNat_of_zero_le h0;exact IA (by omega)
theorem EV{n:Nat}(h:n<=18446744073709551615):IntKind.u64.wrap (n:Int)=n:=DN .u64 n h
theorem Ii(n:Nat):AA7.wrap (n:Int)=((n % 256:Nat):Int):=by
 have:AA7.wrap (n:Int)=(n:Int) % 256:=rfl;rw[this];omega
def bv(n:Nat):IN:=.int .u8 (n:Int)
theorem MV:∀ l:List Nat,Et (l.map bv)=some (l.map zF)
 |[]=>rfl
 |n::l=>by
  show(match Et (l.map bv)with|some bs=>AEU n fun n=>some (zF n::bs)|none=>none)=_;rw[MV l];exact AZ _ _
theorem C6:∀ l:List Nat,Bc (l.map bv)=true
 |[]=>rfl
 |n::l=>C6 l
def Hp.Bytes(h:Hp)(v:IN)(l:List Nat):Prop:=(v=.slice none 0 0/\l=[])\/∃ b off c el L,v=.slice (some ⟨b,off,none⟩) l.length c/\h.Row b el L/\off+l.length<=L.length/\(L.drop off).take l.length=l.map bv
theorem Hp.Bytes.src{v:IN}{l:List Nat}(b:h.Bytes v l){n:Nat}(hn:n=l.length)(k:List IN->R):BJ h 1 v n k=k (l.map bv):=by
 subst hn;rcases b with ⟨h1,h2⟩|⟨b,off,c,el,L,h1,h2,h3,h4⟩
 ·rw[h1,h2];rfl
 ·rw[h1,h2.src h3,h4]
theorem Hp.Bytes.shape{v:IN}{l:List Nat}(b:h.Bytes v l):∃ a c,v=.slice a l.length c:=by
 rcases b with ⟨h1,h2⟩|⟨b,off,c,el,L,h1,h2,h3,h4⟩
 ·exact⟨none,0,by rw[h1,h2];rfl⟩
 ·exact⟨_,_,h1⟩
def ur(v:IN)(h:Hp):R:=match v with
 |.slice a n c=>BJ h 1 (.slice a n c) n fun cs=>match Et cs with
  |some bs=>.ok (.string ⟨⟨bs⟩⟩) h
  |none=>.no
 |_=>.no
theorem K7:Fe x F e h=ur (x e) h:=rfl
theorem Hp.Bytes.str{v:IN}{l:List Nat}(b:h.Bytes v l):ur v h=.ok (.string ⟨⟨l.map zF⟩⟩) h:=by
 obtain⟨a,c,rfl⟩:=b.shape;show BJ h 1 (.slice a l.length c) l.length (fun cs=>match Et cs with
  |some bs=>.ok (.string ⟨⟨bs⟩⟩) h
  |none=>.no)=_
 rw[b.src rfl,MV]
def uG(f:List UInt8->List UInt8->Bool)(a b:IN)(h:Hp):R:=da f a b h
theorem P7{f:List UInt8->List UInt8->Bool}:Jt f x y F e h=uG f (x e) (y e) h:=rfl
theorem PX{f:List UInt8->List UInt8->Bool}{a b:List UInt8}:uG f (.string ⟨⟨a⟩⟩) (.string ⟨⟨b⟩⟩) h=.ok (.bool (f a b)) h:=Ff
theorem ji{v:IN}{l:List Nat}(b:h.Bytes v l):lenV v=.ok l.length:=by
 obtain⟨a,c,rfl⟩:=b.shape;rfl
theorem Qd{eb en b n c el:Nat}{l:List IN}{v:IN}(W:h.Wf)(AEO:256<=b)(r:h.Row b el l)(hx:h.Bytes v [])(hc:n<=c)(hn:n<=l.length):
  Dj 1 eb en (.slice (some ⟨b,0,none⟩) n c) v h=.ok (.slice (some ⟨b,0,none⟩) n c) (h.wr b n []):=by
 unfold Dj;simp only[ji hx,hx.src rfl,AZ,xZ];have e1:vx n c=true:=Ac.2 hc;have e0:n+([]:List Nat).length=n:=rfl;simp only[e0,e1,List.map_nil];have e2:FD ⟨b,0,none⟩ (wY n 1)=⟨b,n,none⟩:=by
  rw[show wY n 1=n from yk n];cases n with
  |zero=>rfl
  |succ n=>show(⟨b,xc 0 (vo n),none⟩:ABF)=_;rw[xZ,vk]
 rw[e2,r.store W AEO (by simpa using hn) rfl]
def DQ(es eb en:Nat)(s v:IN)(h:Hp):R:=Dj es eb en s v h
theorem BF{es eb en:Nat}:Bk es eb en x y F e h=DQ es eb en (x e) (y e) h:=rfl
theorem CO{cs:List IN}{k:List IN->R}:EX cs e k []=k cs:=CX _ _
theorem BE{cs:List IN}{k:List IN->R}{off size:Nat}{rest:List (Nat×Nat×O)}(hk:known (x e)=true:=by rfl):EX cs e k ((off,size,x)::rest)=(if(cellsOf (x e)).length=size then(if off+size<=cs.length then EX (over cs off (cellsOf (x e))) e k rest else .no)else .no):=by
 have e0:EX cs e k ((off,size,x)::rest)=(bif known (x e)then(bif wB (BA (cellsOf (x e))) size then(bif vx (xc off size) (BA cs)then EX (lay cs off (cellsOf (x e))) e k rest else .no)else .no)else .no):=BH _ _;have e1:EX cs e k ((off,size,x)::rest)=(bif wB (BA (cellsOf (x e))) size then(bif vx (xc off size) (BA cs)then EX (lay cs off (cellsOf (x e))) e k rest else .no)else .no):=by rw[e0,hk];rfl
 rw[e1,BL,BL,AEs];by_cases h1:(cellsOf (x e)).length=size
 ·rw[if_pos h1,Am.2 h1]
  by_cases h2:off+size<=cs.length
  ·rw[if_pos h2,show vx (xc off size) cs.length=true from Ac.2 h2];rfl
  ·rw[if_neg h2]
   have:vx (xc off size) cs.length=false:=by
    cases e:vx (xc off size) cs.length
    ·rfl
    ·exact absurd (Ac.1 e) h2
   rw[this];rfl
 ·rw[if_neg h1]
  have:wB (cellsOf (x e)).length size=false:=by
   cases e:wB (cellsOf (x e)).length size
   ·rfl
   ·exact absurd (Am.1 e) h1
  rw[this];rfl
theorem Dl{k:wH}{n:Int}:cellsOf (.int k n)=[.int k n]:=rfl
theorem Hy{l vs:List IN}(hl:l.length=vs.length):over l 0 vs=vs:=by
 unfold over;rw[List.take_zero,xE,xL (by omega),wF]
theorem Ej{zero:List IN}{ps:List (Nat×Nat×O)}:B5 zero ps F e h=EX zero e (fun cs=>.ok (.agg ⟨cs⟩) h) ps:=rfl
theorem CT{n:Nat}{zero:List IN}{ps:List (Nat×Nat×O)}:Aj n zero ps F e h=EX zero e (fun cs=>newRow h 0 cs (Eo n n)) ps:=rfl
def Hp.marked(h:Hp):Hp:={next:=h.next,low:=h.low,high:=h.high,mark:=h.next,bl:=h.bl}
def Hp.quiet(h:Hp):Hp:={next:=h.next,low:=h.next,high:=0,mark:=h.mark,bl:=h.bl}
def Hp.back(h h':Hp):Hp:={next:=h'.next,low:=B6 h.low h'.low,high:=Cq h.high h'.high,mark:=h.mark,bl:=h'.bl}
theorem A3{k:C}:CM k F e h=k F e h.marked:=rfl
theorem Hp.Wf.marked(W:h.Wf):h.marked.Wf:=⟨W.big,W.has,W.fresh⟩
theorem Hp.Wf.quiet(W:h.Wf):h.quiet.Wf:=⟨W.big,W.has,W.fresh⟩
theorem Hp.Ext.marked{h0:Hp}(x:h0.Ext h):h0.Ext h.marked:=⟨x.next,x.get,x.low,x.wf.marked⟩
theorem Hp.Row.same{b el:Nat}{l:List IN}(r:h.Row b el l)(hb:h'.bl=h.bl):h'.Row b el l:=by
 obtain⟨c,hc,hl⟩:=r;exact⟨c,by rw[hb];exact hc,hl⟩
theorem Hp.Ext.back(x:h.quiet.Ext h'):h.Ext (h.back h') where
 next:=x.next
 get:=x.get
 low:=by
  show _<=B6 h.low h'.low;rw[BM];have h1:min h.next h.next<=h'.low:=x.low;omega
 wf:=⟨x.wf.big,x.wf.has,x.wf.fresh⟩
theorem DP{f:OpF}{m:Qm}{v:IN}(hf:f F e h.quiet=.ok v h')(x:h.quiet.Ext h')(hm:h.mark<=h.next):Al m f F e h=.ok v (h.back h'):=by
 have h1:min h.next h.next<=h'.low:=x.low;have hq:qOk m h h'.low=true:=by
  cases m with
  |AEV=>exact Ac.2 (by omega)
  |weak=>exact Ac.2 (by omega)
  |free=>rfl
 show(match f F e h.quiet with|.ok v h'=>bif qOk m h h'.low then EG h v h' else .no|.no=>.no)=_;rw[hf];simp only[hq,cond_true];unfold EG;simp only[AZ];rfl
theorem BO{f:OpF}{v:IN}(hf:f F e h.quiet=.ok v h'):Al .free f F e h=.ok v (h.back h'):=by
 show(match f F e h.quiet with|.ok v h'=>bif qOk .free h h'.low then EG h v h' else .no|.no=>.no)=_;rw[hf];show EG h v h'=_;unfold EG;simp only[AZ];rfl
def JA(v:IN)(k:C)(F:AEB)(e:Env)(h:Hp):X:=match AEn v with
 |.ok b=>bif wz b h.mark then k F e h else .no
 |.no=>k F e h
theorem EH{k:C}:FE x k F e h=JA (x e) k F e h:=rfl
theorem Dg{b off:Nat}{k:C}(hb:b<h.mark):JA (.pointer (some ⟨b,off,none⟩)) k F e h=k F e h:=by
 show(bif wz b h.mark then k F e h else .no)=_;rw[BD.2 hb];rfl
theorem Da{k:C}:DI x [] k F e h=k F e h:=by
 unfold DI;cases AEn (x e)<;>rfl
theorem Hp.Ext.quiet{h0:Hp}(x:h0.Ext h):h0.Ext h.quiet:=⟨x.next,x.get,by show _<=h.next;have:=x.next;omega,x.wf.quiet⟩
theorem Hp.Ext.AFK{h0:Hp}(x:h0.Ext h)(y:h0.Ext h'):h0.Ext (h.back h') where
 next:=y.next
 get:=y.get
 low:=by
  show _<=B6 h.low h'.low;rw[BM];have:=x.low;have:=y.low;omega
 wf:=⟨y.wf.big,y.wf.has,y.wf.fresh⟩
end
end
noncomputable section
open Go Go.RowKit Go.WideShapes Go.ChangeShapes
def sliceAt(b:Nat)(a:ABF)(n c:Nat):Phi:=fun i=>if i=b then some {blk:=a.block,off:=a.off,sz:=c,room:=c,es:=1,inp:=true}else none
theorem Yj{P:xD}{W:wb}{base t e:Nat}{v:IN}(ht:P.underlying t=some (.slice e))(h:xk P W .any base t v):
  v=.slice none 0 0\/∃ a n c,v=.slice (some a) n c/\n<=c/\a.spot=none/\a.block<W.heap.size:=by
 unfold xk at h;rw[ht]at h;simp only at h;unfold ABX at h;rw[ht]at h;have h:Cell.ok P W .any base t v:=by cases v<;>exact h
 unfold Cell.ok at h;rw[ht]at h;split at h<;>first|(exact h.elim;done)|skip
 all_goals (rename_i e1 _;cases e1)
 ·exact .inl rfl
 ·obtain⟨h1,_,h2⟩:=h
  obtain⟨_,h3,row,cells,h4,_⟩:=h2;refine .inr ⟨_,_,_,rfl,h1,h3,?_⟩;unfold World.shape? at h4;split at h4
  ·rename_i hb;exact(yU.1 hb).1
  all_goals first|(cases h4;done)|(rename_i hb;exact(yU.1 hb).1)
theorem Uw{P:xD}{W:wb}{base t e:Nat}{v:IN}(ht:P.underlying t=some (.slice e))(h:ABX P W .any base t v):
  v=.slice none 0 0\/∃ a n c,v=.slice (some a) n c/\n<=c/\a.spot=none/\a.block<W.heap.size:=
 Yj (base:=base) ht (by unfold xk;rw[ht];exact h)
end
noncomputable section
open Go Go.RowKit Go.WideShapes Go.ChangeShapes
theorem jb{P:xD}{U:TTy}{bs:FT}(hC:∀ n,DH P U (call bs n)){n f:Nat}{xs args:List IN}{φ:Phi}{w:wb}{h0 h':Hp}(hr:call bs n f xs h0=.ok (.bool true) h')(x:h0.Ext h')(hl:h0.low=h0.next)
  (ha:AEX φ xs args)(H:AEG U φ nil h0 w):Calls P f ⟨args⟩ w fun e w'=>e=.returned (.bool true)/\Below w.heap.size w w':=by
 obtain⟨_,hc⟩:=hC n f xs h0 _ h' hr;refine(hc φ w args ha H).mono fun e w' ⟨v',ψ,he,hv,_,ev⟩=>?_
 have:=hv.AE7;subst this;refine⟨he,⟨ev.os,ev.tape,ev.output,ev.size,fun k hk=>ev.frame k hk fun i p hp hn h1 _ _=>?_⟩⟩;have h2:=(H.dom i p hp).1;have h3:=x.low;omega
theorem OK:∀ (n i:Nat),i+1<2 ^ n->(FY n).has i
 |0,i,h=>by rw[Nat.pow_zero]at h;omega
 |n+1,0,_=>trivial
 |n+1,k+1,h=>by
  show(BT.nd .dead (FY n) (FY n)).has (k+1);rw[BT.AEK];have h1:k/2+1<2 ^ n:=by
   have:2 ^ (n+1)=2*2 ^ n:=by rw[ADW,xr]
   omega
  split<;>exact OK n _ h1
def LR(L:List IN):Blk:=.cells (ofL L) L.length 0
def inB:List (List IN)->Nat->BT->BT
 |[],_,t=>t
 |L::Ls,i,t=>inB Ls (i+1) (t.lay i (LR L))
theorem Pi:∀ (Ls:List (List IN)) (i:Nat) (t:BT),(∀ j,j<256->t.has j)->i+Ls.length<=256->
  (∀ j,j<256->(inB Ls i t).has j)/\(∀ k L,Ls[k]? =some L->(inB Ls i t).get (i+k)=LR L)/\(∀ j,j<i\/i+Ls.length<=j->(inB Ls i t).get j=t.get j)
 |[],i,t,ht,_=>⟨ht,(fun k L h=>by cases h),fun _ _=>rfl⟩
 |L::Ls,i,t,ht,hl=>by
  have hl':i+1+Ls.length<=256:=by simp only[vw]at hl;omega
  have hi:∀ j,j<i->t.has j:=fun j hj=>ht j (by omega)
  obtain⟨a,b,c⟩:=Pi Ls (i+1) (t.lay i (LR L)) (fun j hj=>BT.AFJ hi j (.inr (ht j hj))) hl';refine⟨a,fun k M h=>?_,fun j hj=>?_⟩
  ·cases k with
   |zero=>
    obtain rfl:L=M:=Option.some.inj h;show(inB Ls (i+1) (t.lay i (LR L))).get i=_;rw[c i (.inl (Nat.lt_succ_self i)),BT.AFD hi,if_pos rfl]
   |succ k=>
    have:=b k M h;rw[show i+1+k=i+(k+1)by omega]at this;exact this
  ·show(inB Ls (i+1) (t.lay i (LR L))).get j=_
   simp only[vw]at hj;rw[c j (by omega),BT.AFD hi,if_neg (by omega)]
def inH(Ls:List (List IN)):Hp:={next:=256,low:=256,high:=0,mark:=256,bl:=inB Ls 0 (FY 9)}
theorem Ms(j:Nat)(hj:j<256):(FY 9).has j:=OK 9 j (by omega)
theorem Pj{Ls:List (List IN)}(hl:Ls.length<=256){i:Nat}{L:List IN}(h:Ls[i]? =some L):(inH Ls).bl.get i=LR L:=by
 have:=(Pi Ls 0 (FY 9) Ms (by omega)).2.1 i L h
 rwa [vk]at this
theorem an{Ls:List (List IN)}(hl:Ls.length<=256):(inH Ls).Wf where
 big:=IT _
 has:=(Pi Ls 0 (FY 9) Ms (by omega)).1
 fresh:=fun i hi=>by
  have hi:256<=i:=hi;have:=(Pi Ls 0 (FY 9) Ms (by omega)).2.2 i (.inr (by omega));show(inB Ls 0 (FY 9)).get i=_;rw[this];exact Kj 9 i
theorem Ly{Ls:List (List IN)}(hl:Ls.length<=256){i:Nat}{L:List IN}(h:Ls[i]? =some L):(inH Ls).Row i 0 L:=⟨ofL L,Pj hl h,(Hx L).2⟩
def LG(W:wb)(a:ABF)(L:List IN):Prop:=∃ cs t fr,W.heap[a.block]? =some (.cells cs t fr)/\(∀ j,j<L.length->cs[a.off+j]? =some (L.getD j AEE))/\∀ j,j<L.length->¬ (fr.1<=a.off+j/\a.off+j<fr.2)
def QF(a:ABF)(c:Nat):Pl:={blk:=a.block,off:=if c=0 then 0 else a.off,sz:=c,room:=c,es:=1,inp:=true}
def OU(ps:List (Option Pl)):Phi:=fun i=>(ps[i]?).getD none
theorem cx{W:wb}{U:TTy}{φ:Phi}{a:ABF}{L L':List IN}(h:LG W a L')(hL:AEX φ L L'):AFA U φ (QF a L.length) (LR L) W.heap[a.block]?:=by
 obtain⟨cs,t,fr,hb,hc,hf⟩:=h;have hlen:L'.length=L.length:=hL.length;rw[hlen]at hc hf;rw[hb];refine .cells {kind:=⟨rfl,.inl ⟨rfl,rfl,rfl,.inr rfl⟩⟩,room:=IT _,fits:=?_,loose:=.inr ⟨rfl,rfl,fun o h1 h2=>?_⟩,cell:=fun j hj=>?_}
 ·show(if L.length=0 then 0 else a.off)+L.length<=cs.size
  rcases wg L.length with h0|h0
  ·rw[if_pos h0,h0];exact Nat.zero_le _
  ·rw[if_neg (by omega)]
   have:=(yU.1 (hc (L.length - 1) (by omega))).1;omega
 ·have h1:(if L.length=0 then 0 else a.off)<=o:=h1
  have h2:o<(if L.length=0 then 0 else a.off)+L.length:=h2;rcases wg L.length with h0|h0
  ·rw[if_pos h0]at h2;omega
  ·rw[if_neg (by omega)]at h1 h2
   have:=hf (o - a.off) (by omega);have e:a.off+(o - a.off)=o:=by omega
   rw[e]at this;exact this
 ·have h1:=hc j hj
  obtain⟨v',hv1,hv2⟩:=hL.get j (L.getD j AEE) (by rw[vm,sh hj];rfl);refine⟨v',?_,?_⟩
  ·show cs[(if L.length=0 then 0 else a.off)+j]? =_
   rw[if_neg (by omega),h1,vm,hv1];rfl
  ·rw[((Hx L).2 j hj).2];exact hv2
theorem LG.lt{W:wb}{a:ABF}{L:List IN}(h:LG W a L):a.block<W.heap.size:=by
 obtain⟨cs,t,fr,hb,_⟩:=h;exact(yU.1 hb).1
theorem qF{W:wb}{U:TTy}{ps:List (Option Pl)}{Ls:List (List IN)}(AEO:Ls.length<=256)
  (h:∀ i p,OU ps i=some p->∃ a L,p=QF a L.length/\Ls[i]? =some L/\a.block<W.heap.size/\AFA U (OU ps) (QF a L.length) (LR L) W.heap[a.block]?):AEG U (OU ps) nil (inH Ls) W where
 dom:=fun i p e=>by
  obtain⟨a,L,rfl,h1,h2,_⟩:=h i p e;have h3:=(wC.1 h1).1;exact⟨by show i<256;omega,h2⟩
 inj:=fun i j p q h1 h2 _ _ _ _ hor=>by
  obtain⟨a,L,rfl,_⟩:=h i p h1;obtain⟨b,M,rfl,_⟩:=h j q h2;rcases hor with h3|h3<;>cases h3
 row:=fun i p e _=>by
  obtain⟨a,L,rfl,h1,_,h3⟩:=h i p e;rw[Pj AEO h1];exact h3
 fresh:=(an AEO).fresh
 kind:=fun i p c s e hp hc=>by
  obtain⟨a,L,rfl,h1,_,h3⟩:=h i p hp;rw[Pj AEO h1]at hc;have hc:Blk.cells (ofL L) L.length 0=.cells c s e:=hc;cases hc;exact⟨rfl,.inl ⟨rfl,rfl,rfl,.inr rfl⟩⟩
 inp:=fun i p e _=>by
  obtain⟨a,L,rfl,h1,_⟩:=h i p e;have h3:=(wC.1 h1).1;omega
theorem uq{φ:Phi}{a:ABF}{n c i:Nat}(hs:a.spot=none)(hn:n<=c)(hp:φ i=some (QF a c)):AED φ (.slice (some ⟨i,0,none⟩) n c) (.slice (some a) n c):=by
 refine .slice hn ⟨rfl,hs,_,hp,rfl,?_⟩;rcases wg c with h|h
 ·exact .inr ⟨h,.inl h⟩
 ·refine .inl ⟨h,?_,.inl rfl⟩
  show a.off=(if c=0 then 0 else a.off)+0;rw[if_neg (by omega),Nat.add_zero]
def ints(k:wH)(Z:List Int):List IN:=Z.map (.int k)
def vK(k:wH)(W:wb)(v:IN)(zs:List Int):Prop:=(v=.slice none 0 0/\zs=[])\/∃ (a:ABF) (n c:Nat) (Z:List Int),v=.slice (some a) n c/\n<=c/\a.spot=none/\Z.length=c/\zs=Z.take n/\LG W a (ints k Z)
def Hp.AEb(h:Hp)(v:IN)(xs:List IN):Prop:=(v=.slice none 0 0/\xs=[])\/∃ b off c el L,v=.slice (some ⟨b,off,none⟩) xs.length c/\h.Row b el L/\off+xs.length<=L.length/\(L.drop off).take xs.length=xs
def Yx(W:wb)(L:List IN)(q:Option Pl):Prop:=q=none\/∃ a,q=some (QF a L.length)/\LG W a L
end
noncomputable section
open Go Go.RowKit Go.ChangeShapes
theorem sT:type_of% (wE @Gw (wE @PN (wE @Gl (wE @ZK (wE @HY (wE @BB (wE @Ap (wE @MX (wE @VX (wE @Qj (wE @Gx (wE @aK (wE @Iz (wE @Ha (wE @A8 (wE @Oy (wE @CU (wE @D9 (wE @Bz (wE @Az (wE @Dw (wE @Ho @AD)))))))))))))))))))))):=wE @Gw (wE @PN (wE @Gl (wE @ZK (wE @HY (wE @BB (wE @Ap (wE @MX (wE @VX (wE @Qj (wE @Gx (wE @aK (wE @Iz (wE @Ha (wE @A8 (wE @Oy (wE @CU (wE @D9 (wE @Bz (wE @Az (wE @Dw (wE @Ho @AD)))))))))))))))))))))
theorem iN:type_of% (wE @J4 (wE @LZ (wE @ACD @vk))):=wE @J4 (wE @LZ (wE @ACD @vk))
theorem cA0:type_of% (wE @Ba (wE @AV @A1)):=(wE @Ba (wE @AV @A1))
theorem lV0:type_of% (wE @Bg @Q8):=(wE @Bg @Q8)
theorem gD:type_of% (wE @Ti (wE @OR (wE @OQ (wE @OP (wE @OO (wE @LO (wE @S4 (wE @SM (wE @NZ @LV))))))))):=wE @Ti (wE @OR (wE @OQ (wE @OP (wE @OO (wE @LO (wE @S4 (wE @SM (wE @NZ @LV))))))))
section
variable {F:AEB}{e:Env}{h h':Hp}{x y:O}
theorem Hp.AEb.ext{v:IN}{l:List IN}(b:h.AEb v l)(W:h.Wf)(x:h.Ext h'):h'.AEb v l:=by
 rcases b with h1|⟨b,off,c,el,L,h1,h2,h3⟩
 ·exact .inl h1
 ·exact .inr ⟨b,off,c,el,L,h1,h2.ext W x,h3⟩
theorem Hp.AEb.same{v:IN}{l:List IN}(b:h.AEb v l)(hb:h'.bl=h.bl):h'.AEb v l:=by
 rcases b with h1|⟨b,off,c,el,L,h1,h2,h3⟩
 ·exact .inl h1
 ·exact .inr ⟨b,off,c,el,L,h1,h2.same hb,h3⟩
theorem Hp.AEb.src{v:IN}{l:List IN}(b:h.AEb v l){n:Nat}(hn:n=l.length)(k:List IN->R):BJ h 1 v n k=k l:=by
 subst hn;rcases b with ⟨h1,h2⟩|⟨b,off,c,el,L,h1,h2,h3,h4⟩
 ·rw[h1,h2];rfl
 ·rw[h1,h2.src h3,h4]
theorem Hp.AEb.shape{v:IN}{l:List IN}(b:h.AEb v l):∃ a c,v=.slice a l.length c:=by
 rcases b with ⟨h1,h2⟩|⟨b,off,c,el,L,h1,h2,h3,h4⟩
 ·exact⟨none,0,by rw[h1,h2];rfl⟩
 ·exact⟨_,_,h1⟩
theorem Hp.AEb.len{v:IN}{l:List IN}(b:h.AEb v l):AE5 v h=.ok (AI AT (l.length:Int)) h:=by
 obtain⟨a,c,rfl⟩:=b.shape;rfl
theorem Hp.AEb.lenV{v:IN}{l:List IN}(b:h.AEb v l):lenV v=.ok l.length:=by
 obtain⟨a,c,rfl⟩:=b.shape;rfl
theorem Hp.AEb.at{v:IN}{l:List IN}(b:h.AEb v l){i:Nat}(hi:i<l.length):∃ a,AE0 1 v (AI AT (i:Int)) h=.ok (.pointer (some a)) h/\HN (.pointer (some a)) h=.ok (l.getD i AEE) h:=by
 rcases b with ⟨h1,h2⟩|⟨b,off,c,el,L,h1,h2,h3,h4⟩
 ·rw[h2]at hi;cases hi
 ·refine⟨⟨b,off+i*1,none⟩,by rw[h1];exact Cy hi,?_⟩
  rw[AO,h2.AEF (by omega)];have:=congrArg (fun m=>m[i]?) h4;simp only[zC,zd,if_pos hi]at this;rw[vm,yk,this,vm]
theorem Hp.AEb.bytes{v:IN}{l:List Nat}(b:h.AEb v (l.map bv)):h.Bytes v l:=by
 rcases b with ⟨h1,h2⟩|⟨b,off,c,el,L,h1,h2,h3,h4⟩
 ·exact .inl ⟨h1,by cases l with
   |nil=>rfl
   |cons a l=>cases h2⟩
 ·rw[List.length_map]at h1 h3 h4
  exact .inr ⟨b,off,c,el,L,h1,h2,h3,h4⟩
theorem Hp.AEb.cut{v:IN}{l:List IN}(b:h.AEb v l){n:Nat}(hn:n<l.length):∃ o c,v=.slice (some o) l.length c/\h.AEb (.slice (some o) n c) (l.take n):=by
 rcases b with ⟨h1,h2⟩|⟨b,off,c,el,L,h1,h2,h3,h4⟩
 ·rw[h2]at hn;cases hn
 ·have hl:(l.take n).length=n:=by rw[wT];omega
  refine⟨⟨b,off,none⟩,c,h1,.inr ⟨b,off,c,el,L,by rw[hl],h2,by omega,?_⟩⟩;rw[hl,<- h4,List.take_take,Nat.min_eq_left (by omega)]
def AEe(v:IN)(b:Nat):Prop:=∃ off n c,v=.slice (some ⟨b,off,none⟩) n c
theorem GN{b:Nat}:¬ AEe (.slice none 0 0) b:=fun⟨_,_,_,h⟩=>by cases h
theorem Lq{b b' n c:Nat}(h:b'≠b):¬ AEe (.slice (some ⟨b,0,none⟩) n c) b':=fun⟨_,_,_,e⟩=>by
 injection e with e _ _
 injection e with e
 injection e with e _ _
 exact h e.symm
def Hp.Own(h:Hp)(k en:Nat)(v:IN)(xs:List IN):Prop:=(v=.slice none 0 0/\xs=[])\/∃ b,v=.slice (some ⟨b,0,none⟩) xs.length xs.length/\h.Row b (en+1) xs/\k<=b/\256<=b
theorem Hp.Own.vals{k en:Nat}{v:IN}{xs:List IN}(o:h.Own k en v xs):h.AEb v xs:=by
 rcases o with h1|⟨b,h1,h2,_⟩
 ·exact .inl h1
 ·exact .inr ⟨b,0,_,_,xs,h1,h2,by omega,by rw[List.drop_zero,List.take_length]⟩
theorem Hp.Own.le{k k' en:Nat}{v:IN}{xs:List IN}(o:h.Own k en v xs)(hk:k'<=k):h.Own k' en v xs:=by
 rcases o with h1|⟨b,h1,h2,h3,h4⟩
 ·exact .inl h1
 ·exact .inr ⟨b,h1,h2,wd hk h3,h4⟩
theorem Hp.Own.keep{k en:Nat}{v:IN}{xs:List IN}(o:h.Own k en v xs)(hk:∀ b el L,AEe v b->h.Row b el L->h'.Row b el L):h'.Own k en v xs:=by
 rcases o with h1|⟨b,h1,h2,h3,h4⟩
 ·exact .inl h1
 ·exact .inr ⟨b,h1,hk b _ _ ⟨0,_,_,h1⟩ h2,h3,h4⟩
theorem Hp.Own.ext{k en:Nat}{v:IN}{xs:List IN}(o:h.Own k en v xs)(W:h.Wf)(x:h.Ext h'):h'.Own k en v xs:=o.keep fun _ _ _ _ r=>r.ext W x
theorem Hp.Own.same{k en:Nat}{v:IN}{xs:List IN}(o:h.Own k en v xs)(hb:h'.bl=h.bl):h'.Own k en v xs:=o.keep fun _ _ _ _ r=>r.same hb
theorem En{h0:Hp}{eb en k:Nat}{v u:IN}{xs ys:List IN}(x0:h0.Ext h)(hk:h0.next<=k)(hk2:k<=h.next)(o:h.Own k en v xs)(y:h.AEb u ys)(hy:0<ys.length)(ha:Bc ys=true)(hm:(xs.length+ys.length+1)*(eb+1)<=1099511627776):
  ∃ h' v',DQ 1 eb en v u h=.ok v' h'/\h0.Ext h'/\h'.Own k en v' (xs++ys)/\h'.next=h.next+1/\∀ b el L,¬ AEe v b->h.Row b el L->h'.Row b el L/\¬ AEe v' b:=by
 have W:=x0.wf;rcases o with ⟨rfl,rfl⟩|⟨b,rfl,r,hb,hb2⟩
 ·obtain⟨t1,t2⟩:=Hx ys
  refine⟨h.push (.cells (ofL ys) ys.length (en+1)),.slice (some ⟨h.next,0,none⟩) ys.length ys.length,?_,x0.push _,.inr ⟨h.next,rfl,⟨ofL ys,by rw[W.AEa,if_pos rfl];rfl,t2⟩,hk2,W.big⟩,rfl,fun b' el' L' _ r'=>⟨r'.push W _,Lq (by have:=r'.lt W;omega)⟩⟩;unfold DQ Dj;simp only[y.lenV,y.src rfl,AZ,xZ,vk];have e1:vx ys.length 0=false:=by
   cases e:vx ys.length 0
   ·rfl
   ·have:=Ac.1 e;omega
  have e2:vx (wY (vo ys.length) (vo eb)) Jm=true:=Ac.2 (IR (by
   have:=hm;simp only[wl,vk]at this;exact this))
  rw[e1];simp only[e2,cond_true,ha];unfold HJ BJ Jf;simp only[xE,t1];unfold E5;simp only[BL];unfold CL;rw[AZ,Cv W];rfl
 ·obtain⟨cc,hcc,hl⟩:=r.rowOf
  obtain⟨t,h2,h3⟩:=EC ys cc xs xs.length hl (.inr rfl);have h3:t.Is (xs++ys):=by
   have e:xs.drop (xs.length+ys.length)=[]:=xL (by omega);rw[e]at h3
   simpa using h3
  have hlen:(xs++ys).length=xs.length+ys.length:=No;have hlt:=r.lt W;have W1:(h.put b .dead).Wf:=W.put hlt _;have x1:h0.Ext (h.put b .dead):=x0.put (by omega) hlt _;refine⟨(h.put b .dead).push (.cells t (xs.length+ys.length) (en+1)),.slice (some ⟨h.next,0,none⟩) (xs.length+ys.length) (xs.length+ys.length),?_,x1.push _,.inr ⟨h.next,by rw[hlen],⟨t,by
   have:=W1.AEa (.cells t (xs.length+ys.length) (en+1)) h.next;rw[this,if_pos (show h.next=(h.put b .dead).next from rfl),hlen],h3⟩,hk2,W.big⟩,rfl,fun b' el' L' hne r'=>?_⟩
  ·unfold DQ Dj
   simp only[y.lenV,y.src rfl,AZ,xZ];have e1:vx (xs.length+ys.length) xs.length=false:=by
    cases e:vx (xs.length+ys.length) xs.length
    ·rfl
    ·have:=Ac.1 e;omega
   have e2:vx (wY (vo (xs.length+ys.length)) (vo eb)) Jm=true:=Ac.2 (IR hm);rw[e1];simp only[e2,cond_true,ha];unfold HJ;have e3:wB xs.length (wY xs.length 1)=true:=Am.2 (yk _).symm;simp only[hcc,e3,h2];unfold E5;have e4:LJ 0 xs.length 1 xs.length=true:=by
    unfold LJ;cases xs.length with
    |zero=>rfl
    |succ n=>exact Am.2 (by show 0+(n+1)*1=n+1;omega)
   simp only[hcc,BL,xZ,Nat.beq_refl,cond_true,e4];rw[Do W hb2 hlt];unfold CL;rw[AZ,Cv W1];rfl
  ·have AGi:b'≠b:=fun e=>hne ⟨0,_,_,by rw[e]⟩
   have hb':b'<h.next:=r'.lt W;obtain⟨c',hc',hl'⟩:=r';refine⟨⟨c',?_,hl'⟩,Lq (by omega)⟩;rw[W1.AEa,if_neg (by show b'≠h.next;omega),W.AEk hlt,if_neg AGi,hc']
theorem IZ(W:h.Wf){g:O}{z v:IN}(hv:g e=v)(hk:known v=true)(h1:cellsOf v=[v]):Aj 1 [z] [(0,1,g)] F e h=.ok (.slice (some ⟨h.next,0,none⟩) 1 1) (h.AEA 0 [v]):=by
 rw[CT,BE (hk:=by rw[hv];exact hk),hv,h1,if_pos (show [v].length=1 from rfl),if_pos (show 0+1<=[z].length from IT _),CO,Cw W];rfl
theorem SR(W:h.Wf){v:IN}:(h.AEA 0 [v]).AEb (.slice (some ⟨h.next,0,none⟩) 1 1) [v]:=.inr ⟨h.next,0,1,0,[v],rfl,Hp.Row.new W 0 [v],by simp,rfl⟩
theorem HU(k:wH):∀ Z:List Int,Bc (ints k Z)=true
 |[]=>rfl
 |z::Z=>HU k Z
theorem Jv{h0:Hp}{eb en k:Nat}{v:IN}{xs:List IN}{n:Int}{kd:wH}(x0:h0.Ext h)(hk:h0.next<=k)(hk2:k<=h.next)(o:h.Own k en v xs)(hm:(xs.length+2)*(eb+1)<=1099511627776):
  ∃ h' v',DQ 1 eb en v (.slice (some ⟨h.next,0,none⟩) 1 1) (h.AEA 0 [.int kd n])=.ok v' h'/\h0.Ext h'/\h'.Own k en v' (xs++[.int kd n])/\h'.next=h.next+2/\∀ b el L,¬ AEe v b->h.Row b el L->h'.Row b el L/\¬ AEe v' b:=by
 have W:=x0.wf;have x1:=x0.AEA 0 [.int kd n];have o1:(h.AEA 0 [.int kd n]).Own k en v xs:=o.ext W ((Hp.Ext.refl W).AEA _ _);obtain⟨h',v',a,b,c,d,f⟩:=En (eb:=eb) x1 hk (AAh hk2) o1 (SR W) (by simp) rfl (by simpa using hm);exact⟨h',v',a,b,c,d,fun b' el L hb r=>f b' el L hb (r.push W _)⟩
def HV(F:AEB)(v:IN)(args:List IN)(h:Hp):R:=match v with
 |.func (.func g) first cap=>F g (first.toList++(args++cap.toList)) h
 |_=>.no
theorem Ca{f:O}{l:List O}:Ei f l F e h=HV F (f e) (vals e l) h:=by
 show(match f e with|.func (.func g) first cap=>AEr (vals e l) (fun args=>F g (first.toList++(args++cap.toList)) h)|_=>.no)=_;unfold HV;split<;>simp only[CX]
theorem CI{g:Nat}{l c args:List IN}:HV F (.func (.func g) ⟨l⟩ ⟨c⟩) args h=F g (l++(args++c)) h:=rfl
theorem Df{fn:Fn}{l c:List O}:FA fn l c F e h=.ok (.func fn ⟨vals e l⟩ ⟨vals e c⟩) h:=by
 show AEr (vals e l) (fun f=>AEr (vals e c) fun c=>.ok (.func fn ⟨f⟩ ⟨c⟩) h)=_;rw[CX,CX]
end
def Y9(args:List IN)(h:Hp):R:=match args with
 |[]=>.ok (.bool true) h
 |_::_=>.no
def KI:Body:=⟨[.x (fun _=>Y9)],cNo⟩
theorem G3{U:TTy}{φ:Phi}{E:Nat->Prop}{h:Hp}{w w':wb}(H:AEG U φ E h w)(hb:Below w.heap.size w w'):AEG U φ E h w'/\Evo φ h w φ h w':=
 ⟨{dom:=fun i p e=>⟨(H.dom i p e).1,xT (H.dom i p e).2 hb.size⟩
   inj:=H.inj
   row:=fun i p e hE=>(by rw[hb.block _ (H.dom i p e).2];exact H.row i p e hE)
   fresh:=H.fresh
   kind:=H.kind
   inp:=H.inp},
  {le:=.refl _
   new:=fun _ _ e=>.inl e
   next:=IT _
   size:=hb.size
   tape:=hb.tape
   os:=hb.os
   output:=hb.output
   frame:=fun k hk _=>hb.block k hk
   back:=fun i p e hl _=>⟨i,p,e,hl,rfl,rfl,.inl rfl⟩
   kept:=fun _ _ _=>rfl
   low:=IT _
   high:=IT _
   shape:=fun _ _=>.refl _
   only:=fun _ _ _=>rfl
   all:=fun _ h1 h2=>absurd h2 (Nat.not_lt.2 h1)}⟩
theorem Yq{P:xD}{U:TTy}{f:Nat}(hS:∃ fn,P.funcs[f]? =some fn/\fn.name≠"runtime.NumGoroutine" /\fn.body.isNone=false)(hc:∀ w:wb,Calls P f #[] w fun e w'=>e=.returned (.bool true)/\Below w.heap.size w w'):It P U f KI:=fun F args h v h' _ hr=>⟨hS,fun φ w args' AEh H=>by
 have hr:Y9 args h=.ok v h':=hr;cases args with
 |cons a l=>cases hr
 |nil=>
  cases hr;cases AEh;exact(hc w).mono fun e w' ⟨he,hb⟩=>⟨_,φ,he,.bool true,(G3 H hb).1,(G3 H hb).2⟩⟩
theorem Iw{bs:FT}{n f:Nat}(hb:bs.get f=some KI){h:Hp}:call bs (vo n) f [] h=.ok (.bool true) h:=by
 rw[Ae hb];rfl
end
noncomputable section
open Go
def B8(n:Nat):List Nat:=if h:n<128 then [n]else(n % 128+128)::B8 (n/128)
termination_by n
decreasing_by exact AA6 (by omega) (by omega)
theorem FB{n:Nat}(h:n<128):B8 n=[n]:=by rw[B8,dif_pos h]
theorem Gi{n:Nat}(h:128<=n):B8 n=(n % 128+128)::B8 (n/128):=by rw[B8,dif_neg (by omega)]
theorem eE:∀ (n x:Nat),x∈B8 n->x<256:=by
 intro n
 induction n using ABn with
 |_ n ih=>
  intro x hx;by_cases h:n<128
  ·rw[FB h,List.mem_singleton]at hx
   omega
  ·rw[Gi (by omega)]at hx
   rcases List.mem_cons.1 hx with rfl|hx
   ·omega
   ·exact ih (n/128) (AA6 (by omega) (by omega)) x hx
theorem Ys(n:Nat):0<(B8 n).length:=by
 by_cases h:n<128
 ·rw[FB h];exact Nat.one_pos
 ·rw[Gi (by omega)];exact ABQ _
theorem EE:∀ (k n:Nat),n<128 ^ (k+1)->(B8 n).length<=k+1
 |0,n,h=>by
  have h:n<128:=by simpa using h
  rw[FB h];exact IT _
 |k+1,n,h=>by
  by_cases h1:n<128
  ·rw[FB h1];show 1<=_;omega
  ·rw[Gi (by omega),vw]
   have h2:n<128*128 ^ (k+1):=by rw[ADW]at h;rw[xr];exact h
   have:=EE k (n/128) (AB8 h2);omega
theorem LE{n:Nat}(h:n<18446744073709551616):(B8 n).length<=10:=EE 9 n (by
 have:(128:Nat) ^ (9+1)=1180591620717411303424:=by decide
 rw[this];omega)
def Fz:Nat->Nat->List Nat->Option (Nat×Nat)
 |_,_,[]=>none
 |k,acc,c::r=>if(0<k/\c=0)\/(8<k/\1<c)then none else if c<128 then some (acc+c*2 ^ (7*k),k+1)else Fz (k+1) (acc+c % 128*2 ^ (7*k)) r
theorem Nc(k:Nat):2 ^ (7*(k+1))=128*2 ^ (7*k):=by
 rw[show 7*(k+1)=7+7*k by omega,ADi,show(2:Nat) ^ 7=128 from rfl]
theorem Sh{k:Nat}(hk:k<=8):2 ^ (64 - 7*k)=128*2 ^ (64 - 7*(k+1)):=by
 rw[show 64 - 7*k=7+(64 - 7*(k+1))by omega,ADi,show(2:Nat) ^ 7=128 from rfl]
theorem eC:∀ (n k acc:Nat) (r:List Nat),k<=9->n<2 ^ (64 - 7*k)->(0<k->n≠0)->Fz k acc (B8 n++r)=some (acc+n*2 ^ (7*k),k+(B8 n).length):=by
 intro n
 induction n using ABn with
 |_ n ih=>
  intro k acc r hk hn h0;by_cases h:n<128
  ·rw[FB h]
   show Fz k acc (n::r)=_;have h1:¬ ((0<k/\n=0)\/(8<k/\1<n)):=by
    rintro (⟨a,b⟩|⟨a,b⟩)
    ·exact h0 a b
    ·have:k=9:=by omega
     subst this;have:n<2:=hn;omega
   rw[Fz,if_neg h1,if_pos h];rfl
  ·have hk8:k<=8:=by
    rcases wN k 9 with h1|h1
    ·omega
    ·have:k=9:=by omega
     subst this;have:n<2:=hn;omega
   rw[Gi (by omega)];show Fz k acc ((n % 128+128)::(B8 (n/128)++r))=_;have h1:¬ ((0<k/\n % 128+128=0)\/(8<k/\1<n % 128+128)):=by omega
   have h2:¬ n % 128+128<128:=by omega
   rw[Fz,if_neg h1,if_neg h2];have hlt:n/128<2 ^ (64 - 7*(k+1)):=by
    rw[Sh hk8]at hn;exact AB8 hn
   rw[ih (n/128) (AA6 (by omega) (by omega)) (k+1) _ r (by omega) hlt (by omega)];have e2:(n % 128+128) % 128=n % 128:=by omega
   have e4:acc+n % 128*2 ^ (7*k)+n/128*(128*2 ^ (7*k))=acc+n*2 ^ (7*k):=by
    have e5:n*2 ^ (7*k)=(128*(n/128)+n % 128)*2 ^ (7*k):=by rw[Nat.div_add_mod]
    rw[e5,AAn,xr 128 (n/128),ADE];omega
   rw[e2,Nc,e4,vw,show k+1+(B8 (n/128)).length=k+((B8 (n/128)).length+1)by omega]
theorem TR:∀ (l:List Nat) (k acc v j:Nat),k<=9->(∀ x∈l,x<256)->Fz k acc l=some (v,j)->∃ n r,l=B8 n++r/\v=acc+n*2 ^ (7*k)/\j=k+(B8 n).length/\(0<k->n≠0)/\n<2 ^ (64 - 7*k)
 |[],k,acc,v,j,_,_,h=>by cases h
 |c::r,k,acc,v,j,hk,hb,h=>by
  rw[Fz]at h;split at h
  ·cases h
  ·rename_i h1
   split at h
   ·rename_i h2
    cases h;refine⟨c,r,by rw[FB h2];rfl,rfl,by rw[FB h2];rfl,by omega,?_⟩;rcases wN k 9 with h3|h3
    ·have h4:2 ^ 8<=2 ^ (64 - 7*k):=Nat.pow_le_pow_right (by omega) (by omega)
     have h5:(2:Nat) ^ 8=256:=rfl;omega
    ·have:k=9:=by omega
     subst this;show c<2;omega
   ·rename_i h2
    have hk8:k<=8:=by omega
    obtain⟨n,q,rfl,e2,e3,e4,e5⟩:=TR r (k+1) _ v j (by omega) (fun x hx=>hb x (List.mem_cons_of_mem _ hx)) h;have hc:=hb c List.mem_cons_self;have hn:n≠0:=e4 (ABQ k);have hi:B8 (c % 128+128*n)=c::B8 n:=by
     rw[Gi (by omega)];have a1:(c % 128+128*n) % 128+128=c:=by omega
     have a2:(c % 128+128*n)/128=n:=by omega
     rw[a1,a2]
    refine⟨c % 128+128*n,q,by rw[hi];rfl,?_,?_,fun _=>by omega,?_⟩
    ·have e6:n*(128*2 ^ (7*k))=128*n*2 ^ (7*k):=by rw[<- ADE,xr n 128]
     rw[e2,Nc,AAn,e6];omega
    ·rw[e3,hi,vw];omega
    ·rw[Sh hk8];omega
theorem rQ{v:Nat}(h:v<18446744073709551616)(r:List Nat):Fz 0 0 (B8 v++r)=some (v,(B8 v).length):=by
 have:=eC v 0 0 r (by omega) h (by omega)
 simpa using this
theorem eB{l:List Nat}{v j:Nat}(hb:∀ x∈l,x<256)(h:Fz 0 0 l=some (v,j)):l=B8 v++l.drop j/\j=(B8 v).length/\v<18446744073709551616:=by
 obtain⟨n,r,e1,e2,e3,_,e5⟩:=TR l 0 0 v j (by omega) hb h;have hv:v=n:=by simpa using e2
 subst hv;have hj:j=(B8 v).length:=by simpa using e3
 have e5:v<18446744073709551616:=e5;refine⟨?_,hj,e5⟩;subst e1;rw[hj,List.drop_left]
theorem kY{l:List Nat}{v j:Nat}(hb:∀ x∈l,x<256)(h:Fz 0 0 l=some (v,j)):j<=l.length:=by
 obtain⟨e1,e2,_⟩:=eB hb h;have:=congrArg List.length e1;rw[No]at this;omega
end
noncomputable section
open Go
def veq:IN->IN->Bool
 |.bool a,.bool b=>a == b
 |.int j a,.int k b=>Fj j k && iEq a b
 |.string a,.string b=>bEq a.data.toList b.data.toList
 |.pointer none,.pointer none=>true
 |.slice none 0 0,.slice none 0 0=>true
 |.map none,.map none=>true
 |.nilFunc,.nilFunc=>true
 |.nilIface,.nilIface=>true
 |_,_=>false
def leq:List IN->List IN->Bool
 |[],[]=>true
 |a::x,b::y=>veq a b && leq x y
 |_,_=>false
def zeq:IN->IN->Bool
 |.agg a,.agg b=>leq a.toList b.toList
 |.agg _,_=>false
 |a,b=>veq a b
theorem eH{a b:IN}(h:veq a b=true):a=b:=by
 unfold veq at h;split at h
 ·simpa using h
 ·rw[wJ,EM]at h
  have h1:=H5 h.1;rw[h1,eq_of_beq h.2]
 ·rw[MS]at h
  rename_i a b;have e1:=Hc (a:=a) (eq_of_beq h);have e2:=Hc (a:=b) rfl;exact congrArg Value.string (e1.trans e2.symm)
 all_goals first|rfl|cases h
theorem bP:∀ {a b:List IN},leq a b=true->a=b
 |[],[],_=>rfl
 |x::a,y::b,h=>by
  have h:(veq x y && leq a b)=true:=h;rw[wJ]at h;rw[eH h.1,bP h.2]
 |[],_::_,h=>by cases h
 |_::_,[],h=>by cases h
theorem rX{a b:IN}(h:zeq a b=true):a=b:=by
 unfold zeq at h;split at h
 ·rename_i x y
  have:=bP h
  congr 1
  exact Array.ext' this
 ·cases h
 ·exact eH h
def gT:List (Nat×Nat×Nat)->List (Nat×Nat×Nat)->Bool
 |[],[]=>true
 |(a,b,c)::x,(d,e,f)::y=>wB a d && (wB b e && (wB c f && gT x y))
 |_,_=>false
theorem Vo:∀ {x y:List (Nat×Nat×Nat)},gT x y=true->x=y
 |[],[],_=>rfl
 |(a,b,c)::x,(d,e,f)::y,h=>by
  have h:(wB a d && (wB b e && (wB c f && gT x y)))=true:=h;simp only[wJ]at h;rw[Am.1 h.1,Am.1 h.2.1,Am.1 h.2.2.1,Vo h.2.2.2]
 |[],_::_,h=>by cases h
 |_::_,[],h=>by cases h
def bH(P:xD)(k:TK)(d:ABH):Bool:=match k,d with
 |.int a,.int b=>Fj a b
 |.bool,.bool=>true
 |.string,.string=>true
 |.ptr a,.pointer b=>wB a b
 |.slice a,.slice b=>wB a b
 |.arr n a,.array m b=>wB n m && wB a b
 |.map n a,.map m b=>wB n m && wB a b
 |.struct fs,.struct fields=>gT (fields.toList.map fun f=>(f.offset,P.cellsOf f.type,f.type)) fs && fields.toList.all fun f=>(P.info? f.type).isSome
 |.iface,.interface _=>true
 |.func,.func _ _ _=>true
 |.other,.struct _=>false
 |.other,.array _ _=>false
 |.other,.interface _=>false
 |.other,_=>true
 |_,_=>false
theorem bJ{P:xD}{k:TK}{d:ABH}(h:bH P k d=true):KOk P k d:=by
 unfold bH at h;split at h
 ·rw[H5 h];exact .int _
 ·exact .bool
 ·exact .string
 ·rw[Am.1 h];exact .ptr _
 ·rw[Am.1 h];exact .slice _
 ·rw[wJ]at h
  rw[Am.1 h.1,Am.1 h.2];exact .arr _ _
 ·rw[wJ]at h
  rw[Am.1 h.1,Am.1 h.2];exact .map _ _
 ·rw[wJ]at h
  exact .struct (Vo h.1) h.2
 ·exact .iface _
 ·exact .func _ _ _
 ·cases h
 ·cases h
 ·cases h
 ·rename_i q1 q2 q3
  refine .other ?_;split
  ·rename_i f;exact absurd rfl (q1 f)
  ·rename_i n e;exact absurd rfl (q2 n e)
  ·rename_i m;exact absurd rfl (q3 m)
  ·rfl
 ·cases h
def eO(ti:TI)(z:Option IN):Bool:=
 (match ti.zero with
  |[]=>wz 0 ti.size
  |_::_=>false) ||
 (match zeroV ti,z with
  |some a,some b=>zeq a b && (ti.zero.all plainV && wB (BA ti.zero) ti.size)
  |_,_=>false)
theorem eP{ti:TI}{z:Option IN}(h:eO ti z=true):(ti.zero=[]/\0<ti.size)\/∃ y,zeroV ti=some y/\z=some y/\ti.zero.all plainV=true/\ti.zero.length=ti.size:=by
 unfold eO at h;rw[Bool.or_eq_true]at h;rcases h with h|h
 ·left
  split at h
  ·rename_i hz;exact⟨hz,BD.1 h⟩
  ·cases h
 ·right
  split at h
  ·rename_i a b ha
   simp only[wJ]at h;have h3:=Am.1 h.2.2;rw[BL]at h3;exact⟨a,ha,by rw[rX h.1],h.2.1,h3⟩
  ·cases h
def vR(b:Bool):ABH->Bool
 |.pointer _=>b
 |_=>not b
def WU(P:xD)(t:Nat)(name:String)(f:Nat):Bool:=match P.info? t with
 |some i=>match i.methods.find? (·.name == name)with
  |some m=>match m.path.toList with
   |[]=>match m.func with
    |some (g,b)=>match P.underlying t with
     |some d=>wB g f && vR b d
     |none=>false
    |none=>false
   |_::_=>false
  |none=>false
 |none=>false
theorem bX{P:xD}{t:Nat}{name:String}{f:Nat}(h:WU P t name f=true)(v:IN)(w:wb):(method (P.types.size+ADl) t v name).run P w=.ok (f,v) w:=by
 unfold WU at h;split at h
 ·rename_i i hi
  split at h
  ·rename_i m hm
   split at h
   ·rename_i hp
    split at h
    ·rename_i g b hg
     split at h
     ·rename_i d hd
      rw[wJ]at h;have e1:=Am.1 h.1;subst e1;have h2:=h.2;show(method ((P.types.size+99)+1) t v name).run P w=_;unfold method;simp only[typeInfo,vq,run_program,If,hi,vt,hm,hp,follow,hg,receiverAt,underlying,hd];cases d with
      |pointer e=>
       have hb:b=true:=h2;subst hb;simp only[ADf,vq,vt,If]
      |_=>
       have hb:b=false:=by
        have h2:(!b)=true:=h2;cases b with
        |true=>cases h2
        |false=>rfl
       subst hb;simp only[ADf,vq,vt,If]
     ·cases h
    ·cases h
   ·cases h
  ·cases h
 ·cases h
def WV(P:xD)(t:Nat):List (String×Nat)->Bool
 |[]=>true
 |x::l=>WU P t x.1 x.2 && WV P t l
theorem Rv{P:xD}{t:Nat}:∀ {l:List (String×Nat)},WV P t l=true->∀ name f,findM name l=some f->∀ v w,(method (P.types.size+ADl) t v name).run P w=.ok (f,v) w
 |[],_,name,f,h=>by cases h
 |x::l,hb,name,f,h=>by
  have hb:(WU P t x.1 x.2 && WV P t l)=true:=hb;rw[wJ]at hb;unfold findM at h;split at h
  ·rename_i hn
   cases h;rw[<- eq_of_beq hn];exact fun v w=>bX hb.1 v w
  ·exact Rv hb.2 name f h
def tyB(P:xD)(t:Nat)(ti:TI):Bool:=match P.info? t with
 |some i=>match P.underlying t with
  |some d=>wB i.size ti.size && (wB i.bytes ti.bytes && (eO ti i.zero && (bH P ti.k d && (AGO P t && WV P t ti.ms))))
  |none=>false
 |none=>false
theorem rP{P:xD}(hd:8<=P.depth){t:Nat}{ti:TI}(h:tyB P t ti=true):AEd P t ti:=by
 unfold tyB at h;split at h
 ·rename_i i hi
  split at h
  ·rename_i d hu
   simp only[wJ]at h;exact⟨h.2.2.2.2.1,hd,⟨i,hi,Am.1 h.1,Am.1 h.2.1,eP h.2.2.1⟩,⟨d,hu,bJ h.2.2.2.1⟩,Rv h.2.2.2.2.2⟩
  ·cases h
 ·cases h
def vD(P:xD)(t:Nat):Option TI->Bool
 |some ti=>tyB P t ti
 |none=>true
def Yo(P:xD):TTy->(Nat->Nat)->Bool
 |.mt,_=>true
 |.nd ti l r,ix=>vD P (ix 0) ti && (Yo P l (fun k=>ix (vo (wY 2 k))) && Yo P r (fun k=>ix (vo (vo (wY 2 k)))))
theorem Nn{P:xD}(hd:8<=P.depth):∀ {t:TTy} {ix:Nat->Nat},Yo P t ix=true->∀ i ti,t.get i=some ti->AEd P (ix i) ti
 |.mt,ix,_,i,b,h=>by cases h
 |.nd c l r,ix,hb,i,b,h=>by
  have hb:(vD P (ix 0) c && (Yo P l (fun k=>ix (vo (wY 2 k))) && Yo P r (fun k=>ix (vo (vo (wY 2 k))))))=true:=hb;simp only[wJ]at hb;cases i with
  |zero=>
   have h:c=some b:=h;subst h;exact rP hd hb.1
  |succ k=>
   unfold TTy.get at h;have e1:Nat.mod k 2=k % 2:=rfl;have e2:Nat.div k 2=k / 2:=rfl;rw[e1,e2]at h;rcases Nat.mod_two_eq_zero_or_one k with hk|hk
   ·rw[hk]at h
    have:=Nn hd hb.2.1 (k/2) b h;have e:vo (wY 2 (k/2))=k+1:=by show 2*(k/2)+1=k+1;omega
    simp only[e]at this;exact this
   ·rw[hk]at h
    have:=Nn hd hb.2.2 (k/2) b h;have e:vo (vo (wY 2 (k/2)))=k+1:=by show 2*(k/2)+1+1=k+1;omega
    simp only[e]at this;exact this
theorem rM{P:xD}{U:TTy}(hd:vx 8 P.depth=true)(h:Yo P U (fun k=>k)=true):Cs P U:=fun t ti ht=>Nn (Ac.1 hd) h t ti ht
end
noncomputable section
open Go
def ty3:TI:=⟨.int .i64,1,8,[AI AT 0],[]⟩
def ty4:TI:=⟨.bool,1,1,[.bool false],[]⟩
def ty5:TI:=⟨.int .u8,1,1,[.int .u8 0],[]⟩
def ty9:TI:=⟨.string,1,16,[.string .empty],[]⟩
def Lo:TI:=⟨.slice 5,1,24,[.slice none 0 0],[]⟩
def vU:TI:=⟨.int .u32,1,4,[.int .u32 0],[]⟩
def jr:TI:=⟨.arr 256 25,256,1024,BQ [.int .u32 0] 256,[]⟩
def U9:TI:=⟨.ptr 98,1,8,[.pointer none],[("Arm",26),("Cached",28),("Crash",31),("Down",58),("Flush",76),("Read",84),("Size",56),("Spoil",14),("Write",75),("cooperage/disk.none",54),("cooperage/disk.operation",96),("cooperage/disk.there",95)]⟩
def JH:TI:=⟨.ptr 80,1,8,[.pointer none],[("Abort",29),("All",21),("Bad",19),("Commit",12),("Drop",30),("Get",18),("Now",17),("Over",27),("Prepare",11),("Room",20),("Sound",15),("cooperage/slots.all",47),("cooperage/slots.at",46),("cooperage/slots.find",41),("cooperage/slots.gone",52),("cooperage/slots.look",55),("cooperage/slots.now",64),("cooperage/slots.out",68),("cooperage/slots.read",88),("cooperage/slots.stale",43),("cooperage/slots.strike",53),("cooperage/slots.up",38),("cooperage/slots.write",45)]⟩
def TP:TI:=⟨.ptr 27,1,8,[.pointer none],[]⟩
def vV:TI:=⟨.int .i64,1,8,[AI AT 0],[]⟩
def vW:TI:=⟨.int .u8,1,1,[.int .u8 0],[]⟩
def Il:TI:=⟨.struct [(0,1,3),(1,1,3),(2,1,3),(3,1,41),(4,1,22)],5,56,[AI AT 0,AI AT 0,AI AT 0,.int .u8 0,.slice none 0 0],[]⟩
def vX:TI:=⟨.slice 43,1,24,[.slice none 0 0],[]⟩
def vY:TI:=⟨.slice 54,1,24,[.slice none 0 0],[]⟩
def vZ:TI:=⟨.slice 4,1,24,[.slice none 0 0],[]⟩
def dz:TI:=⟨.struct [(0,1,3),(1,1,3),(2,1,3),(3,1,3),(4,1,3),(5,1,22),(6,1,52)],7,88,[AI AT 0,AI AT 0,AI AT 0,AI AT 0,AI AT 0,.slice none 0 0,.slice none 0 0],[]⟩
def VA:TI:=⟨.slice 3,1,24,[.slice none 0 0],[]⟩
def TQ:TI:=⟨.func,1,8,[.nilFunc],[]⟩
def Yr:TI:=⟨.slice 83,1,24,[.slice none 0 0],[]⟩
def d8:TI:=⟨.struct [(0,1,29),(1,1,33),(2,1,3),(3,1,78),(4,1,62),(5,1,3),(6,1,4)],7,88,[.pointer none,.pointer none,AI AT 0,.slice none 0 0,.slice none 0 0,AI AT 0,.bool false],[]⟩
def Fm:TI:=⟨.struct [(0,5,43),(5,1,3)],6,64,[AI AT 0,AI AT 0,AI AT 0,.int .u8 0,.slice none 0 0,AI AT 0],[]⟩
def va:TI:=⟨.slice 75,1,24,[.slice none 0 0],[]⟩
def vd:TI:=⟨.slice 100,1,24,[.slice none 0 0],[]⟩
def js:TI:=⟨.map 3 100,1,8,[.map none],[]⟩
def jt:TI:=⟨.struct [(0,1,95),(1,1,96),(2,1,3),(3,1,4)],4,48,[.slice none 0 0,.map none,AI AT 0,.bool false],[]⟩
def GG:TI:=⟨.arr 64 5,64,64,BQ [.int .u8 0] 64,[]⟩
def uw:TI:=⟨.int .u64,1,8,[.int .u64 0],[]⟩
def TO:TI:=⟨.int .u64,1,8,[.int .u64 0],[]⟩
def uz:TI:=⟨.slice 116,1,24,[.slice none 0 0],[]⟩
def vA:TI:=⟨.int .i64,1,8,[AI AT 0],[]⟩
def vB:TI:=⟨.arr 6 116,6,48,BQ [.int .u64 0] 6,[]⟩
set_option maxRecDepth 100000 in
def U:TTy:=(.nd none (.nd none (.nd (some ty3) (.nd none (.nd none (.nd none .mt (.nd (some vd) .mt .mt)) .mt) (.nd none (.nd none (.nd none (.nd (some vA) .mt .mt) .mt) .mt) .mt)) (.nd none (.nd none .mt (.nd (some vY) (.nd (some Fm) .mt .mt) .mt)) (.nd (some jr) (.nd (some Il) (.nd (some TQ) .mt .mt) .mt) .mt))) (.nd (some ty5) (.nd (some ty9) (.nd none (.nd (some TP) .mt .mt) .mt) (.nd (some vU) (.nd (some vW) .mt .mt) .mt)) (.nd none .mt (.nd (some U9) .mt .mt)))) (.nd none (.nd (some ty4) (.nd none (.nd none (.nd none .mt (.nd (some js) .mt .mt)) (.nd (some vX) (.nd (some d8) .mt .mt) .mt)) .mt) (.nd none (.nd none (.nd none .mt (.nd (some GG) .mt .mt)) (.nd (some vZ) (.nd none (.nd (some vB) .mt .mt) .mt) (.nd (some TO) .mt .mt))) .mt)) (.nd none (.nd none (.nd none (.nd (some vV) .mt (.nd (some jt) .mt .mt)) (.nd none .mt (.nd (some uw) .mt .mt))) .mt) (.nd none (.nd (some Lo) .mt (.nd (some dz) (.nd (some va) .mt .mt) (.nd (some uz) .mt .mt))) (.nd (some JH) (.nd none (.nd (some Yr) .mt .mt) .mt) (.nd (some VA) .mt .mt))))))
end
end Go.Proofs.YtedbmmfebjfibaaGreat

/-
  Part ZB of what Lawru stands on: printed by program, names and spaces cut.
-/
import Derived.Test.YtedbmmfebjfibaaGreatZA
import Derived.Laws.IdiomCopy
import Derived.ChangeKeysEq
import Derived.Laws.Entries
open Go renaming Value→BY,World→vt,TypeId→vx,MapEntry→wJ,Program→wK,Addr→AAa
open Nat renaming le_refl→IN,succ→vD,ble→vJ,lt_or_ge→vd,le_trans→vw,le_of_lt→wS,lt_of_lt_of_le→wW,min_le_right→xS,le_of_ble_eq_true→xu,ble_eq_true_of_le→xx,le_of_eq→zO,le_max_right→zR,min_le_left→zW,not_lt→AAJ,le_max_left→AA6,le_succ→ACM,not_le→ADE
open List renaming getElem?_eq_getElem→No,getD_eq_getElem?_getD→OF,length_cons→vI,range_succ→xU,all_cons→zF
open Array renaming getElem?_setIfInBounds→xP,getElem?_modify→yD
open Go.World renaming setCell→AAb,setCells→ABr,frozen?→AB7
open Bool renaming and_eq_false_iff→ABE
open Go.Program renaming cellsOf→ABV
namespace Go.Proofs.YtedbmmfebjfibaaGreat
noncomputable section
open Go
theorem J9:∀ (n i:Nat),(FK n).get i=.dead
 |0,i=>rfl
 |n+1,0=>rfl
 |n+1,k+1=>by
  show(BT.nd .dead (FK n) (FK n)).get (k+1)=_;rw[BT.ADZ];split<;>exact J9 n _
structure Pl where
 blk:Nat
 off:Nat
 sz:Nat
 room:Nat
 es:Nat
 inp:Bool:=false
abbrev Phi:=Nat→Option Pl
def AEn(φ:Phi)(a a':AAa):Prop:=
 a.spot=none∧a'.spot=none∧∃ p,φ a.block=some p∧a'.block=p.blk∧a'.off=p.off+a.off
def AFE(φ:Phi)(a:AAa)(c:Nat)(a':AAa)(c':Nat):Prop:=
 a.spot=none∧a'.spot=none∧∃ p,φ a.block=some p∧a'.block=p.blk∧
  ((0<c∧a'.off=p.off+a.off∧(c'=c∨a.off+c*p.es=p.sz∧c≤c'∧a.off+c'*p.es≤p.room))∨
   (c=0∧(c'=0∨a'.off=p.off+p.sz∧p.sz+c'*p.es≤p.room)))
mutual
inductive ADU (φ:Phi):BY→BY→Prop
 |bool (b:Bool):ADU φ (.bool b) (.bool b)
 |int (k:IntKind) (n:Int):ADU φ (.int k n) (.int k n)
 |string (s:ByteArray):ADU φ (.string s) (.string s)
 |AGB:ADU φ (.pointer none) (.pointer none)
 |ptr {a a':AAa} (h:AEn φ a a'):ADU φ (.pointer (some a)) (.pointer (some a'))
 |AEF:ADU φ (.slice none 0 0) (.slice none 0 0)
 |slice {a a':AAa} {n c c':Nat} (hn:n≤c) (h:AFE φ a c a' c'):ADU φ (.slice (some a) n c) (.slice (some a') n c')
 |AGC:ADU φ (.map none) (.map none)
 |map {r:Nat} {p:Pl} (h:φ r=some p):ADU φ (.map (some r)) (.map (some p.blk))
 |func (fn:Fn) {f f' c c':List BY} (h:ADp φ f f') (h2:ADp φ c c'):ADU φ (.func fn ⟨f⟩ ⟨c⟩) (.func fn ⟨f'⟩ ⟨c'⟩)
 |nilFunc:ADU φ .nilFunc .nilFunc
 |iface (t:vx) {v v':BY} (h:ADU φ v v'):ADU φ (.iface t v) (.iface t v')
 |nilIface:ADU φ .nilIface .nilIface
 |agg {l l':List BY} (h:ADp φ l l'):ADU φ (.agg ⟨l⟩) (.agg ⟨l'⟩)
 |tuple {l l':List BY} (h:ADp φ l l'):ADU φ (.tuple ⟨l⟩) (.tuple ⟨l'⟩)
 |unk {v':BY}:ADU φ (.chan none) v'
 |AFq {r:Nat} {a':AAa}:ADU φ (.chan (some r)) (.slice (some a') 0 0)
inductive ADp (φ:Phi):List BY→List BY→Prop
 |nil:ADp φ [] []
 |cons {v v':BY} {l l':List BY} (h:ADU φ v v') (t:ADp φ l l'):ADp φ (v::l) (v'::l')
end
def Phi.Le(φ ψ:Phi):Prop:=∀ i p,φ i=some p→ψ i=some p
theorem Phi.Le.refl(φ:Phi):φ.Le φ:=fun _ _ h=>h
theorem Phi.Le.trans{φ ψ χ:Phi}(h:φ.Le ψ)(h':ψ.Le χ):φ.Le χ:=fun i p e=>h' i p (h i p e)
theorem AEn.mono{φ ψ:Phi}(hle:φ.Le ψ){a a':AAa}:AEn φ a a'→AEn ψ a a'
 |⟨s,s',p,hp,r⟩=>⟨s,s',p,hle _ _ hp,r⟩
theorem AFE.mono{φ ψ:Phi}(hle:φ.Le ψ){a a':AAa}{c c':Nat}:AFE φ a c a' c'→AFE ψ a c a' c'
 |⟨s,s',p,hp,r⟩=>⟨s,s',p,hle _ _ hp,r⟩
mutual
theorem ADU.mono{φ ψ:Phi}(hle:φ.Le ψ):∀ {v v':BY},ADU φ v v'→ADU ψ v v'
 |_,_,.bool b=>.bool b
 |_,_,.int k n=>.int k n
 |_,_,.string s=>.string s
 |_,_,.AGB=>.AGB
 |_,_,.ptr h=>.ptr (h.mono hle)
 |_,_,.AEF=>.AEF
 |_,_,.slice hn h=>.slice hn (h.mono hle)
 |_,_,.AGC=>.AGC
 |_,_,.map h=>.map (hle _ _ h)
 |_,_,.func fn h h2=>.func fn (ADp.mono hle h) (ADp.mono hle h2)
 |_,_,.nilFunc=>.nilFunc
 |_,_,.iface t h=>.iface t (ADU.mono hle h)
 |_,_,.nilIface=>.nilIface
 |_,_,.agg h=>.agg (ADp.mono hle h)
 |_,_,.tuple h=>.tuple (ADp.mono hle h)
 |_,_,.unk=>.unk
 |_,_,.AFq=>.AFq
theorem ADp.mono{φ ψ:Phi}(hle:φ.Le ψ):∀ {l l':List BY},ADp φ l l'→ADp ψ l l'
 |_,_,.nil=>.nil
 |_,_,.cons h t=>.cons (ADU.mono hle h) (ADp.mono hle t)
end
theorem ADp.length{φ:Phi}:∀ {l l':List BY},ADp φ l l'→l'.length=l.length
 |_,_,.nil=>rfl
 |_,_,.cons _ t=>congrArg (· +1) t.length
theorem ADp.append{φ:Phi}:∀ {l l' m m':List BY},ADp φ l l'→ADp φ m m'→ADp φ (l++m) (l'++m')
 |_,_,_,_,.nil,h=>h
 |_,_,_,_,.cons h t,h'=>.cons h (t.append h')
theorem ADp.get{φ:Phi}:∀ {l l':List BY},ADp φ l l'→∀ (i:Nat) (v:BY),l[i]? =some v→∃ v',l'[i]? =some v'∧ADU φ v v'
 |_,_,.nil,i,v,h=>by cases i<;>cases h
 |_,_,.cons h t,0,v,e=>by cases e;exact⟨_,rfl,h⟩
 |_,_,.cons h t,i+1,v,e=>t.get i v e
theorem ADp.take{φ:Phi}:∀ {l l':List BY},ADp φ l l'→∀ n:Nat,ADp φ (l.take n) (l'.take n)
 |_,_,.nil,n=>by cases n<;>exact .nil
 |_,_,.cons h t,0=>.nil
 |_,_,.cons h t,n+1=>.cons h (t.take n)
theorem ADp.drop{φ:Phi}:∀ {l l':List BY},ADp φ l l'→∀ n:Nat,ADp φ (l.drop n) (l'.drop n)
 |_,_,.nil,n=>by cases n<;>exact .nil
 |_,_,.cons h t,0=>.cons h t
 |_,_,.cons h t,n+1=>t.drop n
theorem ADU.plain{φ:Phi}{v:BY}(h:plainV v=true):ADU φ v v:=by
 unfold plainV at h;split at h<;>first|constructor|cases h
theorem ADp.plain{φ:Phi}:∀ {l:List BY},(l.all plainV)=true→ADp φ l l
 |[],_=>.nil
 |v::l,h=>by
  simp only[zF,Bool.and_eq_true]at h;exact .cons (.plain h.1) (.plain h.2)
def Live(h:Hp)(i:Nat):Prop:=h.bl.get i≠.dead
inductive AEO (φ:Phi):List Ent→List wJ→Prop
 |nil:AEO φ [] []
 |cons {k k' v v':BY} {b:Nat} {l:List Ent} {l':List wJ} (hk:ADU φ k k') (hv:ADU φ v v') (t:AEO φ l l'):
  AEO φ (⟨k,v,b⟩::l) (⟨k',v',b⟩::l')
theorem AEO.mono{φ ψ:Phi}(hle:φ.Le ψ):∀ {l:List Ent} {l':List wJ},AEO φ l l'→AEO ψ l l'
 |_,_,.nil=>.nil
 |_,_,.cons hk hv t=>.cons (hk.mono hle) (hv.mono hle) (t.mono hle)
def Kind(ty:TTy)(p:Pl)(s e:Nat):Prop:=
 p.sz=s∧((e=0∧p.room=p.sz∧p.es=1∧(p.off=0∨p.inp=true))∨∃ t ti,e=t+1∧ty.get t=some ti∧p.es=ti.size)
structure AFF (ty:TTy)(φ:Phi)(p:Pl)(c:VT)(s e:Nat)(cs:Array BY)(fr:Nat×Nat):Prop where
 kind:Kind ty p s e
 room:p.sz≤p.room
 fits:p.off+p.room≤cs.size
 loose:(fr.1=fr.2∨cs.size≤fr.1)∨(e=0∧p.inp=true∧∀ o,p.off≤o→o<p.off+p.room→¬ (fr.1≤o∧o<fr.2))
 cell:∀ j,j<s→∃ v,cs[p.off+j]? =some v∧ADU φ (c.get j) v
theorem AFF.sz{ty:TTy}{φ:Phi}{p:Pl}{c:VT}{s e:Nat}{cs:Array BY}{fr:Nat×Nat}(R:AFF ty φ p c s e cs fr):p.sz=s:=R.kind.1
inductive AER (ty:TTy)(φ:Phi)(p:Pl):Blk→Option Obj→Prop
 |cells {c s e cs t fr} (h:AFF ty φ p c s e cs fr):AER ty φ p (.cells c s e) (some (.cells cs t fr))
 |map {es clk es'} (h:AEO φ es es'):AER ty φ p (.map es clk) (some (.map ⟨es'⟩ clk))
 |AFG {s l t} (hp:p.off=0):AER ty φ p (.iter none s l t) (some (.mapIter none s ⟨l⟩ t))
 |iter {m q s l t} (hp:p.off=0) (h:φ m=some q):AER ty φ p (.iter (some m) s l t) (some (.mapIter (some q.blk) s ⟨l⟩ t))
 |cur {m q s sn l t} (hp:p.off=0) (h:φ m=some q) (hl:l.getLast? =some s):AER ty φ p (.cur m s t) (some (.mapIter (some q.blk) sn ⟨l⟩ t))
 |dead {o}:AER ty φ p .dead o
theorem AER.mono{ty:TTy}{φ ψ:Phi}(hle:φ.Le ψ){p:Pl}{b:Blk}{o:Option Obj}:AER ty φ p b o→AER ty ψ p b o
 |.cells h=>.cells {h with cell:=fun j hj=>let ⟨v,e,r⟩:=h.cell j hj;⟨v,e,r.mono hle⟩}
 |.map h=>.map (h.mono hle)
 |.AFG h=>.AFG h
 |.iter hp h=>.iter hp (hle _ _ h)
 |.cur hp h hl=>.cur hp (hle _ _ h) hl
 |.dead=>.dead
structure ADX (ty:TTy)(φ:Phi)(E:Nat→Prop)(h:Hp)(w:vt):Prop where
 dom:∀ i p,φ i=some p→i<h.next∧p.blk<w.heap.size
 inj:∀ i j p q,φ i=some p→φ j=some q→¬ E i→¬ E j→Live h i→Live h j→(p.inp=false∨q.inp=false)→p.blk=q.blk→i=j
 row:∀ i p,φ i=some p→¬ E i→AER ty φ p (h.bl.get i) w.heap[p.blk]?
 fresh:∀ i,h.next≤i→h.bl.get i=.dead
 kind:∀ i p c s e,φ i=some p→h.bl.get i=.cells c s e→Kind ty p s e
 inp:∀ i p,φ i=some p→p.inp=true→i<256
def ADn(a b:Blk):Prop:=b=.dead∨match a,b with
 |.cells _ s e,.cells _ s' e'=>s=s'∧e=e'
 |.map _ _,.map _ _=>True
 |.iter _ _ _ _,.iter _ _ _ _=>True
 |.cur _ _ _,.cur _ _ _=>True
 |.pick _ _ _ _,.pick _ _ _ _=>True
 |_,_=>False
theorem ADn.refl(a:Blk):ADn a a:=by cases a<;>first|exact .inl rfl|exact .inr ⟨rfl,rfl⟩|exact .inr trivial
theorem ADn.trans{a b c:Blk}(h:ADn a b)(h':ADn b c):ADn a c:=by
 rcases h' with rfl|h'
 ·exact .inl rfl
 ·rcases h with rfl|h
  ·cases c<;>exact h'.elim
  ·cases a<;>cases b<;>first|(exact h.elim;done)|(cases c<;>first|(exact h'.elim;done)|exact .inr trivial|exact .inr ⟨h.1.trans h'.1,h.2.trans h'.2⟩)
theorem ADn.AFr{b:Blk}(h:ADn .dead b):b=.dead:=by
 rcases h with h|h
 ·exact h
 ·cases b<;>exact h.elim
theorem ADn.live{a b:Blk}(h:ADn a b)(hb:b≠.dead):a≠.dead:=by
 intro ha;subst ha;exact hb h.AFr
theorem ADn.cells{a:Blk}{c:VT}{s e:Nat}(h:ADn a (.cells c s e)):∃ c',a=.cells c' s e:=by
 rcases h with h|h
 ·cases h
 ·cases a<;>first|(exact h.elim;done)|(obtain⟨rfl,rfl⟩:=h;exact⟨_,rfl⟩)
structure Evo (φ:Phi)(h:Hp)(w:vt)(φ':Phi)(h':Hp)(w':vt):Prop where
 le:φ.Le φ'
 new:∀ i p,φ' i=some p→φ i=some p∨h.next≤i
 next:h.next≤h'.next
 size:w.heap.size≤w'.heap.size
 tape:w'.tape=w.tape
 os:w'.os=w.os
 output:w'.output=w.output
 frame:∀ k,k<w.heap.size→(∀ i p,φ i=some p→p.inp=false→h'.low≤i→i≤h'.high→Live h i→p.blk≠k)→w'.heap[k]? =w.heap[k]?
 back:∀ i p,φ' i=some p→Live h' i→p.blk<w.heap.size→∃ j q,φ j=some q∧Live h j∧q.blk=p.blk∧q.inp=p.inp∧(j=i∨h'.low≤j∧j≤h'.high)
 kept:∀ i,i<h.next→(i<h'.low∨h'.high<i)→h'.bl.get i=h.bl.get i
 low:h'.low≤h.low
 high:h.high≤h'.high
 shape:∀ i,i<h.next→ADn (h.bl.get i) (h'.bl.get i)
 only:∀ i,i<h.next→φ i=none→h'.bl.get i=h.bl.get i
 all:∀ i,h.next≤i→i<h'.next→∃ p,φ' i=some p
theorem Evo.refl(φ:Phi)(h:Hp)(w:vt):Evo φ h w φ h w where
 le:=.refl φ
 new:=fun _ _ e=>.inl e
 next:=IN _
 size:=IN _
 tape:=rfl
 os:=rfl
 output:=rfl
 frame:=fun _ _ _=>rfl
 back:=fun i p e hl _=>⟨i,p,e,hl,rfl,rfl,.inl rfl⟩
 kept:=fun _ _ _=>rfl
 low:=IN _
 high:=IN _
 shape:=fun _ _=>.refl _
 only:=fun _ _ _=>rfl
 all:=fun _ h1 h2=>absurd h2 (AAJ.2 h1)
theorem Evo.trans{φ ψ χ:Phi}{h₁ h₂ h₃:Hp}{w₁ w₂ w₃:vt}
  (a:Evo φ h₁ w₁ ψ h₂ w₂)(b:Evo ψ h₂ w₂ χ h₃ w₃):Evo φ h₁ w₁ χ h₃ w₃ where
 le:=a.le.trans b.le
 new:=fun i p e=>by
  rcases b.new i p e with h|h
  ·exact a.new i p h
  ·exact .inr (vw a.next h)
 next:=vw a.next b.next
 size:=vw a.size b.size
 tape:=b.tape.trans a.tape
 os:=b.os.trans a.os
 output:=b.output.trans a.output
 frame:=fun k hk hf=>by
  have h1:w₂.heap[k]? =w₁.heap[k]?:=a.frame k hk fun i p e hn hl hg hv=>hf i p e hn (vw b.low hl) (vw hg b.high) hv
  rw[← h1];refine b.frame k (wW hk a.size) fun i p e hn hl hg hv hk'=>?_
  obtain⟨j,q,ej,lj,hq,hqi,hor⟩:=a.back i p e hv (hk' ▸ hk);refine hf j q ej (hqi.trans hn) ?_ ?_ lj (hq.trans hk')
  ·rcases hor with rfl|h
   ·exact hl
   ·exact vw b.low h.1
  ·rcases hor with rfl|h
   ·exact hg
   ·exact vw h.2 b.high
 back:=fun i p e hv hp=>by
  obtain⟨j,q,ej,lj,hq,hqi,hor⟩:=b.back i p e hv (wW hp a.size);obtain⟨k,r,ek,lk,hr,hri,AIa⟩:=a.back j q ej lj (hq ▸ hp);refine⟨k,r,ek,lk,hr.trans hq,hri.trans hqi,?_⟩;rcases AIa with rfl|h
  ·exact hor
  ·exact .inr ⟨vw b.low h.1,vw h.2 b.high⟩
 kept:=fun i hi hl=>by
  rw[b.kept i (wW hi a.next) hl,a.kept i hi (hl.imp (fun h=>wW h b.low) (fun h=>Nat.lt_of_le_of_lt b.high h))]
 low:=vw b.low a.low
 high:=vw a.high b.high
 shape:=fun i hi=>(a.shape i hi).trans (b.shape i (wW hi a.next))
 only:=fun i hi h0=>by
  have h1:ψ i=none:=by
   cases e:ψ i with
   |none=>rfl
   |some p=>
    rcases a.new i p e with h|h
    ·rw[h0]at h;cases h
    ·omega
  rw[b.only i (wW hi a.next) h1,a.only i hi h0]
 all:=fun i h1 h2=>by
  rcases vd i h₂.next with h|h
  ·obtain⟨p,hp⟩:=a.all i h1 h;exact⟨p,b.le i p hp⟩
  ·exact b.all i h h2
end
noncomputable section
open Go
theorem AZ{β:Type}(m:Nat)(k:Nat→β):ADi m k=k m:=by cases m<;>rfl
theorem BC(v:BY)(k:BY→R):ADf v k=k v:=by cases v<;>rfl
theorem Et(v:BY)(h:Hp):AEm v h=.ok v h:=by cases v<;>rfl
theorem CQ:∀ (l:List BY) (k:List BY→R),AD7 l k=k l
 |[],_=>rfl
 |v::l,k=>by
  show(ADf v fun v=>AD7 l fun l=>k (v::l))=_;rw[BC,CQ l]
theorem BI{α:Type}:∀ l:List α,A8 l=l.length
 |[]=>rfl
 |_::l=>congrArg vD (BI l)
theorem He{α:Type}:∀ (n:Nat) (l:List α),Kz n l=l.take n
 |0,_=>rfl
 |_+1,[]=>rfl
 |n+1,x::l=>congrArg (x:: ·) (He n l)
theorem I6{α:Type}:∀ (n:Nat) (l:List α),L1 n l=l.drop n
 |0,_=>rfl
 |_+1,[]=>rfl
 |n+1,_::l=>I6 n l
theorem FP{α:Type}:∀ (l:List α) (i:Nat),nth l i=l[i]?
 |[],i=>by cases i<;>rfl
 |x::l,0=>rfl
 |x::l,i+1=>by
  show nth l i=_;rw[FP l i,List.getElem?_cons_succ]
theorem BJ(a b:Nat):B4 a b=min a b:=by
 unfold B4;rcases vd b a with h|h
 ·have:vJ a b=false:=by
   cases e:vJ a b
   ·rfl
   ·exact absurd (xu e) (ADE.2 h)
  rw[this];exact(Nat.min_eq_right (wS h)).symm
 ·rw[xx h];exact(Nat.min_eq_left h).symm
theorem Bw(a b:Nat):Co a b=max a b:=by
 unfold Co;rcases vd b a with h|h
 ·have:vJ a b=false:=by
   cases e:vJ a b
   ·rfl
   ·exact absurd (xu e) (ADE.2 h)
  rw[this];exact(Nat.max_eq_left (wS h)).symm
 ·rw[xx h];exact(Nat.max_eq_right h).symm
theorem Ab{a b:Nat}:vJ a b=true↔a≤b:=⟨xu,xx⟩
theorem A9{a b:Nat}:Nat.blt a b=true↔a<b:=⟨xu,xx⟩
theorem Am{a b:Nat}:Nat.beq a b=true↔a=b:=⟨Nat.eq_of_beq_eq_true,fun h=>h ▸ Nat.beq_refl a⟩
def Phi.put(φ:Phi)(i:Nat)(p:Pl):Phi:=fun j=>if j=i then some p else φ j
theorem Phi.AED(φ:Phi)(i:Nat)(p:Pl):φ.put i p i=some p:=if_pos rfl
theorem Phi.AEq{φ:Phi}{i:Nat}{p:Pl}(h:φ i=none):φ.Le (φ.put i p):=fun j q e=>by
 unfold Phi.put;split
 ·rename_i hji;rw[hji,h]at e;cases e
 ·exact e
theorem Phi.AD2{φ:Phi}{i:Nat}{p:Pl}{j:Nat}{q:Pl}(e:φ.put i p j=some q):(j=i∧q=p)∨(j≠i∧φ j=some q):=by
 unfold Phi.put at e;split at e
 ·rename_i hji;cases e;exact .inl ⟨hji,rfl⟩
 ·rename_i hji;exact .inr ⟨hji,e⟩
section
variable {ty:TTy}{φ:Phi}{E:Nat→Prop}{h:Hp}{w w':vt}
theorem ADX.AEI(H:ADX ty φ E h w):φ h.next=none:=by
 cases e:φ h.next with
 |none=>rfl
 |some p=>exact absurd (H.dom _ _ e).1 (Nat.lt_irrefl _)
theorem BT.ADY{bl bl':BT}{i:Nat}{o:Blk}(hs:bl.set i o=some bl')(j:Nat):bl'.get j=if j=i then o else bl.get j:=BT.ADh _ _ _ _ hs j
theorem ADX.new(H:ADX ty φ E h w){o:Blk}{bl:BT}{p:Pl}(ADx:h.bl.set h.next o=some bl)(hsz:w.heap.size≤w'.heap.size)(hp:p.blk<w'.heap.size)
  (hfree:∀ j q,φ j=some q→Live h j→q.blk≠p.blk)(hsame:∀ k,k<w.heap.size→k≠p.blk→w'.heap[k]? =w.heap[k]?)
  (hB:AER ty (φ.put h.next p) p o w'.heap[p.blk]?){lo hi mk:Nat}(hin:p.inp=false:=by rfl):
  ADX ty (φ.put h.next p) E {next:=vD h.next,low:=lo,high:=hi,mark:=mk,bl:=bl} w' where
 dom:=fun i q e=>by
  rcases Phi.AD2 e with ⟨rfl,rfl⟩|⟨_,e⟩
  ·exact⟨Nat.lt_succ_self _,hp⟩
  ·exact⟨Nat.lt_succ_of_lt (H.dom _ _ e).1,wW (H.dom _ _ e).2 hsz⟩
 inj:=fun i j q r ei ej hEi hEj hi hj hio hqr=>by
  rcases Phi.AD2 ei with ⟨rfl,rfl⟩|⟨ni,ei'⟩<;>rcases Phi.AD2 ej with ⟨rfl,rfl⟩|⟨nj,ej'⟩
  ·rfl
  ·refine absurd hqr.symm (hfree j r ej' ?_)
   intro hd;apply hj;show bl.get j=_;rw[BT.ADY ADx,if_neg nj];exact hd
  ·refine absurd hqr (hfree i q ei' ?_)
   intro hd;apply hi;show bl.get i=_;rw[BT.ADY ADx,if_neg ni];exact hd
  ·refine H.inj i j q r ei' ej' hEi hEj ?_ ?_ hio hqr
   ·intro hd;apply hi;show bl.get i=_;rw[BT.ADY ADx,if_neg ni];exact hd
   ·intro hd;apply hj;show bl.get j=_;rw[BT.ADY ADx,if_neg nj];exact hd
 row:=fun i q e hE=>by
  rcases Phi.AD2 e with ⟨rfl,rfl⟩|⟨ni,ei⟩
  ·show AER _ _ _ (bl.get h.next) _
   rw[BT.ADY ADx,if_pos rfl];exact hB
  ·show AER _ _ _ (bl.get i) _
   rw[BT.ADY ADx,if_neg ni];by_cases hd:h.bl.get i=.dead
   ·rw[hd];exact .dead
   ·have:=H.row i q ei hE
    rw[hsame q.blk (H.dom _ _ ei).2 (hfree i q ei hd)];exact this.mono (Phi.AEq H.AEI)
 fresh:=fun i hi=>by
  show bl.get i=_;have hi:h.next+1≤i:=hi;rw[BT.ADY ADx,if_neg (by omega)];exact H.fresh i (by omega)
 kind:=fun i q c s e hq he=>by
  have he:bl.get i=.cells c s e:=he;rw[BT.ADY ADx]at he;rcases Phi.AD2 hq with ⟨rfl,rfl⟩|⟨ni,ei⟩
  ·rw[if_pos rfl]at he
   rw[he]at hB;generalize w'.heap[q.blk]? =ob at hB;cases hB with
   |cells R=>exact R.kind
  ·rw[if_neg ni]at he
   exact H.kind i q c s e ei he
 inp:=fun i q hq hi=>by
  rcases Phi.AD2 hq with ⟨rfl,rfl⟩|⟨ni,ei⟩
  ·rw[hin]at hi;cases hi
  ·exact H.inp i q ei hi
theorem Evo.made(H:ADX ty φ E h w){o:Blk}{bl:BT}{p:Pl}(ADx:h.bl.set h.next o=some bl)(hp:w.heap.size≤p.blk)(hsz:w.heap.size≤w'.heap.size)
  (hsame:∀ k,k<w.heap.size→w'.heap[k]? =w.heap[k]?)(ht:w'.tape=w.tape)(ho:w'.os=w.os)(hout:w'.output=w.output):
  Evo φ h w (φ.put h.next p) {next:=vD h.next,low:=h.low,high:=h.high,mark:=h.mark,bl:=bl} w' where
 le:=Phi.AEq H.AEI
 new:=fun i q e=>by
  rcases Phi.AD2 e with ⟨rfl,rfl⟩|⟨_,e⟩
  ·exact .inr (IN _)
  ·exact .inl e
 next:=ACM _
 size:=hsz
 tape:=ht
 os:=ho
 output:=hout
 frame:=fun k hk _=>hsame k hk
 back:=fun i q e hl hq=>by
  rcases Phi.AD2 e with ⟨rfl,rfl⟩|⟨ni,e⟩
  ·exact absurd hq (AAJ.2 hp)
  ·refine⟨i,q,e,?_,rfl,rfl,.inl rfl⟩
   intro hd;apply hl;show bl.get i=_;rw[BT.ADY ADx,if_neg ni];exact hd
 kept:=fun i hi _=>by
  show bl.get i=_;rw[BT.ADY ADx,if_neg (by omega)]
 low:=IN _
 high:=IN _
 shape:=fun i hi=>by
  show ADn _ (bl.get i);rw[BT.ADY ADx,if_neg (by omega)];exact .refl _
 only:=fun i hi _=>by
  show bl.get i=_;rw[BT.ADY ADx,if_neg (by omega)]
 all:=fun i h1 h2=>⟨p,by
  have h2:i<h.next+1:=h2;have:i=h.next:=by omega
  rw[this];exact Phi.AED _ _ _⟩
theorem ADX.AEX(H:ADX ty φ E h w){b:Nat}{p:Pl}(hb:φ b=some p)(h2:256≤b):p.inp=false:=by
 cases e:p.inp with
 |false=>rfl
 |true=>have:=H.inp b p hb e;omega
theorem ADX.put(H:ADX ty φ E h w){b:Nat}{o:Blk}{bl:BT}{p:Pl}(hEb:¬ E b)(ADg:256≤b)(hb:φ b=some p)(hl:Live h b)(ADx:h.bl.set b o=some bl)
  (hsz:w'.heap.size=w.heap.size)(hsame:∀ k,k≠p.blk→w'.heap[k]? =w.heap[k]?)(hB:AER ty φ p o w'.heap[p.blk]?){lo hi mk:Nat}:
  ADX ty φ E {next:=h.next,low:=lo,high:=hi,mark:=mk,bl:=bl} w' where
 dom:=fun i q e=>⟨(H.dom _ _ e).1,hsz ▸ (H.dom _ _ e).2⟩
 inj:=fun i j q r ei ej hEi hEj hi hj hio hqr=>by
  have live:∀ i,bl.get i≠.dead→Live h i:=fun i hi=>by
   by_cases e:i=b
   ·exact e ▸ hl
   ·intro hd;apply hi;rw[BT.ADY ADx,if_neg e];exact hd
  exact H.inj i j q r ei ej hEi hEj (live i hi) (live j hj) hio hqr
 row:=fun i q e hE=>by
  show AER _ _ _ (bl.get i) _;rw[BT.ADY ADx];split
  ·rename_i hib;subst hib
   rw[hb]at e;cases e;exact hB
  ·rename_i hib
   by_cases hd:h.bl.get i=.dead
   ·rw[hd];exact .dead
   ·rw[hsame q.blk fun hq=>hib (H.inj i b q p e hb hE hEb hd hl (.inr (H.AEX hb ADg)) hq)]
    exact H.row i q e hE
 fresh:=fun i hi=>by
  show bl.get i=_;have:=(H.dom _ _ hb).1;have hi:h.next≤i:=hi;rw[BT.ADY ADx,if_neg (by omega)];exact H.fresh i hi
 kind:=fun i q c s e hq he=>by
  have he:bl.get i=.cells c s e:=he;rw[BT.ADY ADx]at he;split at he
  ·rename_i hib;subst hib
   rw[hb]at hq;cases hq;rw[he]at hB;generalize w'.heap[p.blk]? =ob at hB;cases hB with
   |cells R=>exact R.kind
  ·exact H.kind i q c s e hq he
 inp:=H.inp
theorem Evo.put{b:Nat}{o:Blk}{bl:BT}{p:Pl}(hin:p.inp=false)(hb:φ b=some p)(hl:Live h b)(ADx:h.bl.set b o=some bl)(hsh:ADn (h.bl.get b) o)
  (hsz:w'.heap.size=w.heap.size)(hsame:∀ k,k≠p.blk→w'.heap[k]? =w.heap[k]?)(ht:w'.tape=w.tape)(ho:w'.os=w.os)(hout:w'.output=w.output):
  Evo φ h w φ {next:=h.next,low:=B4 h.low b,high:=Co h.high b,mark:=h.mark,bl:=bl} w' where
 le:=.refl φ
 new:=fun _ _ e=>.inl e
 next:=IN _
 size:=zO hsz.symm
 tape:=ht
 os:=ho
 output:=hout
 frame:=fun k _ hf=>hsame k fun hk=>hf b p hb hin (by show B4 _ _≤_;rw[BJ];exact xS _ _) (by show _≤Co _ _;rw[Bw];exact zR _ _) hl hk.symm
 back:=fun i q e hi _=>by
  refine⟨i,q,e,?_,rfl,rfl,.inl rfl⟩;by_cases e:i=b
  ·exact e ▸ hl
  ·intro hd;apply hi;show bl.get i=_;rw[BT.ADY ADx,if_neg e];exact hd
 kept:=fun i _ hi=>by
  show bl.get i=_;have hi:i<B4 h.low b∨Co h.high b<i:=hi;rw[BJ,Bw]at hi;rw[BT.ADY ADx,if_neg (by omega)]
 low:=by show B4 _ _≤_;rw[BJ];exact zW _ _
 high:=by show _≤Co _ _;rw[Bw];exact AA6 _ _
 shape:=fun i hi=>by
  show ADn _ (bl.get i);rw[BT.ADY ADx];split
  ·rename_i e;rw[e];exact hsh
  ·exact .refl _
 only:=fun i hi h0=>by
  show bl.get i=_;rw[BT.ADY ADx,if_neg (fun e=>by rw[e,hb]at h0;cases h0)]
 all:=fun _ h1 h2=>absurd h2 (AAJ.2 h1)
theorem Evo.grow(H:ADX ty φ E h w){b:Nat}{o:Blk}{bl bl':BT}{p p':Pl}(hin:p.inp=false)(AIb:p'.inp=false)(hb:φ b=some p)(hl:Live h b)(AES:h.bl.set b .dead=some bl)
  (ADx:bl.set h.next o=some bl')(hp:p'.blk=p.blk)(hsz:w'.heap.size=w.heap.size)(hsame:∀ k,k≠p.blk→w'.heap[k]? =w.heap[k]?)
  (ht:w'.tape=w.tape)(ho:w'.os=w.os)(hout:w'.output=w.output):
  Evo φ h w (φ.put h.next p') {next:=vD h.next,low:=B4 h.low b,high:=Co h.high b,mark:=h.mark,bl:=bl'} w' where
 le:=Phi.AEq H.AEI
 new:=fun i q e=>by
  rcases Phi.AD2 e with ⟨rfl,rfl⟩|⟨_,e⟩
  ·exact .inr (IN _)
  ·exact .inl e
 next:=ACM _
 size:=zO hsz.symm
 tape:=ht
 os:=ho
 output:=hout
 frame:=fun k _ hf=>hsame k fun hk=>hf b p hb hin (by show B4 _ _≤_;rw[BJ];exact xS _ _) (by show _≤Co _ _;rw[Bw];exact zR _ _) hl hk.symm
 back:=fun i q e hi _=>by
  rcases Phi.AD2 e with ⟨rfl,rfl⟩|⟨ni,e⟩
  ·exact⟨b,p,hb,hl,hp.symm,hin.trans AIb.symm,.inr ⟨by show B4 _ _≤_;rw[BJ];exact xS _ _,by show _≤Co _ _;rw[Bw];exact zR _ _⟩⟩
  ·refine⟨i,q,e,?_,rfl,rfl,.inl rfl⟩
   intro hd;apply hi;show bl'.get i=_;rw[BT.ADY ADx,if_neg ni,BT.ADY AES];split
   ·rfl
   ·exact hd
 kept:=fun i hi' hi=>by
  show bl'.get i=_;have hi:i<B4 h.low b∨Co h.high b<i:=hi;rw[BJ,Bw]at hi;rw[BT.ADY ADx,if_neg (by omega),BT.ADY AES,if_neg (by omega)]
 low:=by show B4 _ _≤_;rw[BJ];exact zW _ _
 high:=by show _≤Co _ _;rw[Bw];exact AA6 _ _
 shape:=fun i hi=>by
  show ADn _ (bl'.get i);rw[BT.ADY ADx,if_neg (by omega),BT.ADY AES];split
  ·exact .inl rfl
  ·exact .refl _
 only:=fun i hi h0=>by
  show bl'.get i=_;rw[BT.ADY ADx,if_neg (by omega),BT.ADY AES,if_neg (fun e=>by rw[e,hb]at h0;cases h0)]
 all:=fun i h1 h2=>⟨p',by
  have h2:i<h.next+1:=h2;have:i=h.next:=by omega
  rw[this];exact Phi.AED _ _ _⟩
theorem ADX.kill(H:ADX ty φ E h w){b:Nat}{bl:BT}(AES:h.bl.set b .dead=some bl){lo hi mk:Nat}:
  ADX ty φ E {next:=h.next,low:=lo,high:=hi,mark:=mk,bl:=bl} w where
 dom:=H.dom
 inj:=fun i j q r ei ej hEi hEj hi hj hio hqr=>by
  have live:∀ i,bl.get i≠.dead→Live h i:=fun i hi hd=>by
   apply hi;rw[BT.ADY AES];split
   ·rfl
   ·exact hd
  exact H.inj i j q r ei ej hEi hEj (live i hi) (live j hj) hio hqr
 row:=fun i q e hE=>by
  show AER _ _ _ (bl.get i) _;rw[BT.ADY AES];split
  ·exact .dead
  ·exact H.row i q e hE
 fresh:=fun i hi=>by
  show bl.get i=_;rw[BT.ADY AES];split
  ·rfl
  ·exact H.fresh i hi
 kind:=fun i q c s e hq he=>by
  have he:bl.get i=.cells c s e:=he;rw[BT.ADY AES]at he;split at he
  ·cases he
  ·exact H.kind i q c s e hq he
 inp:=H.inp
end
end
noncomputable section
open Go
inductive KOk (P:wK):TK→TypeDesc→Prop
 |int (k:IntKind):KOk P (.int k) (.int k)
 |bool:KOk P .bool .bool
 |string:KOk P .string .string
 |ptr (e:Nat):KOk P (.ptr e) (.pointer e)
 |slice (e:Nat):KOk P (.slice e) (.slice e)
 |arr (n e:Nat):KOk P (.arr n e) (.array n e)
 |map (k e:Nat):KOk P (.map k e) (.map k e)
 |struct {fs:List (Nat×Nat×Nat)} {fields:Array Field} (h:fields.toList.map (fun f=>(f.offset,P.cellsOf f.type,f.type))=fs)
  (hi:fields.toList.all (fun f=>(P.info? f.type).isSome)=true):KOk P (.struct fs) (.struct fields)
 |iface (ms:Array (String×vx)):KOk P .iface (.interface ms)
 |func (a b:Array vx) (v:Bool):KOk P .func (.func a b v)
 |other {d:TypeDesc} (h:(match d with|.struct _|.array _ _|.interface _=>true|_=>false)=false):KOk P .other d
def AFc(P:wK)(t:Nat):Bool:=match P.underlying t with
 |some (.struct fs)=>(fs.all fun f=>f.name != "_") && !(P.cutTypes.any (·.2 == t)) && !P.stoodInHeld t
 |_=>true
structure ADt (P:wK)(t:Nat)(ti:TI):Prop where
 AIc:AFc P t=true
 deep:8≤P.depth
 info:∃ i,P.info? t=some i∧i.size=ti.size∧i.bytes=ti.bytes∧
  ((ti.zero=[]∧0<ti.size)∨∃ z,zeroV ti=some z∧i.zero=some z∧ti.zero.all plainV=true∧ti.zero.length=ti.size)
 und:∃ d,P.underlying t=some d∧KOk P ti.k d
 ms:∀ name f,findM name ti.ms=some f→∀ v w,(method (P.types.size+Made.depth) t v name).run P w=.ok (f,v) w
def Ck(P:wK)(ty:TTy):Prop:=∀ t ti,ty.get t=some ti→ADt P t ti
section
variable {P:wK}{ty:TTy}{φ:Phi}{E:Nat→Prop}{h h':Hp}{w:vt}
theorem Cx{b:Nat}{c:VT}{s e:Nat}(hr:rowOf h b=.ok c s e):h.bl.get b=.cells c s e:=by
 unfold rowOf qr at hr;split at hr
 ·cases hr;assumption
 ·cases hr
theorem ADX.rowAt(H:ADX ty φ E h w){b:Nat}{p:Pl}(hp:φ b=some p)(hE:¬ E b){c:VT}{s e:Nat}(hr:rowOf h b=.ok c s e):
  ∃ cs t fr,w.heap[p.blk]? =some (.cells cs t fr)∧AFF ty φ p c s e cs fr:=by
 have:=H.row b p hp hE;rw[Cx hr]at this;generalize w.heap[p.blk]? =o at this;cases this with
 |cells h=>exact⟨_,_,_,rfl,h⟩
theorem GU{b:Nat}{cs:Array BY}{t:vx}{fr:Nat×Nat}(hw:w.heap[b]? =some (.cells cs t fr))(o:Nat):w.cell? ⟨b,o,none⟩=cs[o]?:=by
 simp[World.cell?,hw]
theorem NR{b:Nat}{cs:Array BY}{t:vx}{fr:Nat×Nat}(hw:w.heap[b]? =some (.cells cs t fr))(hl:fr.1=fr.2∨cs.size≤fr.1){o:Nat}(ho:o<cs.size):
  w.frozen? ⟨b,o,none⟩=false:=by
 obtain⟨lo,hi⟩:=fr;simp only[AB7,hw];simp only[ABE,decide_eq_false_iff_not];simp only at hl;omega
theorem AFF.AHq{p:Pl}{c:VT}{s e:Nat}{cs:Array BY}{fr:Nat×Nat}(R:AFF ty φ p c s (e+1) cs fr):fr.1=fr.2∨cs.size≤fr.1:=by
 rcases R.loose with h|⟨h,_⟩
 ·exact h
 ·cases h
theorem AFF.AId{p:Pl}{c:VT}{s e:Nat}{cs:Array BY}{fr:Nat×Nat}(R:AFF ty φ p c s e cs fr)(hp:p.inp=false):fr.1=fr.2∨cs.size≤fr.1:=by
 rcases R.loose with h|⟨_,h,_⟩
 ·exact h
 ·rw[hp]at h;cases h
theorem AFF.free{p:Pl}{c:VT}{s e:Nat}{cs:Array BY}{fr:Nat×Nat}(R:AFF ty φ p c s e cs fr){b:Nat}{t:vx}(hw:w.heap[b]? =some (.cells cs t fr)){o:Nat}(h1:p.off≤o)(h2:o<p.off+p.room):w.frozen? ⟨b,o,none⟩=false:=by
 rcases R.loose with h|⟨_,_,h⟩
 ·exact NR hw h (by have:=R.fits;omega)
 ·have:=h o h1 h2
  obtain⟨lo,hi⟩:=fr;simp only[AB7,hw];simp only[ABE,decide_eq_false_iff_not];simp only at this;omega
theorem Addr.AET(b o n:Nat):(⟨b,o,none⟩:AAa).add n=⟨b,o+n,none⟩:=by
 unfold Addr.add;split<;>simp_all
theorem AEn.eq{a a':AAa}(h:AEn φ a a'):∃ p,φ a.block=some p∧a'=⟨p.blk,p.off+a.off,none⟩:=by
 obtain⟨_,hs,p,hp,hb,ho⟩:=h;cases a';simp only at hs hb ho;subst hs;subst hb;subst ho;exact⟨p,hp,rfl⟩
def AEo(c:VT)(off n:Nat):List BY:=(List.range n).map fun j=>c.get (off+j)
theorem Fo(c:VT)(off:Nat)(k:List BY→R):∀ (n:Nat) (acc:List BY),Se c off k n acc=k (AEo c off n++acc)
 |0,acc=>rfl
 |n+1,acc=>by
  show ADf _ _=_;rw[BC,Fo c off k n];simp only[AEo,xU,List.map_append,List.map_cons,List.map_nil,List.append_assoc,List.singleton_append];rfl
theorem Fv(c:VT)(off n:Nat):(AEo c off n).length=n:=by simp[AEo]
theorem AFF.list{p:Pl}{c:VT}{s e:Nat}{cs:Array BY}{fr:Nat×Nat}(R:AFF ty φ p c s e cs fr)(off:Nat):∀ n,off+n≤s→
  ∃ l,ADp φ (AEo c off n) l∧∀ j v,l[j]? =some v→cs[p.off+off+j]? =some v
 |0,_=>⟨[],.nil,fun j v hj=>by cases hj⟩
 |n+1,hn=>by
  obtain⟨l,hl,hc⟩:=R.list off n (by omega);obtain⟨v,hv,hr⟩:=R.cell (off+n) (by omega);have hlen:=hl.length;rw[Fv]at hlen;refine⟨l++[v],?_,fun j u hj=>?_⟩
  ·have:AEo c off (n+1)=AEo c off n++[c.get (off+n)]:=by simp[AEo,xU]
   rw[this];exact hl.append (.cons hr .nil)
  ·rcases vd j n with hjn|hjn
   ·rw[List.getElem?_append_left (by omega)]at hj;exact hc j u hj
   ·rw[List.getElem?_append_right (by omega),hlen]at hj
    have:j=n:=by
     rcases Nat.eq_or_lt_of_le hjn with h|h
     ·exact h.symm
     ·rw[List.getElem?_eq_none (by simp;omega)]at hj;cases hj
    subst this;simp at hj;subst hj;rw[← hv];congr 1;omega
theorem Qc(H:ADX ty φ E h w){a a':AAa}{v:BY}(hr:ADW a h=.ok v h')(ha:AEn φ a a')(hE:¬ E a.block):
  h'=h∧∃ v',w.cell? a'=some v'∧ADU φ v v':=by
 obtain⟨p,hp,rfl⟩:=ha.eq;unfold ADW at hr;cases hrow:rowOf h a.block with
 |no=>rw[hrow]at hr;cases hr
 |ok c s e=>
  obtain⟨cs,t,fr,hw,R⟩:=H.rowAt hp hE hrow;rw[hrow]at hr;simp only at hr;cases hb:Nat.blt a.off s with
  |false=>rw[hb]at hr;cases hr
  |true=>
   rw[hb]at hr;simp only[BC]at hr;cases hr;refine⟨rfl,?_⟩;rw[GU hw];exact R.cell _ (A9.1 hb)
theorem Qe(H:ADX ty φ E h w){a a':AAa}(ha:AEn φ a a')(hE:¬ E a.block){c:VT}{s e n:Nat}(hrow:rowOf h a.block=.ok c s e)(hn:a.off+n≤s):
  ∃ l,ADp φ (AEo c a.off n) l∧l.length=n∧(∀ w':vt,w'.heap=w.heap→(loadCells a' n).run P w'=.ok l.toArray w')∧
   ∃ p cs t fr,φ a.block=some p∧w.heap[p.blk]? =some (.cells cs t fr)∧∀ (j:Nat) (u:BY),l[j]? =some u→cs[p.off+a.off+j]? =some u:=by
 obtain⟨p,hp,rfl⟩:=ha.eq;obtain⟨cs,t,fr,hw,R⟩:=H.rowAt hp hE hrow;obtain⟨l,hl,hc⟩:=R.list a.off n hn;have hlen:l.length=n:=by rw[hl.length,Fv]
 refine⟨l,hl,hlen,fun w' hw'=>?_,p,cs,t,fr,hp,hw,hc⟩;have:=run_loadCells_list (P:=P) w' ⟨p.blk,p.off+a.off,none⟩ l fun j v hj=>by
  rw[Addr.AET,GU (hw'.symm ▸ hw)];exact hc j v hj
 rw[hlen]at this;exact this
theorem Gj:∀ (vs:List BY) (c:VT) (i:Nat) (c':VT),Bx c i vs=some c'→
  ∀ j,c'.get j=if i≤j∧j<i+vs.length then vs.getD (j - i) undef else c.get j
 |[],c,i,c',hs,j=>by
  obtain rfl:c=c':=Option.some.inj hs;rw[if_neg (by simp)]
 |v::vs,c,i,c',hs,j=>by
  unfold Bx at hs;cases h1:c.set i v with
  |none=>rw[h1]at hs;cases hs
  |some c1=>
   rw[h1]at hs;have ih:=Gj vs c1 (i+1) c' hs j;rw[ih,VT.ADh _ _ _ _ h1 j];by_cases hj:j=i
   ·subst hj
    rw[if_neg (by omega),if_pos rfl,if_pos (by simp)];simp
   ·by_cases h2:i+1≤j∧j<i+1+vs.length
    ·rw[if_pos h2,if_pos (by simp only[vI];omega)]
     have:j - i=(j - (i+1))+1:=by omega
     rw[this];rfl
    ·rw[if_neg h2,if_neg hj,if_neg (by simp only[vI];omega)]
theorem F8(b:Nat)(t:vx)(fr:Nat×Nat):∀ (vs:List BY) (o:Nat) (cs:Array BY) (w:vt),w.heap[b]? =some (.cells cs t fr)→o+vs.length≤cs.size→
  ∃ cs',(w.setCells b o vs).heap[b]? =some (.cells cs' t fr)∧cs'.size=cs.size∧(∀ j,cs'[j]? =if o≤j∧j<o+vs.length then vs[j - o]? else cs[j]?)∧
   (w.setCells b o vs).heap.size=w.heap.size∧(∀ k,k≠b→(w.setCells b o vs).heap[k]? =w.heap[k]?)∧
   (w.setCells b o vs).tape=w.tape∧(w.setCells b o vs).os=w.os∧(w.setCells b o vs).output=w.output
 |[],o,cs,w,hw,_=>⟨cs,hw,rfl,fun j=>by rw[if_neg (by simp)],rfl,fun _ _=>rfl,rfl,rfl,rfl⟩
 |v::vs,o,cs,w,hw,hn=>by
  simp only[vI]at hn;have h1:(w.setCell ⟨b,o,none⟩ v).heap[b]? =some (.cells (cs.setIfInBounds o v) t fr):=by
   simp[AAb,yD,hw]
  obtain⟨cs',e1,e2,e3,e4,e5,e6,e7,e8⟩:=F8 b t fr vs (o+1) (cs.setIfInBounds o v) _ h1 (by simpa using by omega);refine⟨cs',e1,by simpa using e2,fun j=>?_,?_,fun k hk=>?_,e6,e7,e8⟩
  ·rw[e3]
   by_cases hj:j=o
   ·subst hj
    rw[if_neg (by omega),if_pos (by simp)];simp[xP];omega
   ·by_cases h2:o+1≤j∧j<o+1+vs.length
    ·rw[if_pos h2,if_pos (by simp only[vI];omega)]
     have:j - o=(j - (o+1))+1:=by omega
     rw[this];rfl
    ·rw[if_neg h2,if_neg (by simp only[vI];omega)]
     rw[xP,if_neg (fun h=>hj h.symm)]
  ·rw[ABr,e4];simp[AAb]
  ·rw[ABr,e5 k hk]
   simp[AAb,yD,Ne.symm hk]
end
end
noncomputable section
open Go
def BM(ty:TTy)(φ:Phi)(E:Nat→Prop)(h:Hp)(w:vt)(v:BY)(h':Hp)(r:Result BY):Prop:=
 ∃ v' w' φ',r=.ok v' w'∧ADU φ' v v'∧ADX ty φ' E h' w'∧Evo φ h w φ' h' w'
section
variable {P:wK}{ty:TTy}{φ:Phi}{E:Nat→Prop}{h h':Hp}{w:vt}{e:Env}{v:BY}
theorem BM.same(H:ADX ty φ E h w){v v':BY}(hv:ADU φ v v'):BM ty φ E h w v h (.ok v' w):=⟨v',w,φ,rfl,hv,H,.refl _ _ _⟩
theorem ADt.size{t:Nat}{ti:TI}(T:ADt P t ti)(w:vt):(sizeOf t).run P w=.ok ti.size w:=by
 obtain⟨i,hi,hs,_⟩:=T.info;rw[run_sizeOf w hi];simp[ABV,hi,hs]
theorem ADt.cells{t:Nat}{ti:TI}(T:ADt P t ti):P.cellsOf t=ti.size:=by
 obtain⟨i,hi,hs,_⟩:=T.info;simp[ABV,hi,hs]
theorem ADt.desc{t:Nat}{ti:TI}(T:ADt P t ti):∃ d,(∀ w,(underlying t).run P w=.ok d w)∧KOk P ti.k d:=by
 obtain⟨d,hd,hk⟩:=T.und;exact⟨d,run_underlying hd,hk⟩
theorem ADt.AEY{t:Nat}{ti:TI}(T:ADt P t ti)(hz:ti.zero.length=ti.size):
  ∃ z,zeroV ti=some z∧(∀ w,(zeroValue t).run P w=.ok z w)∧z.cells.toList=ti.zero∧ti.zero.all plainV=true:=by
 obtain⟨i,hi,hs,_,hzz⟩:=T.info;rcases hzz with ⟨h0,h1⟩|⟨z,hz1,hz2,hz3,_⟩
 ·rw[h0]at hz;simp at hz;omega
 ·refine⟨z,hz1,fun w=>?_,?_,hz3⟩
  ·simp[zeroValue,run_typeInfo (w:=w) hi,hz2]
  ·unfold zeroV at hz1
   split at hz1
   ·cases hz1;rfl
   ·split at hz1
    ·rename_i u hu
     cases hz1;rw[hu]at hz3;simp only[zF,List.all_nil,Bool.and_true]at hz3;rw[hu];cases z<;>first|rfl|(simp[plainV]at hz3)
    ·cases hz1
theorem ADt.agg{t:Nat}{ti:TI}(T:ADt P t ti)(w:vt):(isAgg t).run P w=.ok ti.k.agg w:=by
 obtain⟨d,hd,hk⟩:=T.desc;unfold isAgg;simp only[Sem.run_bind,hd,Result.andThen_ok];generalize ti.k=kk at hk;cases hk<;>first|rfl|skip
 rename_i ho;cases d<;>first|rfl|cases ho
theorem J0{v v':BY}(h:ADU φ v v')(hk:known v=true):ADp φ (cellsOf v) v'.cells.toList:=by
 cases h with
 |unk=>cases hk
 |AFq=>exact .cons .AFq .nil
 |agg h=>exact h
 |bool b=>exact .cons (.bool b) .nil
 |int k n=>exact .cons (.int k n) .nil
 |string s=>exact .cons (.string s) .nil
 |AGB=>exact .cons .AGB .nil
 |ptr h=>exact .cons (.ptr h) .nil
 |AEF=>exact .cons .AEF .nil
 |slice hn h=>exact .cons (.slice hn h) .nil
 |AGC=>exact .cons .AGC .nil
 |map h=>exact .cons (.map h) .nil
 |func fn h h2=>exact .cons (.func fn h h2) .nil
 |nilFunc=>exact .cons .nilFunc .nil
 |iface t h=>exact .cons (.iface t h) .nil
 |nilIface=>exact .cons .nilIface .nil
 |tuple h=>exact .cons (.tuple h) .nil
theorem Qz{v v':BY}(h:ADU φ v v')(h1:oneCell v=true):v'.oneCell'=true:=by
 cases h<;>first|rfl|cases h1
theorem IL:∀ {l l':List BY},ADp φ l l'→Bd l=true→∀ v∈l',v.oneCell'=true
 |_,_,.nil,_,v,hm=>by cases hm
 |_,_,.cons (v:=u) h t,h1,v,hm=>by
  unfold Bd at h1;cases hu:oneCell u with
  |false=>rw[hu]at h1;cases h1
  |true=>
   rw[hu]at h1;cases hm with
   |head=>exact Qz h hu
   |tail _ hm=>exact IL t h1 v hm
theorem FD{b:Nat}{o:Blk}{k:Hp→R}(hr:EE h b o k=.ok v h'):
  ∃ bl,256≤b∧h.bl.set b o=some bl∧k {next:=h.next,low:=B4 h.low b,high:=Co h.high b,mark:=h.mark,bl:=bl}=.ok v h':=by
 unfold EE at hr;cases hb:vJ 256 b with
 |false=>rw[hb]at hr;cases hr
 |true=>
  rw[hb,cond_true]at hr;split at hr
  ·rename_i bl hs
   rw[AZ,AZ]at hr;exact⟨bl,Ab.1 hb,hs,hr⟩
  ·cases hr
theorem GH{o:Blk}{k:Nat→Hp→R}(hr:F6 h o k=.ok v h'):
  ∃ bl,h.bl.set h.next o=some bl∧k h.next {next:=vD h.next,low:=h.low,high:=h.high,mark:=h.mark,bl:=bl}=.ok v h':=by
 unfold F6 at hr;split at hr
 ·rename_i bl hs
  rw[AZ]at hr;exact⟨bl,hs,hr⟩
 ·cases hr
theorem Bk{c:Bool}{x:R}(hr:(bif c then x else .no)=.ok v h'):c=true∧x=.ok v h':=by
 cases c
 ·cases hr
 ·exact⟨rfl,hr⟩
theorem IB(H:ADX ty φ E h w){a a':AAa}{vs vs':List BY}{k:Hp→R}(hr:Ci a vs h k=.ok v h')(ha:AEn φ a a')(hv:ADp φ vs vs')(hE:¬ E a.block):
  ∃ h1 w1,k h1=.ok v h'∧(storeCells a' vs').run P w=.ok () w1∧ADX ty φ E h1 w1∧Evo φ h w φ h1 w1:=by
 obtain⟨p,hp,rfl⟩:=ha.eq;unfold Ci at hr;split at hr
 case h_2=>cases hr
 rename_i c s e hrow;obtain⟨cs,t,fr,hw,R⟩:=H.rowAt hp hE hrow;obtain⟨hle,hr⟩:=Bk hr;obtain⟨hone,hr⟩:=Bk hr;split at hr
 case h_2=>cases hr
 rename_i c' ADx;obtain⟨bl,ADg,hbl,hk⟩:=FD hr;have hle':a.off+vs.length≤s:=by
  have:=Ab.1 hle;rw[BI]at this;exact this
 have hlen:=hv.length;have hsz:=R.sz;have hroom:=R.room;have AG3:=R.fits;obtain⟨cs',e1,e2,e3,e4,e5,e6,e7,e8⟩:=F8 p.blk t fr vs' (p.off+a.off) cs w hw (by omega);have hrun:(storeCells ⟨p.blk,p.off+a.off,none⟩ vs').run P w=.ok () (w.setCells p.blk (p.off+a.off) vs'):=by
  refine run_storeCells_cells (P:=P) p.blk (p.off+a.off) vs' 0 w (fun j hj=>?_) (fun j hj=>?_) (IL hv hone)
  ·rw[GU hw];simp;omega
  ·exact R.free hw (by omega) (by omega)
 have hl:Live h a.block:=by
  unfold Live;rw[Cx hrow];intro hd;cases hd
 have hB:AER ty φ p (.cells c' s e) ((w.setCells p.blk (p.off+a.off) vs').heap[p.blk]?):=by
  rw[e1];refine .cells {kind:=R.kind,room:=R.room,fits:=by rw[e2];exact R.fits,loose:=by rw[e2];exact R.loose,cell:=fun j hj=>?_};rw[Gj vs c a.off c' ADx j,e3];by_cases hin:a.off≤j∧j<a.off+vs.length
  ·rw[if_pos hin,if_pos (by omega)]
   have hj':p.off+j - (p.off+a.off)=j - a.off:=by omega
   rw[hj'];obtain⟨v',hv1,hv2⟩:=hv.get (j - a.off) (vs[j - a.off]'(by omega)) (No (by omega));refine⟨v',hv1,?_⟩;have:vs.getD (j - a.off) undef=vs[j - a.off]'(by omega):=by
    rw[OF,No (by omega)];rfl
   rw[this];exact hv2
  ·rw[if_neg hin,if_neg (by omega)]
   exact R.cell j hj
 exact⟨_,_,hk,hrun,H.put hE ADg hp hl hbl e4 e5 hB,.put (H.AEX hp ADg) hp hl hbl (by rw[Cx hrow];exact .inr ⟨rfl,rfl⟩) e4 e5 e6 e7 e8⟩
theorem MX(H:ADX ty φ E h w){en:Nat}{cs:List BY}{c:VT}{n:Nat}{k:Nat→Hp→R}(hr:CE h en c n k=.ok v h')(hc:∀ j,j<cs.length→c.get j=cs.getD j undef)(hn:n=cs.length)
  {cs':Array BY}{t:vx}{fr:Nat×Nat}{p:Pl}
  (hp:p={blk:=w.heap.size,off:=0,sz:=cs.length,room:=cs'.size,es:=p.es})(hk:Kind ty p cs.length en)(hsz:cs.length≤cs'.size)
  (hfr:fr.1=fr.2∨cs'.size≤fr.1)(ADy:∀ (j:Nat) (u:BY),cs[j]? =some u→∃ u',cs'[j]? =some u'∧ADU φ u u'){w':vt}(hw':w'.heap=w.heap.push (.cells cs' t fr))
  (ht:w'.tape=w.tape)(ho:w'.os=w.os)(hout:w'.output=w.output):
  ∃ h1,k h.next h1=.ok v h'∧ADX ty (φ.put h.next p) E h1 w'∧Evo φ h w (φ.put h.next p) h1 w':=by
 subst hn;unfold CE at hr;rw[AZ]at hr;obtain⟨bl,hbl,hk'⟩:=GH hr;have hb:p.blk=w.heap.size:=by rw[hp]
 have hs:w'.heap.size=w.heap.size+1:=by rw[hw'];simp
 have hsame:∀ k,k<w.heap.size→w'.heap[k]? =w.heap[k]?:=fun k hk=>by
  rw[hw',Array.getElem?_push_lt hk,Array.getElem?_eq_getElem hk]
 refine⟨_,hk',H.new hbl (by omega) (by omega) (fun j q e _=>by have:=(H.dom j q e).2;omega) (fun k hk _=>hsame k hk) ?_ (hin:=by rw[hp]),
  .made H hbl (by omega) (by omega) hsame ht ho hout⟩
 have AFs:w'.heap[p.blk]? =some (.cells cs' t fr):=by rw[hw',hb];simp
 rw[AFs];refine .cells {kind:=hk,room:=by rw[hp];exact hsz,fits:=by rw[hp];simp,loose:=.inl hfr,cell:=fun j hj=>?_};rw[hc j hj];obtain⟨u',hu1,hu2⟩:=ADy j (cs[j]) (No hj);refine⟨u',by rw[hp];simpa using hu1,?_⟩;have:cs.getD j undef=cs[j]:=by
  rw[OF,No hj];rfl
 rw[this];exact hu2.mono (Phi.AEq H.AEI)
theorem Il{cs:List BY}{c:VT}(ADx:Bx .mt 0 cs=some c):∀ j,j<cs.length→c.get j=cs.getD j undef:=fun j hj=>by
 rw[Gj cs .mt 0 c ADx j,if_pos (by omega)];rfl
theorem Nn(H:ADX ty φ E h w){en:Nat}{cs:List BY}{k:Nat→Hp→R}(hr:newRow h en cs k=.ok v h'){cs':Array BY}{t:vx}{fr:Nat×Nat}{p:Pl}
  (hp:p={blk:=w.heap.size,off:=0,sz:=cs.length,room:=cs'.size,es:=p.es})(hk:Kind ty p cs.length en)(hsz:cs.length≤cs'.size)
  (hfr:fr.1=fr.2∨cs'.size≤fr.1)(ADy:∀ (j:Nat) (u:BY),cs[j]? =some u→∃ u',cs'[j]? =some u'∧ADU φ u u'){w':vt}(hw':w'.heap=w.heap.push (.cells cs' t fr))
  (ht:w'.tape=w.tape)(ho:w'.os=w.os)(hout:w'.output=w.output):
  ∃ h1,k h.next h1=.ok v h'∧ADX ty (φ.put h.next p) E h1 w'∧Evo φ h w (φ.put h.next p) h1 w':=by
 unfold newRow at hr;split at hr
 case h_2=>cases hr
 rename_i c ADx;exact MX H hr (Il ADx) (BI _) hp hk hsz hfr ADy hw' ht ho hout
end
end
end Go.Proofs.YtedbmmfebjfibaaGreat

/-
  Part ZB of what Lawlt stands on: printed by program, names and spaces cut.
-/
import Derived.Test.YtbjadbhkogcfeaaGreatZA
import Derived.Laws.IdiomCopy
import Derived.ChangeKeysEq
import Derived.Laws.Entries
open Go renaming Value→IN,World→zP,TypeId→zZ,MapEntry→zn,Program→zp,Addr→ACS
open Nat renaming le_refl→IT,succ→yg,ble→yl,lt_or_ge→zD,le_trans→zO,lt_of_lt_of_le→zw,le_of_lt→AAC,min_le_right→AAp,le_of_ble_eq_true→AA7,ble_eq_true_of_le→AA8,le_of_eq→AB0,min_le_left→AB8,le_max_right→ACe,not_lt→ACk,le_max_left→ADT,le_succ→AEg,not_le→AFY
open List renaming getElem?_eq_getElem→sh,getD_eq_getElem?_getD→yf,length_cons→yh,range_succ→AAf,all_cons→ACb
open Array renaming getElem?_setIfInBounds→AAJ,getElem?_modify→ABA
open Go.World renaming setCell→AC2,setCells→AEG,frozen?→AER
open Bool renaming and_eq_false_iff→ADW
open Go.Program renaming cellsOf→ADn
namespace Go.Proofs.YtbjadbhkogcfeaaGreat
noncomputable section
open Go
theorem Km:∀ (n i:Nat),(FZ n).get i=.dead
 |0,i=>rfl
 |n+1,0=>rfl
 |n+1,k+1=>by
  show(BT.nd .dead (FZ n) (FZ n)).get (k+1)=_;rw[BT.AFq];split<;>exact Km n _
structure Pl where
 blk:Nat
 off:Nat
 sz:Nat
 room:Nat
 es:Nat
 inp:Bool:=false
abbrev Phi:=Nat->Option Pl
def AG0(φ:Phi)(a a':ACS):Prop:=
 a.spot=none/\a'.spot=none/\∃ p,φ a.block=some p/\a'.block=p.blk/\a'.off=p.off+a.off
def AHP(φ:Phi)(a:ACS)(c:Nat)(a':ACS)(c':Nat):Prop:=
 a.spot=none/\a'.spot=none/\∃ p,φ a.block=some p/\a'.block=p.blk/\
  ((0<c/\a'.off=p.off+a.off/\(c'=c\/a.off+c*p.es=p.sz/\c<=c'/\a.off+c'*p.es<=p.room))\/
   (c=0/\(c'=0\/a'.off=p.off+p.sz/\p.sz+c'*p.es<=p.room)))
mutual
inductive AFm (φ:Phi):IN->IN->Prop
 |bool (b:Bool):AFm φ (.bool b) (.bool b)
 |int (k:IntKind) (n:Int):AFm φ (.int k n) (.int k n)
 |string (s:ByteArray):AFm φ (.string s) (.string s)
 |AIL:AFm φ (.pointer none) (.pointer none)
 |ptr {a a':ACS} (h:AG0 φ a a'):AFm φ (.pointer (some a)) (.pointer (some a'))
 |AGW:AFm φ (.slice none 0 0) (.slice none 0 0)
 |slice {a a':ACS} {n c c':Nat} (hn:n<=c) (h:AHP φ a c a' c'):AFm φ (.slice (some a) n c) (.slice (some a') n c')
 |AIM:AFm φ (.map none) (.map none)
 |map {r:Nat} {p:Pl} (h:φ r=some p):AFm φ (.map (some r)) (.map (some p.blk))
 |func (fn:Fn) {f f' c c':List IN} (h:AF3 φ f f') (h2:AF3 φ c c'):AFm φ (.func fn ⟨f⟩ ⟨c⟩) (.func fn ⟨f'⟩ ⟨c'⟩)
 |nilFunc:AFm φ .nilFunc .nilFunc
 |iface (t:zZ) {v v':IN} (h:AFm φ v v'):AFm φ (.iface t v) (.iface t v')
 |nilIface:AFm φ .nilIface .nilIface
 |agg {l l':List IN} (h:AF3 φ l l'):AFm φ (.agg ⟨l⟩) (.agg ⟨l'⟩)
 |tuple {l l':List IN} (h:AF3 φ l l'):AFm φ (.tuple ⟨l⟩) (.tuple ⟨l'⟩)
 |unk {v':IN}:AFm φ (.chan none) v'
 |AHu {r:Nat} {a':ACS}:AFm φ (.chan (some r)) (.slice (some a') 0 0)
inductive AF3 (φ:Phi):List IN->List IN->Prop
 |nil:AF3 φ [] []
 |cons {v v':IN} {l l':List IN} (h:AFm φ v v') (t:AF3 φ l l'):AF3 φ (v::l) (v'::l')
end
def Phi.Le(φ ψ:Phi):Prop:=∀ i p,φ i=some p->ψ i=some p
theorem Phi.Le.refl(φ:Phi):φ.Le φ:=fun _ _ h=>h
theorem Phi.Le.trans{φ ψ χ:Phi}(h:φ.Le ψ)(h':ψ.Le χ):φ.Le χ:=fun i p e=>h' i p (h i p e)
theorem AG0.mono{φ ψ:Phi}(hle:φ.Le ψ){a a':ACS}:AG0 φ a a'->AG0 ψ a a'
 |⟨s,s',p,hp,r⟩=>⟨s,s',p,hle _ _ hp,r⟩
theorem AHP.mono{φ ψ:Phi}(hle:φ.Le ψ){a a':ACS}{c c':Nat}:AHP φ a c a' c'->AHP ψ a c a' c'
 |⟨s,s',p,hp,r⟩=>⟨s,s',p,hle _ _ hp,r⟩
mutual
theorem AFm.mono{φ ψ:Phi}(hle:φ.Le ψ):∀ {v v':IN},AFm φ v v'->AFm ψ v v'
 |_,_,.bool b=>.bool b
 |_,_,.int k n=>.int k n
 |_,_,.string s=>.string s
 |_,_,.AIL=>.AIL
 |_,_,.ptr h=>.ptr (h.mono hle)
 |_,_,.AGW=>.AGW
 |_,_,.slice hn h=>.slice hn (h.mono hle)
 |_,_,.AIM=>.AIM
 |_,_,.map h=>.map (hle _ _ h)
 |_,_,.func fn h h2=>.func fn (AF3.mono hle h) (AF3.mono hle h2)
 |_,_,.nilFunc=>.nilFunc
 |_,_,.iface t h=>.iface t (AFm.mono hle h)
 |_,_,.nilIface=>.nilIface
 |_,_,.agg h=>.agg (AF3.mono hle h)
 |_,_,.tuple h=>.tuple (AF3.mono hle h)
 |_,_,.unk=>.unk
 |_,_,.AHu=>.AHu
theorem AF3.mono{φ ψ:Phi}(hle:φ.Le ψ):∀ {l l':List IN},AF3 φ l l'->AF3 ψ l l'
 |_,_,.nil=>.nil
 |_,_,.cons h t=>.cons (AFm.mono hle h) (AF3.mono hle t)
end
theorem AF3.length{φ:Phi}:∀ {l l':List IN},AF3 φ l l'->l'.length=l.length
 |_,_,.nil=>rfl
 |_,_,.cons _ t=>congrArg (· +1) t.length
theorem AF3.append{φ:Phi}:∀ {l l' m m':List IN},AF3 φ l l'->AF3 φ m m'->AF3 φ (l++m) (l'++m')
 |_,_,_,_,.nil,h=>h
 |_,_,_,_,.cons h t,h'=>.cons h (t.append h')
theorem AF3.get{φ:Phi}:∀ {l l':List IN},AF3 φ l l'->∀ (i:Nat) (v:IN),l[i]? =some v->∃ v',l'[i]? =some v'/\AFm φ v v'
 |_,_,.nil,i,v,h=>by cases i<;>cases h
 |_,_,.cons h t,0,v,e=>by cases e;exact⟨_,rfl,h⟩
 |_,_,.cons h t,i+1,v,e=>t.get i v e
theorem AF3.take{φ:Phi}:∀ {l l':List IN},AF3 φ l l'->∀ n:Nat,AF3 φ (l.take n) (l'.take n)
 |_,_,.nil,n=>by cases n<;>exact .nil
 |_,_,.cons h t,0=>.nil
 |_,_,.cons h t,n+1=>.cons h (t.take n)
theorem AF3.drop{φ:Phi}:∀ {l l':List IN},AF3 φ l l'->∀ n:Nat,AF3 φ (l.drop n) (l'.drop n)
 |_,_,.nil,n=>by cases n<;>exact .nil
 |_,_,.cons h t,0=>.cons h t
 |_,_,.cons h t,n+1=>t.drop n
theorem AFm.plain{φ:Phi}{v:IN}(h:plainV v=true):AFm φ v v:=by
 unfold plainV at h;split at h<;>first|constructor|cases h
theorem AF3.plain{φ:Phi}:∀ {l:List IN},(l.all plainV)=true->AF3 φ l l
 |[],_=>.nil
 |v::l,h=>by
  simp only[ACb,Bool.and_eq_true]at h;exact .cons (.plain h.1) (.plain h.2)
def Live(h:Hp)(i:Nat):Prop:=h.bl.get i≠.dead
inductive AGi (φ:Phi):List Ent->List zn->Prop
 |nil:AGi φ [] []
 |cons {k k' v v':IN} {b:Nat} {l:List Ent} {l':List zn} (hk:AFm φ k k') (hv:AFm φ v v') (t:AGi φ l l'):
  AGi φ (⟨k,v,b⟩::l) (⟨k',v',b⟩::l')
theorem AGi.mono{φ ψ:Phi}(hle:φ.Le ψ):∀ {l:List Ent} {l':List zn},AGi φ l l'->AGi ψ l l'
 |_,_,.nil=>.nil
 |_,_,.cons hk hv t=>.cons (hk.mono hle) (hv.mono hle) (t.mono hle)
def Kind(ty:TTy)(p:Pl)(s e:Nat):Prop:=
 p.sz=s/\((e=0/\p.room=p.sz/\p.es=1/\(p.off=0\/p.inp=true))\/∃ t ti,e=t+1/\ty.get t=some ti/\p.es=ti.size)
structure AHQ (ty:TTy)(φ:Phi)(p:Pl)(c:VT)(s e:Nat)(cs:Array IN)(fr:Nat×Nat):Prop where
 kind:Kind ty p s e
 room:p.sz<=p.room
 fits:p.off+p.room<=cs.size
 loose:(fr.1=fr.2\/cs.size<=fr.1)\/(e=0/\p.inp=true/\∀ o,p.off<=o->o<p.off+p.room->¬ (fr.1<=o/\o<fr.2))
 cell:∀ j,j<s->∃ v,cs[p.off+j]? =some v/\AFm φ (c.get j) v
theorem AHQ.sz{ty:TTy}{φ:Phi}{p:Pl}{c:VT}{s e:Nat}{cs:Array IN}{fr:Nat×Nat}(R:AHQ ty φ p c s e cs fr):p.sz=s:=R.kind.1
inductive AGe (ty:TTy)(φ:Phi)(p:Pl):Blk->Option Obj->Prop
 |cells {c s e cs t fr} (h:AHQ ty φ p c s e cs fr):AGe ty φ p (.cells c s e) (some (.cells cs t fr))
 |map {es clk es'} (h:AGi φ es es'):AGe ty φ p (.map es clk) (some (.map ⟨es'⟩ clk))
 |AHR {s l t} (hp:p.off=0):AGe ty φ p (.iter none s l t) (some (.mapIter none s ⟨l⟩ t))
 |iter {m q s l t} (hp:p.off=0) (h:φ m=some q):AGe ty φ p (.iter (some m) s l t) (some (.mapIter (some q.blk) s ⟨l⟩ t))
 |cur {m q s sn l t} (hp:p.off=0) (h:φ m=some q) (hl:l.getLast? =some s):AGe ty φ p (.cur m s t) (some (.mapIter (some q.blk) sn ⟨l⟩ t))
 |dead {o}:AGe ty φ p .dead o
theorem AGe.mono{ty:TTy}{φ ψ:Phi}(hle:φ.Le ψ){p:Pl}{b:Blk}{o:Option Obj}:AGe ty φ p b o->AGe ty ψ p b o
 |.cells h=>.cells {h with cell:=fun j hj=>let ⟨v,e,r⟩:=h.cell j hj;⟨v,e,r.mono hle⟩}
 |.map h=>.map (h.mono hle)
 |.AHR h=>.AHR h
 |.iter hp h=>.iter hp (hle _ _ h)
 |.cur hp h hl=>.cur hp (hle _ _ h) hl
 |.dead=>.dead
structure AFp (ty:TTy)(φ:Phi)(E:Nat->Prop)(h:Hp)(w:zP):Prop where
 dom:∀ i p,φ i=some p->i<h.next/\p.blk<w.heap.size
 inj:∀ i j p q,φ i=some p->φ j=some q->¬ E i->¬ E j->Live h i->Live h j->(p.inp=false\/q.inp=false)->p.blk=q.blk->i=j
 row:∀ i p,φ i=some p->¬ E i->AGe ty φ p (h.bl.get i) w.heap[p.blk]?
 fresh:∀ i,h.next<=i->h.bl.get i=.dead
 kind:∀ i p c s e,φ i=some p->h.bl.get i=.cells c s e->Kind ty p s e
 inp:∀ i p,φ i=some p->p.inp=true->i<256
def AF2(a b:Blk):Prop:=b=.dead\/match a,b with
 |.cells _ s e,.cells _ s' e'=>s=s'/\e=e'
 |.map _ _,.map _ _=>True
 |.iter _ _ _ _,.iter _ _ _ _=>True
 |.cur _ _ _,.cur _ _ _=>True
 |.pick _ _ _ _,.pick _ _ _ _=>True
 |_,_=>False
theorem AF2.refl(a:Blk):AF2 a a:=by cases a<;>first|exact .inl rfl|exact .inr ⟨rfl,rfl⟩|exact .inr trivial
theorem AF2.trans{a b c:Blk}(h:AF2 a b)(h':AF2 b c):AF2 a c:=by
 rcases h' with rfl|h'
 ·exact .inl rfl
 ·rcases h with rfl|h
  ·cases c<;>exact h'.elim
  ·cases a<;>cases b<;>first|(exact h.elim;done)|(cases c<;>first|(exact h'.elim;done)|exact .inr trivial|exact .inr ⟨h.1.trans h'.1,h.2.trans h'.2⟩)
theorem AF2.AH3{b:Blk}(h:AF2 .dead b):b=.dead:=by
 rcases h with h|h
 ·exact h
 ·cases b<;>exact h.elim
theorem AF2.live{a b:Blk}(h:AF2 a b)(hb:b≠.dead):a≠.dead:=by
 intro ha;subst ha;exact hb h.AH3
theorem AF2.cells{a:Blk}{c:VT}{s e:Nat}(h:AF2 a (.cells c s e)):∃ c',a=.cells c' s e:=by
 rcases h with h|h
 ·cases h
 ·cases a<;>first|(exact h.elim;done)|(obtain⟨rfl,rfl⟩:=h;exact⟨_,rfl⟩)
structure Evo (φ:Phi)(h:Hp)(w:zP)(φ':Phi)(h':Hp)(w':zP):Prop where
 le:φ.Le φ'
 new:∀ i p,φ' i=some p->φ i=some p\/h.next<=i
 next:h.next<=h'.next
 size:w.heap.size<=w'.heap.size
 tape:w'.tape=w.tape
 os:w'.os=w.os
 output:w'.output=w.output
 frame:∀ k,k<w.heap.size->(∀ i p,φ i=some p->p.inp=false->h'.low<=i->i<=h'.high->Live h i->p.blk≠k)->w'.heap[k]? =w.heap[k]?
 back:∀ i p,φ' i=some p->Live h' i->p.blk<w.heap.size->∃ j q,φ j=some q/\Live h j/\q.blk=p.blk/\q.inp=p.inp/\(j=i\/h'.low<=j/\j<=h'.high)
 kept:∀ i,i<h.next->(i<h'.low\/h'.high<i)->h'.bl.get i=h.bl.get i
 low:h'.low<=h.low
 high:h.high<=h'.high
 shape:∀ i,i<h.next->AF2 (h.bl.get i) (h'.bl.get i)
 only:∀ i,i<h.next->φ i=none->h'.bl.get i=h.bl.get i
 all:∀ i,h.next<=i->i<h'.next->∃ p,φ' i=some p
theorem Evo.refl(φ:Phi)(h:Hp)(w:zP):Evo φ h w φ h w where
 le:=.refl φ
 new:=fun _ _ e=>.inl e
 next:=IT _
 size:=IT _
 tape:=rfl
 os:=rfl
 output:=rfl
 frame:=fun _ _ _=>rfl
 back:=fun i p e hl _=>⟨i,p,e,hl,rfl,rfl,.inl rfl⟩
 kept:=fun _ _ _=>rfl
 low:=IT _
 high:=IT _
 shape:=fun _ _=>.refl _
 only:=fun _ _ _=>rfl
 all:=fun _ h1 h2=>absurd h2 (ACk.2 h1)
theorem Evo.trans{φ ψ χ:Phi}{h₁ h₂ h₃:Hp}{w₁ w₂ w₃:zP}
  (a:Evo φ h₁ w₁ ψ h₂ w₂)(b:Evo ψ h₂ w₂ χ h₃ w₃):Evo φ h₁ w₁ χ h₃ w₃ where
 le:=a.le.trans b.le
 new:=fun i p e=>by
  rcases b.new i p e with h|h
  ·exact a.new i p h
  ·exact .inr (zO a.next h)
 next:=zO a.next b.next
 size:=zO a.size b.size
 tape:=b.tape.trans a.tape
 os:=b.os.trans a.os
 output:=b.output.trans a.output
 frame:=fun k hk hf=>by
  have h1:w₂.heap[k]? =w₁.heap[k]?:=a.frame k hk fun i p e hn hl hg hv=>hf i p e hn (zO b.low hl) (zO hg b.high) hv
  rw[<- h1];refine b.frame k (zw hk a.size) fun i p e hn hl hg hv hk'=>?_
  obtain⟨j,q,ej,lj,hq,hqi,hor⟩:=a.back i p e hv (hk' ▸ hk);refine hf j q ej (hqi.trans hn) ?_ ?_ lj (hq.trans hk')
  ·rcases hor with rfl|h
   ·exact hl
   ·exact zO b.low h.1
  ·rcases hor with rfl|h
   ·exact hg
   ·exact zO h.2 b.high
 back:=fun i p e hv hp=>by
  obtain⟨j,q,ej,lj,hq,hqi,hor⟩:=b.back i p e hv (zw hp a.size);obtain⟨k,r,ek,lk,hr,hri,AKn⟩:=a.back j q ej lj (hq ▸ hp);refine⟨k,r,ek,lk,hr.trans hq,hri.trans hqi,?_⟩;rcases AKn with rfl|h
  ·exact hor
  ·exact .inr ⟨zO b.low h.1,zO h.2 b.high⟩
 kept:=fun i hi hl=>by
  rw[b.kept i (zw hi a.next) hl,a.kept i hi (hl.imp (fun h=>zw h b.low) (fun h=>Nat.lt_of_le_of_lt b.high h))]
 low:=zO b.low a.low
 high:=zO a.high b.high
 shape:=fun i hi=>(a.shape i hi).trans (b.shape i (zw hi a.next))
 only:=fun i hi h0=>by
  have h1:ψ i=none:=by
   cases e:ψ i with
   |none=>rfl
   |some p=>
    rcases a.new i p e with h|h
    ·rw[h0]at h;cases h
    ·omega
  rw[b.only i (zw hi a.next) h1,a.only i hi h0]
 all:=fun i h1 h2=>by
  rcases zD i h₂.next with h|h
  ·obtain⟨p,hp⟩:=a.all i h1 h;exact⟨p,b.le i p hp⟩
  ·exact b.all i h h2
end
noncomputable section
open Go
theorem Ao{β:Type}(m:Nat)(k:Nat->β):AF1 m k=k m:=by cases m<;>rfl
theorem BV(v:IN)(k:IN->R):AFv v k=k v:=by cases v<;>rfl
theorem FA(v:IN)(h:Hp):AGz v h=.ok v h:=by cases v<;>rfl
theorem C7:∀ (l:List IN) (k:List IN->R),AGT l k=k l
 |[],_=>rfl
 |v::l,k=>by
  show(AFv v fun v=>AGT l fun l=>k (v::l))=_;rw[BV,C7 l]
theorem Bi{α:Type}:∀ l:List α,BF l=l.length
 |[]=>rfl
 |_::l=>congrArg yg (Bi l)
theorem NP{α:Type}:∀ (n:Nat) (l:List α),WO n l=l.take n
 |0,_=>rfl
 |_+1,[]=>rfl
 |n+1,x::l=>congrArg (x:: ·) (NP n l)
theorem QH{α:Type}:∀ (n:Nat) (l:List α),Z5 n l=l.drop n
 |0,_=>rfl
 |_+1,[]=>rfl
 |n+1,_::l=>QH n l
theorem GO{α:Type}:∀ (l:List α) (i:Nat),nth l i=l[i]?
 |[],i=>by cases i<;>rfl
 |x::l,0=>rfl
 |x::l,i+1=>by
  show nth l i=_;rw[GO l i,List.getElem?_cons_succ]
theorem BZ(a b:Nat):B9 a b=min a b:=by
 unfold B9;rcases zD b a with h|h
 ·have:yl a b=false:=by
   cases e:yl a b
   ·rfl
   ·exact absurd (AA7 e) (AFY.2 h)
  rw[this];exact(Nat.min_eq_right (AAC h)).symm
 ·rw[AA8 h];exact(Nat.min_eq_left h).symm
theorem B7(a b:Nat):Cy a b=max a b:=by
 unfold Cy;rcases zD b a with h|h
 ·have:yl a b=false:=by
   cases e:yl a b
   ·rfl
   ·exact absurd (AA7 e) (AFY.2 h)
  rw[this];exact(Nat.max_eq_left (AAC h)).symm
 ·rw[AA8 h];exact(Nat.max_eq_right h).symm
theorem Av{a b:Nat}:yl a b=true↔a<=b:=⟨AA7,AA8⟩
theorem BQ{a b:Nat}:Nat.blt a b=true↔a<b:=⟨AA7,AA8⟩
theorem Ay{a b:Nat}:Nat.beq a b=true↔a=b:=⟨Nat.eq_of_beq_eq_true,fun h=>h ▸ Nat.beq_refl a⟩
def Phi.put(φ:Phi)(i:Nat)(p:Pl):Phi:=fun j=>if j=i then some p else φ j
theorem Phi.AGU(φ:Phi)(i:Nat)(p:Pl):φ.put i p i=some p:=if_pos rfl
theorem Phi.AG4{φ:Phi}{i:Nat}{p:Pl}(h:φ i=none):φ.Le (φ.put i p):=fun j q e=>by
 unfold Phi.put;split
 ·rename_i hji;rw[hji,h]at e;cases e
 ·exact e
theorem Phi.AGI{φ:Phi}{i:Nat}{p:Pl}{j:Nat}{q:Pl}(e:φ.put i p j=some q):(j=i/\q=p)\/(j≠i/\φ j=some q):=by
 unfold Phi.put at e;split at e
 ·rename_i hji;cases e;exact .inl ⟨hji,rfl⟩
 ·rename_i hji;exact .inr ⟨hji,e⟩
section
variable {ty:TTy}{φ:Phi}{E:Nat->Prop}{h:Hp}{w w':zP}
theorem AFp.AGZ(H:AFp ty φ E h w):φ h.next=none:=by
 cases e:φ h.next with
 |none=>rfl
 |some p=>exact absurd (H.dom _ _ e).1 (Nat.lt_irrefl _)
theorem BT.AFo{bl bl':BT}{i:Nat}{o:Blk}(hs:bl.set i o=some bl')(j:Nat):bl'.get j=if j=i then o else bl.get j:=BT.AFy _ _ _ _ hs j
theorem AFp.new(H:AFp ty φ E h w){o:Blk}{bl:BT}{p:Pl}(AGJ:h.bl.set h.next o=some bl)(hsz:w.heap.size<=w'.heap.size)(hp:p.blk<w'.heap.size)
  (hfree:∀ j q,φ j=some q->Live h j->q.blk≠p.blk)(hsame:∀ k,k<w.heap.size->k≠p.blk->w'.heap[k]? =w.heap[k]?)
  (hB:AGe ty (φ.put h.next p) p o w'.heap[p.blk]?){lo hi mk:Nat}(hin:p.inp=false:=by rfl):
  AFp ty (φ.put h.next p) E {next:=yg h.next,low:=lo,high:=hi,mark:=mk,bl:=bl} w' where
 dom:=fun i q e=>by
  rcases Phi.AGI e with ⟨rfl,rfl⟩|⟨_,e⟩
  ·exact⟨Nat.lt_succ_self _,hp⟩
  ·exact⟨Nat.lt_succ_of_lt (H.dom _ _ e).1,zw (H.dom _ _ e).2 hsz⟩
 inj:=fun i j q r ei ej hEi hEj hi hj hio hqr=>by
  rcases Phi.AGI ei with ⟨rfl,rfl⟩|⟨ni,ei'⟩<;>rcases Phi.AGI ej with ⟨rfl,rfl⟩|⟨nj,ej'⟩
  ·rfl
  ·refine absurd hqr.symm (hfree j r ej' ?_)
   intro hd;apply hj;show bl.get j=_;rw[BT.AFo AGJ,if_neg nj];exact hd
  ·refine absurd hqr (hfree i q ei' ?_)
   intro hd;apply hi;show bl.get i=_;rw[BT.AFo AGJ,if_neg ni];exact hd
  ·refine H.inj i j q r ei' ej' hEi hEj ?_ ?_ hio hqr
   ·intro hd;apply hi;show bl.get i=_;rw[BT.AFo AGJ,if_neg ni];exact hd
   ·intro hd;apply hj;show bl.get j=_;rw[BT.AFo AGJ,if_neg nj];exact hd
 row:=fun i q e hE=>by
  rcases Phi.AGI e with ⟨rfl,rfl⟩|⟨ni,ei⟩
  ·show AGe _ _ _ (bl.get h.next) _
   rw[BT.AFo AGJ,if_pos rfl];exact hB
  ·show AGe _ _ _ (bl.get i) _
   rw[BT.AFo AGJ,if_neg ni];by_cases hd:h.bl.get i=.dead
   ·rw[hd];exact .dead
   ·have:=H.row i q ei hE
    rw[hsame q.blk (H.dom _ _ ei).2 (hfree i q ei hd)];exact this.mono (Phi.AG4 H.AGZ)
 fresh:=fun i hi=>by
  show bl.get i=_;have hi:h.next+1<=i:=hi;rw[BT.AFo AGJ,if_neg (by omega)];exact H.fresh i (by omega)
 kind:=fun i q c s e hq he=>by
  have he:bl.get i=.cells c s e:=he;rw[BT.AFo AGJ]at he;rcases Phi.AGI hq with ⟨rfl,rfl⟩|⟨ni,ei⟩
  ·rw[if_pos rfl]at he
   rw[he]at hB;generalize w'.heap[q.blk]? =ob at hB;cases hB with
   |cells R=>exact R.kind
  ·rw[if_neg ni]at he
   exact H.kind i q c s e ei he
 inp:=fun i q hq hi=>by
  rcases Phi.AGI hq with ⟨rfl,rfl⟩|⟨ni,ei⟩
  ·rw[hin]at hi;cases hi
  ·exact H.inp i q ei hi
theorem Evo.made(H:AFp ty φ E h w){o:Blk}{bl:BT}{p:Pl}(AGJ:h.bl.set h.next o=some bl)(hp:w.heap.size<=p.blk)(hsz:w.heap.size<=w'.heap.size)
  (hsame:∀ k,k<w.heap.size->w'.heap[k]? =w.heap[k]?)(ht:w'.tape=w.tape)(ho:w'.os=w.os)(hout:w'.output=w.output):
  Evo φ h w (φ.put h.next p) {next:=yg h.next,low:=h.low,high:=h.high,mark:=h.mark,bl:=bl} w' where
 le:=Phi.AG4 H.AGZ
 new:=fun i q e=>by
  rcases Phi.AGI e with ⟨rfl,rfl⟩|⟨_,e⟩
  ·exact .inr (IT _)
  ·exact .inl e
 next:=AEg _
 size:=hsz
 tape:=ht
 os:=ho
 output:=hout
 frame:=fun k hk _=>hsame k hk
 back:=fun i q e hl hq=>by
  rcases Phi.AGI e with ⟨rfl,rfl⟩|⟨ni,e⟩
  ·exact absurd hq (ACk.2 hp)
  ·refine⟨i,q,e,?_,rfl,rfl,.inl rfl⟩
   intro hd;apply hl;show bl.get i=_;rw[BT.AFo AGJ,if_neg ni];exact hd
 kept:=fun i hi _=>by
  show bl.get i=_;rw[BT.AFo AGJ,if_neg (by omega)]
 low:=IT _
 high:=IT _
 shape:=fun i hi=>by
  show AF2 _ (bl.get i);rw[BT.AFo AGJ,if_neg (by omega)];exact .refl _
 only:=fun i hi _=>by
  show bl.get i=_;rw[BT.AFo AGJ,if_neg (by omega)]
 all:=fun i h1 h2=>⟨p,by
  have h2:i<h.next+1:=h2;have:i=h.next:=by omega
  rw[this];exact Phi.AGU _ _ _⟩
theorem AFp.AGj(H:AFp ty φ E h w){b:Nat}{p:Pl}(hb:φ b=some p)(h2:256<=b):p.inp=false:=by
 cases e:p.inp with
 |false=>rfl
 |true=>have:=H.inp b p hb e;omega
theorem AFp.put(H:AFp ty φ E h w){b:Nat}{o:Blk}{bl:BT}{p:Pl}(hEb:¬ E b)(AFs:256<=b)(hb:φ b=some p)(hl:Live h b)(AGJ:h.bl.set b o=some bl)
  (hsz:w'.heap.size=w.heap.size)(hsame:∀ k,k≠p.blk->w'.heap[k]? =w.heap[k]?)(hB:AGe ty φ p o w'.heap[p.blk]?){lo hi mk:Nat}:
  AFp ty φ E {next:=h.next,low:=lo,high:=hi,mark:=mk,bl:=bl} w' where
 dom:=fun i q e=>⟨(H.dom _ _ e).1,hsz ▸ (H.dom _ _ e).2⟩
 inj:=fun i j q r ei ej hEi hEj hi hj hio hqr=>by
  have live:∀ i,bl.get i≠.dead->Live h i:=fun i hi=>by
   by_cases e:i=b
   ·exact e ▸ hl
   ·intro hd;apply hi;rw[BT.AFo AGJ,if_neg e];exact hd
  exact H.inj i j q r ei ej hEi hEj (live i hi) (live j hj) hio hqr
 row:=fun i q e hE=>by
  show AGe _ _ _ (bl.get i) _;rw[BT.AFo AGJ];split
  ·rename_i hib;subst hib
   rw[hb]at e;cases e;exact hB
  ·rename_i hib
   by_cases hd:h.bl.get i=.dead
   ·rw[hd];exact .dead
   ·rw[hsame q.blk fun hq=>hib (H.inj i b q p e hb hE hEb hd hl (.inr (H.AGj hb AFs)) hq)]
    exact H.row i q e hE
 fresh:=fun i hi=>by
  show bl.get i=_;have:=(H.dom _ _ hb).1;have hi:h.next<=i:=hi;rw[BT.AFo AGJ,if_neg (by omega)];exact H.fresh i hi
 kind:=fun i q c s e hq he=>by
  have he:bl.get i=.cells c s e:=he;rw[BT.AFo AGJ]at he;split at he
  ·rename_i hib;subst hib
   rw[hb]at hq;cases hq;rw[he]at hB;generalize w'.heap[p.blk]? =ob at hB;cases hB with
   |cells R=>exact R.kind
  ·exact H.kind i q c s e hq he
 inp:=H.inp
theorem Evo.put{b:Nat}{o:Blk}{bl:BT}{p:Pl}(hin:p.inp=false)(hb:φ b=some p)(hl:Live h b)(AGJ:h.bl.set b o=some bl)(hsh:AF2 (h.bl.get b) o)
  (hsz:w'.heap.size=w.heap.size)(hsame:∀ k,k≠p.blk->w'.heap[k]? =w.heap[k]?)(ht:w'.tape=w.tape)(ho:w'.os=w.os)(hout:w'.output=w.output):
  Evo φ h w φ {next:=h.next,low:=B9 h.low b,high:=Cy h.high b,mark:=h.mark,bl:=bl} w' where
 le:=.refl φ
 new:=fun _ _ e=>.inl e
 next:=IT _
 size:=AB0 hsz.symm
 tape:=ht
 os:=ho
 output:=hout
 frame:=fun k _ hf=>hsame k fun hk=>hf b p hb hin (by show B9 _ _<=_;rw[BZ];exact AAp _ _) (by show _<=Cy _ _;rw[B7];exact ACe _ _) hl hk.symm
 back:=fun i q e hi _=>by
  refine⟨i,q,e,?_,rfl,rfl,.inl rfl⟩;by_cases e:i=b
  ·exact e ▸ hl
  ·intro hd;apply hi;show bl.get i=_;rw[BT.AFo AGJ,if_neg e];exact hd
 kept:=fun i _ hi=>by
  show bl.get i=_;have hi:i<B9 h.low b\/Cy h.high b<i:=hi;rw[BZ,B7]at hi;rw[BT.AFo AGJ,if_neg (by omega)]
 low:=by show B9 _ _<=_;rw[BZ];exact AB8 _ _
 high:=by show _<=Cy _ _;rw[B7];exact ADT _ _
 shape:=fun i hi=>by
  show AF2 _ (bl.get i);rw[BT.AFo AGJ];split
  ·rename_i e;rw[e];exact hsh
  ·exact .refl _
 only:=fun i hi h0=>by
  show bl.get i=_;rw[BT.AFo AGJ,if_neg (fun e=>by rw[e,hb]at h0;cases h0)]
 all:=fun _ h1 h2=>absurd h2 (ACk.2 h1)
theorem Evo.grow(H:AFp ty φ E h w){b:Nat}{o:Blk}{bl bl':BT}{p p':Pl}(hin:p.inp=false)(AKo:p'.inp=false)(hb:φ b=some p)(hl:Live h b)(AGf:h.bl.set b .dead=some bl)
  (AGJ:bl.set h.next o=some bl')(hp:p'.blk=p.blk)(hsz:w'.heap.size=w.heap.size)(hsame:∀ k,k≠p.blk->w'.heap[k]? =w.heap[k]?)
  (ht:w'.tape=w.tape)(ho:w'.os=w.os)(hout:w'.output=w.output):
  Evo φ h w (φ.put h.next p') {next:=yg h.next,low:=B9 h.low b,high:=Cy h.high b,mark:=h.mark,bl:=bl'} w' where
 le:=Phi.AG4 H.AGZ
 new:=fun i q e=>by
  rcases Phi.AGI e with ⟨rfl,rfl⟩|⟨_,e⟩
  ·exact .inr (IT _)
  ·exact .inl e
 next:=AEg _
 size:=AB0 hsz.symm
 tape:=ht
 os:=ho
 output:=hout
 frame:=fun k _ hf=>hsame k fun hk=>hf b p hb hin (by show B9 _ _<=_;rw[BZ];exact AAp _ _) (by show _<=Cy _ _;rw[B7];exact ACe _ _) hl hk.symm
 back:=fun i q e hi _=>by
  rcases Phi.AGI e with ⟨rfl,rfl⟩|⟨ni,e⟩
  ·exact⟨b,p,hb,hl,hp.symm,hin.trans AKo.symm,.inr ⟨by show B9 _ _<=_;rw[BZ];exact AAp _ _,by show _<=Cy _ _;rw[B7];exact ACe _ _⟩⟩
  ·refine⟨i,q,e,?_,rfl,rfl,.inl rfl⟩
   intro hd;apply hi;show bl'.get i=_;rw[BT.AFo AGJ,if_neg ni,BT.AFo AGf];split
   ·rfl
   ·exact hd
 kept:=fun i hi' hi=>by
  show bl'.get i=_;have hi:i<B9 h.low b\/Cy h.high b<i:=hi;rw[BZ,B7]at hi;rw[BT.AFo AGJ,if_neg (by omega),BT.AFo AGf,if_neg (by omega)]
 low:=by show B9 _ _<=_;rw[BZ];exact AB8 _ _
 high:=by show _<=Cy _ _;rw[B7];exact ADT _ _
 shape:=fun i hi=>by
  show AF2 _ (bl'.get i);rw[BT.AFo AGJ,if_neg (by omega),BT.AFo AGf];split
  ·exact .inl rfl
  ·exact .refl _
 only:=fun i hi h0=>by
  show bl'.get i=_;rw[BT.AFo AGJ,if_neg (by omega),BT.AFo AGf,if_neg (fun e=>by rw[e,hb]at h0;cases h0)]
 all:=fun i h1 h2=>⟨p',by
  have h2:i<h.next+1:=h2;have:i=h.next:=by omega
  rw[this];exact Phi.AGU _ _ _⟩
theorem AFp.kill(H:AFp ty φ E h w){b:Nat}{bl:BT}(AGf:h.bl.set b .dead=some bl){lo hi mk:Nat}:
  AFp ty φ E {next:=h.next,low:=lo,high:=hi,mark:=mk,bl:=bl} w where
 dom:=H.dom
 inj:=fun i j q r ei ej hEi hEj hi hj hio hqr=>by
  have live:∀ i,bl.get i≠.dead->Live h i:=fun i hi hd=>by
   apply hi;rw[BT.AFo AGf];split
   ·rfl
   ·exact hd
  exact H.inj i j q r ei ej hEi hEj (live i hi) (live j hj) hio hqr
 row:=fun i q e hE=>by
  show AGe _ _ _ (bl.get i) _;rw[BT.AFo AGf];split
  ·exact .dead
  ·exact H.row i q e hE
 fresh:=fun i hi=>by
  show bl.get i=_;rw[BT.AFo AGf];split
  ·rfl
  ·exact H.fresh i hi
 kind:=fun i q c s e hq he=>by
  have he:bl.get i=.cells c s e:=he;rw[BT.AFo AGf]at he;split at he
  ·cases he
  ·exact H.kind i q c s e hq he
 inp:=H.inp
end
end
noncomputable section
open Go
inductive KOk (P:zp):TK->TypeDesc->Prop
 |int (k:IntKind):KOk P (.int k) (.int k)
 |bool:KOk P .bool .bool
 |string:KOk P .string .string
 |ptr (e:Nat):KOk P (.ptr e) (.pointer e)
 |slice (e:Nat):KOk P (.slice e) (.slice e)
 |arr (n e:Nat):KOk P (.arr n e) (.array n e)
 |map (k e:Nat):KOk P (.map k e) (.map k e)
 |struct {fs:List (Nat×Nat×Nat)} {fields:Array Field} (h:fields.toList.map (fun f=>(f.offset,P.cellsOf f.type,f.type))=fs)
  (hi:fields.toList.all (fun f=>(P.info? f.type).isSome)=true):KOk P (.struct fs) (.struct fields)
 |iface (ms:Array (String×zZ)):KOk P .iface (.interface ms)
 |func (a b:Array zZ) (v:Bool):KOk P .func (.func a b v)
 |other {d:TypeDesc} (h:(match d with|.struct _|.array _ _|.interface _=>true|_=>false)=false):KOk P .other d
def AHn(P:zp)(t:Nat):Bool:=match P.underlying t with
 |some (.struct fs)=>(fs.all fun f=>f.name != "_") && !(P.cutTypes.any (·.2 == t)) && !P.stoodInHeld t
 |_=>true
structure AGD (P:zp)(t:Nat)(ti:TI):Prop where
 AKp:AHn P t=true
 deep:8<=P.depth
 info:∃ i,P.info? t=some i/\i.size=ti.size/\i.bytes=ti.bytes/\
  ((ti.zero=[]/\0<ti.size)\/∃ z,zeroV ti=some z/\i.zero=some z/\ti.zero.all plainV=true/\ti.zero.length=ti.size)
 und:∃ d,P.underlying t=some d/\KOk P ti.k d
 ms:∀ name f,findM name ti.ms=some f->∀ v w,(method (P.types.size+Made.depth) t v name).run P w=.ok (f,v) w
def DG(P:zp)(ty:TTy):Prop:=∀ t ti,ty.get t=some ti->AGD P t ti
section
variable {P:zp}{ty:TTy}{φ:Phi}{E:Nat->Prop}{h h':Hp}{w:zP}
theorem DM{b:Nat}{c:VT}{s e:Nat}(hr:rowOf h b=.ok c s e):h.bl.get b=.cells c s e:=by
 unfold rowOf xV at hr;split at hr
 ·cases hr;assumption
 ·cases hr
theorem AFp.rowAt(H:AFp ty φ E h w){b:Nat}{p:Pl}(hp:φ b=some p)(hE:¬ E b){c:VT}{s e:Nat}(hr:rowOf h b=.ok c s e):
  ∃ cs t fr,w.heap[p.blk]? =some (.cells cs t fr)/\AHQ ty φ p c s e cs fr:=by
 have:=H.row b p hp hE;rw[DM hr]at this;generalize w.heap[p.blk]? =o at this;cases this with
 |cells h=>exact⟨_,_,_,rfl,h⟩
theorem H8{b:Nat}{cs:Array IN}{t:zZ}{fr:Nat×Nat}(hw:w.heap[b]? =some (.cells cs t fr))(o:Nat):w.cell? ⟨b,o,none⟩=cs[o]?:=by
 simp[World.cell?,hw]
theorem N0{b:Nat}{cs:Array IN}{t:zZ}{fr:Nat×Nat}(hw:w.heap[b]? =some (.cells cs t fr))(hl:fr.1=fr.2\/cs.size<=fr.1){o:Nat}(ho:o<cs.size):
  w.frozen? ⟨b,o,none⟩=false:=by
 obtain⟨lo,hi⟩:=fr;simp only[AER,hw];simp only[ADW,decide_eq_false_iff_not];simp only at hl;omega
theorem AHQ.AJ6{p:Pl}{c:VT}{s e:Nat}{cs:Array IN}{fr:Nat×Nat}(R:AHQ ty φ p c s (e+1) cs fr):fr.1=fr.2\/cs.size<=fr.1:=by
 rcases R.loose with h|⟨h,_⟩
 ·exact h
 ·cases h
theorem AHQ.AKq{p:Pl}{c:VT}{s e:Nat}{cs:Array IN}{fr:Nat×Nat}(R:AHQ ty φ p c s e cs fr)(hp:p.inp=false):fr.1=fr.2\/cs.size<=fr.1:=by
 rcases R.loose with h|⟨_,h,_⟩
 ·exact h
 ·rw[hp]at h;cases h
theorem AHQ.free{p:Pl}{c:VT}{s e:Nat}{cs:Array IN}{fr:Nat×Nat}(R:AHQ ty φ p c s e cs fr){b:Nat}{t:zZ}(hw:w.heap[b]? =some (.cells cs t fr)){o:Nat}(h1:p.off<=o)(h2:o<p.off+p.room):w.frozen? ⟨b,o,none⟩=false:=by
 rcases R.loose with h|⟨_,_,h⟩
 ·exact N0 hw h (by have:=R.fits;omega)
 ·have:=h o h1 h2
  obtain⟨lo,hi⟩:=fr;simp only[AER,hw];simp only[ADW,decide_eq_false_iff_not];simp only at this;omega
theorem Addr.AGk(b o n:Nat):(⟨b,o,none⟩:ACS).add n=⟨b,o+n,none⟩:=by
 unfold Addr.add;split<;>simp_all
theorem AG0.eq{a a':ACS}(h:AG0 φ a a'):∃ p,φ a.block=some p/\a'=⟨p.blk,p.off+a.off,none⟩:=by
 obtain⟨_,hs,p,hp,hb,ho⟩:=h;cases a';simp only at hs hb ho;subst hs;subst hb;subst ho;exact⟨p,hp,rfl⟩
def AG1(c:VT)(off n:Nat):List IN:=(List.range n).map fun j=>c.get (off+j)
theorem F6(c:VT)(off:Nat)(k:List IN->R):∀ (n:Nat) (acc:List IN),S6 c off k n acc=k (AG1 c off n++acc)
 |0,acc=>rfl
 |n+1,acc=>by
  show AFv _ _=_;rw[BV,F6 c off k n];simp only[AG1,AAf,List.map_append,List.map_cons,List.map_nil,List.append_assoc,List.singleton_append];rfl
theorem GG(c:VT)(off n:Nat):(AG1 c off n).length=n:=by simp[AG1]
theorem AHQ.list{p:Pl}{c:VT}{s e:Nat}{cs:Array IN}{fr:Nat×Nat}(R:AHQ ty φ p c s e cs fr)(off:Nat):∀ n,off+n<=s->
  ∃ l,AF3 φ (AG1 c off n) l/\∀ j v,l[j]? =some v->cs[p.off+off+j]? =some v
 |0,_=>⟨[],.nil,fun j v hj=>by cases hj⟩
 |n+1,hn=>by
  obtain⟨l,hl,hc⟩:=R.list off n (by omega);obtain⟨v,hv,hr⟩:=R.cell (off+n) (by omega);have hlen:=hl.length;rw[GG]at hlen;refine⟨l++[v],?_,fun j u hj=>?_⟩
  ·have:AG1 c off (n+1)=AG1 c off n++[c.get (off+n)]:=by simp[AG1,AAf]
   rw[this];exact hl.append (.cons hr .nil)
  ·rcases zD j n with hjn|hjn
   ·rw[List.getElem?_append_left (by omega)]at hj;exact hc j u hj
   ·rw[List.getElem?_append_right (by omega),hlen]at hj
    have:j=n:=by
     rcases Nat.eq_or_lt_of_le hjn with h|h
     ·exact h.symm
     ·rw[List.getElem?_eq_none (by simp;omega)]at hj;cases hj
    subst this;simp at hj;subst hj;rw[<- hv];congr 1;omega
theorem Q0(H:AFp ty φ E h w){a a':ACS}{v:IN}(hr:AFk a h=.ok v h')(ha:AG0 φ a a')(hE:¬ E a.block):
  h'=h/\∃ v',w.cell? a'=some v'/\AFm φ v v':=by
 obtain⟨p,hp,rfl⟩:=ha.eq;unfold AFk at hr;cases hrow:rowOf h a.block with
 |no=>rw[hrow]at hr;cases hr
 |ok c s e=>
  obtain⟨cs,t,fr,hw,R⟩:=H.rowAt hp hE hrow;rw[hrow]at hr;simp only at hr;cases hb:Nat.blt a.off s with
  |false=>rw[hb]at hr;cases hr
  |true=>
   rw[hb]at hr;simp only[BV]at hr;cases hr;refine⟨rfl,?_⟩;rw[H8 hw];exact R.cell _ (BQ.1 hb)
theorem Q2(H:AFp ty φ E h w){a a':ACS}(ha:AG0 φ a a')(hE:¬ E a.block){c:VT}{s e n:Nat}(hrow:rowOf h a.block=.ok c s e)(hn:a.off+n<=s):
  ∃ l,AF3 φ (AG1 c a.off n) l/\l.length=n/\(∀ w':zP,w'.heap=w.heap->(loadCells a' n).run P w'=.ok l.toArray w')/\
   ∃ p cs t fr,φ a.block=some p/\w.heap[p.blk]? =some (.cells cs t fr)/\∀ (j:Nat) (u:IN),l[j]? =some u->cs[p.off+a.off+j]? =some u:=by
 obtain⟨p,hp,rfl⟩:=ha.eq;obtain⟨cs,t,fr,hw,R⟩:=H.rowAt hp hE hrow;obtain⟨l,hl,hc⟩:=R.list a.off n hn;have hlen:l.length=n:=by rw[hl.length,GG]
 refine⟨l,hl,hlen,fun w' hw'=>?_,p,cs,t,fr,hp,hw,hc⟩;have:=run_loadCells_list (P:=P) w' ⟨p.blk,p.off+a.off,none⟩ l fun j v hj=>by
  rw[Addr.AGk,H8 (hw'.symm ▸ hw)];exact hc j v hj
 rw[hlen]at this;exact this
theorem G3:∀ (vs:List IN) (c:VT) (i:Nat) (c':VT),Bt c i vs=some c'->
  ∀ j,c'.get j=if i<=j/\j<i+vs.length then vs.getD (j - i) undef else c.get j
 |[],c,i,c',hs,j=>by
  obtain rfl:c=c':=Option.some.inj hs;rw[if_neg (by simp)]
 |v::vs,c,i,c',hs,j=>by
  unfold Bt at hs;cases h1:c.set i v with
  |none=>rw[h1]at hs;cases hs
  |some c1=>
   rw[h1]at hs;have ih:=G3 vs c1 (i+1) c' hs j;rw[ih,VT.AFy _ _ _ _ h1 j];by_cases hj:j=i
   ·subst hj
    rw[if_neg (by omega),if_pos rfl,if_pos (by simp)];simp
   ·by_cases h2:i+1<=j/\j<i+1+vs.length
    ·rw[if_pos h2,if_pos (by simp only[yh];omega)]
     have:j - i=(j - (i+1))+1:=by omega
     rw[this];rfl
    ·rw[if_neg h2,if_neg hj,if_neg (by simp only[yh];omega)]
theorem GP(b:Nat)(t:zZ)(fr:Nat×Nat):∀ (vs:List IN) (o:Nat) (cs:Array IN) (w:zP),w.heap[b]? =some (.cells cs t fr)->o+vs.length<=cs.size->
  ∃ cs',(w.setCells b o vs).heap[b]? =some (.cells cs' t fr)/\cs'.size=cs.size/\(∀ j,cs'[j]? =if o<=j/\j<o+vs.length then vs[j - o]? else cs[j]?)/\
   (w.setCells b o vs).heap.size=w.heap.size/\(∀ k,k≠b->(w.setCells b o vs).heap[k]? =w.heap[k]?)/\
   (w.setCells b o vs).tape=w.tape/\(w.setCells b o vs).os=w.os/\(w.setCells b o vs).output=w.output
 |[],o,cs,w,hw,_=>⟨cs,hw,rfl,fun j=>by rw[if_neg (by simp)],rfl,fun _ _=>rfl,rfl,rfl,rfl⟩
 |v::vs,o,cs,w,hw,hn=>by
  simp only[yh]at hn;have h1:(w.setCell ⟨b,o,none⟩ v).heap[b]? =some (.cells (cs.setIfInBounds o v) t fr):=by
   simp[AC2,ABA,hw]
  obtain⟨cs',e1,e2,e3,e4,e5,e6,e7,e8⟩:=GP b t fr vs (o+1) (cs.setIfInBounds o v) _ h1 (by simpa using by omega);refine⟨cs',e1,by simpa using e2,fun j=>?_,?_,fun k hk=>?_,e6,e7,e8⟩
  ·rw[e3]
   by_cases hj:j=o
   ·subst hj
    rw[if_neg (by omega),if_pos (by simp)];simp[AAJ];omega
   ·by_cases h2:o+1<=j/\j<o+1+vs.length
    ·rw[if_pos h2,if_pos (by simp only[yh];omega)]
     have:j - o=(j - (o+1))+1:=by omega
     rw[this];rfl
    ·rw[if_neg h2,if_neg (by simp only[yh];omega)]
     rw[AAJ,if_neg (fun h=>hj h.symm)]
  ·rw[AEG,e4];simp[AC2]
  ·rw[AEG,e5 k hk]
   simp[AC2,ABA,Ne.symm hk]
end
end
noncomputable section
open Go
def Bq(ty:TTy)(φ:Phi)(E:Nat->Prop)(h:Hp)(w:zP)(v:IN)(h':Hp)(r:Result IN):Prop:=
 ∃ v' w' φ',r=.ok v' w'/\AFm φ' v v'/\AFp ty φ' E h' w'/\Evo φ h w φ' h' w'
section
variable {P:zp}{ty:TTy}{φ:Phi}{E:Nat->Prop}{h h':Hp}{w:zP}{e:Env}{v:IN}
theorem Bq.same(H:AFp ty φ E h w){v v':IN}(hv:AFm φ v v'):Bq ty φ E h w v h (.ok v' w):=⟨v',w,φ,rfl,hv,H,.refl _ _ _⟩
theorem AGD.size{t:Nat}{ti:TI}(T:AGD P t ti)(w:zP):(sizeOf t).run P w=.ok ti.size w:=by
 obtain⟨i,hi,hs,_⟩:=T.info;rw[run_sizeOf w hi];simp[ADn,hi,hs]
theorem AGD.cells{t:Nat}{ti:TI}(T:AGD P t ti):P.cellsOf t=ti.size:=by
 obtain⟨i,hi,hs,_⟩:=T.info;simp[ADn,hi,hs]
theorem AGD.desc{t:Nat}{ti:TI}(T:AGD P t ti):∃ d,(∀ w,(underlying t).run P w=.ok d w)/\KOk P ti.k d:=by
 obtain⟨d,hd,hk⟩:=T.und;exact⟨d,run_underlying hd,hk⟩
theorem AGD.AGq{t:Nat}{ti:TI}(T:AGD P t ti)(hz:ti.zero.length=ti.size):
  ∃ z,zeroV ti=some z/\(∀ w,(zeroValue t).run P w=.ok z w)/\z.cells.toList=ti.zero/\ti.zero.all plainV=true:=by
 obtain⟨i,hi,hs,_,hzz⟩:=T.info;rcases hzz with ⟨h0,h1⟩|⟨z,hz1,hz2,hz3,_⟩
 ·rw[h0]at hz;simp at hz;omega
 ·refine⟨z,hz1,fun w=>?_,?_,hz3⟩
  ·simp[zeroValue,run_typeInfo (w:=w) hi,hz2]
  ·unfold zeroV at hz1
   split at hz1
   ·cases hz1;rfl
   ·split at hz1
    ·rename_i u hu
     cases hz1;rw[hu]at hz3;simp only[ACb,List.all_nil,Bool.and_true]at hz3;rw[hu];cases z<;>first|rfl|(simp[plainV]at hz3)
    ·cases hz1
theorem AGD.agg{t:Nat}{ti:TI}(T:AGD P t ti)(w:zP):(isAgg t).run P w=.ok ti.k.agg w:=by
 obtain⟨d,hd,hk⟩:=T.desc;unfold isAgg;simp only[Sem.run_bind,hd,Result.andThen_ok];generalize ti.k=kk at hk;cases hk<;>first|rfl|skip
 rename_i ho;cases d<;>first|rfl|cases ho
theorem Kb{v v':IN}(h:AFm φ v v')(hk:known v=true):AF3 φ (cellsOf v) v'.cells.toList:=by
 cases h with
 |unk=>cases hk
 |AHu=>exact .cons .AHu .nil
 |agg h=>exact h
 |bool b=>exact .cons (.bool b) .nil
 |int k n=>exact .cons (.int k n) .nil
 |string s=>exact .cons (.string s) .nil
 |AIL=>exact .cons .AIL .nil
 |ptr h=>exact .cons (.ptr h) .nil
 |AGW=>exact .cons .AGW .nil
 |slice hn h=>exact .cons (.slice hn h) .nil
 |AIM=>exact .cons .AIM .nil
 |map h=>exact .cons (.map h) .nil
 |func fn h h2=>exact .cons (.func fn h h2) .nil
 |nilFunc=>exact .cons .nilFunc .nil
 |iface t h=>exact .cons (.iface t h) .nil
 |nilIface=>exact .cons .nilIface .nil
 |tuple h=>exact .cons (.tuple h) .nil
theorem RH{v v':IN}(h:AFm φ v v')(h1:oneCell v=true):v'.oneCell'=true:=by
 cases h<;>first|rfl|cases h1
theorem In:∀ {l l':List IN},AF3 φ l l'->Bc l=true->∀ v∈l',v.oneCell'=true
 |_,_,.nil,_,v,hm=>by cases hm
 |_,_,.cons (v:=u) h t,h1,v,hm=>by
  unfold Bc at h1;cases hu:oneCell u with
  |false=>rw[hu]at h1;cases h1
  |true=>
   rw[hu]at h1;cases hm with
   |head=>exact RH h hu
   |tail _ hm=>exact In t h1 v hm
theorem FV{b:Nat}{o:Blk}{k:Hp->R}(hr:Et h b o k=.ok v h'):
  ∃ bl,256<=b/\h.bl.set b o=some bl/\k {next:=h.next,low:=B9 h.low b,high:=Cy h.high b,mark:=h.mark,bl:=bl}=.ok v h':=by
 unfold Et at hr;cases hb:yl 256 b with
 |false=>rw[hb]at hr;cases hr
 |true=>
  rw[hb,cond_true]at hr;split at hr
  ·rename_i bl hs
   rw[Ao,Ao]at hr;exact⟨bl,Av.1 hb,hs,hr⟩
  ·cases hr
theorem Gc{o:Blk}{k:Nat->Hp->R}(hr:GN h o k=.ok v h'):
  ∃ bl,h.bl.set h.next o=some bl/\k h.next {next:=yg h.next,low:=h.low,high:=h.high,mark:=h.mark,bl:=bl}=.ok v h':=by
 unfold GN at hr;split at hr
 ·rename_i bl hs
  rw[Ao]at hr;exact⟨bl,hs,hr⟩
 ·cases hr
theorem Bx{c:Bool}{x:R}(hr:(bif c then x else .no)=.ok v h'):c=true/\x=.ok v h':=by
 cases c
 ·cases hr
 ·exact⟨rfl,hr⟩
theorem IW(H:AFp ty φ E h w){a a':ACS}{vs vs':List IN}{k:Hp->R}(hr:C1 a vs h k=.ok v h')(ha:AG0 φ a a')(hv:AF3 φ vs vs')(hE:¬ E a.block):
  ∃ h1 w1,k h1=.ok v h'/\(storeCells a' vs').run P w=.ok () w1/\AFp ty φ E h1 w1/\Evo φ h w φ h1 w1:=by
 obtain⟨p,hp,rfl⟩:=ha.eq;unfold C1 at hr;split at hr
 case h_2=>cases hr
 rename_i c s e hrow;obtain⟨cs,t,fr,hw,R⟩:=H.rowAt hp hE hrow;obtain⟨hle,hr⟩:=Bx hr;obtain⟨hone,hr⟩:=Bx hr;split at hr
 case h_2=>cases hr
 rename_i c' AGJ;obtain⟨bl,AFs,hbl,hk⟩:=FV hr;have hle':a.off+vs.length<=s:=by
  have:=Av.1 hle;rw[Bi]at this;exact this
 have hlen:=hv.length;have hsz:=R.sz;have hroom:=R.room;have AJE:=R.fits;obtain⟨cs',e1,e2,e3,e4,e5,e6,e7,e8⟩:=GP p.blk t fr vs' (p.off+a.off) cs w hw (by omega);have hrun:(storeCells ⟨p.blk,p.off+a.off,none⟩ vs').run P w=.ok () (w.setCells p.blk (p.off+a.off) vs'):=by
  refine run_storeCells_cells (P:=P) p.blk (p.off+a.off) vs' 0 w (fun j hj=>?_) (fun j hj=>?_) (In hv hone)
  ·rw[H8 hw];simp;omega
  ·exact R.free hw (by omega) (by omega)
 have hl:Live h a.block:=by
  unfold Live;rw[DM hrow];intro hd;cases hd
 have hB:AGe ty φ p (.cells c' s e) ((w.setCells p.blk (p.off+a.off) vs').heap[p.blk]?):=by
  rw[e1];refine .cells {kind:=R.kind,room:=R.room,fits:=by rw[e2];exact R.fits,loose:=by rw[e2];exact R.loose,cell:=fun j hj=>?_};rw[G3 vs c a.off c' AGJ j,e3];by_cases hin:a.off<=j/\j<a.off+vs.length
  ·rw[if_pos hin,if_pos (by omega)]
   have hj':p.off+j - (p.off+a.off)=j - a.off:=by omega
   rw[hj'];obtain⟨v',hv1,hv2⟩:=hv.get (j - a.off) (vs[j - a.off]'(by omega)) (sh (by omega));refine⟨v',hv1,?_⟩;have:vs.getD (j - a.off) undef=vs[j - a.off]'(by omega):=by
    rw[yf,sh (by omega)];rfl
   rw[this];exact hv2
  ·rw[if_neg hin,if_neg (by omega)]
   exact R.cell j hj
 exact⟨_,_,hk,hrun,H.put hE AFs hp hl hbl e4 e5 hB,.put (H.AGj hp AFs) hp hl hbl (by rw[DM hrow];exact .inr ⟨rfl,rfl⟩) e4 e5 e6 e7 e8⟩
theorem Mw(H:AFp ty φ E h w){en:Nat}{cs:List IN}{c:VT}{n:Nat}{k:Nat->Hp->R}(hr:CW h en c n k=.ok v h')(hc:∀ j,j<cs.length->c.get j=cs.getD j undef)(hn:n=cs.length)
  {cs':Array IN}{t:zZ}{fr:Nat×Nat}{p:Pl}
  (hp:p={blk:=w.heap.size,off:=0,sz:=cs.length,room:=cs'.size,es:=p.es})(hk:Kind ty p cs.length en)(hsz:cs.length<=cs'.size)
  (hfr:fr.1=fr.2\/cs'.size<=fr.1)(AGK:∀ (j:Nat) (u:IN),cs[j]? =some u->∃ u',cs'[j]? =some u'/\AFm φ u u'){w':zP}(hw':w'.heap=w.heap.push (.cells cs' t fr))
  (ht:w'.tape=w.tape)(ho:w'.os=w.os)(hout:w'.output=w.output):
  ∃ h1,k h.next h1=.ok v h'/\AFp ty (φ.put h.next p) E h1 w'/\Evo φ h w (φ.put h.next p) h1 w':=by
 subst hn;unfold CW at hr;rw[Ao]at hr;obtain⟨bl,hbl,hk'⟩:=Gc hr;have hb:p.blk=w.heap.size:=by rw[hp]
 have hs:w'.heap.size=w.heap.size+1:=by rw[hw'];simp
 have hsame:∀ k,k<w.heap.size->w'.heap[k]? =w.heap[k]?:=fun k hk=>by
  rw[hw',Array.getElem?_push_lt hk,Array.getElem?_eq_getElem hk]
 refine⟨_,hk',H.new hbl (by omega) (by omega) (fun j q e _=>by have:=(H.dom j q e).2;omega) (fun k hk _=>hsame k hk) ?_ (hin:=by rw[hp]),
  .made H hbl (by omega) (by omega) hsame ht ho hout⟩
 have AH4:w'.heap[p.blk]? =some (.cells cs' t fr):=by rw[hw',hb];simp
 rw[AH4];refine .cells {kind:=hk,room:=by rw[hp];exact hsz,fits:=by rw[hp];simp,loose:=.inl hfr,cell:=fun j hj=>?_};rw[hc j hj];obtain⟨u',hu1,hu2⟩:=AGK j (cs[j]) (sh hj);refine⟨u',by rw[hp];simpa using hu1,?_⟩;have:cs.getD j undef=cs[j]:=by
  rw[yf,sh hj];rfl
 rw[this];exact hu2.mono (Phi.AG4 H.AGZ)
theorem JE{cs:List IN}{c:VT}(AGJ:Bt .mt 0 cs=some c):∀ j,j<cs.length->c.get j=cs.getD j undef:=fun j hj=>by
 rw[G3 cs .mt 0 c AGJ j,if_pos (by omega)];rfl
theorem OM(H:AFp ty φ E h w){en:Nat}{cs:List IN}{k:Nat->Hp->R}(hr:newRow h en cs k=.ok v h'){cs':Array IN}{t:zZ}{fr:Nat×Nat}{p:Pl}
  (hp:p={blk:=w.heap.size,off:=0,sz:=cs.length,room:=cs'.size,es:=p.es})(hk:Kind ty p cs.length en)(hsz:cs.length<=cs'.size)
  (hfr:fr.1=fr.2\/cs'.size<=fr.1)(AGK:∀ (j:Nat) (u:IN),cs[j]? =some u->∃ u',cs'[j]? =some u'/\AFm φ u u'){w':zP}(hw':w'.heap=w.heap.push (.cells cs' t fr))
  (ht:w'.tape=w.tape)(ho:w'.os=w.os)(hout:w'.output=w.output):
  ∃ h1,k h.next h1=.ok v h'/\AFp ty (φ.put h.next p) E h1 w'/\Evo φ h w (φ.put h.next p) h1 w':=by
 unfold newRow at hr;split at hr
 case h_2=>cases hr
 rename_i c AGJ;exact Mw H hr (JE AGJ) (Bi _) hp hk hsz hfr AGK hw' ht ho hout
end
end
end Go.Proofs.YtbjadbhkogcfeaaGreat

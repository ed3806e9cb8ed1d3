/-
  Part ZJ of what Lawru stands on: printed by program, names and spaces cut.
-/
import Derived.Test.YtedbmmfebjfibaaGreatZI
import Derived.Shelf.SlIterI.Nil
import Derived.Shelf.SortM.Plain
import Derived.Shelf.SortM.SortNone
open Nat renaming reduceEqDiff→AI,reduceLT→AT,reduceAdd→By,le_refl→IN,zero_add→sh,succ→vD,ble→vJ,beq→vO,zero_le→vi,le_trans→vw,blt→wF,xor→xW,mul_one→xd,mod_eq_of_lt→yi,mul_le_mul_right→ABQ,xor_lt_two_pow→ABc
open Go renaming Value→BY,Program→wK,intOf→ACr
open List renaming length_append→IT,length_map→If,getElem?_eq_getElem→No,getD_eq_getElem?_getD→OF,mem_cons_self→vG,mem_cons_of_mem→vH,length_cons→vI,replicate→vL,mem_cons→vS,append_assoc→vX,mem_append→va,mem_map→vu,eq_nil_of_length_eq_zero→vz,map_append→v8,length_drop→wG,getElem?_map→wN,drop_of_length_le→wR,drop_eq_getElem_cons→wY,pairwise_cons→xk,map_cons→yZ,eq_of_mem_replicate→yy,map_map→zA,length→zY,drop_left→ABA,pairwise_map→ABd
open Go.Proofs.Tryz renaming prog→vK,underlying3→yu,zeroValue3→zD,underlying4→zG,underlying62→zj,sizeOf3→zq,zeroValue62→zw,underlying0→zx,zeroValue0→AAG,isAgg3→AAH,sizeOf62→AAj,sizeOf0→AA1,isAgg62→AA2,isAgg0→ABN,func82→ABO,underlying111→ABU,zeroValue111→ABZ,zeroValue4→ABs,sizeOf111→AB8,isAgg111→ACJ,sizeOf4→ACQ,func125→ACR,func119→ACS,func108→ACT,func107→ACU,func106→ACV,isAgg4→ACe,func94→ACf,func78→ACg,func67→ACh,func66→ACi,func9→ACu,func8→ACv,f125→AC7,f119→AC8,f108→AC9,f107→ADA,f82→ADI,f67→ADJ,f66→ADK
open Bool renaming and_eq_true→vT
open Or renaming inl→vq,inr→ACy
open Int renaming sub→wA,ofNat→wC,mul→ABD
open Array renaming ext'→wO
open Go.WideElems renaming rg→wy,rd→AAn
open Go.Fence renaming wide→yf
open Go.DataW renaming insert→zC,map→AC5
open Go.WideShapes renaming sorted_perm→za
open Go.IntKind renaming u64→AAy
open Go.Proofs.AnyZI renaming sorted_in→ABq,SortsIn→ACH
open Go.Proofs.SlLaysZI renaming n6→ABt
set_option linter.unusedSimpArgs false
set_option linter.unusedVariables false
namespace Go.Proofs.YtedbmmfebjfibaaGreat
noncomputable section
open Go Go.Proofs Go.RowKit Go.Shelf Go.Maps Go.MapKept Go.ChangeShapes
def Si(m:Nat):List Nat→List Nat
 |[]=>[m]
 |x::l=>match vJ m x with
  |true=>m::x::l
  |false=>x::Si m l
def C0:List Nat→List Nat
 |[]=>[]
 |x::l=>Si x (C0 l)
def OK:List Nat→Bool
 |[]=>true
 |x::l=>(match l with
  |[]=>true
  |y::_=>wF x y) && OK l
def Sv:BY→Option Nat
 |.int k n=>match k,n with
  |.i64,.ofNat m=>some m
  |_,_=>none
 |_=>none
def Kn(clk:Nat):List Ent→Nat→Option (List Nat)
 |[],_=>some []
 |e::l,lo=>match Sv e.key with
  |some m=>match wF m 9223372036854775808 && (vJ lo e.born && wF e.born clk)with
   |true=>match Kn clk l (vD e.born)with
    |some r=>some (m::r)
    |none=>none
   |false=>none
  |none=>none
def zv(m:Nat):BY:=.int .i64 (.ofNat m)
def Fw(t:Nat)(h:Hp):List Nat→R
 |[]=>.ok (.slice none 0 0) h
 |x::l=>match OK (x::l)with
  |true=>ADi (A8 (x::l)) fun n=>newRow h (vD t) ((x::l).map zv) (Ed n n)
  |false=>.no
def LY(t:Nat)(h:Hp)(v:BY):R:=match v with
 |.map none=>.ok (.slice none 0 0) h
 |.map (some r)=>match BP h r with
  |.ok es clk=>match vJ (A8 es) 1000000 with
   |true=>match Kn clk es 0 with
    |some ks=>Fw t h (C0 ks)
    |none=>.no
   |false=>.no
  |.no=>.no
 |_=>.no
def Jf(t:Nat)(a:Addr)(h:Hp):R:=match vO a.off 0 && vJ 256 a.block with
 |true=>match rowOf h a.block with
  |.ok c s e=>match vO e 0 && wF 0 s with
   |true=>LY t h (c.get 0)
   |false=>.no
  |.no=>.no
 |false=>.no
def LX(Ks:List Nat)(t:Nat)(args:List BY)(h:Hp):R:=match args with
 |[v]=>match v with
  |.func fn f c=>match fn with
   |.func g=>match memN g Ks with
    |true=>match f.toList with
     |[]=>match c.toList with
      |[p]=>match p with
       |.pointer (some a)=>Jf t a h
       |_=>.no
      |_=>.no
     |_::_=>.no
    |false=>.no
   |_=>.no
  |_=>.no
 |_=>.no
def Tg(Ks:List Nat)(t:Nat):Body:=⟨[.x (fun _=>LX Ks t)],cNo⟩
theorem KE(m:Nat):∀ l:List Nat,(Si m l).Perm (m::l)
 |[]=>.refl _
 |x::l=>by
  unfold Si;split
  ·exact .refl _
  ·exact((KE m l).cons x).trans (.swap m x l)
theorem Ds:∀ l:List Nat,(C0 l).Perm l
 |[]=>.refl _
 |x::l=>(KE x _).trans ((Ds l).cons x)
theorem Jo:∀ {l:List Nat},OK l=true→l.Pairwise (· < ·)
 |[],_=>.nil
 |x::l,h=>by
  unfold OK at h;rw[vT]at h;have hl:=Jo h.2;refine xk.2 ⟨fun y hy=>?_,hl⟩;cases l with
  |nil=>cases hy
  |cons z l=>
   have h1:x<z:=A9.1 h.1;rcases vS.1 hy with rfl|hy
   ·exact h1
   ·exact Nat.lt_trans h1 ((xk.1 hl).1 y hy)
theorem oG{a b:Nat}(h:zv a=zv b):a=b:=by
 unfold zv at h;injection h with _ h
 injection h
theorem RZ{ks:List Nat}(h:OK (C0 ks)=true):((ks.map wC).mergeSort leI).map encZ=(C0 ks).map zv:=by
 have hp:=Jo h;have h1:(ks.map wC).mergeSort leI=((C0 ks).map wC).mergeSort leI:=mergeSort_of_perm_i ((Ds ks).symm.map _);have h2:((C0 ks).map wC).Pairwise (fun a b=>leI a b=true):=ABd.2 (hp.imp fun {a b} hab=>by
  simp only[leI,decide_eq_true_eq];exact Int.ofNat_le.2 (Nat.le_of_lt hab))
 rw[h1,List.mergeSort_of_pairwise h2,zA];rfl
structure AEf (P:wK)(S K t:Nat):Prop where
 nil:∀ (w:World) (b:Nat),b<w.heap.size→w.cell? ⟨b,0,none⟩=some (.map none)→
  Calls P S #[.func (.func K) #[] #[.pointer (some ⟨b,0,none⟩)]] w fun e w'=>e=.returned (.slice none 0 0)∧Below w.heap.size w w'
 map:∀ (w:World) (b r:Nat) (es:Array MapEntry) (clk:Nat) (ks:List Nat),b<w.heap.size→w.cell? ⟨b,0,none⟩=some (.map (some r))→w.heap[r]? =some (.map es clk)→es.size≤1000000→Stamped es clk→
  es.toList.map (·.key)=ks.map zv→(∀ k∈ks,k<9223372036854775808)→
  Calls P S #[.func (.func K) #[] #[.pointer (some ⟨b,0,none⟩)]] w fun e w'=>∃ v,e=.returned v∧w'.ownsRow w.heap.size t 1 v ks.length (((ks.map wC).mergeSort leI).map encZ)∧(v=.slice none 0 0↔ks=[])∧Below w.heap.size w w'
def Yz:BY→Int
 |.int _ q=>q
 |_=>0
theorem qa{m:Nat}(h:m<9223372036854775808):(Lit.int .i64 (wC m)).wf=true:=by
 simp[Lit.wf,IntKind.min,IntKind.max,IntKind.signed,IntKind.bits];omega
theorem TP{P:wK}{ρ ρ':Ren}(L:ABt P ρ)(L':SlLaysZI.n10 P ρ')(hsort:∀ m,ACH P ρ yf m)
  (e9:∀ args w,(callFunc (ρ.f 9) args).run P w=.ok (.enter (ρ.f 9) args) w)(eg:∀ args w,(callFunc (ρ'.f 10) args).run P w=.ok (.enter (ρ'.f 10) args) w):AEf P (ρ.f 6) (ρ'.f 10) (ρ.t 26) where
 nil:=fun w b hb hc=>by
  have hseq:SeqGives yf 2 P (ρ'.f 10) #[.pointer (some ⟨b,0,none⟩)] encZ (fun ss:List Int=>ss=[]) 0 w:=AnyZI.keys_gives_nil L' yf 2 trivial rfl b w hb hc;have cS:=ABq L yf 5 trivial trivial trivial trivial rfl (by omega) (hsort _) e9 (ρ'.f 10) #[.pointer (some ⟨b,0,none⟩)] trivial eg _ 0 (vi _) (by omega) w hseq;refine(callsIn_wide.1 cS).mono ?_;rintro e w' ⟨v,ss,rfl,rfl,hrow,AF3,hbl⟩;exact⟨by rw[AF3.2 rfl],hbl⟩
 map:=fun w b r es clk ks hb hc hr hsz hst hk hlt=>by
  let R:BY→Option (DataW Unit×List MemPlace):=fun _=>some (.nil,[])
  have hkey:∀ x∈es.toList,∃ m,x.key=zv m∧m<9223372036854775808:=fun x hx=>by
   have:x.key∈ks.map zv:=hk ▸ List.mem_map_of_mem hx;obtain⟨m,hm,he⟩:=vu.1 this;exact⟨m,he.symm,hlt m hm⟩
  have hrd:∀ x∈es.toList,∀ m,x.key=zv m→m<9223372036854775808→AAn P (ρ'.t 26) R x=some (.int .i64 (wC m),.nil):=fun x hx m he hm=>by
   unfold AAn;rw[he,zv,keyOf_int_mk L'.t26 (qa hm)];rfl
  have hown:w.ownsMap P (ρ'.t 26) R r es.size (.map ((es.toList.map (wy P (ρ'.t 26) R)).foldr zC [])):=
   ⟨es,clk,hr,⟨by unfold maxLen;omega,hst,fun x hx=>by
    obtain⟨m,he,hm⟩:=hkey x hx;exact⟨_,hrd x hx m he hm⟩⟩,IN _,rfl⟩
  have hlen:Maps.size (AC5 ((es.toList.map (wy P (ρ'.t 26) R)).foldr zC []))=es.size:=by
   show((es.toList.map (wy P (ρ'.t 26) R)).foldr zC []).length=_;rw[(za _).length_eq];simp
  have AI2:(intKeys (AC5 ((es.toList.map (wy P (ρ'.t 26) R)).foldr zC []))).Perm (ks.map wC):=by
   show(((es.toList.map (wy P (ρ'.t 26) R)).foldr zC []).map fun p=>ACr p.1).Perm _;refine((za _).map _).trans ?_;have e1:ks.map wC=es.toList.map fun x=>Yz x.key:=by
    have:(es.toList.map (·.key)).map Yz=(ks.map zv).map Yz:=by rw[hk]
    rw[zA,zA]at this;exact this.symm
   have e2:(es.toList.map (wy P (ρ'.t 26) R)).map (fun p=>ACr p.1)=es.toList.map fun x=>Yz x.key:=by
    rw[zA];refine List.map_congr_left fun x hx=>?_
    obtain⟨m,he,hm⟩:=hkey x hx;show ACr (wy P (ρ'.t 26) R x).1=Yz x.key;unfold wy;rw[hrd x hx m he hm,he];rfl
   rw[e1,e2]
  have hseq:=AnyZI.keys_gives L' yf 2 trivial rfl (by omega) b r es.size _ w hb hc hown;have cS:=ABq L yf 5 trivial trivial trivial trivial rfl (by omega) (hsort _) e9 (ρ'.f 10) #[.pointer (some ⟨b,0,none⟩)] trivial eg _ _ (by rw[hlen];unfold maxLen;omega) (by rw[hlen];omega) w hseq;refine(callsIn_wide.1 cS).mono ?_;rintro e w' ⟨v,ss,rfl,hS,hrow,AF3,hbl⟩;have hp:ss.Perm (ks.map wC):=hS.trans AI2;have hl:ss.length=ks.length:=by rw[hp.length_eq];simp
  refine⟨v,rfl,?_,AF3.trans ?_,hbl⟩
  ·have h1:ss.mergeSort leI=(ks.map wC).mergeSort leI:=mergeSort_of_perm_i hp
   rw[← hl,← h1];exact hrow
  ·constructor
   ·rintro rfl
    simp only[List.length_nil]at hl;exact vz hl.symm
   ·rintro rfl
    exact vz hl
section
variable {P:wK}{ty:TTy}{φ:Phi}{E:Nat→Prop}{h h':Hp}{w w':World}{v:BY}
theorem ADX.below(H:ADX ty φ E h w)(hb:Below w.heap.size w w'):ADX ty φ E h w'∧Evo φ h w φ h w':=
 ⟨{dom:=fun i p e=>⟨(H.dom i p e).1,Nat.lt_of_lt_of_le (H.dom i p e).2 hb.size⟩
   inj:=H.inj
   row:=fun i p e hE=>(by rw[hb.block _ (H.dom i p e).2];exact H.row i p e hE)
   fresh:=H.fresh
   kind:=H.kind
   inp:=H.inp},
  {le:=.refl _
   new:=fun _ _ e=>.inl e
   next:=IN _
   size:=hb.size
   tape:=hb.tape
   os:=hb.os
   output:=hb.output
   frame:=fun k hk _=>hb.block k hk
   back:=fun i p e hl _=>⟨i,p,e,hl,rfl,rfl,.inl rfl⟩
   kept:=fun _ _ _=>rfl
   low:=IN _
   high:=IN _
   shape:=fun _ _=>.refl _
   only:=fun _ _ _=>rfl
   all:=fun _ h1 h2=>absurd h2 (Nat.not_lt.2 h1)}⟩
theorem WM{u u':BY}{m:Nat}(hn:Sv u=some m)(hr:ADU φ u u'):u'=zv m:=by
 unfold Sv at hn;split at hn
 ·split at hn
  ·cases hn;cases hr;rfl
  ·cases hn
 ·cases hn
theorem QS{clk:Nat}:∀ {es:List Ent} {es':List MapEntry} {lo:Nat} {ks:List Nat},Kn clk es lo=some ks→AEO φ es es'→
  es'.map (·.key)=ks.map zv∧(∀ k∈ks,k<9223372036854775808)∧(∀ x∈es',lo≤x.born∧x.born<clk)∧(es'.map (·.born)).Nodup
 |[],es',lo,ks,hk,he=>by
  cases he;cases hk;exact⟨rfl,(fun k hk=>by cases hk),(fun x hx=>by cases hx),.nil⟩
 |e::es,es',lo,ks,hk,he=>by
  cases he with
  |@cons k k' v v' b _ l' hkey hv ht=>
  unfold Kn at hk;split at hk
  case h_2=>cases hk
  rename_i m hm;split at hk
  case h_2=>cases hk
  rename_i hb;simp only[vT]at hb;split at hk
  case h_2=>cases hk
  rename_i r hr;cases hk;obtain⟨h1,h2,h3,h4⟩:=QS hr ht;have b1:lo≤b:=Ab.1 hb.2.1;have b2:b<clk:=A9.1 hb.2.2;refine⟨?_,fun x hx=>?_,fun x hx=>?_,?_⟩
  ·simp only[yZ,h1,WM hm hkey]
  ·rcases vS.1 hx with rfl|hx
   ·exact A9.1 hb.1
   ·exact h2 x hx
  ·rcases vS.1 hx with rfl|hx
   ·exact⟨b1,b2⟩
   ·have:=h3 x hx
    have h5:b+1≤x.born:=this.1;exact⟨by omega,this.2⟩
  ·rw[yZ,List.nodup_cons]
   refine⟨fun hx=>?_,h4⟩;obtain⟨x,hx,he⟩:=vu.1 hx;have h5:b+1≤x.born:=(h3 x hx).1;have he:x.born=b:=he;omega
theorem Re{Ks:List Nat}{t:Nat}{args:List BY}(hr:LX Ks t args h=.ok v h'):∃ g a,args=[.func (.func g) ⟨[]⟩ ⟨[.pointer (some a)]⟩]∧memN g Ks=true∧Jf t a h=.ok v h':=by
 unfold LX at hr;split at hr
 case h_2=>cases hr
 split at hr
 case h_2=>cases hr
 rename_i fn f c;split at hr
 case h_2=>cases hr
 rename_i g;split at hr
 case h_2=>cases hr
 rename_i hm;split at hr
 case h_2=>cases hr
 rename_i hf;split at hr
 case h_2=>cases hr
 rename_i p hc;split at hr
 case h_2=>cases hr
 rename_i a;refine⟨g,a,?_,hm,hr⟩;have e1:f=⟨[]⟩:=wO hf;have e2:c=⟨[.pointer (some a)]⟩:=wO hc;rw[e1,e2]
theorem TO(H:ADX ty φ nil h w){t:Nat}{ti:TI}(hty:ty.get t=some ti)(hs:ti.size=1){ks:List Nat}(hk:Fw t h (C0 ks)=.ok v h')(hb:Below w.heap.size w w'){v':BY}
  (ho:w'.ownsRow w.heap.size t 1 v' ks.length (((ks.map wC).mergeSort leI).map encZ))(hn:v'=.slice none 0 0↔ks=[]):
  ∃ ψ,ADU ψ v v'∧ADX ty ψ nil h' w'∧Evo φ h w ψ h' w':=by
 have hpl:=(Ds ks).length_eq;unfold Fw at hk;split at hk
 ·rename_i he
  cases hk;rw[he]at hpl;have:ks=[]:=vz hpl.symm;rw[hn.2 this];exact⟨φ,.AEF,H.below hb⟩
 ·rename_i x l he
  split at hk
  case h_2=>cases hk
  rename_i AGs;rw[← he]at AGs hk;rw[AZ,BI,hpl]at hk;have hpos:0<ks.length:=by rw[← hpl,he];simp
  rw[RZ AGs]at ho;obtain⟨_,⟨_,h0⟩|⟨g,cap,cur,rfl,hg,hgb,hcap,_,hcs,AGW⟩⟩:=ho
  ·omega
  unfold newRow at hk;split at hk
  case h_2=>cases hk
  rename_i c ADx;unfold CE at hk;rw[AZ]at hk;obtain⟨bl,hbl,hk'⟩:=GH hk;cases hk';have hlen:A8 ((C0 ks).map zv)=ks.length:=by rw[BI,If,hpl]
  rw[hlen]at hbl;rw[xd]at hcs AGW
  let p:Pl:={blk:=g,off:=0,sz:=ks.length,room:=cap,es:=1}
  have hsame:∀ k,k<w.heap.size→w'.heap[k]? =w.heap[k]?:=hb.block;have hgl:g<w'.heap.size:=(Array.getElem?_eq_some_iff.1 hgb).1;have hB:AER ty (φ.put h.next p) p (.cells c ks.length (vD t)) w'.heap[p.blk]?:=by
   show AER ty (φ.put h.next p) p (.cells c ks.length (vD t)) w'.heap[g]?;rw[hgb];refine .cells {kind:=⟨rfl,.inr ⟨t,ti,rfl,hty,hs.symm⟩⟩,room:=hcap,fits:=(by show 0+cap≤cur.size;omega),loose:=.inl (.inl rfl),cell:=fun j hj=>?_};have hj2:j<((C0 ks).map zv).length:=by rw[If,hpl];exact hj
   have e1:=Il ADx j hj2;rw[e1];refine⟨((C0 ks).map zv).getD j undef,?_,?_⟩
   ·show cur[0+j]? =_
    rw[sh,← Array.getElem?_toList];have e2:(cur.toList.take ks.length)[j]? =((C0 ks).map zv)[j]?:=by rw[AGW]
    rw[List.getElem?_take,if_pos hj]at e2;rw[e2,OF,No hj2];rfl
   ·rw[OF,No hj2]
    show ADU _ (((C0 ks).map zv)[j]) _;rw[List.getElem_map];exact .int _ _
  refine⟨φ.put h.next p,?_,H.new hbl hb.size hgl (fun j q e _=>by have:=(H.dom j q e).2;show q.blk≠g;omega) (fun k hk _=>hsame k hk) hB,.made H hbl hg hb.size hsame hb.tape hb.os hb.output⟩;refine .slice (IN _) ⟨rfl,rfl,p,Phi.AED _ _ _,rfl,.inl ⟨hpos,rfl,.inr ⟨?_,hcap,?_⟩⟩⟩
  ·show 0+ks.length*1=ks.length
   omega
  ·show 0+cap*1≤cap
   omega
theorem Rg{S t:Nat}{Ks:List Nat}{ti:TI}(hS:∃ fn,P.funcs[S]? =some fn∧fn.name≠"runtime.NumGoroutine" ∧fn.body.isNone=false)(hc:∀ K,memN K Ks=true→AEf P S K t)
  (hty:ty.get t=some ti)(hs:ti.size=1):IK P ty S (Tg Ks t):=fun F args h v h' _ hr=>⟨hS,fun φ w args' ADy H=>by
 have hr:LX Ks t args h=.ok v h':=hr;obtain⟨g,a,rfl,hg,hr⟩:=Re hr;obtain⟨cn,cm⟩:=hc g hg;cases ADy with
 |cons hv hn=>
 cases hn;cases hv with
 |func _ h1 h2=>
 cases h1;cases h2 with
 |cons hp hn=>
 cases hn;cases hp with
 |@ptr _ a' ha=>
 obtain⟨s1,s2,p,hp,hbl,ho⟩:=ha;unfold Jf at hr;split at hr
 case h_2=>cases hr
 rename_i hq;rw[vT]at hq;have q1:=Am.1 hq.1;have q2:=Ab.1 hq.2;split at hr
 case h_2=>cases hr
 rename_i c s e hrow;split at hr
 case h_2=>cases hr
 rename_i hq3;rw[vT]at hq3;have q3:=Am.1 hq3.1;have q4:=A9.1 hq3.2;subst q3;have hoff:p.off=0:=by
  rcases (H.kind a.block p c s 0 hp (Cx hrow)).2 with ⟨_,_,_,h0|h0⟩|⟨_,_,h0,_⟩
  ·exact h0
  ·have:=H.inp a.block p hp h0
   omega
  ·omega
 have ea:a'=⟨p.blk,0,none⟩:=by
  obtain⟨ab,ao,asp⟩:=a';simp only at s2 hbl ho;subst s2;subst hbl
  congr 1
  omega
 subst ea;obtain⟨cs,tt,fr,hw,R⟩:=H.rowAt hp (fun h=>h) hrow;obtain⟨x,hx,hxr⟩:=R.cell 0 q4;rw[hoff,sh]at hx;have hcell:w.cell? ⟨p.blk,0,none⟩=some x:=by rw[GU hw];exact hx
 have hpb:=(H.dom _ _ hp).2;generalize c.get 0=y at hr hxr;unfold LY at hr;split at hr
 ·cases hxr
  cases hr;refine(cn w p.blk hpb hcell).mono ?_;rintro e w' ⟨rfl,hb⟩;exact⟨_,φ,rfl,.AEF,H.below hb⟩
 ·rename_i r
  cases hxr with
  |map hq=>
  rename_i q;split at hr
  case h_2=>cases hr
  rename_i es clk hes;split at hr
  case h_2=>cases hr
  rename_i hsz;split at hr
  case h_2=>cases hr
  rename_i ks hks;obtain⟨es',hwm,hre⟩:=H.AEZ hq (fun h=>h) hes;obtain⟨k1,k2,k3,k4⟩:=QS hks hre;have hl:es'.length≤1000000:=by
   have:=Ab.1 hsz;rw[BI]at this;have e2:es'.length=es.length:=by
    clear hes hwm hks k1 k2 k3 k4 hsz this
    induction hre with
    |nil=>rfl
    |cons _ _ _ ih=>simp only[vI,ih]
   omega
  have hnd:ks.Nodup:=by
   have AGs:OK (C0 ks)=true:=by
    cases he:C0 ks with
    |nil=>rfl
    |cons x l=>
     rw[he]at hr;unfold Fw at hr;split at hr
     ·rename_i e;cases e
     ·rename_i e
      cases e;split at hr
      ·assumption
      ·cases hr
   have:=(Jo AGs).imp fun {a b} (hab:a<b)=>Nat.ne_of_lt hab
   exact(Ds ks).nodup_iff.1 this
  have hst:Stamped ⟨es'⟩ clk:=⟨fun x hx=>(k3 x hx).2,k4,by
   show(es'.map (·.key)).Nodup;rw[k1];exact ABd.2 (hnd.imp fun {a b} hab e=>hab (oG e))⟩
  refine(cm w p.blk q.blk ⟨es'⟩ clk ks hpb hcell hwm hl hst k1 k2).mono ?_;rintro e w' ⟨v',rfl,ho,hn,hb⟩;obtain⟨ψ,r1,r2,r3⟩:=TO H hty hs hr hb ho hn;exact⟨v',ψ,rfl,r1,r2,r3⟩
 ·cases hr⟩
end
end
end Go.Proofs.YtedbmmfebjfibaaGreat
set_option maxRecDepth 100000
namespace Go.Proofs.YtedbmmfebjfibaaGreat
noncomputable section
open Go Go.Proofs Go.RowKit Go.Maps Go.Sort Go.Shelf
def JK:Ren:=⟨fun| 7=>67| 10=>94|n=>n,fun| 23=>96| 26=>3| 3=>100| 28=>111| 0=>0| 27=>110| 33=>105| 4=>4|n=>n,fun n=>n⟩
theorem Y4:SlLaysZI.n7 vK JK where
 mixed:=by kernel_rfl
 f7:=⟨ADJ.name,by decide,ACh.trans (congrArg some (by kernel_rfl))⟩
 f10:=⟨Tryz.f94.name,by decide,ACf.trans (congrArg some (by kernel_rfl))⟩
 t0:=zx
 a0:=ABN
 z0:=AA1
 v0:=AAG
 t4:=zG
 a4:=ACe
 z4:=ACQ
 v4:=ABs
 t23:=Tryz.underlying96
 a23:=Tryz.isAgg96
 z23:=Tryz.sizeOf96
 v23:=Tryz.zeroValue96
 t26:=yu
 a26:=AAH
 z26:=zq
 v26:=zD
 t27:=Tryz.underlying110
 a27:=Tryz.isAgg110
 z27:=Tryz.sizeOf110
 v27:=Tryz.zeroValue110
 t28:=ABU
 a28:=ACJ
 z28:=AB8
 v28:=ABZ
 t33:=Tryz.underlying105
 a33:=Tryz.isAgg105
 z33:=Tryz.sizeOf105
 v33:=Tryz.zeroValue105
def F5:Ren:=⟨fun| 6=>66| 8=>93| 9=>82| 11=>113| 13=>78| 12=>108| 23=>105| 24=>106| 14=>119| 15=>120| 16=>121| 17=>122| 18=>123| 19=>124| 20=>125| 21=>126| 22=>127| 25=>129| 26=>115| 27=>116| 28=>130| 29=>131| 30=>107| 31=>132|n=>n,fun| 26=>3| 28=>111| 24=>62| 0=>0| 3=>3| 37=>114| 48=>25| 50=>116| 4=>4| 40=>136| 39=>135| 45=>140| 5=>5| 9=>9| 51=>152| 55=>156| 57=>164| 58=>165| 33=>105|n=>n,fun n=>n⟩
theorem WJ:ABt vK F5 where
 mixed:=by kernel_rfl
 f6:=⟨ADK.name,by decide,ACi.trans (congrArg some (by kernel_rfl))⟩
 f8:=⟨Tryz.f93.name,by decide,Tryz.func93.trans (congrArg some (by kernel_rfl))⟩
 f11:=⟨Tryz.f113.name,by decide,Tryz.func113.trans (congrArg some (by kernel_rfl))⟩
 t0:=zx
 a0:=ABN
 z0:=AA1
 v0:=AAG
 t24:=zj
 a24:=AA2
 z24:=AAj
 v24:=zw
 t26:=yu
 a26:=AAH
 z26:=zq
 v26:=zD
 t28:=ABU
 a28:=ACJ
 z28:=AB8
 v28:=ABZ
 i26:=by kernel_rfl
def QX:Ren:=⟨fun| 5=>82| 8=>78| 7=>108| 19=>105| 20=>106| 10=>119| 11=>120| 12=>121| 13=>122| 14=>123| 15=>124| 16=>125| 17=>126| 18=>127| 30=>129| 31=>115| 32=>116| 33=>130| 34=>131| 35=>107| 40=>132|n=>n,fun| 23=>62| 25=>3| 3=>3| 32=>114| 22=>62| 0=>0| 44=>25| 46=>116| 4=>4| 36=>136| 35=>135| 41=>140| 5=>5| 9=>9| 53=>152| 57=>156| 63=>164| 64=>165|n=>n,fun n=>n⟩
theorem Ue:SlLaysM.n5 vK QX where
 mixed:=by kernel_rfl
 f5:=⟨ADI.name,by decide,ABO.trans (congrArg some (by kernel_rfl))⟩
 f7:=⟨AC9.name,by decide,ACT.trans (congrArg some (by kernel_rfl))⟩
 f8:=ACg.trans (congrArg some (by kernel_rfl))
 f10:=⟨AC8.name,by decide,ACS.trans (congrArg some (by kernel_rfl))⟩
 f11:=⟨Tryz.f120.name,by decide,Tryz.func120.trans (congrArg some (by kernel_rfl))⟩
 f12:=⟨Tryz.f121.name,by decide,Tryz.func121.trans (congrArg some (by kernel_rfl))⟩
 f13:=⟨Tryz.f122.name,by decide,Tryz.func122.trans (congrArg some (by kernel_rfl))⟩
 f14:=⟨Tryz.f123.name,by decide,Tryz.func123.trans (congrArg some (by kernel_rfl))⟩
 f15:=⟨Tryz.f124.name,by decide,Tryz.func124.trans (congrArg some (by kernel_rfl))⟩
 f16:=⟨AC7.name,by decide,ACR.trans (congrArg some (by kernel_rfl))⟩
 f17:=⟨Tryz.f126.name,by decide,Tryz.func126.trans (congrArg some (by kernel_rfl))⟩
 f18:=⟨Tryz.f127.name,by decide,Tryz.func127.trans (congrArg some (by kernel_rfl))⟩
 f19:=Tryz.func105.trans (congrArg some (by kernel_rfl))
 f20:=ACV.trans (congrArg some (by kernel_rfl))
 f30:=⟨Tryz.f129.name,by decide,Tryz.func129.trans (congrArg some (by kernel_rfl))⟩
 f31:=Tryz.func115.trans (congrArg some (by kernel_rfl))
 f32:=Tryz.func116.trans (congrArg some (by kernel_rfl))
 f33:=⟨Tryz.f130.name,by decide,Tryz.func130.trans (congrArg some (by kernel_rfl))⟩
 f34:=⟨Tryz.f131.name,by decide,Tryz.func131.trans (congrArg some (by kernel_rfl))⟩
 f35:=⟨ADA.name,by decide,ACU.trans (congrArg some (by kernel_rfl))⟩
 f40:=⟨Tryz.f132.name,by decide,Tryz.func132.trans (congrArg some (by kernel_rfl))⟩
 t0:=zx
 a0:=ABN
 z0:=AA1
 v0:=AAG
 t3:=yu
 a3:=AAH
 z3:=zq
 v3:=zD
 t4:=zG
 a4:=ACe
 z4:=ACQ
 v4:=ABs
 t5:=Tryz.underlying5
 a5:=Tryz.isAgg5
 z5:=Tryz.sizeOf5
 v5:=Tryz.zeroValue5
 t9:=Tryz.underlying9
 a9:=Tryz.isAgg9
 z9:=Tryz.sizeOf9
 v9:=Tryz.zeroValue9
 t22:=zj
 a22:=AA2
 z22:=AAj
 v22:=zw
 t23:=zj
 a23:=AA2
 z23:=AAj
 v23:=zw
 t25:=yu
 a25:=AAH
 z25:=zq
 v25:=zD
 t32:=Tryz.underlying114
 a32:=Tryz.isAgg114
 z32:=Tryz.sizeOf114
 v32:=Tryz.zeroValue114
 t35:=Tryz.underlying135
 a35:=Tryz.isAgg135
 z35:=Tryz.sizeOf135
 v35:=Tryz.zeroValue135
 t36:=Tryz.underlying136
 a36:=Tryz.isAgg136
 z36:=Tryz.sizeOf136
 v36:=Tryz.zeroValue136
 t41:=Tryz.underlying140
 a41:=Tryz.isAgg140
 z41:=Tryz.sizeOf140
 v41:=Tryz.zeroValue140
 t44:=Tryz.underlying25
 a44:=Tryz.isAgg25
 z44:=Tryz.sizeOf25
 v44:=Tryz.zeroValue25
 t46:=Tryz.underlying116
 a46:=Tryz.isAgg116
 z46:=Tryz.sizeOf116
 v46:=Tryz.zeroValue116
 t53:=Tryz.underlying152
 a53:=Tryz.isAgg152
 z53:=Tryz.sizeOf152
 v53:=Tryz.zeroValue152
 t57:=Tryz.underlying156
 a57:=Tryz.isAgg156
 z57:=Tryz.sizeOf156
 v57:=Tryz.zeroValue156
 t63:=Tryz.underlying164
 a63:=Tryz.isAgg164
 z63:=Tryz.sizeOf164
 v63:=Tryz.zeroValue164
 t64:=Tryz.underlying165
 a64:=Tryz.isAgg165
 z64:=Tryz.sizeOf165
 v64:=Tryz.zeroValue165
theorem ng(m:Nat):ACH vK F5 yf m:=
 ⟨fun blk off cap ss W hH hblk hsz=>callsIn_wide.2 (AnyM.slices_Sort_int Ue blk off cap ss W hH hblk hsz),
  fun p cap W=>callsIn_wide.2 (AnyM.slices_Sort_int_none Ue p cap W)⟩
theorem qt:AEf vK 66 94 3:=TP (ρ:=F5) (ρ':=JK) WJ {Y4 with} ng (enters_of ABO (by kernel_rfl) rfl) (enters_of ACf (by kernel_rfl) rfl)
theorem ZC{a b:String}(h:(a == b)=false):a≠b:=by simpa using h
def bS:Body:=Tg [94] 3
theorem Ww:IK vK ty 66 bS:=Rg (ti:=ty3) ⟨ADK,ACi,ZC (by kernel_rfl),rfl⟩ (fun K hK=>by
 have hK:=JM.1 hK;simp only[vS,List.not_mem_nil,or_false]at hK;rcases hK with rfl
 ·exact qt) (by kernel_rfl) rfl
end
end Go.Proofs.YtedbmmfebjfibaaGreat
namespace Go.Proofs.YtedbmmfebjfibaaGreat
noncomputable section
open Go
theorem oS:BX vK ty 66 bS:=ACy (.inr Ww)
theorem Ac{a b:String}(h:(a == b)=false):a≠b:=by simpa using h
theorem o6:BX vK ty 6 b6:=vq ⟨Tryz.f6,al6,Tryz.func6,Ac (by kernel_rfl),qL⟩
theorem o8:BX vK ty 8 b8:=vq ⟨Tryz.f8,al8,ACv,Ac (by kernel_rfl),qM⟩
theorem o9:BX vK ty 9 b9:=vq ⟨Tryz.f9,al9,ACu,Ac (by kernel_rfl),qN⟩
theorem o10:BX vK ty 10 b10:=vq ⟨Tryz.f10,oK,Tryz.func10,Ac (by kernel_rfl),iT⟩
theorem o11:BX vK ty 11 b11:=vq ⟨Tryz.f11,oL,Tryz.func11,Ac (by kernel_rfl),iU⟩
theorem o12:BX vK ty 12 b12:=vq ⟨Tryz.f12,oM,Tryz.func12,Ac (by kernel_rfl),iV⟩
theorem o16:BX vK ty 16 b16:=vq ⟨Tryz.f16,oN,Tryz.func16,Ac (by kernel_rfl),iW⟩
theorem o17:BX vK ty 17 b17:=vq ⟨Tryz.f17,oO,Tryz.func17,Ac (by kernel_rfl),iX⟩
theorem o19:BX vK ty 19 b19:=vq ⟨Tryz.f19,oP,Tryz.func19,Ac (by kernel_rfl),iY⟩
theorem o20:BX vK ty 20 b20:=vq ⟨Tryz.f20,oQ,Tryz.func20,Ac (by kernel_rfl),iZ⟩
theorem o21:BX vK ty 21 b21:=vq ⟨Tryz.f21,oR,Tryz.func21,Ac (by kernel_rfl),ia⟩
theorem o24:BX vK ty 24 b24:=vq ⟨Tryz.f24,oU,Tryz.func24,Ac (by kernel_rfl),ib⟩
theorem o26:BX vK ty 26 b26:=vq ⟨Tryz.f26,oV,Tryz.func26,Ac (by kernel_rfl),ic⟩
theorem o28:BX vK ty 28 b28:=vq ⟨Tryz.f28,oX,Tryz.func28,Ac (by kernel_rfl),ie⟩
theorem o29:BX vK ty 29 b29:=vq ⟨Tryz.f29,oY,Tryz.func29,Ac (by kernel_rfl),ig⟩
theorem o30:BX vK ty 30 b30:=vq ⟨Tryz.f30,oZ,Tryz.func30,Ac (by kernel_rfl),ii⟩
theorem o31:BX vK ty 31 b31:=vq ⟨Tryz.f31,oa,Tryz.func31,Ac (by kernel_rfl),ij⟩
theorem o32:BX vK ty 32 b32:=vq ⟨Tryz.f32,od,Tryz.func32,Ac (by kernel_rfl),ik⟩
theorem o35:BX vK ty 35 b35:=vq ⟨Tryz.f35,oe,Tryz.func35,Ac (by kernel_rfl),im⟩
theorem o36:BX vK ty 36 b36:=vq ⟨Tryz.f36,oh,Tryz.func36,Ac (by kernel_rfl),io⟩
theorem o37:BX vK ty 37 b37:=vq ⟨Tryz.f37,oo,Tryz.func37,Ac (by kernel_rfl),ip⟩
theorem o38:BX vK ty 38 b38:=vq ⟨Tryz.f38,oq,Tryz.func38,Ac (by kernel_rfl),iq⟩
theorem o39:BX vK ty 39 b39:=vq ⟨Tryz.f39,ot,Tryz.func39,Ac (by kernel_rfl),ir⟩
theorem o40:BX vK ty 40 b40:=vq ⟨Tryz.f40,ox,Tryz.func40,Ac (by kernel_rfl),iu⟩
theorem o41:BX vK ty 41 b41:=vq ⟨Tryz.f41,oy,Tryz.func41,Ac (by kernel_rfl),iw⟩
theorem o42:BX vK ty 42 b42:=vq ⟨Tryz.f42,oz,Tryz.func42,Ac (by kernel_rfl),iz⟩
theorem o43:BX vK ty 43 b43:=vq ⟨Tryz.f43,o7,Tryz.func43,Ac (by kernel_rfl),i6⟩
theorem o44:BX vK ty 44 b44:=vq ⟨Tryz.f44,pA,Tryz.func44,Ac (by kernel_rfl),i7⟩
theorem o45:BX vK ty 45 b45:=vq ⟨Tryz.f45,pB,Tryz.func45,Ac (by kernel_rfl),i9⟩
theorem o46:BX vK ty 46 b46:=vq ⟨Tryz.f46,pC,Tryz.func46,Ac (by kernel_rfl),jA⟩
theorem o47:BX vK ty 47 b47:=vq ⟨Tryz.f47,pD,Tryz.func47,Ac (by kernel_rfl),jB⟩
theorem o48:BX vK ty 48 b48:=vq ⟨Tryz.f48,pE,Tryz.func48,Ac (by kernel_rfl),jC⟩
theorem o49:BX vK ty 49 b49:=vq ⟨Tryz.f49,pF,Tryz.func49,Ac (by kernel_rfl),jD⟩
theorem o50:BX vK ty 50 b50:=vq ⟨Tryz.f50,pG,Tryz.func50,Ac (by kernel_rfl),jE⟩
theorem o51:BX vK ty 51 b51:=vq ⟨Tryz.f51,pH,Tryz.func51,Ac (by kernel_rfl),jF⟩
theorem o52:BX vK ty 52 b52:=vq ⟨Tryz.f52,pI,Tryz.func52,Ac (by kernel_rfl),jG⟩
theorem o53:BX vK ty 53 b53:=vq ⟨Tryz.f53,pJ,Tryz.func53,Ac (by kernel_rfl),jH⟩
theorem o54:BX vK ty 54 b54:=vq ⟨Tryz.f54,pK,Tryz.func54,Ac (by kernel_rfl),jI⟩
theorem o55:BX vK ty 55 b55:=vq ⟨Tryz.f55,pL,Tryz.func55,Ac (by kernel_rfl),jJ⟩
theorem o56:BX vK ty 56 b56:=vq ⟨Tryz.f56,pM,Tryz.func56,Ac (by kernel_rfl),jK⟩
theorem o57:BX vK ty 57 b57:=vq ⟨Tryz.f57,pN,Tryz.func57,Ac (by kernel_rfl),jL⟩
theorem o58:BX vK ty 58 b58:=vq ⟨Tryz.f58,pO,Tryz.func58,Ac (by kernel_rfl),jM⟩
theorem o59:BX vK ty 59 b59:=vq ⟨Tryz.f59,pP,Tryz.func59,Ac (by kernel_rfl),jN⟩
theorem o60:BX vK ty 60 b60:=vq ⟨Tryz.f60,pQ,Tryz.func60,Ac (by kernel_rfl),jO⟩
theorem o61:BX vK ty 61 b61:=vq ⟨Tryz.f61,pR,Tryz.func61,Ac (by kernel_rfl),jP⟩
theorem o62:BX vK ty 62 b62:=vq ⟨Tryz.f62,pS,Tryz.func62,Ac (by kernel_rfl),jQ⟩
theorem o63:BX vK ty 63 b63:=vq ⟨Tryz.f63,pT,Tryz.func63,Ac (by kernel_rfl),jR⟩
theorem o64:BX vK ty 64 b64:=vq ⟨Tryz.f64,pU,Tryz.func64,Ac (by kernel_rfl),jS⟩
theorem o65:BX vK ty 65 b65:=vq ⟨Tryz.f65,pV,Tryz.func65,Ac (by kernel_rfl),jT⟩
theorem o67:BX vK ty 67 b67:=vq ⟨ADJ,pW,ACh,Ac (by kernel_rfl),jU⟩
theorem o68:BX vK ty 68 b68:=vq ⟨Tryz.f68,pX,Tryz.func68,Ac (by kernel_rfl),jV⟩
theorem o69:BX vK ty 69 b69:=vq ⟨Tryz.f69,pY,Tryz.func69,Ac (by kernel_rfl),jW⟩
theorem o70:BX vK ty 70 b70:=vq ⟨Tryz.f70,pZ,Tryz.func70,Ac (by kernel_rfl),jX⟩
theorem o71:BX vK ty 71 b71:=vq ⟨Tryz.f71,pf,Tryz.func71,Ac (by kernel_rfl),jY⟩
theorem o72:BX vK ty 72 b72:=vq ⟨Tryz.f72,ph,Tryz.func72,Ac (by kernel_rfl),jZ⟩
theorem o73:BX vK ty 73 b73:=vq ⟨Tryz.f73,pi,Tryz.func73,Ac (by kernel_rfl),ja⟩
theorem o74:BX vK ty 74 b74:=vq ⟨Tryz.f74,pj,Tryz.func74,Ac (by kernel_rfl),jb⟩
theorem o75:BX vK ty 75 b75:=vq ⟨Tryz.f75,pk,Tryz.func75,Ac (by kernel_rfl),jc⟩
theorem o76:BX vK ty 76 b76:=vq ⟨Tryz.f76,pn,Tryz.func76,Ac (by kernel_rfl),jd⟩
theorem o77:BX vK ty 77 b77:=vq ⟨Tryz.f77,po,Tryz.func77,Ac (by kernel_rfl),je⟩
theorem o78:BX vK ty 78 b78:=vq ⟨Tryz.f78,pp,ACg,Ac (by kernel_rfl),jf⟩
theorem o79:BX vK ty 79 b79:=vq ⟨Tryz.f79,pq,Tryz.func79,Ac (by kernel_rfl),jg⟩
theorem o80:BX vK ty 80 b80:=vq ⟨Tryz.f80,pr,Tryz.func80,Ac (by kernel_rfl),jh⟩
theorem o81:BX vK ty 81 b81:=vq ⟨Tryz.f81,pu,Tryz.func81,Ac (by kernel_rfl),ji⟩
theorem o82:BX vK ty 82 b82:=vq ⟨ADI,px,ABO,Ac (by kernel_rfl),jk⟩
theorem o83:BX vK ty 83 b83:=vq ⟨Tryz.f83,py,Tryz.func83,Ac (by kernel_rfl),jl⟩
theorem o84:BX vK ty 84 b84:=vq ⟨Tryz.f84,pz,Tryz.func84,Ac (by kernel_rfl),jm⟩
theorem o85:BX vK ty 85 b85:=vq ⟨Tryz.f85,qA,Tryz.func85,Ac (by kernel_rfl),jn⟩
theorem o86:BX vK ty 86 b86:=vq ⟨Tryz.f86,qB,Tryz.func86,Ac (by kernel_rfl),jo⟩
theorem o87:BX vK ty 87 b87:=vq ⟨Tryz.f87,qC,Tryz.func87,Ac (by kernel_rfl),jp⟩
theorem o88:BX vK ty 88 b88:=vq ⟨Tryz.f88,qD,Tryz.func88,Ac (by kernel_rfl),jq⟩
theorem o89:BX vK ty 89 b89:=vq ⟨Tryz.f89,qE,Tryz.func89,Ac (by kernel_rfl),jr⟩
theorem o90:BX vK ty 90 b90:=vq ⟨Tryz.f90,qF,Tryz.func90,Ac (by kernel_rfl),js⟩
theorem o91:BX vK ty 91 b91:=vq ⟨Tryz.f91,qG,Tryz.func91,Ac (by kernel_rfl),jt⟩
theorem o92:BX vK ty 92 b92:=vq ⟨Tryz.f92,qH,Tryz.func92,Ac (by kernel_rfl),ju⟩
theorem o95:BX vK ty 95 b95:=vq ⟨Tryz.f95,qI,Tryz.func95,Ac (by kernel_rfl),jv⟩
theorem o96:BX vK ty 96 b96:=vq ⟨Tryz.f96,qJ,Tryz.func96,Ac (by kernel_rfl),jw⟩
theorem o97:BX vK ty 97 b97:=vq ⟨Tryz.f97,qK,Tryz.func97,Ac (by kernel_rfl),jx⟩
theorem qc:BX vK ty 106 VU:=vq ⟨Tryz.f106,gh,ACV,Ac (by kernel_rfl),bV⟩
theorem qd:BX vK ty 107 VV:=vq ⟨ADA,gi,ACU,Ac (by kernel_rfl),bW⟩
theorem qe:BX vK ty 108 VW:=vq ⟨AC9,gj,ACT,Ac (by kernel_rfl),bX⟩
theorem qf:BX vK ty 109 VX:=vq ⟨Tryz.f109,gk,Tryz.func109,Ac (by kernel_rfl),bY⟩
theorem qg:BX vK ty 110 VY:=vq ⟨Tryz.f110,gm,Tryz.func110,Ac (by kernel_rfl),bZ⟩
theorem qh:BX vK ty 111 VZ:=vq ⟨Tryz.f111,gn,Tryz.func111,Ac (by kernel_rfl),ba⟩
theorem qi:BX vK ty 112 Va:=vq ⟨Tryz.f112,gp,Tryz.func112,Ac (by kernel_rfl),be⟩
theorem qj:BX vK ty 119 Vb:=vq ⟨AC8,gq,ACS,Ac (by kernel_rfl),bf⟩
theorem qk:BX vK ty 125 Vd:=vq ⟨AC7,gt,ACR,Ac (by kernel_rfl),bg⟩
theorem Ap(i:Nat):BX vK ty i An:=ACy (.inl rfl)
set_option maxRecDepth 100000 in
def GS:FT:=(.nd An (.nd An (.nd An (.nd An (.nd An (.nd b31 (.nd b63 (.nd An .mt .mt) .mt) (.nd b95 .mt .mt)) (.nd b47 (.nd b79 (.nd An .mt .mt) .mt) (.nd VZ .mt .mt))) (.nd An (.nd b39 (.nd b71 (.nd An .mt .mt) .mt) (.nd An .mt .mt)) (.nd b55 (.nd b87 .mt .mt) (.nd Vb .mt .mt)))) (.nd b11 (.nd b19 (.nd b35 (.nd b67 (.nd An .mt .mt) .mt) (.nd An .mt .mt)) (.nd b51 (.nd b83 (.nd An .mt .mt) .mt) (.nd An .mt .mt))) (.nd An (.nd b43 (.nd b75 (.nd An .mt .mt) .mt) (.nd VV .mt .mt)) (.nd b59 (.nd b91 .mt .mt) (.nd An .mt .mt))))) (.nd An (.nd b9 (.nd b17 (.nd An (.nd b65 (.nd An .mt .mt) .mt) (.nd b97 .mt .mt)) (.nd b49 (.nd b81 (.nd An .mt .mt) .mt) (.nd An .mt .mt))) (.nd An (.nd b41 (.nd b73 (.nd An .mt .mt) .mt) (.nd An .mt .mt)) (.nd b57 (.nd b89 .mt .mt) (.nd An .mt .mt)))) (.nd An (.nd b21 (.nd b37 (.nd b69 (.nd An .mt .mt) .mt) (.nd An .mt .mt)) (.nd b53 (.nd b85 .mt .mt) (.nd An .mt .mt))) (.nd b29 (.nd b45 (.nd b77 (.nd An .mt .mt) .mt) (.nd VX .mt .mt)) (.nd b61 (.nd An .mt .mt) (.nd Vd .mt .mt)))))) (.nd An (.nd An (.nd b8 (.nd b16 (.nd b32 (.nd b64 (.nd An .mt .mt) .mt) (.nd b96 .mt .mt)) (.nd b48 (.nd b80 (.nd An .mt .mt) .mt) (.nd Va .mt .mt))) (.nd b24 (.nd b40 (.nd b72 (.nd An .mt .mt) .mt) (.nd An .mt .mt)) (.nd b56 (.nd b88 .mt .mt) (.nd An .mt .mt)))) (.nd b12 (.nd b20 (.nd b36 (.nd b68 (.nd An .mt .mt) .mt) (.nd An .mt .mt)) (.nd b52 (.nd b84 (.nd An .mt .mt) .mt) (.nd An .mt .mt))) (.nd b28 (.nd b44 (.nd b76 (.nd An .mt .mt) .mt) (.nd VW .mt .mt)) (.nd b60 (.nd b92 .mt .mt) (.nd An .mt .mt))))) (.nd b6 (.nd b10 (.nd An (.nd An (.nd bS (.nd An .mt .mt) .mt) (.nd An .mt .mt)) (.nd b50 (.nd b82 (.nd An .mt .mt) .mt) (.nd An .mt .mt))) (.nd b26 (.nd b42 (.nd b74 (.nd An .mt .mt) .mt) (.nd VU .mt .mt)) (.nd b58 (.nd b90 .mt .mt) (.nd An .mt .mt)))) (.nd An (.nd An (.nd b38 (.nd b70 (.nd An .mt .mt) .mt) (.nd An .mt .mt)) (.nd b54 (.nd b86 .mt .mt) (.nd An .mt .mt))) (.nd b30 (.nd b46 (.nd b78 (.nd An .mt .mt) .mt) (.nd VY .mt .mt)) (.nd b62 (.nd An .mt .mt) (.nd An .mt .mt)))))))
set_option maxRecDepth 100000 in
theorem SK:FT.All (BX vK ty) GS id:=⟨Ap _,⟨Ap _,⟨Ap _,⟨Ap _,⟨Ap _,⟨o31,⟨o63,⟨Ap _,trivial,trivial⟩,trivial⟩,⟨o95,trivial,trivial⟩⟩,⟨o47,⟨o79,⟨Ap _,trivial,trivial⟩,trivial⟩,⟨qh,trivial,trivial⟩⟩⟩,⟨Ap _,⟨o39,⟨o71,⟨Ap _,trivial,trivial⟩,trivial⟩,⟨Ap _,trivial,trivial⟩⟩,⟨o55,⟨o87,trivial,trivial⟩,⟨qj,trivial,trivial⟩⟩⟩⟩,⟨o11,⟨o19,⟨o35,⟨o67,⟨Ap _,trivial,trivial⟩,trivial⟩,⟨Ap _,trivial,trivial⟩⟩,⟨o51,⟨o83,⟨Ap _,trivial,trivial⟩,trivial⟩,⟨Ap _,trivial,trivial⟩⟩⟩,⟨Ap _,⟨o43,⟨o75,⟨Ap _,trivial,trivial⟩,trivial⟩,⟨qd,trivial,trivial⟩⟩,⟨o59,⟨o91,trivial,trivial⟩,⟨Ap _,trivial,trivial⟩⟩⟩⟩⟩,⟨Ap _,⟨o9,⟨o17,⟨Ap _,⟨o65,⟨Ap _,trivial,trivial⟩,trivial⟩,⟨o97,trivial,trivial⟩⟩,⟨o49,⟨o81,⟨Ap _,trivial,trivial⟩,trivial⟩,⟨Ap _,trivial,trivial⟩⟩⟩,⟨Ap _,⟨o41,⟨o73,⟨Ap _,trivial,trivial⟩,trivial⟩,⟨Ap _,trivial,trivial⟩⟩,⟨o57,⟨o89,trivial,trivial⟩,⟨Ap _,trivial,trivial⟩⟩⟩⟩,⟨Ap _,⟨o21,⟨o37,⟨o69,⟨Ap _,trivial,trivial⟩,trivial⟩,⟨Ap _,trivial,trivial⟩⟩,⟨o53,⟨o85,trivial,trivial⟩,⟨Ap _,trivial,trivial⟩⟩⟩,⟨o29,⟨o45,⟨o77,⟨Ap _,trivial,trivial⟩,trivial⟩,⟨qf,trivial,trivial⟩⟩,⟨o61,⟨Ap _,trivial,trivial⟩,⟨qk,trivial,trivial⟩⟩⟩⟩⟩⟩,⟨Ap _,⟨Ap _,⟨o8,⟨o16,⟨o32,⟨o64,⟨Ap _,trivial,trivial⟩,trivial⟩,⟨o96,trivial,trivial⟩⟩,⟨o48,⟨o80,⟨Ap _,trivial,trivial⟩,trivial⟩,⟨qi,trivial,trivial⟩⟩⟩,⟨o24,⟨o40,⟨o72,⟨Ap _,trivial,trivial⟩,trivial⟩,⟨Ap _,trivial,trivial⟩⟩,⟨o56,⟨o88,trivial,trivial⟩,⟨Ap _,trivial,trivial⟩⟩⟩⟩,⟨o12,⟨o20,⟨o36,⟨o68,⟨Ap _,trivial,trivial⟩,trivial⟩,⟨Ap _,trivial,trivial⟩⟩,⟨o52,⟨o84,⟨Ap _,trivial,trivial⟩,trivial⟩,⟨Ap _,trivial,trivial⟩⟩⟩,⟨o28,⟨o44,⟨o76,⟨Ap _,trivial,trivial⟩,trivial⟩,⟨qe,trivial,trivial⟩⟩,⟨o60,⟨o92,trivial,trivial⟩,⟨Ap _,trivial,trivial⟩⟩⟩⟩⟩,⟨o6,⟨o10,⟨Ap _,⟨Ap _,⟨oS,⟨Ap _,trivial,trivial⟩,trivial⟩,⟨Ap _,trivial,trivial⟩⟩,⟨o50,⟨o82,⟨Ap _,trivial,trivial⟩,trivial⟩,⟨Ap _,trivial,trivial⟩⟩⟩,⟨o26,⟨o42,⟨o74,⟨Ap _,trivial,trivial⟩,trivial⟩,⟨qc,trivial,trivial⟩⟩,⟨o58,⟨o90,trivial,trivial⟩,⟨Ap _,trivial,trivial⟩⟩⟩⟩,⟨Ap _,⟨Ap _,⟨o38,⟨o70,⟨Ap _,trivial,trivial⟩,trivial⟩,⟨Ap _,trivial,trivial⟩⟩,⟨o54,⟨o86,trivial,trivial⟩,⟨Ap _,trivial,trivial⟩⟩⟩,⟨o30,⟨o46,⟨o78,⟨Ap _,trivial,trivial⟩,trivial⟩,⟨qg,trivial,trivial⟩⟩,⟨o62,⟨Ap _,trivial,trivial⟩,⟨Ap _,trivial,trivial⟩⟩⟩⟩⟩⟩⟩
theorem iD:Ck vK ty:=nl (by kernel_rfl) (by kernel_rfl)
theorem NK(n:Nat):C2 vK ty (call GS n):=Iw iD (by kernel_rfl) SK n
end
noncomputable section
open Go
set_option maxHeartbeats 0 in
theorem VR:Zj (call GS 64 8 [] II)=true:=by kernel_rfl
theorem SH:IK vK ty 8 Jq:=W7 ⟨Tryz.f8,ACv,Ac (by kernel_rfl),by kernel_rfl⟩ (aJ NK VR)
theorem oA:BX vK ty 8 Jq:=ACy (.inr SH)
open Go.RowKit Go.WideShapes Go.ChangeShapes
set_option maxRecDepth 100000
def iC(L:List BY)(args:List BY)(h:Hp):R:=match args with
 |[]=>.ok (.agg ⟨L⟩) h
 |_::_=>.no
def Tf(L:List BY):Body:=⟨[.x (fun _=>iC L)],cNo⟩
def isW:BY→Bool
 |.int .u32 n=>decide (0≤n) && decide (n<4294967296)
 |_=>false
def Zi:R→Bool
 |.ok (.agg ⟨l⟩) _=>l.all isW && vO l.length 256
 |_=>false
def mw:R→List BY
 |.ok (.agg ⟨l⟩) _=>l
 |_=>[]
def Ro:List BY:=mw (call GS 64 9 [] II)
set_option maxHeartbeats 0 in
theorem gM:Zi (call GS 64 9 [] II)=true:=by kernel_rfl
theorem Ub{v:BY}(h:isW v=true):∃ n:Nat,v=.int .u32 (n:Int)∧n<4294967296:=by
 unfold isW at h;split at h
 ·rename_i n
  simp only[vT,decide_eq_true_eq]at h;obtain⟨m,rfl⟩:=Int.eq_ofNat_of_zero_le h.1;exact⟨m,rfl,by omega⟩
 ·cases h
theorem ac:∃ h',call GS 64 9 [] II=.ok (.agg ⟨Ro⟩) h'∧Ro.length=256∧∀ v∈Ro,isW v=true:=by
 have h:=gM;unfold Ro;generalize call GS 64 9 [] II=r at h;unfold Zi at h;split at h
 ·rename_i l h'
  simp only[vT,List.all_eq_true]at h;exact⟨h',rfl,Nat.eq_of_beq_eq_true h.2,h.1⟩
 ·cases h
theorem Qj{φ:Phi}:∀ {L L':List BY},ADp φ L L'→(∀ v∈L,isW v=true)→L'=L
 |_,_,.nil,_=>rfl
 |_,_,.cons (v:=v) h t,hL=>by
  rw[Qj t fun x hx=>hL x (vH _ hx)];obtain⟨n,rfl,_⟩:=Ub (hL v vG);cases h;rfl
theorem Qk(φ:Phi):∀ {L:List BY},(∀ v∈L,isW v=true)→ADp φ L L
 |[],_=>.nil
 |v::L,h=>by
  obtain⟨n,rfl,_⟩:=Ub (h v vG);exact .cons (.int _ _) (Qk φ fun x hx=>h x (vH _ hx))
theorem W6(w:World):Calls vK 9 #[] w fun e w'=>e=.returned (.agg ⟨Ro⟩)∧Below w.heap.size w w':=by
 obtain⟨h',hr,_,hw⟩:=ac;obtain⟨_,hc⟩:=NK _ 9 [] II _ h' hr;refine(hc nL w [] .nil (N6 ty w)).mono fun e w' ⟨v',ψ,he,hv,_,ev⟩=>?_
 cases hv with
 |agg hl=>
  rw[Qj hl hw]at he;exact⟨he,⟨ev.os,ev.tape,ev.output,ev.size,fun k hk=>ev.frame k hk fun i p hp=>by cases hp⟩⟩
theorem WO{P:wK}{ty:TTy}{f:Nat}{L:List BY}(hL:∀ v∈L,isW v=true)(hS:∃ fn,P.funcs[f]? =some fn∧fn.name≠"runtime.NumGoroutine" ∧fn.body.isNone=false)(hc:∀ w:World,Calls P f #[] w fun e w'=>e=.returned (.agg ⟨L⟩)∧Below w.heap.size w w'):IK P ty f (Tf L):=fun F args h v h' _ hr=>⟨hS,fun φ w args' ADy H=>by
 have hr:iC L args h=.ok v h':=hr;cases args with
 |cons a l=>cases hr
 |nil=>
  cases hr;cases ADy;exact(hc w).mono fun e w' ⟨he,hb⟩=>⟨_,φ,he,.agg (Qk φ hL),(Gg H hb).1,(Gg H hb).2⟩⟩
theorem aa:IK vK ty 9 (Tf Ro):=WO (ac.choose_spec.2.2) ⟨Tryz.f9,ACu,Ac (by kernel_rfl),by kernel_rfl⟩ W6
theorem oT:BX vK ty 9 (Tf Ro):=ACy (.inr aa)
end
noncomputable section
open Go
set_option maxRecDepth 100000 in
def AD:FT:=(.nd An (.nd An (.nd An (.nd An (.nd An (.nd b31 (.nd b63 (.nd An .mt .mt) .mt) (.nd b95 .mt .mt)) (.nd b47 (.nd b79 (.nd An .mt .mt) .mt) (.nd VZ .mt .mt))) (.nd An (.nd b39 (.nd b71 (.nd An .mt .mt) .mt) (.nd An .mt .mt)) (.nd b55 (.nd b87 .mt .mt) (.nd Vb .mt .mt)))) (.nd b11 (.nd b19 (.nd b35 (.nd b67 (.nd An .mt .mt) .mt) (.nd An .mt .mt)) (.nd b51 (.nd b83 (.nd An .mt .mt) .mt) (.nd An .mt .mt))) (.nd An (.nd b43 (.nd b75 (.nd An .mt .mt) .mt) (.nd VV .mt .mt)) (.nd b59 (.nd b91 .mt .mt) (.nd An .mt .mt))))) (.nd An (.nd (Tf Ro) (.nd b17 (.nd An (.nd b65 (.nd An .mt .mt) .mt) (.nd b97 .mt .mt)) (.nd b49 (.nd b81 (.nd An .mt .mt) .mt) (.nd An .mt .mt))) (.nd An (.nd b41 (.nd b73 (.nd An .mt .mt) .mt) (.nd An .mt .mt)) (.nd b57 (.nd b89 .mt .mt) (.nd An .mt .mt)))) (.nd An (.nd b21 (.nd b37 (.nd b69 (.nd An .mt .mt) .mt) (.nd An .mt .mt)) (.nd b53 (.nd b85 .mt .mt) (.nd An .mt .mt))) (.nd b29 (.nd b45 (.nd b77 (.nd An .mt .mt) .mt) (.nd VX .mt .mt)) (.nd b61 (.nd An .mt .mt) (.nd Vd .mt .mt)))))) (.nd An (.nd An (.nd Jq (.nd b16 (.nd b32 (.nd b64 (.nd An .mt .mt) .mt) (.nd b96 .mt .mt)) (.nd b48 (.nd b80 (.nd An .mt .mt) .mt) (.nd Va .mt .mt))) (.nd b24 (.nd b40 (.nd b72 (.nd An .mt .mt) .mt) (.nd An .mt .mt)) (.nd b56 (.nd b88 .mt .mt) (.nd An .mt .mt)))) (.nd b12 (.nd b20 (.nd b36 (.nd b68 (.nd An .mt .mt) .mt) (.nd An .mt .mt)) (.nd b52 (.nd b84 (.nd An .mt .mt) .mt) (.nd An .mt .mt))) (.nd b28 (.nd b44 (.nd b76 (.nd An .mt .mt) .mt) (.nd VW .mt .mt)) (.nd b60 (.nd b92 .mt .mt) (.nd An .mt .mt))))) (.nd b6 (.nd b10 (.nd An (.nd An (.nd bS (.nd An .mt .mt) .mt) (.nd An .mt .mt)) (.nd b50 (.nd b82 (.nd An .mt .mt) .mt) (.nd An .mt .mt))) (.nd b26 (.nd b42 (.nd b74 (.nd An .mt .mt) .mt) (.nd VU .mt .mt)) (.nd b58 (.nd b90 .mt .mt) (.nd An .mt .mt)))) (.nd An (.nd An (.nd b38 (.nd b70 (.nd An .mt .mt) .mt) (.nd An .mt .mt)) (.nd b54 (.nd b86 .mt .mt) (.nd An .mt .mt))) (.nd b30 (.nd b46 (.nd b78 (.nd An .mt .mt) .mt) (.nd VY .mt .mt)) (.nd b62 (.nd An .mt .mt) (.nd An .mt .mt)))))))
set_option maxRecDepth 100000 in
theorem Vh:FT.All (BX vK ty) AD id:=⟨Ap _,⟨Ap _,⟨Ap _,⟨Ap _,⟨Ap _,⟨o31,⟨o63,⟨Ap _,trivial,trivial⟩,trivial⟩,⟨o95,trivial,trivial⟩⟩,⟨o47,⟨o79,⟨Ap _,trivial,trivial⟩,trivial⟩,⟨qh,trivial,trivial⟩⟩⟩,⟨Ap _,⟨o39,⟨o71,⟨Ap _,trivial,trivial⟩,trivial⟩,⟨Ap _,trivial,trivial⟩⟩,⟨o55,⟨o87,trivial,trivial⟩,⟨qj,trivial,trivial⟩⟩⟩⟩,⟨o11,⟨o19,⟨o35,⟨o67,⟨Ap _,trivial,trivial⟩,trivial⟩,⟨Ap _,trivial,trivial⟩⟩,⟨o51,⟨o83,⟨Ap _,trivial,trivial⟩,trivial⟩,⟨Ap _,trivial,trivial⟩⟩⟩,⟨Ap _,⟨o43,⟨o75,⟨Ap _,trivial,trivial⟩,trivial⟩,⟨qd,trivial,trivial⟩⟩,⟨o59,⟨o91,trivial,trivial⟩,⟨Ap _,trivial,trivial⟩⟩⟩⟩⟩,⟨Ap _,⟨oT,⟨o17,⟨Ap _,⟨o65,⟨Ap _,trivial,trivial⟩,trivial⟩,⟨o97,trivial,trivial⟩⟩,⟨o49,⟨o81,⟨Ap _,trivial,trivial⟩,trivial⟩,⟨Ap _,trivial,trivial⟩⟩⟩,⟨Ap _,⟨o41,⟨o73,⟨Ap _,trivial,trivial⟩,trivial⟩,⟨Ap _,trivial,trivial⟩⟩,⟨o57,⟨o89,trivial,trivial⟩,⟨Ap _,trivial,trivial⟩⟩⟩⟩,⟨Ap _,⟨o21,⟨o37,⟨o69,⟨Ap _,trivial,trivial⟩,trivial⟩,⟨Ap _,trivial,trivial⟩⟩,⟨o53,⟨o85,trivial,trivial⟩,⟨Ap _,trivial,trivial⟩⟩⟩,⟨o29,⟨o45,⟨o77,⟨Ap _,trivial,trivial⟩,trivial⟩,⟨qf,trivial,trivial⟩⟩,⟨o61,⟨Ap _,trivial,trivial⟩,⟨qk,trivial,trivial⟩⟩⟩⟩⟩⟩,⟨Ap _,⟨Ap _,⟨oA,⟨o16,⟨o32,⟨o64,⟨Ap _,trivial,trivial⟩,trivial⟩,⟨o96,trivial,trivial⟩⟩,⟨o48,⟨o80,⟨Ap _,trivial,trivial⟩,trivial⟩,⟨qi,trivial,trivial⟩⟩⟩,⟨o24,⟨o40,⟨o72,⟨Ap _,trivial,trivial⟩,trivial⟩,⟨Ap _,trivial,trivial⟩⟩,⟨o56,⟨o88,trivial,trivial⟩,⟨Ap _,trivial,trivial⟩⟩⟩⟩,⟨o12,⟨o20,⟨o36,⟨o68,⟨Ap _,trivial,trivial⟩,trivial⟩,⟨Ap _,trivial,trivial⟩⟩,⟨o52,⟨o84,⟨Ap _,trivial,trivial⟩,trivial⟩,⟨Ap _,trivial,trivial⟩⟩⟩,⟨o28,⟨o44,⟨o76,⟨Ap _,trivial,trivial⟩,trivial⟩,⟨qe,trivial,trivial⟩⟩,⟨o60,⟨o92,trivial,trivial⟩,⟨Ap _,trivial,trivial⟩⟩⟩⟩⟩,⟨o6,⟨o10,⟨Ap _,⟨Ap _,⟨oS,⟨Ap _,trivial,trivial⟩,trivial⟩,⟨Ap _,trivial,trivial⟩⟩,⟨o50,⟨o82,⟨Ap _,trivial,trivial⟩,trivial⟩,⟨Ap _,trivial,trivial⟩⟩⟩,⟨o26,⟨o42,⟨o74,⟨Ap _,trivial,trivial⟩,trivial⟩,⟨qc,trivial,trivial⟩⟩,⟨o58,⟨o90,trivial,trivial⟩,⟨Ap _,trivial,trivial⟩⟩⟩⟩,⟨Ap _,⟨Ap _,⟨o38,⟨o70,⟨Ap _,trivial,trivial⟩,trivial⟩,⟨Ap _,trivial,trivial⟩⟩,⟨o54,⟨o86,trivial,trivial⟩,⟨Ap _,trivial,trivial⟩⟩⟩,⟨o30,⟨o46,⟨o78,⟨Ap _,trivial,trivial⟩,trivial⟩,⟨qg,trivial,trivial⟩⟩,⟨o62,⟨Ap _,trivial,trivial⟩,⟨Ap _,trivial,trivial⟩⟩⟩⟩⟩⟩⟩
theorem Xs(n:Nat):C2 vK ty (call AD n):=Iw iD (by kernel_rfl) Vh n
theorem PW:AD.get 8=some Jq:=by kernel_rfl
end
noncomputable section
open Go
set_option maxRecDepth 100000
theorem j7{n:Nat}{args:List BY}{h:Hp}(hl:vJ (A8 args) 160=true):call AD (vD n) 10 args h=A4 [.t (AB 4),.t (AB 5),.t (AB 6)] (d10 (call AD n) (AS e0 0 args) h):=by
 have hb:AD.get 10=some b10:=by kernel_rfl
 rw[Ah hb];have hd:b10=⟨[.t (AB 4),.t (AB 5),.t (AB 6)],d10⟩:=by kernel_rfl
 rw[hd,AX hl]
theorem GT{n:Nat}{args:List BY}{h:Hp}(hl:vJ (A8 args) 160=true):call AD (vD n) 11 args h=A4 [.t (AB 10)] (d11 (call AD n) (AS e0 0 args) h):=by
 have hb:AD.get 11=some b11:=by kernel_rfl
 rw[Ah hb];have hd:b11=⟨[.t (AB 10)],d11⟩:=by kernel_rfl
 rw[hd,AX hl]
theorem IM{n:Nat}{args:List BY}{h:Hp}(hl:vJ (A8 args) 160=true):call AD (vD n) 12 args h=A4 [.t (AB 8)] (d12 (call AD n) (AS e0 0 args) h):=by
 have hb:AD.get 12=some b12:=by kernel_rfl
 rw[Ah hb];have hd:b12=⟨[.t (AB 8)],d12⟩:=by kernel_rfl
 rw[hd,AX hl]
theorem Xa{n:Nat}{args:List BY}{h:Hp}(hl:vJ (A8 args) 160=true):call AD (vD n) 16 args h=A4 [.t (AB 6),.t (AB 7)] (d16 (call AD n) (AS e0 0 args) h):=by
 have hb:AD.get 16=some b16:=by kernel_rfl
 rw[Ah hb];have hd:b16=⟨[.t (AB 6),.t (AB 7)],d16⟩:=by kernel_rfl
 rw[hd,AX hl]
theorem kA{n:Nat}{args:List BY}{h:Hp}(hl:vJ (A8 args) 160=true):call AD (vD n) 19 args h=A4 [.t (AB 2)] (d19 (call AD n) (AS e0 0 args) h):=by
 have hb:AD.get 19=some b19:=by kernel_rfl
 rw[Ah hb];have hd:b19=⟨[.t (AB 2)],d19⟩:=by kernel_rfl
 rw[hd,AX hl]
theorem kB{n:Nat}{args:List BY}{h:Hp}(hl:vJ (A8 args) 160=true):call AD (vD n) 21 args h=A4 [.t (AB 2)] (d21 (call AD n) (AS e0 0 args) h):=by
 have hb:AD.get 21=some b21:=by kernel_rfl
 rw[Ah hb];have hd:b21=⟨[.t (AB 2)],d21⟩:=by kernel_rfl
 rw[hd,AX hl]
theorem kC{n:Nat}{args:List BY}{h:Hp}(hl:vJ (A8 args) 160=true):call AD (vD n) 24 args h=A4 [.t (AB 4)] (d24 (call AD n) (AS e0 0 args) h):=by
 have hb:AD.get 24=some b24:=by kernel_rfl
 rw[Ah hb];have hd:b24=⟨[.t (AB 4)],d24⟩:=by kernel_rfl
 rw[hd,AX hl]
theorem kD{n:Nat}{args:List BY}{h:Hp}(hl:vJ (A8 args) 160=true):call AD (vD n) 26 args h=A4 [] (d26 (call AD n) (AS e0 0 args) h):=by
 have hb:AD.get 26=some b26:=by kernel_rfl
 rw[Ah hb];have hd:b26=⟨[],d26⟩:=by kernel_rfl
 rw[hd,AX hl]
theorem OO{n:Nat}{args:List BY}{h:Hp}(hl:vJ (A8 args) 160=true):call AD (vD n) 29 args h=A4 [.t (AB 8)] (d29 (call AD n) (AS e0 0 args) h):=by
 have hb:AD.get 29=some b29:=by kernel_rfl
 rw[Ah hb];have hd:b29=⟨[.t (AB 8)],d29⟩:=by kernel_rfl
 rw[hd,AX hl]
theorem SO{n:Nat}{args:List BY}{h:Hp}(hl:vJ (A8 args) 160=true):call AD (vD n) 30 args h=A4 [.t (AB 8)] (d30 (call AD n) (AS e0 0 args) h):=by
 have hb:AD.get 30=some b30:=by kernel_rfl
 rw[Ah hb];have hd:b30=⟨[.t (AB 8)],d30⟩:=by kernel_rfl
 rw[hd,AX hl]
theorem kG{n:Nat}{args:List BY}{h:Hp}(hl:vJ (A8 args) 160=true):call AD (vD n) 32 args h=A4 [.t (AB 4)] (d32 (call AD n) (AS e0 0 args) h):=by
 have hb:AD.get 32=some b32:=by kernel_rfl
 rw[Ah hb];have hd:b32=⟨[.t (AB 4)],d32⟩:=by kernel_rfl
 rw[hd,AX hl]
theorem kH{n:Nat}{args:List BY}{h:Hp}(hl:vJ (A8 args) 160=true):call AD (vD n) 35 args h=A4 [.t (AB 2),.t (AB 3)] (d35 (call AD n) (AS e0 0 args) h):=by
 have hb:AD.get 35=some b35:=by kernel_rfl
 rw[Ah hb];have hd:b35=⟨[.t (AB 2),.t (AB 3)],d35⟩:=by kernel_rfl
 rw[hd,AX hl]
theorem Xb{n:Nat}{args:List BY}{h:Hp}(hl:vJ (A8 args) 160=true):call AD (vD n) 38 args h=A4 [.t (AB 2)] (d38 (call AD n) (AS e0 0 args) h):=by
 have hb:AD.get 38=some b38:=by kernel_rfl
 rw[Ah hb];have hd:b38=⟨[.t (AB 2)],d38⟩:=by kernel_rfl
 rw[hd,AX hl]
theorem IO{n:Nat}{args:List BY}{h:Hp}(hl:vJ (A8 args) 160=true):call AD (vD n) 39 args h=A4 [.t (AB 2)] (d39 (call AD n) (AS e0 0 args) h):=by
 have hb:AD.get 39=some b39:=by kernel_rfl
 rw[Ah hb];have hd:b39=⟨[.t (AB 2)],d39⟩:=by kernel_rfl
 rw[hd,AX hl]
theorem kI{n:Nat}{args:List BY}{h:Hp}(hl:vJ (A8 args) 160=true):call AD (vD n) 40 args h=A4 [.t (AB 2)] (d40 (call AD n) (AS e0 0 args) h):=by
 have hb:AD.get 40=some b40:=by kernel_rfl
 rw[Ah hb];have hd:b40=⟨[.t (AB 2)],d40⟩:=by kernel_rfl
 rw[hd,AX hl]
theorem kJ{n:Nat}{args:List BY}{h:Hp}(hl:vJ (A8 args) 160=true):call AD (vD n) 41 args h=A4 [.t (AB 8)] (d41 (call AD n) (AS e0 0 args) h):=by
 have hb:AD.get 41=some b41:=by kernel_rfl
 rw[Ah hb];have hd:b41=⟨[.t (AB 8)],d41⟩:=by kernel_rfl
 rw[hd,AX hl]
theorem SP{n:Nat}{args:List BY}{h:Hp}(hl:vJ (A8 args) 160=true):call AD (vD n) 42 args h=A4 [.t (AB 4)] (d42 (call AD n) (AS e0 0 args) h):=by
 have hb:AD.get 42=some b42:=by kernel_rfl
 rw[Ah hb];have hd:b42=⟨[.t (AB 4)],d42⟩:=by kernel_rfl
 rw[hd,AX hl]
theorem kK{n:Nat}{args:List BY}{h:Hp}(hl:vJ (A8 args) 160=true):call AD (vD n) 43 args h=A4 [.t (AB 8)] (d43 (call AD n) (AS e0 0 args) h):=by
 have hb:AD.get 43=some b43:=by kernel_rfl
 rw[Ah hb];have hd:b43=⟨[.t (AB 8)],d43⟩:=by kernel_rfl
 rw[hd,AX hl]
theorem Xc{n:Nat}{args:List BY}{h:Hp}(hl:vJ (A8 args) 160=true):call AD (vD n) 44 args h=A4 [.t (AB 4),.t (AB 5)] (d44 (call AD n) (AS e0 0 args) h):=by
 have hb:AD.get 44=some b44:=by kernel_rfl
 rw[Ah hb];have hd:b44=⟨[.t (AB 4),.t (AB 5)],d44⟩:=by kernel_rfl
 rw[hd,AX hl]
theorem kL{n:Nat}{args:List BY}{h:Hp}(hl:vJ (A8 args) 160=true):call AD (vD n) 45 args h=A4 [.t (AB 6)] (d45 (call AD n) (AS e0 0 args) h):=by
 have hb:AD.get 45=some b45:=by kernel_rfl
 rw[Ah hb];have hd:b45=⟨[.t (AB 6)],d45⟩:=by kernel_rfl
 rw[hd,AX hl]
theorem kM{n:Nat}{args:List BY}{h:Hp}(hl:vJ (A8 args) 160=true):call AD (vD n) 46 args h=A4 [.t (AB 4)] (d46 (call AD n) (AS e0 0 args) h):=by
 have hb:AD.get 46=some b46:=by kernel_rfl
 rw[Ah hb];have hd:b46=⟨[.t (AB 4)],d46⟩:=by kernel_rfl
 rw[hd,AX hl]
theorem Xd{n:Nat}{args:List BY}{h:Hp}(hl:vJ (A8 args) 160=true):call AD (vD n) 47 args h=A4 [.t (AB 4)] (d47 (call AD n) (AS e0 0 args) h):=by
 have hb:AD.get 47=some b47:=by kernel_rfl
 rw[Ah hb];have hd:b47=⟨[.t (AB 4)],d47⟩:=by kernel_rfl
 rw[hd,AX hl]
theorem Jx{n:Nat}{args:List BY}{h:Hp}(hl:vJ (A8 args) 160=true):call AD (vD n) 48 args h=A4 [.t (AB 2)] (d48 (call AD n) (AS e0 0 args) h):=by
 have hb:AD.get 48=some b48:=by kernel_rfl
 rw[Ah hb];have hd:b48=⟨[.t (AB 2)],d48⟩:=by kernel_rfl
 rw[hd,AX hl]
theorem SQ{n:Nat}{args:List BY}{h:Hp}(hl:vJ (A8 args) 160=true):call AD (vD n) 49 args h=A4 [.t (AB 2)] (d49 (call AD n) (AS e0 0 args) h):=by
 have hb:AD.get 49=some b49:=by kernel_rfl
 rw[Ah hb];have hd:b49=⟨[.t (AB 2)],d49⟩:=by kernel_rfl
 rw[hd,AX hl]
theorem Xe{n:Nat}{args:List BY}{h:Hp}(hl:vJ (A8 args) 160=true):call AD (vD n) 50 args h=A4 [] (d50 (call AD n) (AS e0 0 args) h):=by
 have hb:AD.get 50=some b50:=by kernel_rfl
 rw[Ah hb];have hd:b50=⟨[],d50⟩:=by kernel_rfl
 rw[hd,AX hl]
theorem kN{n:Nat}{args:List BY}{h:Hp}(hl:vJ (A8 args) 160=true):call AD (vD n) 51 args h=A4 [.t (AB 4)] (d51 (call AD n) (AS e0 0 args) h):=by
 have hb:AD.get 51=some b51:=by kernel_rfl
 rw[Ah hb];have hd:b51=⟨[.t (AB 4)],d51⟩:=by kernel_rfl
 rw[hd,AX hl]
theorem kO{n:Nat}{args:List BY}{h:Hp}(hl:vJ (A8 args) 160=true):call AD (vD n) 52 args h=A4 [.t (AB 4)] (d52 (call AD n) (AS e0 0 args) h):=by
 have hb:AD.get 52=some b52:=by kernel_rfl
 rw[Ah hb];have hd:b52=⟨[.t (AB 4)],d52⟩:=by kernel_rfl
 rw[hd,AX hl]
theorem Xf{n:Nat}{args:List BY}{h:Hp}(hl:vJ (A8 args) 160=true):call AD (vD n) 53 args h=A4 [.t (AB 4)] (d53 (call AD n) (AS e0 0 args) h):=by
 have hb:AD.get 53=some b53:=by kernel_rfl
 rw[Ah hb];have hd:b53=⟨[.t (AB 4)],d53⟩:=by kernel_rfl
 rw[hd,AX hl]
theorem kP{n:Nat}{args:List BY}{h:Hp}(hl:vJ (A8 args) 160=true):call AD (vD n) 54 args h=A4 [.t (AB 2)] (d54 (call AD n) (AS e0 0 args) h):=by
 have hb:AD.get 54=some b54:=by kernel_rfl
 rw[Ah hb];have hd:b54=⟨[.t (AB 2)],d54⟩:=by kernel_rfl
 rw[hd,AX hl]
theorem kQ{n:Nat}{args:List BY}{h:Hp}(hl:vJ (A8 args) 160=true):call AD (vD n) 55 args h=A4 [.cN (AB 4) 6,.t (AB 5),.t (AB 6),.t (AB 7)] (d55 (call AD n) (AS e0 0 args) h):=by
 have hb:AD.get 55=some b55:=by kernel_rfl
 rw[Ah hb];have hd:b55=⟨[.cN (AB 4) 6,.t (AB 5),.t (AB 6),.t (AB 7)],d55⟩:=by kernel_rfl
 rw[hd,AX hl]
theorem kR{n:Nat}{args:List BY}{h:Hp}(hl:vJ (A8 args) 160=true):call AD (vD n) 56 args h=A4 [.t (AB 2)] (d56 (call AD n) (AS e0 0 args) h):=by
 have hb:AD.get 56=some b56:=by kernel_rfl
 rw[Ah hb];have hd:b56=⟨[.t (AB 2)],d56⟩:=by kernel_rfl
 rw[hd,AX hl]
theorem kS{n:Nat}{args:List BY}{h:Hp}(hl:vJ (A8 args) 160=true):call AD (vD n) 57 args h=A4 [.t (AB 2)] (d57 (call AD n) (AS e0 0 args) h):=by
 have hb:AD.get 57=some b57:=by kernel_rfl
 rw[Ah hb];have hd:b57=⟨[.t (AB 2)],d57⟩:=by kernel_rfl
 rw[hd,AX hl]
theorem kT{n:Nat}{args:List BY}{h:Hp}(hl:vJ (A8 args) 160=true):call AD (vD n) 58 args h=A4 [.t (AB 2)] (d58 (call AD n) (AS e0 0 args) h):=by
 have hb:AD.get 58=some b58:=by kernel_rfl
 rw[Ah hb];have hd:b58=⟨[.t (AB 2)],d58⟩:=by kernel_rfl
 rw[hd,AX hl]
theorem kU{n:Nat}{args:List BY}{h:Hp}(hl:vJ (A8 args) 160=true):call AD (vD n) 59 args h=A4 [.t (AB 2)] (d59 (call AD n) (AS e0 0 args) h):=by
 have hb:AD.get 59=some b59:=by kernel_rfl
 rw[Ah hb];have hd:b59=⟨[.t (AB 2)],d59⟩:=by kernel_rfl
 rw[hd,AX hl]
theorem kW{n:Nat}{args:List BY}{h:Hp}(hl:vJ (A8 args) 160=true):call AD (vD n) 60 args h=A4 [.t (AB 3)] (d60 (call AD n) (AS e0 0 args) h):=by
 have hb:AD.get 60=some b60:=by kernel_rfl
 rw[Ah hb];have hd:b60=⟨[.t (AB 3)],d60⟩:=by kernel_rfl
 rw[hd,AX hl]
theorem kX{n:Nat}{args:List BY}{h:Hp}(hl:vJ (A8 args) 160=true):call AD (vD n) 61 args h=A4 [.t (AB 4)] (d61 (call AD n) (AS e0 0 args) h):=by
 have hb:AD.get 61=some b61:=by kernel_rfl
 rw[Ah hb];have hd:b61=⟨[.t (AB 4)],d61⟩:=by kernel_rfl
 rw[hd,AX hl]
theorem kY{n:Nat}{args:List BY}{h:Hp}(hl:vJ (A8 args) 160=true):call AD (vD n) 62 args h=A4 [.t (AB 3)] (d62 (call AD n) (AS e0 0 args) h):=by
 have hb:AD.get 62=some b62:=by kernel_rfl
 rw[Ah hb];have hd:b62=⟨[.t (AB 3)],d62⟩:=by kernel_rfl
 rw[hd,AX hl]
theorem kZ{n:Nat}{args:List BY}{h:Hp}(hl:vJ (A8 args) 160=true):call AD (vD n) 63 args h=A4 [.t (AB 4)] (d63 (call AD n) (AS e0 0 args) h):=by
 have hb:AD.get 63=some b63:=by kernel_rfl
 rw[Ah hb];have hd:b63=⟨[.t (AB 4)],d63⟩:=by kernel_rfl
 rw[hd,AX hl]
theorem kh{n:Nat}{args:List BY}{h:Hp}(hl:vJ (A8 args) 160=true):call AD (vD n) 64 args h=A4 [.t (AB 6)] (d64 (call AD n) (AS e0 0 args) h):=by
 have hb:AD.get 64=some b64:=by kernel_rfl
 rw[Ah hb];have hd:b64=⟨[.t (AB 6)],d64⟩:=by kernel_rfl
 rw[hd,AX hl]
theorem kj{n:Nat}{args:List BY}{h:Hp}(hl:vJ (A8 args) 160=true):call AD (vD n) 65 args h=A4 [.cN (AB 2) 5] (d65 (call AD n) (AS e0 0 args) h):=by
 have hb:AD.get 65=some b65:=by kernel_rfl
 rw[Ah hb];have hd:b65=⟨[.cN (AB 2) 5],d65⟩:=by kernel_rfl
 rw[hd,AX hl]
theorem Xh{n:Nat}{args:List BY}{h:Hp}(hl:vJ (A8 args) 160=true):call AD (vD n) 68 args h=A4 [.t (AB 4)] (d68 (call AD n) (AS e0 0 args) h):=by
 have hb:AD.get 68=some b68:=by kernel_rfl
 rw[Ah hb];have hd:b68=⟨[.t (AB 4)],d68⟩:=by kernel_rfl
 rw[hd,AX hl]
theorem Xi{n:Nat}{args:List BY}{h:Hp}(hl:vJ (A8 args) 160=true):call AD (vD n) 69 args h=A4 [.t (AB 4)] (d69 (call AD n) (AS e0 0 args) h):=by
 have hb:AD.get 69=some b69:=by kernel_rfl
 rw[Ah hb];have hd:b69=⟨[.t (AB 4)],d69⟩:=by kernel_rfl
 rw[hd,AX hl]
theorem kr{n:Nat}{args:List BY}{h:Hp}(hl:vJ (A8 args) 160=true):call AD (vD n) 70 args h=A4 [.t (AB 5)] (d70 (call AD n) (AS e0 0 args) h):=by
 have hb:AD.get 70=some b70:=by kernel_rfl
 rw[Ah hb];have hd:b70=⟨[.t (AB 5)],d70⟩:=by kernel_rfl
 rw[hd,AX hl]
theorem kz{n:Nat}{args:List BY}{h:Hp}(hl:vJ (A8 args) 160=true):call AD (vD n) 71 args h=A4 [.t (AB 4)] (d71 (call AD n) (AS e0 0 args) h):=by
 have hb:AD.get 71=some b71:=by kernel_rfl
 rw[Ah hb];have hd:b71=⟨[.t (AB 4)],d71⟩:=by kernel_rfl
 rw[hd,AX hl]
theorem lB{n:Nat}{args:List BY}{h:Hp}(hl:vJ (A8 args) 160=true):call AD (vD n) 72 args h=A4 [.t (AB 4)] (d72 (call AD n) (AS e0 0 args) h):=by
 have hb:AD.get 72=some b72:=by kernel_rfl
 rw[Ah hb];have hd:b72=⟨[.t (AB 4)],d72⟩:=by kernel_rfl
 rw[hd,AX hl]
theorem lC{n:Nat}{args:List BY}{h:Hp}(hl:vJ (A8 args) 160=true):call AD (vD n) 73 args h=A4 [.t (AB 4)] (d73 (call AD n) (AS e0 0 args) h):=by
 have hb:AD.get 73=some b73:=by kernel_rfl
 rw[Ah hb];have hd:b73=⟨[.t (AB 4)],d73⟩:=by kernel_rfl
 rw[hd,AX hl]
theorem Xj{n:Nat}{args:List BY}{h:Hp}(hl:vJ (A8 args) 160=true):call AD (vD n) 74 args h=A4 [.t (AB 3)] (d74 (call AD n) (AS e0 0 args) h):=by
 have hb:AD.get 74=some b74:=by kernel_rfl
 rw[Ah hb];have hd:b74=⟨[.t (AB 3)],d74⟩:=by kernel_rfl
 rw[hd,AX hl]
theorem Xk{n:Nat}{args:List BY}{h:Hp}(hl:vJ (A8 args) 160=true):call AD (vD n) 75 args h=A4 [.t (AB 6)] (d75 (call AD n) (AS e0 0 args) h):=by
 have hb:AD.get 75=some b75:=by kernel_rfl
 rw[Ah hb];have hd:b75=⟨[.t (AB 6)],d75⟩:=by kernel_rfl
 rw[hd,AX hl]
theorem Xl{n:Nat}{args:List BY}{h:Hp}(hl:vJ (A8 args) 160=true):call AD (vD n) 76 args h=A4 [.t (AB 2)] (d76 (call AD n) (AS e0 0 args) h):=by
 have hb:AD.get 76=some b76:=by kernel_rfl
 rw[Ah hb];have hd:b76=⟨[.t (AB 2)],d76⟩:=by kernel_rfl
 rw[hd,AX hl]
theorem Xm{n:Nat}{args:List BY}{h:Hp}(hl:vJ (A8 args) 160=true):call AD (vD n) 77 args h=A4 [] (d77 (call AD n) (AS e0 0 args) h):=by
 have hb:AD.get 77=some b77:=by kernel_rfl
 rw[Ah hb];have hd:b77=⟨[],d77⟩:=by kernel_rfl
 rw[hd,AX hl]
theorem lD{n:Nat}{args:List BY}{h:Hp}(hl:vJ (A8 args) 160=true):call AD (vD n) 78 args h=A4 [.t (AB 2)] (d78 (call AD n) (AS e0 0 args) h):=by
 have hb:AD.get 78=some b78:=by kernel_rfl
 rw[Ah hb];have hd:b78=⟨[.t (AB 2)],d78⟩:=by kernel_rfl
 rw[hd,AX hl]
theorem Xn{n:Nat}{args:List BY}{h:Hp}(hl:vJ (A8 args) 160=true):call AD (vD n) 79 args h=A4 [.t (AB 2)] (d79 (call AD n) (AS e0 0 args) h):=by
 have hb:AD.get 79=some b79:=by kernel_rfl
 rw[Ah hb];have hd:b79=⟨[.t (AB 2)],d79⟩:=by kernel_rfl
 rw[hd,AX hl]
theorem lE{n:Nat}{args:List BY}{h:Hp}(hl:vJ (A8 args) 160=true):call AD (vD n) 80 args h=A4 [.t (AB 4)] (d80 (call AD n) (AS e0 0 args) h):=by
 have hb:AD.get 80=some b80:=by kernel_rfl
 rw[Ah hb];have hd:b80=⟨[.t (AB 4)],d80⟩:=by kernel_rfl
 rw[hd,AX hl]
theorem lF{n:Nat}{args:List BY}{h:Hp}(hl:vJ (A8 args) 160=true):call AD (vD n) 81 args h=A4 [.t (AB 6)] (d81 (call AD n) (AS e0 0 args) h):=by
 have hb:AD.get 81=some b81:=by kernel_rfl
 rw[Ah hb];have hd:b81=⟨[.t (AB 6)],d81⟩:=by kernel_rfl
 rw[hd,AX hl]
theorem Xo{n:Nat}{args:List BY}{h:Hp}(hl:vJ (A8 args) 160=true):call AD (vD n) 83 args h=A4 [.t (AB 2)] (d83 (call AD n) (AS e0 0 args) h):=by
 have hb:AD.get 83=some b83:=by kernel_rfl
 rw[Ah hb];have hd:b83=⟨[.t (AB 2)],d83⟩:=by kernel_rfl
 rw[hd,AX hl]
theorem lH{n:Nat}{args:List BY}{h:Hp}(hl:vJ (A8 args) 160=true):call AD (vD n) 84 args h=A4 [.t (AB 4),.t (AB 5)] (d84 (call AD n) (AS e0 0 args) h):=by
 have hb:AD.get 84=some b84:=by kernel_rfl
 rw[Ah hb];have hd:b84=⟨[.t (AB 4),.t (AB 5)],d84⟩:=by kernel_rfl
 rw[hd,AX hl]
theorem OP{n:Nat}{args:List BY}{h:Hp}(hl:vJ (A8 args) 160=true):call AD (vD n) 85 args h=A4 [.t (AB 4)] (d85 (call AD n) (AS e0 0 args) h):=by
 have hb:AD.get 85=some b85:=by kernel_rfl
 rw[Ah hb];have hd:b85=⟨[.t (AB 4)],d85⟩:=by kernel_rfl
 rw[hd,AX hl]
theorem lI{n:Nat}{args:List BY}{h:Hp}(hl:vJ (A8 args) 160=true):call AD (vD n) 86 args h=A4 [.t (AB 2)] (d86 (call AD n) (AS e0 0 args) h):=by
 have hb:AD.get 86=some b86:=by kernel_rfl
 rw[Ah hb];have hd:b86=⟨[.t (AB 2)],d86⟩:=by kernel_rfl
 rw[hd,AX hl]
theorem Ln{n:Nat}{args:List BY}{h:Hp}(hl:vJ (A8 args) 160=true):call AD (vD n) 87 args h=A4 [.cN (AB 4) 5,.t (AB 5),.t (AB 6),.t (AB 7)] (d87 (call AD n) (AS e0 0 args) h):=by
 have hb:AD.get 87=some b87:=by kernel_rfl
 rw[Ah hb];have hd:b87=⟨[.cN (AB 4) 5,.t (AB 5),.t (AB 6),.t (AB 7)],d87⟩:=by kernel_rfl
 rw[hd,AX hl]
theorem Xp{n:Nat}{args:List BY}{h:Hp}(hl:vJ (A8 args) 160=true):call AD (vD n) 88 args h=A4 [.t (AB 6),.t (AB 7)] (d88 (call AD n) (AS e0 0 args) h):=by
 have hb:AD.get 88=some b88:=by kernel_rfl
 rw[Ah hb];have hd:b88=⟨[.t (AB 6),.t (AB 7)],d88⟩:=by kernel_rfl
 rw[hd,AX hl]
theorem lJ{n:Nat}{args:List BY}{h:Hp}(hl:vJ (A8 args) 160=true):call AD (vD n) 89 args h=A4 [.t (AB 3)] (d89 (call AD n) (AS e0 0 args) h):=by
 have hb:AD.get 89=some b89:=by kernel_rfl
 rw[Ah hb];have hd:b89=⟨[.t (AB 3)],d89⟩:=by kernel_rfl
 rw[hd,AX hl]
theorem lK{n:Nat}{args:List BY}{h:Hp}(hl:vJ (A8 args) 160=true):call AD (vD n) 90 args h=A4 [.t (AB 3)] (d90 (call AD n) (AS e0 0 args) h):=by
 have hb:AD.get 90=some b90:=by kernel_rfl
 rw[Ah hb];have hd:b90=⟨[.t (AB 3)],d90⟩:=by kernel_rfl
 rw[hd,AX hl]
theorem lM{n:Nat}{args:List BY}{h:Hp}(hl:vJ (A8 args) 160=true):call AD (vD n) 91 args h=A4 [.t (AB 4)] (d91 (call AD n) (AS e0 0 args) h):=by
 have hb:AD.get 91=some b91:=by kernel_rfl
 rw[Ah hb];have hd:b91=⟨[.t (AB 4)],d91⟩:=by kernel_rfl
 rw[hd,AX hl]
theorem lN{n:Nat}{args:List BY}{h:Hp}(hl:vJ (A8 args) 160=true):call AD (vD n) 92 args h=A4 [.t (AB 4)] (d92 (call AD n) (AS e0 0 args) h):=by
 have hb:AD.get 92=some b92:=by kernel_rfl
 rw[Ah hb];have hd:b92=⟨[.t (AB 4)],d92⟩:=by kernel_rfl
 rw[hd,AX hl]
theorem lO{n:Nat}{args:List BY}{h:Hp}(hl:vJ (A8 args) 160=true):call AD (vD n) 95 args h=A4 [.t (AB 4)] (d95 (call AD n) (AS e0 0 args) h):=by
 have hb:AD.get 95=some b95:=by kernel_rfl
 rw[Ah hb];have hd:b95=⟨[.t (AB 4)],d95⟩:=by kernel_rfl
 rw[hd,AX hl]
theorem Xq{n:Nat}{args:List BY}{h:Hp}(hl:vJ (A8 args) 160=true):call AD (vD n) 96 args h=A4 [.t (AB 2)] (d96 (call AD n) (AS e0 0 args) h):=by
 have hb:AD.get 96=some b96:=by kernel_rfl
 rw[Ah hb];have hd:b96=⟨[.t (AB 2)],d96⟩:=by kernel_rfl
 rw[hd,AX hl]
theorem Xr{n:Nat}{args:List BY}{h:Hp}(hl:vJ (A8 args) 160=true):call AD (vD n) 97 args h=A4 [] (d97 (call AD n) (AS e0 0 args) h):=by
 have hb:AD.get 97=some b97:=by kernel_rfl
 rw[Ah hb];have hd:b97=⟨[],d97⟩:=by kernel_rfl
 rw[hd,AX hl]
theorem bt{n:Nat}{args:List BY}{h:Hp}(hl:vJ (A8 args) 160=true):call AD (vD n) 106 args h=A4 [.t (AB 2)] (cP (call AD n) (AS e0 0 args) h):=by
 have hb:AD.get 106=some VU:=by kernel_rfl
 rw[Ah hb];have hd:VU=⟨[.t (AB 2)],cP⟩:=by kernel_rfl
 rw[hd,AX hl]
theorem Tm{n:Nat}{args:List BY}{h:Hp}(hl:vJ (A8 args) 160=true):call AD (vD n) 107 args h=A4 [.t (AB 2)] (X6 (call AD n) (AS e0 0 args) h):=by
 have hb:AD.get 107=some VV:=by kernel_rfl
 rw[Ah hb];have hd:VV=⟨[.t (AB 2)],X6⟩:=by kernel_rfl
 rw[hd,AX hl]
theorem LH{n:Nat}{args:List BY}{h:Hp}(hl:vJ (A8 args) 160=true):call AD (vD n) 109 args h=A4 [.t (AB 4)] (cT (call AD n) (AS e0 0 args) h):=by
 have hb:AD.get 109=some VX:=by kernel_rfl
 rw[Ah hb];have hd:VX=⟨[.t (AB 4)],cT⟩:=by kernel_rfl
 rw[hd,AX hl]
theorem ON{n:Nat}{args:List BY}{h:Hp}(hl:vJ (A8 args) 160=true):call AD (vD n) 110 args h=A4 [.t (AB 4),.t (AB 5)] (Vn (call AD n) (AS e0 0 args) h):=by
 have hb:AD.get 110=some VY:=by kernel_rfl
 rw[Ah hb];have hd:VY=⟨[.t (AB 4),.t (AB 5)],Vn⟩:=by kernel_rfl
 rw[hd,AX hl]
theorem Tn{n:Nat}{args:List BY}{h:Hp}(hl:vJ (A8 args) 160=true):call AD (vD n) 111 args h=A4 [.t (AB 4),.t (AB 5),.t (AB 6)] (cU (call AD n) (AS e0 0 args) h):=by
 have hb:AD.get 111=some VZ:=by kernel_rfl
 rw[Ah hb];have hd:VZ=⟨[.t (AB 4),.t (AB 5),.t (AB 6)],cU⟩:=by kernel_rfl
 rw[hd,AX hl]
theorem bz{n:Nat}{args:List BY}{h:Hp}(hl:vJ (A8 args) 160=true):call AD (vD n) 112 args h=A4 [.t (AB 2)] (cV (call AD n) (AS e0 0 args) h):=by
 have hb:AD.get 112=some Va:=by kernel_rfl
 rw[Ah hb];have hd:Va=⟨[.t (AB 2)],cV⟩:=by kernel_rfl
 rw[hd,AX hl]
end
noncomputable section
open Go
set_option maxRecDepth 100000
theorem iG:BO ty5.zero 1=[.int .u8 0]:=by kernel_rfl
theorem lw:d72=AG (AC 4) (AE (kV (.slice none 0 0))) (BK (Ad 0 (Ay M0)) bC):=rfl
theorem XC{F:ADS}{h0 h:Hp}{k:Nat}(x0:h0.Ext h)(hk:h0.next≤k)(hk2:k≤h.next){v:BY}{l:List Nat}(o:h.Own k 5 v (l.map bv))(hl:l.length≤1000000){N:Nat}(hN:N<18446744073709551616){e:Env}(s0:AB 0 e=v)(s1:AB 1 e=.int .u64 (N:Int)):
  ∃ e' h' v' xs m,Ay M0 F e h=.exit 0 e' h'∧AB 0 e'=v'∧AB 1 e'=.int .u64 ((m:Nat):Int)∧m<128∧l++B3 N=xs++[m]∧h0.Ext h'∧h'.Own k 5 v' (xs.map bv)∧h.next≤h'.next∧(∀ b el L,¬ ADv v b→h.Row b el L→h'.Row b el L∧¬ ADv v' b):=by
 have AI3:=KY hN;refine BU (I:=fun i e' h'=>∃ v' xs m,AB 0 e'=v'∧AB 1 e'=.int .u64 ((m:Nat):Int)∧m<18446744073709551616∧l++B3 N=xs++B3 m∧i+(B3 m).length=(B3 N).length∧h0.Ext h'∧h'.Own k 5 v' (xs.map bv)∧h.next≤h'.next∧(∀ b el L,¬ ADv v b→h.Row b el L→h'.Row b el L∧¬ ADv v' b))
  (Q:=fun x=>∃ e' h' v' xs m,x=.exit 0 e' h'∧AB 0 e'=v'∧AB 1 e'=.int .u64 ((m:Nat):Int)∧m<128∧l++B3 N=xs++[m]∧h0.Ext h'∧h'.Own k 5 v' (xs.map bv)∧h.next≤h'.next∧(∀ b el L,¬ ADv v b→h.Row b el L→h'.Row b el L∧¬ ADv v' b)) 20 (by omega) (fun i e' h' ⟨v',xs,m,t0,t1,hm,hx,hi,x1,o1,hn,fr⟩=>?_)
  ⟨v,l,N,s0,s1,hN,rfl,sh _,x0,o,IN _,fun b el L hb r=>⟨r,hb⟩⟩
 have hlen:=congrArg zY hx;rw[IT,IT]at hlen;by_cases h1:m<128
 ·right
  have c1:iGt (m:Int) 127=false:=by rw[HH];simp;omega
  have hrun:M0 F e' h'=.exit 0 (Env.set 6 (.bool false) e') h':=by
   unfold M0;simp only[sT,AT,AI,reduceIte,AM,AK,t1,c1]
  rw[hrun];refine⟨rfl,_,_,v',xs,m,rfl,by simp[AF,t0],by simp[AF,t1],h1,?_,x1,o1,hn,fr⟩;rw[hx,Ew h1]
 ·left
  have W:=x1.wf;have c1:iGt (m:Int) 127=true:=by rw[HH];simp;omega
  have r1:NG .u64 (.int .u64 (m:Int)) (.int .u64 128) h'=.ok (.int .u64 ((m % 128:Nat):Int)) h':=by rw[PB (by omega)];rfl
  have a1:FH .u64 (.int .u64 ((m % 128:Nat):Int)) (.int .u64 128) h'=.ok (.int .u64 ((m % 128+128:Nat):Int)) h':=by
   have:AAy.wrap (((m % 128:Nat):Int)+128)=((m % 128+128:Nat):Int):=by
    rw[show((m % 128:Nat):Int)+128=((m % 128+128:Nat):Int)by omega];exact EI (by omega)
   rw[Ee,this]
  have v1:DH .u8 (.int .u64 ((m % 128+128:Nat):Int)) h'=.ok (.int .u8 ((m % 128+128:Nat):Int)) h':=by
   rw[CU,Gp,yi (show m % 128+128<256 by omega)]
  have os:∀ e,AB 11 e=.int .u8 ((m % 128+128:Nat):Int)→Ak 1 (BO ty5.zero 1) [(0,1,AB 11)] F e h'=.ok (.slice (some ⟨h'.next,0,none⟩) 1 1) (h'.ADR 0 [.int .u8 ((m % 128+128:Nat):Int)]):=fun e he=>by rw[iG];exact H6 W he rfl rfl
  have hpos:=XB (m/128);rw[GQ (n:=m) (by omega)]at hi hlen hx;rw[vI]at hi hlen;obtain⟨h2,v2,a2,x2,o2,hn2,fr2⟩:=JT (eb:=1) (n:=((m % 128+128:Nat):Int)) (kd:=.u8) x1 hk (vw hk2 hn) o1 (by rw[If];omega);have d1:OR .u64 (.int .u64 (m:Int)) (.int .u64 128) h2=.ok (.int .u64 ((m/128:Nat):Int)) h2:=by
   have:AAy.wrap ((m:Int).tdiv 128)=((m/128:Nat):Int):=EI (n:=m/128) (by omega);rw[I5 (by omega),this]
  have hrun:∃ e2,M0 F e' h'=.norm e2 h2∧AB 0 e2=v2∧AB 1 e2=.int .u64 ((m/128:Nat):Int):=by
   unfold M0;simp only[sT,AT,AI,reduceIte,AM,AK,t1,c1,H4,r1,BF,a1,B8,v1,os,BG,t0,a2,H3,d1];exact⟨_,rfl,by simp[AF]⟩
  obtain⟨e2,b1,b2,b3⟩:=hrun;refine⟨by omega,e2,h2,b1,v2,xs++[m % 128+128],m/128,b2,b3,by omega,?_,by omega,x2,?_,by omega,fun b el L hb r=>?_⟩
  ·rw[hx];simp
  ·rw[v8];exact o2
  ·obtain⟨r1,r2⟩:=fr b el L hb r
   exact fr2 b el L r2 r1
theorem gR{n:Nat}{h0 h:Hp}{k:Nat}(x0:h0.Ext h)(hk:h0.next≤k)(hk2:k≤h.next){v:BY}{l:List Nat}(o:h.Own k 5 v (l.map bv))(hl:l.length≤1000000){N:Nat}(hN:N<18446744073709551616):
  ∃ h' v',call AD (n+1) 72 [v,.int .u64 (N:Int)] h=.ok v' h'∧h0.Ext h'∧h'.Own k 5 v' ((l++B3 N).map bv)∧h.next≤h'.next∧(∀ b el L,¬ ADv v b→h.Row b el L→h'.Row b el L∧¬ ADv v' b):=by
 obtain⟨e1,h1,v1,xs,m,q1,s0,s1,hm,hx,x1,o1,hn,fr⟩:=XC (F:=call AD n) x0 hk hk2 o hl hN (e:=Env.set 4 (.slice none 0 0) (Env.set 1 (.int .u64 (N:Int)) (Env.set 0 v e0))) (by simp[AF]) (by simp[AF]);have W:=x1.wf;have AI3:=KY hN;have hlen:=congrArg zY hx;rw[IT,IT,List.length_singleton]at hlen;have c1:DH .u8 (.int .u64 (m:Int)) h1=.ok (.int .u8 (m:Int)) h1:=by
  rw[CU,Gp,yi (show m<256 by omega)]
 have os:∀ e,AB 18 e=.int .u8 (m:Int)→Ak 1 (BO ty5.zero 1) [(0,1,AB 18)] (call AD n) e h1=.ok (.slice (some ⟨h1.next,0,none⟩) 1 1) (h1.ADR 0 [.int .u8 (m:Int)]):=fun e he=>by rw[iG];exact H6 W he rfl rfl
 obtain⟨h2,v2,a2,x2,o2,hn2,fr2⟩:=JT (eb:=1) (n:=(m:Int)) (kd:=.u8) x1 hk (vw hk2 hn) o1 (by rw[If];omega);refine⟨h2,v2,?_,x2,?_,by omega,fun b el L hb r=>?_⟩
 ·rw[lB rfl,lw]
  simp only[iN,By,AF,AT,AI,reduceIte,F3,Gc,ED,HN,BE,Ax];rw[q1];simp only[A2,BA];unfold bC;simp only[sT,AT,AI,reduceIte,B8,s1,c1,os,BG,s0,a2,lV0]
 ·rw[hx,v8];exact o2
 ·obtain⟨r1,r2⟩:=fr b el L hb r
  exact fr2 b el L r2 r1
def iH(l:List Nat)(p:Nat)(a b c:Int):Prop:=(∃ v j:Nat,Fg 0 0 (l.drop p)=some (v,j)∧a=(v:Int)∧b=((p+j:Nat):Int)∧c=0)∨(Fg 0 0 (l.drop p)=none∧c≠0)
def OZ:C:=(AY (AB 46)
(AG (AC 4) (AE (kV (.int .u64 0)))
(AG (AC 5) (AE (kV (.int .i64 0)))
(AG (AC 6) (AE (kV (.int .i64 10)))
As)))
(AG (AC 49) (K8 .u8 (AB 9) (kV (.int .u8 128)))
(AG (AC 50) (Cf .u64 (AB 49))
(AG (AC 52) (Cj ABD .i64 (kV (.int .i64 7)) (AB 10))
(AG (AC 53) (NE .u64 (AB 50) (AB 52))
(AG (AC 54) (CC .u64 (BB .u64) (AB 7) (AB 53))
(AG (AC 7) (AE (AB 54))
(AG (AC 56) (Ai iLt .u8 (AB 9) (kV (.int .u8 128)))
(AY (AB 56)
(AG (AC 59) (CC .i64 (BB .i64) (AB 8) (kV (.int .i64 1)))
(AG (AC 4) (AE (AB 7))
(AG (AC 5) (AE (AB 59))
(AG (AC 6) (AE (kV (.int .i64 0)))
As))))
Av)))))))))
def mJ(K:C):C:=(AG (AC 34) (Ai iGt .i64 (AB 10) (kV (.int .i64 0)))
(cG (AB 34) true (AC 36) (AE (AB 9))
(cG (AB 34) true (AC 37) (Ai iEq .u8 (AB 36) (kV (.int .u8 0)))
(AG (AC 38) (A0 (AB 34) (AB 37) (kV (.bool false)))
(cG (AB 38) false (AC 40) (AE (AB 10))
(cG (AB 38) false (AC 41) (Ai iGt .i64 (AB 40) (kV (.int .i64 8)))
(cG (AB 38) false (AC 42) (AE (AB 41))
(cG (AB 42) true (AC 43) (AE (AB 9))
(cG (AB 42) true (AC 44) (Ai iGt .u8 (AB 43) (kV (.int .u8 1)))
(cG (AB 38) false (AC 45) (A0 (AB 42) (AB 44) (kV (.bool false)))
(AG (AC 46) (A0 (AB 38) (kV (.bool true)) (AB 45))
K)))))))))))
theorem UK:QD=AG (AC 22) (Bl (AB 0)) (AG (AC 23) (Ai iLt .i64 (AB 8) (AB 22)) (AY (AB 23) (BK (Ad 1 (AG (AC 28) (CD 1 (AB 0) (AB 8)) (AG (AC 29) (AP (AB 28)) (AG (AC 32) (Cj wA .i64 (AB 8) (AB 1)) (AG (AC 9) (AE (AB 29)) (AG (AC 10) (AE (AB 32)) (mJ OZ))))))) (AG (AC 25) (CC .i64 (BB .i64) (AB 8) (kV (.int .i64 1))) (AG (AC 8) (AE (AB 25)) Av))) (CA 0))):=rfl
theorem dR{K:C}{F:ADS}{h:Hp}{e:Env}{c i:Nat}{b1 b2 b3 b4:Bool}(s9:AB 9 e=.int .u8 (c:Int))(s10:AB 10 e=.int .i64 (i:Int))(i1:iGt (i:Int) 0=b1)(i2:iEq (c:Int) 0=b2)(i3:iGt (i:Int) 8=b3)(i4:iGt (c:Int) 1=b4):
  ∃ e',mJ K F e h=K F e' h∧AB 46 e'=.bool ((b1 && b2) || (b3 && b4))∧AB 0 e'=AB 0 e∧AB 1 e'=AB 1 e∧AB 7 e'=AB 7 e∧AB 8 e'=AB 8 e∧AB 9 e'=AB 9 e∧AB 10 e'=AB 10 e:=by
 unfold mJ;cases b1<;>cases b2<;>cases b3<;>cases b4<;>
 ·simp only[sT,AT,AI,reduceIte,gD,AM,AK,s9,s10,i1,i2,i3,i4]
  exact⟨_,rfl,by simp[AF],by simp[AF],by simp[AF],by simp[AF],by simp[AF],by simp only[AF,AT,AI,reduceIte,s9],by simp only[AF,AT,AI,reduceIte,s10]⟩
theorem RB{i:Nat}(hi:i≤9):2 ^ (7*i)≤9223372036854775808:=by
 have:2 ^ (7*i)≤2 ^ 63:=Nat.pow_le_pow_right (by omega) (by omega);have e:(2:Nat) ^ 63=9223372036854775808:=rfl;omega
theorem Yj{F:ADS}{h:Hp}{u:BY}{l:List Nat}{p:Nat}(V:h.ADo u (l.map bv))(hb:∀ x∈l,x<256)(hp:p≤l.length)(hl:l.length≤1000000){e:Env}(s0:AB 0 e=u)(s1:AB 1 e=.int .i64 (p:Int))(s7:AB 7 e=.int .u64 0)(s8:AB 8 e=.int .i64 (p:Int)):
  (∃ e',Ay QD F e h=.exit 0 e' h∧Fg 0 0 (l.drop p)=none)∨(∃ e' a b c,Ay QD F e h=.ret e' h∧AB 4 e'=.int .u64 a∧AB 5 e'=.int .i64 b∧AB 6 e'=.int .i64 c∧iH l p a b c):=by
 have Vl:AEL u h=.ok (.int .i64 (l.length:Int)) h:=by have:=V.len;rwa [If]at this
 refine BU (I:=fun i e' h'=>h'=h∧∃ acc:Nat,AB 0 e'=u∧AB 1 e'=.int .i64 (p:Int)∧AB 7 e'=.int .u64 (acc:Int)∧AB 8 e'=.int .i64 ((p+i:Nat):Int)∧acc<2 ^ (7*i)∧i≤9∧p+i≤l.length∧Fg 0 0 (l.drop p)=Fg i acc (l.drop (p+i)))
  (Q:=fun x=>(∃ e',x=.exit 0 e' h∧Fg 0 0 (l.drop p)=none)∨(∃ e' a b c,x=.ret e' h∧AB 4 e'=.int .u64 a∧AB 5 e'=.int .i64 b∧AB 6 e'=.int .i64 c∧iH l p a b c)) 20 (by omega) (fun i e' h' ⟨hh,acc,t0,t1,t7,t8,hacc,hi9,hpi,hu⟩=>?_)
  ⟨rfl,0,s0,s1,s7,s8,by decide,by omega,hp,rfl⟩
 subst hh;by_cases hlt:p+i<l.length
 ·have hc:l.getD (p+i) 0<256:=hb _ (by rw[OF,No hlt];exact List.getElem_mem hlt)
  have hd:l.drop (p+i)=l.getD (p+i) 0::l.drop (p+i+1):=by
   rw[wY hlt,OF,No hlt];rfl
  have hel:(l.map bv).getD (p+i) ADV=.int .u8 ((l.getD (p+i) 0:Nat):Int):=by
   rw[OF,wN,OF,No hlt];rfl
  obtain⟨a,g1,g2⟩:=V.at (i:=p+i) (by rw[If];exact hlt);rw[hel]at g2;rw[hd]at hu;generalize l.getD (p+i) 0=c at hc g2 hu;have c1:iLt ((p+i:Nat):Int) (l.length:Int)=true:=by rw[Cs];simp;omega
  have a2:Fc wA .i64 (.int .i64 ((p+i:Nat):Int)) (.int .i64 (p:Int)) h'=.ok (.int .i64 (i:Int)) h':=by
   have:wA ((p+i:Nat):Int) (p:Int)=(i:Int):=by show((p+i:Nat):Int) - (p:Int)=i;omega
   rw[CZ,this,BW (by omega)]
  have a3:FH .i64 (.int .i64 ((p+i:Nat):Int)) (.int .i64 1) h'=.ok (.int .i64 ((p+(i+1):Nat):Int)) h':=by
   have:((p+i:Nat):Int)+1=((p+(i+1):Nat):Int):=by omega
   rw[Ee,this,BW (by omega)]
  have pre:∃ e2,QD F e' h'=Wt (Js 1 (OZ F e2 h')) (AG (AC 25) (CC .i64 (BB .i64) (AB 8) (kV (.int .i64 1))) (AG (AC 8) (AE (AB 25)) Av)) F∧AB 46 e2=.bool ((decide (0<i) && decide (c=0)) || (decide (8<i) && decide (1<c)))∧AB 0 e2=u∧AB 1 e2=.int .i64 (p:Int)∧AB 7 e2=.int .u64 (acc:Int)∧AB 8 e2=.int .i64 ((p+i:Nat):Int)∧AB 9 e2=.int .u8 (c:Int)∧AB 10 e2=.int .i64 (i:Int):=by
   obtain⟨e2,q1,q2,q3,q4,q5,q6,q7,q8⟩:=dR (K:=OZ) (F:=F) (h:=h') (e:=Env.set 10 (.int .i64 (i:Int)) (Env.set 9 (.int .u8 (c:Int)) (Env.set 32 (.int .i64 (i:Int)) (Env.set 29 (.int .u8 (c:Int)) (Env.set 28 (.pointer (some a)) (Env.set 23 (.bool true) (Env.set 22 (.int .i64 (l.length:Int)) e'))))))) (c:=c) (i:=i) (b1:=decide (0<i)) (b2:=decide (c=0)) (b3:=decide (8<i)) (b4:=decide (1<c))
    (by simp[AF]) (by simp[AF]) (by rw[HH,decide_eq_decide];omega) (by rw[D9,Bool.eq_iff_iff,beq_iff_eq,decide_eq_true_eq];omega) (by rw[HH,decide_eq_decide];omega) (by rw[HH,decide_eq_decide];omega)
   refine⟨e2,?_,q2,?_,?_,?_,?_,?_,?_⟩
   ·rw[UK]
    simp only[F3,It,BE,Ax,Gc,IR,ED,HN,AF,AT,AI,reduceIte,Af,t0,Vl,AM,AK,t8,c1,A1,g1,AN,g2,Br,t1,a2,q1]
   ·rw[q3];simp only[AF,AT,AI,reduceIte];exact t0
   ·rw[q4];simp only[AF,AT,AI,reduceIte];exact t1
   ·rw[q5];simp only[AF,AT,AI,reduceIte];exact t7
   ·rw[q6];simp only[AF,AT,AI,reduceIte];exact t8
   ·rw[q7];simp only[AF,AT,AI,reduceIte]
   ·rw[q8];simp only[AF,AT,AI,reduceIte]
  obtain⟨e2,p1,p46,p0,pp1,p7,p8,p9,p10⟩:=pre;rw[Fg]at hu;by_cases AFg:(0<i∧c=0)∨(8<i∧1<c)
  ·right
   have hB:((decide (0<i) && decide (c=0)) || (decide (8<i) && decide (1<c)))=true:=by simpa using AFg
   rw[hB]at p46;rw[if_pos AFg]at hu;have hrun:∃ e3,OZ F e2 h'=.ret e3 h'∧AB 4 e3=.int .u64 0∧AB 5 e3=.int .i64 0∧AB 6 e3=.int .i64 10:=by
    unfold OZ;simp only[sT,AT,AI,reduceIte,p46];exact⟨_,rfl,by simp[AF]⟩
   obtain⟨e3,r1,r4,r5,r6⟩:=hrun;rw[p1,r1,B0,CY];exact⟨rfl,.inr ⟨e3,0,0,10,rfl,r4,r5,r6,.inr ⟨hu,by omega⟩⟩⟩
  ·have hB:((decide (0<i) && decide (c=0)) || (decide (8<i) && decide (1<c)))=false:=by
    rw[← Bool.not_eq_true];simpa using AFg
   rw[hB]at p46;rw[if_neg AFg]at hu;have hle:acc+c % 128*2 ^ (7*i)<2 ^ (7*(i+1)):=by
    rw[Mn];have h1:c % 128≤127:=by omega
    have h2:=ABQ (2 ^ (7*i)) h1;omega
   have AJ6:c % 128*2 ^ (7*i)≤9223372036854775808∧acc<9223372036854775808:=by
    have h3:=RB hi9;refine⟨?_,by omega⟩;rcases Nat.lt_or_ge i 9 with h4|h4
    ·have h5:2 ^ (7*(i+1))≤9223372036854775808:=RB (by omega)
     omega
    ·have h5:c % 128≤1:=by omega
     have h6:=ABQ (2 ^ (7*i)) h5;omega
   have m1:NG .u8 (.int .u8 (c:Int)) (.int .u8 128) h'=.ok (.int .u8 ((c % 128:Nat):Int)) h':=by rw[PB (by omega)];rfl
   have m2:DH .u64 (.int .u8 ((c % 128:Nat):Int)) h'=.ok (.int .u64 ((c % 128:Nat):Int)) h':=by rw[CU,EI (by omega)]
   have m3:Fc ABD .i64 (.int .i64 7) (.int .i64 (i:Int)) h'=.ok (.int .i64 ((7*i:Nat):Int)) h':=by
    have:ABD 7 (i:Int)=((7*i:Nat):Int):=by show(7:Int)*(i:Int)=_;omega
    rw[CZ,this,BW (by omega)]
   have m4:gA .u64 (.int .u64 ((c % 128:Nat):Int)) (.int .i64 ((7*i:Nat):Int)) h'=.ok (.int .u64 ((c % 128*2 ^ (7*i):Nat):Int)) h':=by
    have:min (7*i) AAy.bits=7*i:=Nat.min_eq_left (by show 7*i≤64;omega);rw[gB,this,EI (by omega)]
   have m5:FH .u64 (.int .u64 (acc:Int)) (.int .u64 ((c % 128*2 ^ (7*i):Nat):Int)) h'=.ok (.int .u64 ((acc+c % 128*2 ^ (7*i):Nat):Int)) h':=by
    rw[Ee,← Int.natCast_add,EI (by omega)]
   by_cases hsm:c<128
   ·right
    rw[if_pos hsm]at hu;have c2:iLt (c:Int) 128=true:=by rw[Cs];simp;omega
    have hrun:∃ e3,OZ F e2 h'=.ret e3 h'∧AB 4 e3=.int .u64 ((acc+c % 128*2 ^ (7*i):Nat):Int)∧AB 5 e3=.int .i64 ((p+(i+1):Nat):Int)∧AB 6 e3=.int .i64 0:=by
     unfold OZ;simp only[sT,AT,AI,reduceIte,p46,H4,p9,m1,B8,m2,Br,p10,m3,Up,m4,BF,p7,m5,AM,AK,c2,p8,a3];exact⟨_,rfl,by simp[AF]⟩
    obtain⟨e3,r1,r4,r5,r6⟩:=hrun;rw[p1,r1,B0,CY];refine⟨rfl,.inr ⟨e3,_,_,_,rfl,r4,r5,r6,.inl ⟨_,_,hu,?_,rfl,rfl⟩⟩⟩;rw[yi hsm]
   ·left
    rw[if_neg hsm]at hu;have hi8:i≤8:=by omega
    have c2:iLt (c:Int) 128=false:=by rw[Cs];simp;omega
    have hrun:∃ e3,OZ F e2 h'=.norm e3 h'∧AB 0 e3=u∧AB 1 e3=.int .i64 (p:Int)∧AB 7 e3=.int .u64 ((acc+c % 128*2 ^ (7*i):Nat):Int)∧AB 8 e3=.int .i64 ((p+i:Nat):Int):=by
     unfold OZ;simp only[sT,AT,AI,reduceIte,p46,H4,p9,m1,B8,m2,Br,p10,m3,Up,m4,BF,p7,m5,AM,AK,c2,p8,a3];exact⟨_,rfl,by simp[AF,p0,pp1,p8]⟩
    obtain⟨e3,r1,r0,rr1,r7,r8⟩:=hrun;have AFH:∃ e4,QD F e' h'=.norm e4 h'∧AB 0 e4=u∧AB 1 e4=.int .i64 (p:Int)∧AB 7 e4=.int .u64 ((acc+c % 128*2 ^ (7*i):Nat):Int)∧AB 8 e4=.int .i64 ((p+(i+1):Nat):Int):=by
     rw[p1,r1];simp only[DR,BA,F3,Gc,BF,r8,HN,a3,ED,Lm,AF,AT,AI,reduceIte];exact⟨_,rfl,by simp[AF,r0,rr1,r7]⟩
    obtain⟨e4,k1,k2,k3,k4,k5⟩:=AFH;exact⟨by omega,e4,h',k1,rfl,_,k2,k3,k4,k5,hle,by omega,by omega,hu⟩
 ·right
  have c1:iLt ((p+i:Nat):Int) (l.length:Int)=false:=by rw[Cs];simp;omega
  have hrun:∃ e2,QD F e' h'=.exit 0 e2 h':=by
   rw[UK];simp only[sT,AT,AI,reduceIte,Af,t0,Vl,AM,AK,t8,c1];exact⟨_,rfl⟩
  obtain⟨e2,r1⟩:=hrun;rw[r1];refine⟨rfl,.inl ⟨e2,rfl,?_⟩⟩;rw[hu,wR (by omega)];rfl
theorem UM:MC=AG (AC 7) (AE (kV (.int .u64 0))) (AG (AC 8) (AE (AB 1)) (BK (Ad 0 (Ay QD)) mI)):=rfl
theorem Tt:cU=Tu:=rfl
theorem mL{n:Nat}{h:Hp}{u:BY}{l:List Nat}{p:Nat}(V:h.ADo u (l.map bv))(hb:∀ x∈l,x<256)(hp:p≤l.length)(hl:l.length≤1000000):
  ∃ a b c,call AD (n+1) 111 [u,.int .i64 (p:Int)] h=.ok (.tuple ⟨[.int .u64 a,.int .i64 b,.int .i64 c]⟩) h∧iH l p a b c:=by
 have Vl:AEL u h=.ok (.int .i64 (l.length:Int)) h:=by have:=V.len;rwa [If]at this
 have c0:iLt (p:Int) 0=false:=by rw[Cs];simp
 have c1:iGt (p:Int) (l.length:Int)=false:=by rw[HH];simp;omega
 have pre:∃ e1,Tu (call AD n) (AS e0 0 [u,.int .i64 (p:Int)]) h=MC (call AD n) e1 h∧AB 0 e1=u∧AB 1 e1=.int .i64 (p:Int):=by
  unfold Tu;simp only[iN,By,F3,It,Gc,HB,ED,HN,AF,AT,AI,reduceIte,gD,AM,AK,c0,Af,Vl,c1];exact⟨_,rfl,by simp[AF]⟩
 obtain⟨e1,p1,p2,p3⟩:=pre;have H:=Yj (F:=call AD n) (e:=Env.set 8 (.int .i64 (p:Int)) (Env.set 7 (.int .u64 0) e1)) V hb hp hl (by simp[AF,p2]) (by simp[AF,p3]) (by simp[AF]) (by simp[AF]);rcases H with ⟨e2,q1,q2⟩|⟨e2,a,b,c,q1,q4,q5,q6,q7⟩
 ·refine⟨0,0,11,?_,.inr ⟨q2,by omega⟩⟩
  rw[Tn rfl,Tt,p1,UM];simp only[F3,Gc,ED,HN,AF,AT,AI,reduceIte,p3,BE,Ax];rw[q1];simp only[A2,BA];unfold mI;simp only[sT,AT,AI,reduceIte,Be,L7]
 ·refine⟨a,b,c,?_,q7⟩
  rw[Tn rfl,Tt,p1,UM];simp only[F3,Gc,ED,HN,AF,AT,AI,reduceIte,p3,BE,Ax];rw[q1];simp only[B0,CY];simp only[Be,L7,q4,q5,q6]
end
noncomputable section
open Go
def PH(T:List Nat):Nat→List Nat→Nat
 |s,[]=>s
 |s,b::l=>PH T (xW (T.getD (xW (s % 256) b) 0) (s/256)) l
def B5(T l:List Nat):Nat:=4294967295 - PH T 4294967295 l
def AEM(T:List Nat):Prop:=T.length=256∧∀ i,T.getD i 0<4294967296
theorem gT{a b:Nat}(ha:a<256)(hb:b<256):xW a b<256:=ABc (n:=8) ha hb
theorem bH{a b:Nat}(ha:a<4294967296)(hb:b<4294967296):xW a b<4294967296:=ABc (n:=32) ha hb
theorem N8{T:List Nat}(hT:AEM T){s:Nat}(hs:s<4294967296)(b:Nat):xW (T.getD (xW (s % 256) b) 0) (s/256)<4294967296:=bH (hT.2 _) (by omega)
theorem VG{T:List Nat}(hT:AEM T):∀ (l:List Nat) (s:Nat),s<4294967296→PH T s l<4294967296
 |[],s,hs=>hs
 |b::l,s,hs=>VG hT l _ (N8 hT hs b)
theorem IC(T l:List Nat):B5 T l<4294967296:=by unfold B5;omega
def Gn(s:Nat):List Nat:=[s/16777216 % 256,s/65536 % 256,s/256 % 256,s % 256]
def EM(T l:List Nat):List Nat:=l++Gn (B5 T l)
theorem H9(T l:List Nat):(EM T l).length=l.length+4:=by unfold EM;rw[IT];rfl
theorem gK(s x:Nat)(h:x∈Gn s):x<256:=by
 unfold Gn at h;simp only[vS,List.mem_nil_iff,or_false]at h;omega
theorem RR{T l:List Nat}(h:∀ x∈l,x<256):∀ x∈EM T l,x<256:=fun x hx=>by
 rcases va.1 hx with h1|h1
 ·exact h x h1
 ·exact gK _ x h1
def Bt(ns:List Nat):List Nat:=ns.flatMap B3
theorem Ex(n:Nat)(ns:List Nat):Bt (n::ns)=B3 n++Bt ns:=rfl
theorem TY(a b:List Nat):Bt (a++b)=Bt a++Bt b:=List.flatMap_append
theorem N9{ns:List Nat}:∀ x∈Bt ns,x<256:=fun x hx=>by
 obtain⟨n,_,h⟩:=List.mem_flatMap.1 hx;exact bB n x h
theorem Io:∀ {ns:List Nat},(∀ v∈ns,v<18446744073709551616)→(Bt ns).length≤10*ns.length
 |[],_=>IN _
 |n::ns,h=>by
  have h1:=KY (h n vG);have h2:=Io fun v hv=>h v (vH _ hv)
  rw[Ex,IT,vI];omega
def O6(l:List Nat):List Nat:=l++vL (60 - l.length) 0
theorem Mh{l:List Nat}(h:l.length≤60):(O6 l).length=60:=by unfold O6;rw[IT,List.length_replicate];omega
theorem Uy{l:List Nat}(h:∀ x∈l,x<256):∀ x∈O6 l,x<256:=fun x hx=>by
 rcases va.1 hx with h1|h1
 ·exact h x h1
 ·rw[yy h1];decide
def K7(ns:List Nat):List Nat:=O6 (Bt ns)
def rdN:Nat→List Nat→Nat→Option (List Nat×Nat)
 |0,_,p=>some ([],p)
 |k+1,l,p=>match Fg 0 0 (l.drop p)with
  |none=>none
  |some (v,j)=>if v≤1099511627776 then(match rdN k l (p+j)with
   |none=>none
   |some (vs,q)=>some (v::vs,q))else none
theorem LT:∀ (ns:List Nat) (a r:List Nat),(∀ v∈ns,v≤1099511627776)→rdN ns.length (a++(Bt ns++r)) a.length=some (ns,a.length+(Bt ns).length)
 |[],a,r,_=>rfl
 |v::ns,a,r,h=>by
  have hv:=h v vG;rw[vI,rdN,ABA,Ex,vX,nt (by omega)];simp only;have:=LT ns (a++B3 v) r fun x hx=>h x (vH _ hx)
  rw[vX,IT]at this;rw[if_pos hv,this];simp only[IT,Nat.add_assoc]
theorem LS:∀ (k:Nat) (l:List Nat) (p:Nat) (ns:List Nat) (q:Nat),(∀ x∈l,x<256)→p≤l.length→rdN k l p=some (ns,q)→ns.length=k∧l.drop p=Bt ns++l.drop q∧q=p+(Bt ns).length∧q≤l.length∧∀ v∈ns,v≤1099511627776
 |0,l,p,ns,q,hb,hp,h=>by
  cases h;exact⟨rfl,rfl,rfl,hp,fun v hv=>by cases hv⟩
 |k+1,l,p,ns,q,hb,hp,h=>by
  rw[rdN]at h;cases hu:Fg 0 0 (l.drop p)with
  |none=>rw[hu]at h;cases h
  |some vj=>
   obtain⟨v,j⟩:=vj;rw[hu]at h;simp only at h;by_cases hv:v≤1099511627776
   ·rw[if_pos hv]at h
    have hbd:∀ x∈l.drop p,x<256:=fun x hx=>hb x (List.mem_of_mem_drop hx)
    have hj:=iF hbd hu;rw[wG]at hj;obtain⟨g1,g2,g3⟩:=az hbd hu;cases hr:rdN k l (p+j)with
    |none=>rw[hr]at h;cases h
    |some y=>
     obtain⟨vs,q'⟩:=y;rw[hr]at h;cases h;obtain⟨i1,i2,i3,i4,i5⟩:=LS k l (p+j) vs q hb (by omega) hr;refine⟨by rw[vI,i1],?_,?_,i4,fun x hx=>?_⟩
     ·rw[g1,List.drop_drop,i2,Ex,vX]
     ·rw[i3,Ex,IT];omega
     ·rcases vS.1 hx with rfl|hx
      ·exact hv
      ·exact i5 x hx
   ·rw[if_neg hv]at h;cases h
def ADc(a b c:Int)(s n:Nat):Bool:=decide (0≤a∧a≤1099511627776∧0≤b∧b<255∧1≤c∧c≤1099511627776∧(s=1∨s=2)∧n≤65536)
def at6(ns:List Nat)(i:Nat):Nat:=ns.getD i 0
def Eh(T l:List Nat):Option (List Nat):=if l.length<4 then none else if EM T (l.take (l.length - 4))=l then some (l.take (l.length - 4))else none
def Oz(ns:List Nat):Prop:=ADc (at6 ns 1) (at6 ns 2) (at6 ns 3) (min (at6 ns 0) 9) 0=true∧at6 ns 4≤65536∧at6 ns 5≤4294967295
def fO(ns:List Nat):Prop:=at6 ns 0≤2∧at6 ns 4≤65536∧at6 ns 5≤4294967295∧ADc (at6 ns 1) (at6 ns 2) (at6 ns 3) (at6 ns 0) 0=true
theorem fP{ns:List Nat}:Oz ns↔fO ns:=by
 unfold Oz fO ADc;simp only[decide_eq_true_eq];generalize at6 ns 0=s;constructor
 ·rintro⟨⟨h1,h2,h3,h4,h5,h6,h7,h8⟩,h9,h10⟩
  exact⟨by omega,h9,h10,h1,h2,h3,h4,h5,h6,by omega,h8⟩
 ·rintro⟨h0,h9,h10,h1,h2,h3,h4,h5,h6,h7,h8⟩
  exact⟨⟨h1,h2,h3,h4,h5,h6,by omega,h8⟩,h9,h10⟩
def K3(T l ns:List Nat):Prop:=∃ body q,Eh T l=some body∧body.length=60∧rdN 6 body 0=some (ns,q)∧Oz ns∧∀ x∈body.drop q,x=0
def tG(T l ns:List Nat):Prop:=∃ q,rdN 6 l 0=some (ns,q)∧fO ns∧EM T (K7 ns)=l
theorem Jj{T l body:List Nat}(h:Eh T l=some body):EM T body=l∧body=l.take (l.length - 4):=by
 unfold Eh at h;split at h
 ·cases h
 ·split at h
  ·rename_i h2
   cases h;exact⟨h2,rfl⟩
  ·cases h
theorem PL(T body:List Nat):Eh T (EM T body)=some body:=by
 have h1:(EM T body).take ((EM T body).length - 4)=body:=by
  rw[H9,Nat.add_sub_cancel];unfold EM;exact List.take_left
 unfold Eh;rw[h1,if_neg (by rw[H9];omega),if_pos rfl]
theorem bL{l:List Nat}(h:∀ x∈l,x=0):l=vL l.length 0:=List.eq_replicate_iff.2 ⟨rfl,h⟩
theorem Q7{T l ns:List Nat}(hb:∀ x∈l,x<256):K3 T l ns↔tG T l ns:=by
 constructor
 ·rintro⟨body,q,h1,h2,h3,h4,h5⟩
  obtain⟨k1,k2⟩:=Jj h1;have hbb:∀ x∈body,x<256:=fun x hx=>hb x (by rw[k2]at hx;exact List.mem_of_mem_take hx)
  obtain⟨g1,g2,g3,g4,g5⟩:=LS 6 body 0 ns q hbb (vi _) h3;rw[List.drop_zero]at g2;have hz:=bL h5;have hh:K7 ns=body:=by
   unfold K7 O6;rw[show 60 - (Bt ns).length=(body.drop q).length by rw[wG];omega,← hz,← g2]
  refine⟨(Bt ns).length,?_,fP.1 h4,by rw[hh];exact k1⟩;have:=LT ns [] (body.drop q++Gn (B5 T body)) g5;rw[g1]at this;rw[← k1];unfold EM;rw[List.nil_append,← vX,← g2]at this
  simpa using this
 ·rintro⟨q,h1,h2,h3⟩
  obtain⟨g1,g2,g3,g4,g5⟩:=LS 6 l 0 ns q hb (vi _) h1;have hlen:(Bt ns).length≤60:=by
   have:=Io (ns:=ns) fun v hv=>by have:=g5 v hv;omega
   omega
  refine⟨K7 ns,(Bt ns).length,by rw[← h3];exact PL T _,Mh hlen,?_,fP.2 h2,fun x hx=>?_⟩
  ·have:=LT ns [] (vL (60 - (Bt ns).length) 0) g5
   rw[g1]at this;unfold K7 O6
   simpa using this
  ·unfold K7 O6 at hx
   rw[ABA]at hx;exact yy hx
end
noncomputable section
open Go
set_option maxRecDepth 100000
abbrev pt(b:Nat):BY:=.pointer (some ⟨b,0,none⟩)
def wv(n:Nat):BY:=.int .u32 (n:Int)
theorem Ae{a:Addr}{h:Hp}:WN (.pointer (some a)) h=.ok (.pointer (some a)) h:=rfl
theorem Ao{F:ADS}{e:Env}{h:Hp}{x:O}:Bf x F e h=WN (x e) h:=rfl
theorem iE:Rv.k=.ptr 27:=by kernel_rfl
theorem nM{F:ADS}{e:Env}{h:Hp}{a:Addr}{g:O}(hg:g e=.pointer (some a)):oEq Rv.k false g (kV (.pointer none)) F e h=.ok (.bool false) h:=by
 show(match eqV Rv.k (g e) (.pointer none)with|some r=>okB (false != r) h|none=>.no)=_;rw[iE,hg];exact F7
theorem nk{h:Hp}{tb:Nat}{T:List Nat}(R:h.Row tb 0 (T.map wv))(hT:AEM T){k:IntKind}{x:Nat}(hx:x<256):M8 256 1 (pt tb) (.int k (x:Int)) h=.ok (.pointer (some ⟨tb,x,none⟩)) h∧Gy (.pointer (some ⟨tb,x,none⟩)) h=.ok (wv (T.getD x 0)) h:=by
 refine⟨?_,?_⟩
 ·have:=UU (h:=h) (n:=256) (es:=1) (b:=tb) (off:=0) (i:=x) (k:=k) hx
  rwa [sh,xd]at this
 ·have hx':x<T.length:=by rw[hT.1];exact hx
  rw[AQ,R.ADW (off:=x) (by rw[If];exact hx'),OF,wN,OF,No hx'];rfl
theorem Ir{h:Hp}{u:BY}{l:List Nat}(V:h.ADo u (l.map bv)){i:Nat}(hi:i<l.length):∃ a,AEP 1 u (.int .i64 (i:Int)) h=.ok (.pointer (some a)) h∧Gy (.pointer (some a)) h=.ok (.int .u8 ((l.getD i 0:Nat):Int)) h:=by
 obtain⟨a,g1,g2⟩:=V.at (i:=i) (by rw[If];exact hi);refine⟨a,g1,?_⟩;rw[g2,OF,wN,OF,No hi];rfl
theorem dQ{l:List Nat}(hb:∀ x∈l,x<256)(i:Nat):l.getD i 0<256:=by
 rw[OF];cases h:l[i]? with
 |none=>decide
 |some x=>exact hb x (List.mem_of_getElem? h)
theorem GB{l:List Nat}{i:Nat}(hi:i<l.length):l.drop i=l.getD i 0::l.drop (i+1):=by
 rw[wY hi,OF,No hi];rfl
theorem Hp.ADo.bl{h:Hp}{u:BY}{l:List Nat}(V:h.ADo u (l.map bv))(g:Hp):AEL u g=.ok (.int .i64 (l.length:Int)) g:=by
 obtain⟨a,c,hu⟩:=V.shape;rw[hu,If];rfl
theorem vA{a b:Nat}(ha:a<256)(hb:b<256){h:Hp}:XS xW .u8 (.int .u8 (a:Int)) (.int .u8 (b:Int)) h=.ok (.int .u8 ((xW a b:Nat):Int)) h:=Ti (by show a≤255;omega) (by show b≤255;omega)
theorem tB{a b:Nat}(ha:a<4294967296)(hb:b<4294967296){h:Hp}:XS xW .u32 (.int .u32 (a:Int)) (.int .u32 (b:Int)) h=.ok (.int .u32 ((xW a b:Nat):Int)) h:=Ti (by show a≤4294967295;omega) (by show b≤4294967295;omega)
theorem SA{n:Nat}(h:n≤4294967295):IntKind.u32.wrap (n:Int)=n:=DA .u32 n h
theorem CH{i:Nat}(hi:i≤1000000000){h:Hp}:FH .i64 (.int .i64 (i:Int)) (.int .i64 1) h=.ok (.int .i64 ((i+1:Nat):Int)) h:=by
 have:(i:Int)+1=((i+1:Nat):Int):=by omega
 rw[Ee,this,BW (by omega)]
theorem Es{a b:Nat}(h:a<b):iLt (a:Int) (b:Int)=true:=by rw[Cs];simp;omega
theorem DE{a b:Nat}(h:b≤a):iLt (a:Int) (b:Int)=false:=by rw[Cs];simp;omega
theorem nh:suS=BK (Ad 0 (Ay suB)) suE:=rfl
theorem lr:d71=ci:=rfl
theorem gJ{F:ADS}{h:Hp}{tb:Nat}{T:List Nat}(R:h.Row tb 0 (T.map wv))(hT:AEM T){u:BY}{l:List Nat}(V:h.ADo u (l.map bv))(hb:∀ x∈l,x<256)(hl:l.length≤900000){e:Env}(s0:AB 0 e=pt tb)(s1:AB 1 e=u)(s5:AB 5 e=.int .u32 ((4294967295:Nat):Int))(s10:AB 10 e=.int .i64 (l.length:Int))(s11:AB 11 e=.int .i64 ((0:Nat):Int)):
  ∃ e' h',Ay suB F e h=.exit 0 e' h'∧(h'=h∨h'=h.marked)∧AB 5 e'=.int .u32 ((PH T 4294967295 l:Nat):Int):=by
 refine BU (I:=fun i e' h'=>(h'=h∨h'=h.marked)∧∃ s:Nat,AB 0 e'=pt tb∧AB 1 e'=u∧AB 5 e'=.int .u32 (s:Int)∧AB 10 e'=.int .i64 (l.length:Int)∧AB 11 e'=.int .i64 (i:Int)∧i≤l.length∧s<4294967296∧PH T 4294967295 l=PH T s (l.drop i))
  (Q:=fun x=>∃ e' h',x=.exit 0 e' h'∧(h'=h∨h'=h.marked)∧AB 5 e'=.int .u32 ((PH T 4294967295 l:Nat):Int)) l.length (by omega) (fun i e' h' ⟨hh,s,t0,t1,t5,t10,t11,hi,hs,hr⟩=>?_) ⟨.inl rfl,4294967295,s0,s1,s5,s10,s11,vi _,by decide,rfl⟩
 have hm:h'.marked=h.marked:=by rcases hh with rfl|rfl<;>rfl
 by_cases hlt:i<l.length
 ·left
  have V2:h.marked.ADo u (l.map bv):=V.same rfl;have R2:h.marked.Row tb 0 (T.map wv):=R.same rfl;obtain⟨a,g1,g2⟩:=Ir V2 hlt;have hc:=dQ hb i;rw[GB hlt]at hr;generalize l.getD i 0=c at g2 hc hr;have c1:=Es hlt;have v1:DH .u8 (.int .u32 (s:Int)) h.marked=.ok (.int .u8 ((s % 256:Nat):Int)) h.marked:=by rw[CU,Gp]
  have x1:=vA (h:=h.marked) (show s % 256<256 by omega) hc;have hx:=gT (show s % 256<256 by omega) hc;obtain⟨i1,l1⟩:=nk R2 hT (k:=.u8) hx;have r1:aO .u32 (.int .u32 (s:Int)) (.int .u64 8) h.marked=.ok (.int .u32 ((s/256:Nat):Int)) h.marked:=U6 (j:=.u32) (q:=.u64) (m:=s) (n:=8);have x2:=tB (h:=h.marked) (hT.2 (xW (s % 256) c)) (show s/256<4294967296 by omega);have l1:Gy (.pointer (some ⟨tb,xW (s % 256) c,none⟩)) h.marked=.ok (.int .u32 ((T.getD (xW (s % 256) c) 0:Nat):Int)) h.marked:=l1;have hst:=N8 hT hs c;have a3:=CH (i:=i) (h:=h.marked) (by omega);have hrun:∃ e2,suB F e' h'=.norm e2 h.marked∧AB 0 e2=pt tb∧AB 1 e2=u∧AB 5 e2=.int .u32 ((xW (T.getD (xW (s % 256) c) 0) (s/256):Nat):Int)∧AB 10 e2=.int .i64 (l.length:Int)∧AB 11 e2=.int .i64 ((i+1:Nat):Int):=by
   unfold suB;simp only[sT,AT,AI,reduceIte,AM,AK,t11,t10,c1,A3,hm,B8,t5,v1,A1,t1,g1,AN,g2,eL,x1,Ao,t0,Ae,C8,i1,l1,Uq,r1,x2,BF,a3];exact⟨_,rfl,by simp[AF,t0,t1,t10]⟩
  obtain⟨e2,q1,q2,q3,q4,q5,q6⟩:=hrun;exact⟨hlt,e2,h.marked,q1,.inr rfl,_,q2,q3,q4,q5,q6,hlt,hst,hr⟩
 ·right
  have c1:=DE (show l.length≤i by omega);have hrun:∃ e2,suB F e' h'=.exit 0 e2 h'∧AB 5 e2=.int .u32 (s:Int):=by
   unfold suB;simp only[sT,AT,AI,reduceIte,AM,AK,t11,t10,c1];exact⟨_,rfl,by simp[AF,t5]⟩
  obtain⟨e2,q1,q2⟩:=hrun;rw[q1];refine⟨rfl,e2,h',rfl,hh,?_⟩;rw[q2,hr,wR (by omega)];rfl
theorem TT{n:Nat}{h:Hp}{tb:Nat}{T:List Nat}(R:h.Row tb 0 (T.map wv))(hT:AEM T){u:BY}{l:List Nat}(V:h.ADo u (l.map bv))(hb:∀ x∈l,x<256)(hl:l.length≤900000):
  ∃ h',call AD (n+1) 71 [pt tb,u] h=.ok (.int .u32 ((B5 T l:Nat):Int)) h'∧(h'=h∨h'=h.marked):=by
 have ne:∀ e:Env,AB 0 e=pt tb→oEq Rv.k false (AB 0) (kV (.pointer none)) (call AD n) e h=.ok (.bool false) h:=fun e he=>nM he
 have Vl:=V.bl h;have pre:∃ e1,ci (call AD n) (AS e0 0 [pt tb,u]) h=suS (call AD n) e1 h∧AB 0 e1=pt tb∧AB 1 e1=u∧AB 5 e1=.int .u32 ((4294967295:Nat):Int)∧AB 10 e1=.int .i64 (l.length:Int)∧AB 11 e1=.int .i64 ((0:Nat):Int):=by
  unfold ci;simp only[iN,By,sT,AT,AI,reduceIte,ne,Af,Vl];exact⟨_,rfl,by simp[AF]⟩
 obtain⟨e1,p1,p2,p3,p4,p5,p6⟩:=pre;obtain⟨e2,h',q1,q2,q3⟩:=gJ (F:=call AD n) R hT V hb hl p2 p3 p4 p5 p6;have a1:Fc wA .u32 (.int .u32 4294967295) (.int .u32 ((PH T 4294967295 l:Nat):Int)) h'=.ok (.int .u32 ((B5 T l:Nat):Int)) h':=by
  have hs:=VG hT l 4294967295 (by decide);have:wA 4294967295 ((PH T 4294967295 l:Nat):Int)=((B5 T l:Nat):Int):=by
   show(4294967295:Int) - _=_;unfold B5;omega
  rw[CZ,this,SA (by unfold B5;omega)]
 refine⟨h',?_,q2⟩;rw[kz rfl,lr,p1,nh];simp only[BE,Ax,q1,A2,BA];unfold suE;simp only[sT,AT,AI,reduceIte,Br,q3,a1,lV0]
end
end Go.Proofs.YtedbmmfebjfibaaGreat

/-
  Part ZJ of what Lawlt stands on: printed by program, names and spaces cut.
-/
import Derived.Test.YtbjadbhkogcfeaaGreatZI
import Derived.Shelf.SlIterI.Nil
import Derived.Shelf.SortM.Plain
import Derived.Shelf.SortM.SortNone
open Go.Value renaming int→AI
open Go.IntKind renaming i64→AT
open Nat renaming reduceEqDiff→BY,reduceLT→By,reduceAdd→IS,le_refl→IT,zero_add→If,succ→yg,ble→yl,beq→yu,zero_le→zL,le_trans→zO,blt→zm,xor→AA6,mod_eq_of_lt→ABe,mul_le_mul_right→ACP,xor_lt_two_pow→ADx
open Go renaming Value→IN,Program→zp,intOf→AFC
open List renaming length_append→No,length_map→OF,getElem?_eq_getElem→sh,getD_eq_getElem?_getD→yf,length_cons→yh,mem_cons_of_mem→yj,mem_cons_self→yk,replicate→yp,mem_cons→yv,append_assoc→zC,mem_append→zK,map_append→zb,eq_nil_of_length_eq_zero→zc,length_drop→zl,mem_map→zq,map_cons→ABV,map_map→ABc,eq_of_mem_replicate→ABq,length→ACA,drop_left→ADV,pairwise_cons→ADr,pairwise_map→AD0
open Go.Proofs.Tryz renaming prog→yi,underlying3→AAO,zeroValue3→ABv,underlying4→ABw,underlying92→ACN,sizeOf3→ACT,zeroValue92→ACW,underlying0→ACX,zeroValue0→ACh,isAgg3→ACi,sizeOf92→ADA,sizeOf0→ADO,isAgg92→ADP,func107→ADQ,isAgg0→ADf,underlying127→ADm,zeroValue127→ADt,zeroValue4→AEH,sizeOf127→AES,isAgg127→AEe,sizeOf4→AEm,func155→AEn,func149→AEo,func146→AEp,func145→AEq,func132→AEr,func115→AEs,func108→AEt,isAgg4→AE2,func70→AE3,func69→AE4,func16→AE5,func8→AFF,f155→AFR,f149→AFS,f146→AFT,f132→AFU,f107→AFV,f70→AFb,f69→AFc,f16→AFd
open Bool renaming and_eq_true→yr
open Or renaming inl→zH,inr→AFI
open Int renaming sub→zX,ofNat→zY,mul→AD3
open Array renaming ext'→zz
open Go.WideElems renaming rg→AAL,rd→ADD
open Go.Fence renaming wide→ABa
open Go.DataW renaming insert→ABu,map→AFP
open Go.WideShapes renaming sorted_perm→ACE
open Go.IntKind renaming u64→ADM
open Go.Proofs.AnyZI renaming sorted_in→AEF,SortsIn→AEc
open Go.Proofs.SlLaysZI renaming n6→AEI
set_option linter.unusedSimpArgs false
set_option linter.unusedVariables false
namespace Go.Proofs.YtbjadbhkogcfeaaGreat
noncomputable section
open Go Go.Proofs Go.RowKit Go.Shelf Go.Maps Go.MapKept Go.ChangeShapes
def ic(m:Nat):List Nat->List Nat
 |[]=>[m]
 |x::l=>match yl m x with
  |true=>m::x::l
  |false=>x::ic m l
def FJ:List Nat->List Nat
 |[]=>[]
 |x::l=>ic x (FJ l)
def Wd:List Nat->Bool
 |[]=>true
 |x::l=>(match l with
  |[]=>true
  |y::_=>zm x y) && Wd l
def TN:IN->Option Nat
 |.int k n=>match k,n with
  |.i64,.ofNat m=>some m
  |_,_=>none
 |_=>none
def Qp(clk:Nat):List Ent->Nat->Option (List Nat)
 |[],_=>some []
 |e::l,lo=>match TN e.key with
  |some m=>match zm m 9223372036854775808 && (yl lo e.born && zm e.born clk)with
   |true=>match Qp clk l (yg e.born)with
    |some r=>some (m::r)
    |none=>none
   |false=>none
  |none=>none
def zv(m:Nat):IN:=AI AT (.ofNat m)
def J7(t:Nat)(h:Hp):List Nat->R
 |[]=>.ok (.slice none 0 0) h
 |x::l=>match Wd (x::l)with
  |true=>AF1 (BF (x::l)) fun n=>newRow h (yg t) ((x::l).map zv) (Fq n n)
  |false=>.no
def L7(t:Nat)(h:Hp)(v:IN):R:=match v with
 |.map none=>.ok (.slice none 0 0) h
 |.map (some r)=>match Bk h r with
  |.ok es clk=>match yl (BF es) 1000000 with
   |true=>match Qp clk es 0 with
    |some ks=>J7 t h (FJ ks)
    |none=>.no
   |false=>.no
  |.no=>.no
 |_=>.no
def J6(t:Nat)(a:Addr)(h:Hp):R:=match yu a.off 0 && yl 256 a.block with
 |true=>match rowOf h a.block with
  |.ok c s e=>match yu e 0 && zm 0 s with
   |true=>L7 t h (c.get 0)
   |false=>.no
  |.no=>.no
 |false=>.no
def L4(Ks:List Nat)(t:Nat)(args:List IN)(h:Hp):R:=match args with
 |[v]=>match v with
  |.func fn f c=>match fn with
   |.func g=>match memN g Ks with
    |true=>match f.toList with
     |[]=>match c.toList with
      |[p]=>match p with
       |.pointer (some a)=>J6 t a h
       |_=>.no
      |_=>.no
     |_::_=>.no
    |false=>.no
   |_=>.no
  |_=>.no
 |_=>.no
def UM(Ks:List Nat)(t:Nat):Body:=⟨[.x (fun _=>L4 Ks t)],cNo⟩
theorem OE(m:Nat):∀ l:List Nat,(ic m l).Perm (m::l)
 |[]=>.refl _
 |x::l=>by
  unfold ic;split
  ·exact .refl _
  ·exact((OE m l).cons x).trans (.swap m x l)
theorem G8:∀ l:List Nat,(FJ l).Perm l
 |[]=>.refl _
 |x::l=>(OE x _).trans ((G8 l).cons x)
theorem KM:∀ {l:List Nat},Wd l=true->l.Pairwise (· < ·)
 |[],_=>.nil
 |x::l,h=>by
  unfold Wd at h;rw[yr]at h;have hl:=KM h.2;refine ADr.2 ⟨fun y hy=>?_,hl⟩;cases l with
  |nil=>cases hy
  |cons z l=>
   have h1:x<z:=BQ.1 h.1;rcases yv.1 hy with rfl|hy
   ·exact h1
   ·exact Nat.lt_trans h1 ((ADr.1 hl).1 y hy)
theorem tz{a b:Nat}(h:zv a=zv b):a=b:=by
 unfold zv at h;injection h with _ h
 injection h
theorem SG{ks:List Nat}(h:Wd (FJ ks)=true):((ks.map zY).mergeSort leI).map encZ=(FJ ks).map zv:=by
 have hp:=KM h;have h1:(ks.map zY).mergeSort leI=((FJ ks).map zY).mergeSort leI:=mergeSort_of_perm_i ((G8 ks).symm.map _);have h2:((FJ ks).map zY).Pairwise (fun a b=>leI a b=true):=AD0.2 (hp.imp fun {a b} hab=>by
  simp only[leI,decide_eq_true_eq];exact Int.ofNat_le.2 (Nat.le_of_lt hab))
 rw[h1,List.mergeSort_of_pairwise h2,ABc];rfl
structure AGu (P:zp)(S K t:Nat):Prop where
 nil:∀ (w:World) (b:Nat),b<w.heap.size->w.cell? ⟨b,0,none⟩=some (.map none)->
  Calls P S #[.func (.func K) #[] #[.pointer (some ⟨b,0,none⟩)]] w fun e w'=>e=.returned (.slice none 0 0)/\Below w.heap.size w w'
 map:∀ (w:World) (b r:Nat) (es:Array MapEntry) (clk:Nat) (ks:List Nat),b<w.heap.size->w.cell? ⟨b,0,none⟩=some (.map (some r))->w.heap[r]? =some (.map es clk)->es.size<=1000000->Stamped es clk->
  es.toList.map (·.key)=ks.map zv->(∀ k∈ks,k<9223372036854775808)->
  Calls P S #[.func (.func K) #[] #[.pointer (some ⟨b,0,none⟩)]] w fun e w'=>∃ v,e=.returned v/\w'.ownsRow w.heap.size t 1 v ks.length (((ks.map zY).mergeSort leI).map encZ)/\(v=.slice none 0 0↔ks=[])/\Below w.heap.size w w'
def aU:IN->Int
 |.int _ q=>q
 |_=>0
theorem wP{m:Nat}(h:m<9223372036854775808):(Lit.int .i64 (zY m)).wf=true:=by
 simp[Lit.wf,IntKind.min,IntKind.max,IntKind.signed,IntKind.bits];omega
theorem Tk{P:zp}{ρ ρ':Ren}(L:AEI P ρ)(L':SlLaysZI.n10 P ρ')(hsort:∀ m,AEc P ρ ABa m)
  (e9:∀ args w,(callFunc (ρ.f 9) args).run P w=.ok (.enter (ρ.f 9) args) w)(eg:∀ args w,(callFunc (ρ'.f 10) args).run P w=.ok (.enter (ρ'.f 10) args) w):AGu P (ρ.f 6) (ρ'.f 10) (ρ.t 26) where
 nil:=fun w b hb hc=>by
  have hseq:SeqGives ABa 2 P (ρ'.f 10) #[.pointer (some ⟨b,0,none⟩)] encZ (fun ss:List Int=>ss=[]) 0 w:=AnyZI.keys_gives_nil L' ABa 2 trivial rfl b w hb hc;have cS:=AEF L ABa 5 trivial trivial trivial trivial rfl (by omega) (hsort _) e9 (ρ'.f 10) #[.pointer (some ⟨b,0,none⟩)] trivial eg _ 0 (zL _) (by omega) w hseq;refine(callsIn_wide.1 cS).mono ?_;rintro e w' ⟨v,ss,rfl,rfl,hrow,AIF,hbl⟩;exact⟨by rw[AIF.2 rfl],hbl⟩
 map:=fun w b r es clk ks hb hc hr hsz hst hk hlt=>by
  let R:IN->Option (DataW Unit×List MemPlace):=fun _=>some (.nil,[])
  have hkey:∀ x∈es.toList,∃ m,x.key=zv m/\m<9223372036854775808:=fun x hx=>by
   have:x.key∈ks.map zv:=hk ▸ List.mem_map_of_mem hx;obtain⟨m,hm,he⟩:=zq.1 this;exact⟨m,he.symm,hlt m hm⟩
  have hrd:∀ x∈es.toList,∀ m,x.key=zv m->m<9223372036854775808->ADD P (ρ'.t 26) R x=some (.int .i64 (zY m),.nil):=fun x hx m he hm=>by
   unfold ADD;rw[he,zv,keyOf_int_mk L'.t26 (wP hm)];rfl
  have hown:w.ownsMap P (ρ'.t 26) R r es.size (.map ((es.toList.map (AAL P (ρ'.t 26) R)).foldr ABu [])):=
   ⟨es,clk,hr,⟨by unfold maxLen;omega,hst,fun x hx=>by
    obtain⟨m,he,hm⟩:=hkey x hx;exact⟨_,hrd x hx m he hm⟩⟩,IT _,rfl⟩
  have hlen:Maps.size (AFP ((es.toList.map (AAL P (ρ'.t 26) R)).foldr ABu []))=es.size:=by
   show((es.toList.map (AAL P (ρ'.t 26) R)).foldr ABu []).length=_;rw[(ACE _).length_eq];simp
  have ALE:(intKeys (AFP ((es.toList.map (AAL P (ρ'.t 26) R)).foldr ABu []))).Perm (ks.map zY):=by
   show(((es.toList.map (AAL P (ρ'.t 26) R)).foldr ABu []).map fun p=>AFC p.1).Perm _;refine((ACE _).map _).trans ?_;have e1:ks.map zY=es.toList.map fun x=>aU x.key:=by
    have:(es.toList.map (·.key)).map aU=(ks.map zv).map aU:=by rw[hk]
    rw[ABc,ABc]at this;exact this.symm
   have e2:(es.toList.map (AAL P (ρ'.t 26) R)).map (fun p=>AFC p.1)=es.toList.map fun x=>aU x.key:=by
    rw[ABc];refine List.map_congr_left fun x hx=>?_
    obtain⟨m,he,hm⟩:=hkey x hx;show AFC (AAL P (ρ'.t 26) R x).1=aU x.key;unfold AAL;rw[hrd x hx m he hm,he];rfl
   rw[e1,e2]
  have hseq:=AnyZI.keys_gives L' ABa 2 trivial rfl (by omega) b r es.size _ w hb hc hown;have cS:=AEF L ABa 5 trivial trivial trivial trivial rfl (by omega) (hsort _) e9 (ρ'.f 10) #[.pointer (some ⟨b,0,none⟩)] trivial eg _ _ (by rw[hlen];unfold maxLen;omega) (by rw[hlen];omega) w hseq;refine(callsIn_wide.1 cS).mono ?_;rintro e w' ⟨v,ss,rfl,hS,hrow,AIF,hbl⟩;have hp:ss.Perm (ks.map zY):=hS.trans ALE;have hl:ss.length=ks.length:=by rw[hp.length_eq];simp
  refine⟨v,rfl,?_,AIF.trans ?_,hbl⟩
  ·have h1:ss.mergeSort leI=(ks.map zY).mergeSort leI:=mergeSort_of_perm_i hp
   rw[<- hl,<- h1];exact hrow
  ·constructor
   ·rintro rfl
    simp only[List.length_nil]at hl;exact zc hl.symm
   ·rintro rfl
    exact zc hl
section
variable {P:zp}{ty:TTy}{φ:Phi}{E:Nat->Prop}{h h':Hp}{w w':World}{v:IN}
theorem AFp.below(H:AFp ty φ E h w)(hb:Below w.heap.size w w'):AFp ty φ E h w'/\Evo φ h w φ h w':=
 ⟨{dom:=fun i p e=>⟨(H.dom i p e).1,Nat.lt_of_lt_of_le (H.dom i p e).2 hb.size⟩
   inj:=H.inj
   row:=fun i p e hE=>(by rw[hb.block _ (H.dom i p e).2];exact H.row i p e hE)
   fresh:=H.fresh
   kind:=H.kind
   inp:=H.inp},
  {le:=.refl _
   new:=fun _ _ e=>.inl e
   next:=IT _
   size:=hb.size
   tape:=hb.tape
   os:=hb.os
   output:=hb.output
   frame:=fun k hk _=>hb.block k hk
   back:=fun i p e hl _=>⟨i,p,e,hl,rfl,rfl,.inl rfl⟩
   kept:=fun _ _ _=>rfl
   low:=IT _
   high:=IT _
   shape:=fun _ _=>.refl _
   only:=fun _ _ _=>rfl
   all:=fun _ h1 h2=>absurd h2 (Nat.not_lt.2 h1)}⟩
theorem YA{u u':IN}{m:Nat}(hn:TN u=some m)(hr:AFm φ u u'):u'=zv m:=by
 unfold TN at hn;split at hn
 ·split at hn
  ·cases hn;cases hr;rfl
  ·cases hn
 ·cases hn
theorem Qq{clk:Nat}:∀ {es:List Ent} {es':List MapEntry} {lo:Nat} {ks:List Nat},Qp clk es lo=some ks->AGi φ es es'->
  es'.map (·.key)=ks.map zv/\(∀ k∈ks,k<9223372036854775808)/\(∀ x∈es',lo<=x.born/\x.born<clk)/\(es'.map (·.born)).Nodup
 |[],es',lo,ks,hk,he=>by
  cases he;cases hk;exact⟨rfl,(fun k hk=>by cases hk),(fun x hx=>by cases hx),.nil⟩
 |e::es,es',lo,ks,hk,he=>by
  cases he with
  |@cons k k' v v' b _ l' hkey hv ht=>
  unfold Qp at hk;split at hk
  case h_2=>cases hk
  rename_i m hm;split at hk
  case h_2=>cases hk
  rename_i hb;simp only[yr]at hb;split at hk
  case h_2=>cases hk
  rename_i r hr;cases hk;obtain⟨h1,h2,h3,h4⟩:=Qq hr ht;have b1:lo<=b:=Av.1 hb.2.1;have b2:b<clk:=BQ.1 hb.2.2;refine⟨?_,fun x hx=>?_,fun x hx=>?_,?_⟩
  ·simp only[ABV,h1,YA hm hkey]
  ·rcases yv.1 hx with rfl|hx
   ·exact BQ.1 hb.1
   ·exact h2 x hx
  ·rcases yv.1 hx with rfl|hx
   ·exact⟨b1,b2⟩
   ·have:=h3 x hx
    have h5:b+1<=x.born:=this.1;exact⟨by omega,this.2⟩
  ·rw[ABV,List.nodup_cons]
   refine⟨fun hx=>?_,h4⟩;obtain⟨x,hx,he⟩:=zq.1 hx;have h5:b+1<=x.born:=(h3 x hx).1;have he:x.born=b:=he;omega
theorem SH{Ks:List Nat}{t:Nat}{args:List IN}(hr:L4 Ks t args h=.ok v h'):∃ g a,args=[.func (.func g) ⟨[]⟩ ⟨[.pointer (some a)]⟩]/\memN g Ks=true/\J6 t a h=.ok v h':=by
 unfold L4 at hr;split at hr
 case h_2=>cases hr
 split at hr
 case h_2=>cases hr
 rename_i fn f c;split at hr
 case h_2=>cases hr
 rename_i g;split at hr
 case h_2=>cases hr
 rename_i hm;split at hr
 case h_2=>cases hr
 rename_i hf;split at hr
 case h_2=>cases hr
 rename_i p hc;split at hr
 case h_2=>cases hr
 rename_i a;refine⟨g,a,?_,hm,hr⟩;have e1:f=⟨[]⟩:=zz hf;have e2:c=⟨[.pointer (some a)]⟩:=zz hc;rw[e1,e2]
theorem Tj(H:AFp ty φ nil h w){t:Nat}{ti:TI}(hty:ty.get t=some ti)(hs:ti.size=1){ks:List Nat}(hk:J7 t h (FJ ks)=.ok v h')(hb:Below w.heap.size w w'){v':IN}
  (ho:w'.ownsRow w.heap.size t 1 v' ks.length (((ks.map zY).mergeSort leI).map encZ))(hn:v'=.slice none 0 0↔ks=[]):
  ∃ ψ,AFm ψ v v'/\AFp ty ψ nil h' w'/\Evo φ h w ψ h' w':=by
 have hpl:=(G8 ks).length_eq;unfold J7 at hk;split at hk
 ·rename_i he
  cases hk;rw[he]at hpl;have:ks=[]:=zc hpl.symm;rw[hn.2 this];exact⟨φ,.AGW,H.below hb⟩
 ·rename_i x l he
  split at hk
  case h_2=>cases hk
  rename_i AI4;rw[<- he]at AI4 hk;rw[Ao,Bi,hpl]at hk;have hpos:0<ks.length:=by rw[<- hpl,he];simp
  rw[SG AI4]at ho;obtain⟨_,⟨_,h0⟩|⟨g,cap,cur,rfl,hg,hgb,hcap,_,hcs,AIh⟩⟩:=ho
  ·omega
  unfold newRow at hk;split at hk
  case h_2=>cases hk
  rename_i c AGJ;unfold CW at hk;rw[Ao]at hk;obtain⟨bl,hbl,hk'⟩:=Gc hk;cases hk';have hlen:BF ((FJ ks).map zv)=ks.length:=by rw[Bi,OF,hpl]
  rw[hlen]at hbl;rw[Nat.mul_one]at hcs AIh
  let p:Pl:={blk:=g,off:=0,sz:=ks.length,room:=cap,es:=1}
  have hsame:∀ k,k<w.heap.size->w'.heap[k]? =w.heap[k]?:=hb.block;have hgl:g<w'.heap.size:=(Array.getElem?_eq_some_iff.1 hgb).1;have hB:AGe ty (φ.put h.next p) p (.cells c ks.length (yg t)) w'.heap[p.blk]?:=by
   show AGe ty (φ.put h.next p) p (.cells c ks.length (yg t)) w'.heap[g]?;rw[hgb];refine .cells {kind:=⟨rfl,.inr ⟨t,ti,rfl,hty,hs.symm⟩⟩,room:=hcap,fits:=(by show 0+cap<=cur.size;omega),loose:=.inl (.inl rfl),cell:=fun j hj=>?_};have hj2:j<((FJ ks).map zv).length:=by rw[OF,hpl];exact hj
   have e1:=JE AGJ j hj2;rw[e1];refine⟨((FJ ks).map zv).getD j undef,?_,?_⟩
   ·show cur[0+j]? =_
    rw[If,<- Array.getElem?_toList];have e2:(cur.toList.take ks.length)[j]? =((FJ ks).map zv)[j]?:=by rw[AIh]
    rw[List.getElem?_take,if_pos hj]at e2;rw[e2,yf,sh hj2];rfl
   ·rw[yf,sh hj2]
    show AFm _ (((FJ ks).map zv)[j]) _;rw[List.getElem_map];exact .int _ _
  refine⟨φ.put h.next p,?_,H.new hbl hb.size hgl (fun j q e _=>by have:=(H.dom j q e).2;show q.blk≠g;omega) (fun k hk _=>hsame k hk) hB,.made H hbl hg hb.size hsame hb.tape hb.os hb.output⟩;refine .slice (IT _) ⟨rfl,rfl,p,Phi.AGU _ _ _,rfl,.inl ⟨hpos,rfl,.inr ⟨?_,hcap,?_⟩⟩⟩
  ·show 0+ks.length*1=ks.length
   omega
  ·show 0+cap*1<=cap
   omega
theorem SI{S t:Nat}{Ks:List Nat}{ti:TI}(hS:∃ fn,P.funcs[S]? =some fn/\fn.name≠"runtime.NumGoroutine" /\fn.body.isNone=false)(hc:∀ K,memN K Ks=true->AGu P S K t)
  (hty:ty.get t=some ti)(hs:ti.size=1):Il P ty S (UM Ks t):=fun F args h v h' _ hr=>⟨hS,fun φ w args' AGK H=>by
 have hr:L4 Ks t args h=.ok v h':=hr;obtain⟨g,a,rfl,hg,hr⟩:=SH hr;obtain⟨cn,cm⟩:=hc g hg;cases AGK with
 |cons hv hn=>
 cases hn;cases hv with
 |func _ h1 h2=>
 cases h1;cases h2 with
 |cons hp hn=>
 cases hn;cases hp with
 |@ptr _ a' ha=>
 obtain⟨s1,s2,p,hp,hbl,ho⟩:=ha;unfold J6 at hr;split at hr
 case h_2=>cases hr
 rename_i hq;rw[yr]at hq;have q1:=Ay.1 hq.1;have q2:=Av.1 hq.2;split at hr
 case h_2=>cases hr
 rename_i c s e hrow;split at hr
 case h_2=>cases hr
 rename_i hq3;rw[yr]at hq3;have q3:=Ay.1 hq3.1;have q4:=BQ.1 hq3.2;subst q3;have hoff:p.off=0:=by
  rcases (H.kind a.block p c s 0 hp (DM hrow)).2 with ⟨_,_,_,h0|h0⟩|⟨_,_,h0,_⟩
  ·exact h0
  ·have:=H.inp a.block p hp h0
   omega
  ·omega
 have ea:a'=⟨p.blk,0,none⟩:=by
  obtain⟨ab,ao,asp⟩:=a';simp only at s2 hbl ho;subst s2;subst hbl
  congr 1
  omega
 subst ea;obtain⟨cs,tt,fr,hw,R⟩:=H.rowAt hp (fun h=>h) hrow;obtain⟨x,hx,hxr⟩:=R.cell 0 q4;rw[hoff,If]at hx;have hcell:w.cell? ⟨p.blk,0,none⟩=some x:=by rw[H8 hw];exact hx
 have hpb:=(H.dom _ _ hp).2;generalize c.get 0=y at hr hxr;unfold L7 at hr;split at hr
 ·cases hxr
  cases hr;refine(cn w p.blk hpb hcell).mono ?_;rintro e w' ⟨rfl,hb⟩;exact⟨_,φ,rfl,.AGW,H.below hb⟩
 ·rename_i r
  cases hxr with
  |map hq=>
  rename_i q;split at hr
  case h_2=>cases hr
  rename_i es clk hes;split at hr
  case h_2=>cases hr
  rename_i hsz;split at hr
  case h_2=>cases hr
  rename_i ks hks;obtain⟨es',hwm,hre⟩:=H.AGv hq (fun h=>h) hes;obtain⟨k1,k2,k3,k4⟩:=Qq hks hre;have hl:es'.length<=1000000:=by
   have:=Av.1 hsz;rw[Bi]at this;have e2:es'.length=es.length:=by
    clear hes hwm hks k1 k2 k3 k4 hsz this
    induction hre with
    |nil=>rfl
    |cons _ _ _ ih=>simp only[yh,ih]
   omega
  have hnd:ks.Nodup:=by
   have AI4:Wd (FJ ks)=true:=by
    cases he:FJ ks with
    |nil=>rfl
    |cons x l=>
     rw[he]at hr;unfold J7 at hr;split at hr
     ·rename_i e;cases e
     ·rename_i e
      cases e;split at hr
      ·assumption
      ·cases hr
   have:=(KM AI4).imp fun {a b} (hab:a<b)=>Nat.ne_of_lt hab
   exact(G8 ks).nodup_iff.1 this
  have hst:Stamped ⟨es'⟩ clk:=⟨fun x hx=>(k3 x hx).2,k4,by
   show(es'.map (·.key)).Nodup;rw[k1];exact AD0.2 (hnd.imp fun {a b} hab e=>hab (tz e))⟩
  refine(cm w p.blk q.blk ⟨es'⟩ clk ks hpb hcell hwm hl hst k1 k2).mono ?_;rintro e w' ⟨v',rfl,ho,hn,hb⟩;obtain⟨ψ,r1,r2,r3⟩:=Tj H hty hs hr hb ho hn;exact⟨v',ψ,rfl,r1,r2,r3⟩
 ·cases hr⟩
end
end
end Go.Proofs.YtbjadbhkogcfeaaGreat
set_option maxRecDepth 100000
namespace Go.Proofs.YtbjadbhkogcfeaaGreat
noncomputable section
open Go Go.Proofs Go.RowKit Go.Maps Go.Sort Go.Shelf
def Jh:Ren:=⟨fun| 7=>70| 10=>108|n=>n,fun| 23=>89| 26=>3| 3=>95| 28=>127| 0=>0| 27=>126| 33=>136| 4=>4|n=>n,fun n=>n⟩
theorem ag:SlLaysZI.n7 yi Jh where
 mixed:=by kernel_rfl
 f7:=⟨AFb.name,by decide,AE3.trans (congrArg some (by kernel_rfl))⟩
 f10:=⟨Tryz.f108.name,by decide,AEt.trans (congrArg some (by kernel_rfl))⟩
 t0:=ACX
 a0:=ADf
 z0:=ADO
 v0:=ACh
 t4:=ABw
 a4:=AE2
 z4:=AEm
 v4:=AEH
 t23:=Tryz.underlying89
 a23:=Tryz.isAgg89
 z23:=Tryz.sizeOf89
 v23:=Tryz.zeroValue89
 t26:=AAO
 a26:=ACi
 z26:=ACT
 v26:=ABv
 t27:=Tryz.underlying126
 a27:=Tryz.isAgg126
 z27:=Tryz.sizeOf126
 v27:=Tryz.zeroValue126
 t28:=ADm
 a28:=AEe
 z28:=AES
 v28:=ADt
 t33:=Tryz.underlying136
 a33:=Tryz.isAgg136
 z33:=Tryz.sizeOf136
 v33:=Tryz.zeroValue136
def GM:Ren:=⟨fun| 6=>69| 8=>106| 9=>107| 11=>131| 13=>115| 12=>132| 23=>144| 24=>145| 14=>149| 15=>150| 16=>151| 17=>152| 18=>153| 19=>154| 20=>155| 21=>156| 22=>157| 25=>163| 26=>159| 27=>160| 28=>164| 29=>165| 30=>146| 31=>167|n=>n,fun| 26=>3| 28=>127| 24=>92| 0=>0| 3=>3| 37=>108| 48=>23| 50=>140| 4=>4| 40=>181| 39=>180| 45=>185| 5=>5| 9=>9| 51=>195| 55=>199| 57=>203| 58=>204| 33=>136|n=>n,fun n=>n⟩
theorem X7:AEI yi GM where
 mixed:=by kernel_rfl
 f6:=⟨AFc.name,by decide,AE4.trans (congrArg some (by kernel_rfl))⟩
 f8:=⟨Tryz.f106.name,by decide,Tryz.func106.trans (congrArg some (by kernel_rfl))⟩
 f11:=⟨Tryz.f131.name,by decide,Tryz.func131.trans (congrArg some (by kernel_rfl))⟩
 t0:=ACX
 a0:=ADf
 z0:=ADO
 v0:=ACh
 t24:=ACN
 a24:=ADP
 z24:=ADA
 v24:=ACW
 t26:=AAO
 a26:=ACi
 z26:=ACT
 v26:=ABv
 t28:=ADm
 a28:=AEe
 z28:=AES
 v28:=ADt
 i26:=by kernel_rfl
def Qv:Ren:=⟨fun| 5=>107| 8=>115| 7=>132| 19=>144| 20=>145| 10=>149| 11=>150| 12=>151| 13=>152| 14=>153| 15=>154| 16=>155| 17=>156| 18=>157| 30=>163| 31=>159| 32=>160| 33=>164| 34=>165| 35=>146| 40=>167|n=>n,fun| 23=>92| 25=>3| 3=>3| 32=>108| 22=>92| 0=>0| 44=>23| 46=>140| 4=>4| 36=>181| 35=>180| 41=>185| 5=>5| 9=>9| 53=>195| 57=>199| 63=>203| 64=>204|n=>n,fun n=>n⟩
theorem Va:SlLaysM.n5 yi Qv where
 mixed:=by kernel_rfl
 f5:=⟨AFV.name,by decide,ADQ.trans (congrArg some (by kernel_rfl))⟩
 f7:=⟨AFU.name,by decide,AEr.trans (congrArg some (by kernel_rfl))⟩
 f8:=AEs.trans (congrArg some (by kernel_rfl))
 f10:=⟨AFS.name,by decide,AEo.trans (congrArg some (by kernel_rfl))⟩
 f11:=⟨Tryz.f150.name,by decide,Tryz.func150.trans (congrArg some (by kernel_rfl))⟩
 f12:=⟨Tryz.f151.name,by decide,Tryz.func151.trans (congrArg some (by kernel_rfl))⟩
 f13:=⟨Tryz.f152.name,by decide,Tryz.func152.trans (congrArg some (by kernel_rfl))⟩
 f14:=⟨Tryz.f153.name,by decide,Tryz.func153.trans (congrArg some (by kernel_rfl))⟩
 f15:=⟨Tryz.f154.name,by decide,Tryz.func154.trans (congrArg some (by kernel_rfl))⟩
 f16:=⟨AFR.name,by decide,AEn.trans (congrArg some (by kernel_rfl))⟩
 f17:=⟨Tryz.f156.name,by decide,Tryz.func156.trans (congrArg some (by kernel_rfl))⟩
 f18:=⟨Tryz.f157.name,by decide,Tryz.func157.trans (congrArg some (by kernel_rfl))⟩
 f19:=Tryz.func144.trans (congrArg some (by kernel_rfl))
 f20:=AEq.trans (congrArg some (by kernel_rfl))
 f30:=⟨Tryz.f163.name,by decide,Tryz.func163.trans (congrArg some (by kernel_rfl))⟩
 f31:=Tryz.func159.trans (congrArg some (by kernel_rfl))
 f32:=Tryz.func160.trans (congrArg some (by kernel_rfl))
 f33:=⟨Tryz.f164.name,by decide,Tryz.func164.trans (congrArg some (by kernel_rfl))⟩
 f34:=⟨Tryz.f165.name,by decide,Tryz.func165.trans (congrArg some (by kernel_rfl))⟩
 f35:=⟨AFT.name,by decide,AEp.trans (congrArg some (by kernel_rfl))⟩
 f40:=⟨Tryz.f167.name,by decide,Tryz.func167.trans (congrArg some (by kernel_rfl))⟩
 t0:=ACX
 a0:=ADf
 z0:=ADO
 v0:=ACh
 t3:=AAO
 a3:=ACi
 z3:=ACT
 v3:=ABv
 t4:=ABw
 a4:=AE2
 z4:=AEm
 v4:=AEH
 t5:=Tryz.underlying5
 a5:=Tryz.isAgg5
 z5:=Tryz.sizeOf5
 v5:=Tryz.zeroValue5
 t9:=Tryz.underlying9
 a9:=Tryz.isAgg9
 z9:=Tryz.sizeOf9
 v9:=Tryz.zeroValue9
 t22:=ACN
 a22:=ADP
 z22:=ADA
 v22:=ACW
 t23:=ACN
 a23:=ADP
 z23:=ADA
 v23:=ACW
 t25:=AAO
 a25:=ACi
 z25:=ACT
 v25:=ABv
 t32:=Tryz.underlying108
 a32:=Tryz.isAgg108
 z32:=Tryz.sizeOf108
 v32:=Tryz.zeroValue108
 t35:=Tryz.underlying180
 a35:=Tryz.isAgg180
 z35:=Tryz.sizeOf180
 v35:=Tryz.zeroValue180
 t36:=Tryz.underlying181
 a36:=Tryz.isAgg181
 z36:=Tryz.sizeOf181
 v36:=Tryz.zeroValue181
 t41:=Tryz.underlying185
 a41:=Tryz.isAgg185
 z41:=Tryz.sizeOf185
 v41:=Tryz.zeroValue185
 t44:=Tryz.underlying23
 a44:=Tryz.isAgg23
 z44:=Tryz.sizeOf23
 v44:=Tryz.zeroValue23
 t46:=Tryz.underlying140
 a46:=Tryz.isAgg140
 z46:=Tryz.sizeOf140
 v46:=Tryz.zeroValue140
 t53:=Tryz.underlying195
 a53:=Tryz.isAgg195
 z53:=Tryz.sizeOf195
 v53:=Tryz.zeroValue195
 t57:=Tryz.underlying199
 a57:=Tryz.isAgg199
 z57:=Tryz.sizeOf199
 v57:=Tryz.zeroValue199
 t63:=Tryz.underlying203
 a63:=Tryz.isAgg203
 z63:=Tryz.sizeOf203
 v63:=Tryz.zeroValue203
 t64:=Tryz.underlying204
 a64:=Tryz.isAgg204
 z64:=Tryz.sizeOf204
 v64:=Tryz.zeroValue204
theorem tN(m:Nat):AEc yi GM ABa m:=
 ⟨fun blk off cap ss W hH hblk hsz=>callsIn_wide.2 (AnyM.slices_Sort_int Va blk off cap ss W hH hblk hsz),
  fun p cap W=>callsIn_wide.2 (AnyM.slices_Sort_int_none Va p cap W)⟩
theorem xY:AGu yi 69 108 3:=Tk (ρ:=GM) (ρ':=Jh) X7 {ag with} tN (enters_of ADQ (by kernel_rfl) rfl) (enters_of AEt (by kernel_rfl) rfl)
theorem ay{a b:String}(h:(a == b)=false):a≠b:=by simpa using h
def bS:Body:=UM [108] 3
theorem Yh:Il yi ty 69 bS:=SI (ti:=ty3) ⟨AFc,AE4,ay (by kernel_rfl),rfl⟩ (fun K hK=>by
 have hK:=Jj.1 hK;simp only[yv,List.not_mem_nil,or_false]at hK;rcases hK with rfl
 ·exact xY) (by kernel_rfl) rfl
end
end Go.Proofs.YtbjadbhkogcfeaaGreat
namespace Go.Proofs.YtbjadbhkogcfeaaGreat
noncomputable section
open Go
theorem oS:BX yi ty 69 bS:=AFI (.inr Yh)
theorem Aa{a b:String}(h:(a == b)=false):a≠b:=by simpa using h
theorem o5:BX yi ty 5 b5:=zH ⟨Tryz.f5,al5,Tryz.func5,Aa (by kernel_rfl),vm⟩
theorem o8:BX yi ty 8 b8:=zH ⟨Tryz.f8,al8,AFF,Aa (by kernel_rfl),vo⟩
theorem o9:BX yi ty 9 b9:=zH ⟨Tryz.f9,al9,Tryz.func9,Aa (by kernel_rfl),vp⟩
theorem o10:BX yi ty 10 b10:=zH ⟨Tryz.f10,dW,Tryz.func10,Aa (by kernel_rfl),mo⟩
theorem o11:BX yi ty 11 b11:=zH ⟨Tryz.f11,uE,Tryz.func11,Aa (by kernel_rfl),mq⟩
theorem o12:BX yi ty 12 b12:=zH ⟨Tryz.f12,uF,Tryz.func12,Aa (by kernel_rfl),mr⟩
theorem o14:BX yi ty 14 b14:=zH ⟨Tryz.f14,uG,Tryz.func14,Aa (by kernel_rfl),mu⟩
theorem o16:BX yi ty 16 b16:=zH ⟨AFd,uH,AE5,Aa (by kernel_rfl),mw⟩
theorem o18:BX yi ty 18 b18:=zH ⟨Tryz.f18,uI,Tryz.func18,Aa (by kernel_rfl),my⟩
theorem o19:BX yi ty 19 b19:=zH ⟨Tryz.f19,uJ,Tryz.func19,Aa (by kernel_rfl),mz⟩
theorem o20:BX yi ty 20 b20:=zH ⟨Tryz.f20,uK,Tryz.func20,Aa (by kernel_rfl),nB⟩
theorem o21:BX yi ty 21 b21:=zH ⟨Tryz.f21,uL,Tryz.func21,Aa (by kernel_rfl),nC⟩
theorem o22:BX yi ty 22 b22:=zH ⟨Tryz.f22,uM,Tryz.func22,Aa (by kernel_rfl),nE⟩
theorem o29:BX yi ty 29 b29:=zH ⟨Tryz.f29,uN,Tryz.func29,Aa (by kernel_rfl),nF⟩
theorem o30:BX yi ty 30 b30:=zH ⟨Tryz.f30,uO,Tryz.func30,Aa (by kernel_rfl),nG⟩
theorem o31:BX yi ty 31 b31:=zH ⟨Tryz.f31,uP,Tryz.func31,Aa (by kernel_rfl),nH⟩
theorem o32:BX yi ty 32 b32:=zH ⟨Tryz.f32,uQ,Tryz.func32,Aa (by kernel_rfl),nI⟩
theorem o33:BX yi ty 33 b33:=zH ⟨Tryz.f33,uR,Tryz.func33,Aa (by kernel_rfl),nJ⟩
theorem o34:BX yi ty 34 b34:=zH ⟨Tryz.f34,uS,Tryz.func34,Aa (by kernel_rfl),nL⟩
theorem o35:BX yi ty 35 b35:=zH ⟨Tryz.f35,uT,Tryz.func35,Aa (by kernel_rfl),nM⟩
theorem o36:BX yi ty 36 b36:=zH ⟨Tryz.f36,uU,Tryz.func36,Aa (by kernel_rfl),nN⟩
theorem o37:BX yi ty 37 b37:=zH ⟨Tryz.f37,uV,Tryz.func37,Aa (by kernel_rfl),nO⟩
theorem o38:BX yi ty 38 b38:=zH ⟨Tryz.f38,uW,Tryz.func38,Aa (by kernel_rfl),nP⟩
theorem o39:BX yi ty 39 b39:=zH ⟨Tryz.f39,uX,Tryz.func39,Aa (by kernel_rfl),nQ⟩
theorem o40:BX yi ty 40 b40:=zH ⟨Tryz.f40,uY,Tryz.func40,Aa (by kernel_rfl),nR⟩
theorem o42:BX yi ty 42 b42:=zH ⟨Tryz.f42,uZ,Tryz.func42,Aa (by kernel_rfl),nS⟩
theorem o43:BX yi ty 43 b43:=zH ⟨Tryz.f43,ua,Tryz.func43,Aa (by kernel_rfl),nT⟩
theorem o44:BX yi ty 44 b44:=zH ⟨Tryz.f44,uc,Tryz.func44,Aa (by kernel_rfl),nU⟩
theorem o45:BX yi ty 45 b45:=zH ⟨Tryz.f45,ud,Tryz.func45,Aa (by kernel_rfl),nV⟩
theorem o46:BX yi ty 46 b46:=zH ⟨Tryz.f46,ue,Tryz.func46,Aa (by kernel_rfl),nW⟩
theorem o47:BX yi ty 47 b47:=zH ⟨Tryz.f47,uf,Tryz.func47,Aa (by kernel_rfl),nX⟩
theorem o48:BX yi ty 48 b48:=zH ⟨Tryz.f48,ug,Tryz.func48,Aa (by kernel_rfl),nY⟩
theorem o53:BX yi ty 53 b53:=zH ⟨Tryz.f53,uh,Tryz.func53,Aa (by kernel_rfl),nZ⟩
theorem o55:BX yi ty 55 b55:=zH ⟨Tryz.f55,um,Tryz.func55,Aa (by kernel_rfl),na⟩
theorem o56:BX yi ty 56 b56:=zH ⟨Tryz.f56,un,Tryz.func56,Aa (by kernel_rfl),nc⟩
theorem o57:BX yi ty 57 b57:=zH ⟨Tryz.f57,ur,Tryz.func57,Aa (by kernel_rfl),nf⟩
theorem o58:BX yi ty 58 b58:=zH ⟨Tryz.f58,ut,Tryz.func58,Aa (by kernel_rfl),ng⟩
theorem o59:BX yi ty 59 b59:=zH ⟨Tryz.f59,uu,Tryz.func59,Aa (by kernel_rfl),nh⟩
theorem o60:BX yi ty 60 b60:=zH ⟨Tryz.f60,uv,Tryz.func60,Aa (by kernel_rfl),nk⟩
theorem o61:BX yi ty 61 b61:=zH ⟨Tryz.f61,uw,Tryz.func61,Aa (by kernel_rfl),nl⟩
theorem o62:BX yi ty 62 b62:=zH ⟨Tryz.f62,uz,Tryz.func62,Aa (by kernel_rfl),nr⟩
theorem o63:BX yi ty 63 b63:=zH ⟨Tryz.f63,vA,Tryz.func63,Aa (by kernel_rfl),nu⟩
theorem o64:BX yi ty 64 b64:=zH ⟨Tryz.f64,vB,Tryz.func64,Aa (by kernel_rfl),nw⟩
theorem o65:BX yi ty 65 b65:=zH ⟨Tryz.f65,vC,Tryz.func65,Aa (by kernel_rfl),ny⟩
theorem o66:BX yi ty 66 b66:=zH ⟨Tryz.f66,vD,Tryz.func66,Aa (by kernel_rfl),nz⟩
theorem o67:BX yi ty 67 b67:=zH ⟨Tryz.f67,vE,Tryz.func67,Aa (by kernel_rfl),oB⟩
theorem o68:BX yi ty 68 b68:=zH ⟨Tryz.f68,vF,Tryz.func68,Aa (by kernel_rfl),oC⟩
theorem o70:BX yi ty 70 b70:=zH ⟨AFb,vG,AE3,Aa (by kernel_rfl),oD⟩
theorem o71:BX yi ty 71 b71:=zH ⟨Tryz.f71,vH,Tryz.func71,Aa (by kernel_rfl),oE⟩
theorem o72:BX yi ty 72 b72:=zH ⟨Tryz.f72,vI,Tryz.func72,Aa (by kernel_rfl),oF⟩
theorem o73:BX yi ty 73 b73:=zH ⟨Tryz.f73,vJ,Tryz.func73,Aa (by kernel_rfl),oG⟩
theorem o74:BX yi ty 74 b74:=zH ⟨Tryz.f74,vK,Tryz.func74,Aa (by kernel_rfl),oH⟩
theorem o75:BX yi ty 75 b75:=zH ⟨Tryz.f75,vL,Tryz.func75,Aa (by kernel_rfl),oI⟩
theorem o76:BX yi ty 76 b76:=zH ⟨Tryz.f76,vM,Tryz.func76,Aa (by kernel_rfl),oJ⟩
theorem o77:BX yi ty 77 b77:=zH ⟨Tryz.f77,vN,Tryz.func77,Aa (by kernel_rfl),oK⟩
theorem o78:BX yi ty 78 b78:=zH ⟨Tryz.f78,vO,Tryz.func78,Aa (by kernel_rfl),oL⟩
theorem o79:BX yi ty 79 b79:=zH ⟨Tryz.f79,vP,Tryz.func79,Aa (by kernel_rfl),oM⟩
theorem o80:BX yi ty 80 b80:=zH ⟨Tryz.f80,vQ,Tryz.func80,Aa (by kernel_rfl),oN⟩
theorem o81:BX yi ty 81 b81:=zH ⟨Tryz.f81,vR,Tryz.func81,Aa (by kernel_rfl),oO⟩
theorem o82:BX yi ty 82 b82:=zH ⟨Tryz.f82,vS,Tryz.func82,Aa (by kernel_rfl),oP⟩
theorem o84:BX yi ty 84 b84:=zH ⟨Tryz.f84,vT,Tryz.func84,Aa (by kernel_rfl),oQ⟩
theorem o87:BX yi ty 87 b87:=zH ⟨Tryz.f87,vU,Tryz.func87,Aa (by kernel_rfl),oR⟩
theorem o89:BX yi ty 89 b89:=zH ⟨Tryz.f89,vV,Tryz.func89,Aa (by kernel_rfl),oU⟩
theorem o92:BX yi ty 92 b92:=zH ⟨Tryz.f92,vW,Tryz.func92,Aa (by kernel_rfl),oV⟩
theorem o93:BX yi ty 93 b93:=zH ⟨Tryz.f93,vX,Tryz.func93,Aa (by kernel_rfl),oW⟩
theorem o94:BX yi ty 94 b94:=zH ⟨Tryz.f94,vY,Tryz.func94,Aa (by kernel_rfl),oX⟩
theorem o95:BX yi ty 95 b95:=zH ⟨Tryz.f95,vZ,Tryz.func95,Aa (by kernel_rfl),oY⟩
theorem o96:BX yi ty 96 b96:=zH ⟨Tryz.f96,va,Tryz.func96,Aa (by kernel_rfl),oZ⟩
theorem o97:BX yi ty 97 b97:=zH ⟨Tryz.f97,vd,Tryz.func97,Aa (by kernel_rfl),oa⟩
theorem o98:BX yi ty 98 b98:=zH ⟨Tryz.f98,ve,Tryz.func98,Aa (by kernel_rfl),od⟩
theorem o99:BX yi ty 99 b99:=zH ⟨Tryz.f99,vf,Tryz.func99,Aa (by kernel_rfl),oe⟩
theorem wQ:BX yi ty 100 Wi:=zH ⟨Tryz.f100,lN,Tryz.func100,Aa (by kernel_rfl),db⟩
theorem wR:BX yi ty 101 Wj:=zH ⟨Tryz.f101,lO,Tryz.func101,Aa (by kernel_rfl),de⟩
theorem wS:BX yi ty 102 Wk:=zH ⟨Tryz.f102,lQ,Tryz.func102,Aa (by kernel_rfl),df⟩
theorem wT:BX yi ty 103 Wl:=zH ⟨Tryz.f103,lR,Tryz.func103,Aa (by kernel_rfl),dh⟩
theorem wU:BX yi ty 104 Wn:=zH ⟨Tryz.f104,lS,Tryz.func104,Aa (by kernel_rfl),dj⟩
theorem wV:BX yi ty 105 Wo:=zH ⟨Tryz.f105,lT,Tryz.func105,Aa (by kernel_rfl),dm⟩
theorem wW:BX yi ty 107 Wp:=zH ⟨AFV,lU,ADQ,Aa (by kernel_rfl),dp⟩
theorem wX:BX yi ty 109 Wq:=zH ⟨Tryz.f109,lV,Tryz.func109,Aa (by kernel_rfl),dq⟩
theorem wY:BX yi ty 110 Wr:=zH ⟨Tryz.f110,lW,Tryz.func110,Aa (by kernel_rfl),dr⟩
theorem wa:BX yi ty 111 Ws:=zH ⟨Tryz.f111,lX,Tryz.func111,Aa (by kernel_rfl),du⟩
theorem wb:BX yi ty 112 Wt:=zH ⟨Tryz.f112,lY,Tryz.func112,Aa (by kernel_rfl),dw⟩
theorem wd:BX yi ty 113 Wu:=zH ⟨Tryz.f113,lZ,Tryz.func113,Aa (by kernel_rfl),dy⟩
theorem we:BX yi ty 114 Wv:=zH ⟨Tryz.f114,la,Tryz.func114,Aa (by kernel_rfl),dz⟩
theorem wg:BX yi ty 115 Ww:=zH ⟨Tryz.f115,lc,AEs,Aa (by kernel_rfl),d6⟩
theorem wh:BX yi ty 116 Wx:=zH ⟨Tryz.f116,lg,Tryz.func116,Aa (by kernel_rfl),d7⟩
theorem wi:BX yi ty 117 Wy:=zH ⟨Tryz.f117,li,Tryz.func117,Aa (by kernel_rfl),d8⟩
theorem wl:BX yi ty 118 Wz:=zH ⟨Tryz.f118,ll,Tryz.func118,Aa (by kernel_rfl),eA⟩
theorem wm:BX yi ty 119 XA:=zH ⟨Tryz.f119,lm,Tryz.func119,Aa (by kernel_rfl),eB⟩
theorem wu:BX yi ty 120 XB:=zH ⟨Tryz.f120,lq,Tryz.func120,Aa (by kernel_rfl),eC⟩
theorem wy:BX yi ty 121 XC:=zH ⟨Tryz.f121,lr,Tryz.func121,Aa (by kernel_rfl),eD⟩
theorem wz:BX yi ty 122 XD:=zH ⟨Tryz.f122,lw,Tryz.func122,Aa (by kernel_rfl),eE⟩
theorem xA:BX yi ty 123 XE:=zH ⟨Tryz.f123,lx,Tryz.func123,Aa (by kernel_rfl),eF⟩
theorem xC:BX yi ty 124 XF:=zH ⟨Tryz.f124,ly,Tryz.func124,Aa (by kernel_rfl),eG⟩
theorem xD:BX yi ty 127 XG:=zH ⟨Tryz.f127,lz,Tryz.func127,Aa (by kernel_rfl),eH⟩
theorem xE:BX yi ty 128 XH:=zH ⟨Tryz.f128,l7,Tryz.func128,Aa (by kernel_rfl),eI⟩
theorem xF:BX yi ty 129 XI:=zH ⟨Tryz.f129,mA,Tryz.func129,Aa (by kernel_rfl),eJ⟩
theorem xG:BX yi ty 130 XJ:=zH ⟨Tryz.f130,mB,Tryz.func130,Aa (by kernel_rfl),eK⟩
theorem xH:BX yi ty 132 XK:=zH ⟨AFU,mC,AEr,Aa (by kernel_rfl),eL⟩
theorem xI:BX yi ty 133 XL:=zH ⟨Tryz.f133,mD,Tryz.func133,Aa (by kernel_rfl),eM⟩
theorem xJ:BX yi ty 134 XM:=zH ⟨Tryz.f134,mE,Tryz.func134,Aa (by kernel_rfl),eN⟩
theorem xK:BX yi ty 135 XN:=zH ⟨Tryz.f135,mF,Tryz.func135,Aa (by kernel_rfl),eO⟩
theorem xL:BX yi ty 136 XO:=zH ⟨Tryz.f136,mG,Tryz.func136,Aa (by kernel_rfl),eP⟩
theorem xM:BX yi ty 145 XP:=zH ⟨Tryz.f145,mH,AEq,Aa (by kernel_rfl),eQ⟩
theorem xN:BX yi ty 146 XQ:=zH ⟨AFT,mI,AEp,Aa (by kernel_rfl),eS⟩
theorem xO:BX yi ty 147 XR:=zH ⟨Tryz.f147,mJ,Tryz.func147,Aa (by kernel_rfl),eT⟩
theorem xP:BX yi ty 148 XS:=zH ⟨Tryz.f148,mK,Tryz.func148,Aa (by kernel_rfl),eU⟩
theorem xQ:BX yi ty 149 XT:=zH ⟨AFS,mL,AEo,Aa (by kernel_rfl),eV⟩
theorem xR:BX yi ty 155 XU:=zH ⟨AFR,mM,AEn,Aa (by kernel_rfl),eW⟩
theorem Aq(i:Nat):BX yi ty i Ap:=AFI (.inl rfl)
set_option maxRecDepth 100000 in
def Gm:FT:=(.nd Ap (.nd Ap (.nd Ap (.nd Ap (.nd Ap (.nd b31 (.nd b63 (.nd XG .mt .mt) .mt) (.nd b95 (.nd Ap .mt .mt) .mt)) (.nd b47 (.nd b79 (.nd Ap .mt .mt) .mt) (.nd Ws (.nd Ap .mt .mt) .mt))) (.nd Ap (.nd b39 (.nd b71 (.nd XN .mt .mt) .mt) (.nd Wl (.nd Ap .mt .mt) .mt)) (.nd b55 (.nd b87 (.nd Ap .mt .mt) .mt) (.nd XA (.nd Ap .mt .mt) .mt)))) (.nd b11 (.nd b19 (.nd b35 (.nd b67 (.nd Ap .mt .mt) .mt) (.nd b99 (.nd Ap .mt .mt) .mt)) (.nd Ap (.nd Ap (.nd XR .mt .mt) .mt) (.nd Ww (.nd Ap .mt .mt) .mt))) (.nd Ap (.nd b43 (.nd b75 (.nd Ap .mt .mt) .mt) (.nd Wp (.nd Ap .mt .mt) .mt)) (.nd b59 (.nd Ap (.nd XU .mt .mt) .mt) (.nd XE .mt .mt))))) (.nd b5 (.nd b9 (.nd Ap (.nd b33 (.nd b65 (.nd XI .mt .mt) .mt) (.nd b97 (.nd Ap .mt .mt) .mt)) (.nd Ap (.nd b81 (.nd XP .mt .mt) .mt) (.nd Wu (.nd Ap .mt .mt) .mt))) (.nd Ap (.nd Ap (.nd b73 (.nd Ap .mt .mt) .mt) (.nd Wo (.nd Ap .mt .mt) .mt)) (.nd b57 (.nd b89 (.nd Ap .mt .mt) .mt) (.nd XC .mt .mt)))) (.nd Ap (.nd b21 (.nd b37 (.nd bS (.nd XL .mt .mt) .mt) (.nd Wj (.nd Ap .mt .mt) .mt)) (.nd b53 (.nd Ap (.nd XT .mt .mt) .mt) (.nd Wy (.nd Ap .mt .mt) .mt))) (.nd b29 (.nd b45 (.nd b77 (.nd Ap .mt .mt) .mt) (.nd Wq (.nd Ap .mt .mt) .mt)) (.nd b61 (.nd b93 (.nd Ap .mt .mt) .mt) (.nd Ap .mt .mt)))))) (.nd Ap (.nd Ap (.nd b8 (.nd b16 (.nd b32 (.nd b64 (.nd XH .mt .mt) .mt) (.nd b96 (.nd Ap .mt .mt) .mt)) (.nd b48 (.nd b80 (.nd Ap .mt .mt) .mt) (.nd Wt (.nd Ap .mt .mt) .mt))) (.nd Ap (.nd b40 (.nd b72 (.nd XO .mt .mt) .mt) (.nd Wn (.nd Ap .mt .mt) .mt)) (.nd b56 (.nd Ap (.nd Ap .mt .mt) .mt) (.nd XB (.nd Ap .mt .mt) .mt)))) (.nd b12 (.nd b20 (.nd b36 (.nd b68 (.nd XK .mt .mt) .mt) (.nd Wi (.nd Ap .mt .mt) .mt)) (.nd Ap (.nd b84 (.nd XS .mt .mt) .mt) (.nd Wx (.nd Ap .mt .mt) .mt))) (.nd Ap (.nd b44 (.nd b76 (.nd Ap .mt .mt) .mt) (.nd Ap (.nd Ap .mt .mt) .mt)) (.nd b60 (.nd b92 (.nd Ap .mt .mt) .mt) (.nd XF .mt .mt))))) (.nd Ap (.nd b10 (.nd b18 (.nd b34 (.nd b66 (.nd XJ .mt .mt) .mt) (.nd b98 (.nd Ap .mt .mt) .mt)) (.nd Ap (.nd b82 (.nd XQ .mt .mt) .mt) (.nd Wv (.nd Ap .mt .mt) .mt))) (.nd Ap (.nd b42 (.nd b74 (.nd Ap .mt .mt) .mt) (.nd Ap (.nd Ap .mt .mt) .mt)) (.nd b58 (.nd Ap (.nd Ap .mt .mt) .mt) (.nd XD .mt .mt)))) (.nd b14 (.nd b22 (.nd b38 (.nd b70 (.nd XM .mt .mt) .mt) (.nd Wk (.nd Ap .mt .mt) .mt)) (.nd Ap (.nd Ap (.nd Ap .mt .mt) .mt) (.nd Wz (.nd Ap .mt .mt) .mt))) (.nd b30 (.nd b46 (.nd b78 (.nd Ap .mt .mt) .mt) (.nd Wr (.nd Ap .mt .mt) .mt)) (.nd b62 (.nd b94 (.nd Ap .mt .mt) .mt) (.nd Ap .mt .mt)))))))
set_option maxRecDepth 100000 in
theorem Sh:FT.All (BX yi ty) Gm id:=⟨Aq _,⟨Aq _,⟨Aq _,⟨Aq _,⟨Aq _,⟨o31,⟨o63,⟨xD,trivial,trivial⟩,trivial⟩,⟨o95,⟨Aq _,trivial,trivial⟩,trivial⟩⟩,⟨o47,⟨o79,⟨Aq _,trivial,trivial⟩,trivial⟩,⟨wa,⟨Aq _,trivial,trivial⟩,trivial⟩⟩⟩,⟨Aq _,⟨o39,⟨o71,⟨xK,trivial,trivial⟩,trivial⟩,⟨wT,⟨Aq _,trivial,trivial⟩,trivial⟩⟩,⟨o55,⟨o87,⟨Aq _,trivial,trivial⟩,trivial⟩,⟨wm,⟨Aq _,trivial,trivial⟩,trivial⟩⟩⟩⟩,⟨o11,⟨o19,⟨o35,⟨o67,⟨Aq _,trivial,trivial⟩,trivial⟩,⟨o99,⟨Aq _,trivial,trivial⟩,trivial⟩⟩,⟨Aq _,⟨Aq _,⟨xO,trivial,trivial⟩,trivial⟩,⟨wg,⟨Aq _,trivial,trivial⟩,trivial⟩⟩⟩,⟨Aq _,⟨o43,⟨o75,⟨Aq _,trivial,trivial⟩,trivial⟩,⟨wW,⟨Aq _,trivial,trivial⟩,trivial⟩⟩,⟨o59,⟨Aq _,⟨xR,trivial,trivial⟩,trivial⟩,⟨xA,trivial,trivial⟩⟩⟩⟩⟩,⟨o5,⟨o9,⟨Aq _,⟨o33,⟨o65,⟨xF,trivial,trivial⟩,trivial⟩,⟨o97,⟨Aq _,trivial,trivial⟩,trivial⟩⟩,⟨Aq _,⟨o81,⟨xM,trivial,trivial⟩,trivial⟩,⟨wd,⟨Aq _,trivial,trivial⟩,trivial⟩⟩⟩,⟨Aq _,⟨Aq _,⟨o73,⟨Aq _,trivial,trivial⟩,trivial⟩,⟨wV,⟨Aq _,trivial,trivial⟩,trivial⟩⟩,⟨o57,⟨o89,⟨Aq _,trivial,trivial⟩,trivial⟩,⟨wy,trivial,trivial⟩⟩⟩⟩,⟨Aq _,⟨o21,⟨o37,⟨oS,⟨xI,trivial,trivial⟩,trivial⟩,⟨wR,⟨Aq _,trivial,trivial⟩,trivial⟩⟩,⟨o53,⟨Aq _,⟨xQ,trivial,trivial⟩,trivial⟩,⟨wi,⟨Aq _,trivial,trivial⟩,trivial⟩⟩⟩,⟨o29,⟨o45,⟨o77,⟨Aq _,trivial,trivial⟩,trivial⟩,⟨wX,⟨Aq _,trivial,trivial⟩,trivial⟩⟩,⟨o61,⟨o93,⟨Aq _,trivial,trivial⟩,trivial⟩,⟨Aq _,trivial,trivial⟩⟩⟩⟩⟩⟩,⟨Aq _,⟨Aq _,⟨o8,⟨o16,⟨o32,⟨o64,⟨xE,trivial,trivial⟩,trivial⟩,⟨o96,⟨Aq _,trivial,trivial⟩,trivial⟩⟩,⟨o48,⟨o80,⟨Aq _,trivial,trivial⟩,trivial⟩,⟨wb,⟨Aq _,trivial,trivial⟩,trivial⟩⟩⟩,⟨Aq _,⟨o40,⟨o72,⟨xL,trivial,trivial⟩,trivial⟩,⟨wU,⟨Aq _,trivial,trivial⟩,trivial⟩⟩,⟨o56,⟨Aq _,⟨Aq _,trivial,trivial⟩,trivial⟩,⟨wu,⟨Aq _,trivial,trivial⟩,trivial⟩⟩⟩⟩,⟨o12,⟨o20,⟨o36,⟨o68,⟨xH,trivial,trivial⟩,trivial⟩,⟨wQ,⟨Aq _,trivial,trivial⟩,trivial⟩⟩,⟨Aq _,⟨o84,⟨xP,trivial,trivial⟩,trivial⟩,⟨wh,⟨Aq _,trivial,trivial⟩,trivial⟩⟩⟩,⟨Aq _,⟨o44,⟨o76,⟨Aq _,trivial,trivial⟩,trivial⟩,⟨Aq _,⟨Aq _,trivial,trivial⟩,trivial⟩⟩,⟨o60,⟨o92,⟨Aq _,trivial,trivial⟩,trivial⟩,⟨xC,trivial,trivial⟩⟩⟩⟩⟩,⟨Aq _,⟨o10,⟨o18,⟨o34,⟨o66,⟨xG,trivial,trivial⟩,trivial⟩,⟨o98,⟨Aq _,trivial,trivial⟩,trivial⟩⟩,⟨Aq _,⟨o82,⟨xN,trivial,trivial⟩,trivial⟩,⟨we,⟨Aq _,trivial,trivial⟩,trivial⟩⟩⟩,⟨Aq _,⟨o42,⟨o74,⟨Aq _,trivial,trivial⟩,trivial⟩,⟨Aq _,⟨Aq _,trivial,trivial⟩,trivial⟩⟩,⟨o58,⟨Aq _,⟨Aq _,trivial,trivial⟩,trivial⟩,⟨wz,trivial,trivial⟩⟩⟩⟩,⟨o14,⟨o22,⟨o38,⟨o70,⟨xJ,trivial,trivial⟩,trivial⟩,⟨wS,⟨Aq _,trivial,trivial⟩,trivial⟩⟩,⟨Aq _,⟨Aq _,⟨Aq _,trivial,trivial⟩,trivial⟩,⟨wl,⟨Aq _,trivial,trivial⟩,trivial⟩⟩⟩,⟨o30,⟨o46,⟨o78,⟨Aq _,trivial,trivial⟩,trivial⟩,⟨wY,⟨Aq _,trivial,trivial⟩,trivial⟩⟩,⟨o62,⟨o94,⟨Aq _,trivial,trivial⟩,trivial⟩,⟨Aq _,trivial,trivial⟩⟩⟩⟩⟩⟩⟩
theorem mV:DG yi ty:=tR (by kernel_rfl) (by kernel_rfl)
theorem Np(n:Nat):Db yi ty (call Gm n):=JN mV (by kernel_rfl) Sh n
end
noncomputable section
open Go
set_option maxHeartbeats 0 in
theorem We:be (call Gm 64 16 [] Ij)=true:=by kernel_rfl
theorem Sd:Il yi ty 16 KQ:=Yn ⟨AFd,AE5,Aa (by kernel_rfl),by kernel_rfl⟩ (cV Np We)
theorem oA:BX yi ty 16 KQ:=AFI (.inr Sd)
open Go.RowKit Go.WideShapes Go.ChangeShapes
set_option maxRecDepth 100000
def mU(L:List IN)(args:List IN)(h:Hp):R:=match args with
 |[]=>.ok (.agg ⟨L⟩) h
 |_::_=>.no
def Nl(L:List IN):Body:=⟨[.x (fun _=>mU L)],cNo⟩
def isW:IN->Bool
 |.int .u32 n=>decide (0<=n) && decide (n<4294967296)
 |_=>false
def ba:R->Bool
 |.ok (.agg ⟨l⟩) _=>l.all isW && yu l.length 256
 |_=>false
def sX:R->List IN
 |.ok (.agg ⟨l⟩) _=>l
 |_=>[]
def NO:List IN:=sX (call Gm 64 8 [] Ij)
set_option maxHeartbeats 0 in
theorem kW:ba (call Gm 64 8 [] Ij)=true:=by kernel_rfl
theorem PD{v:IN}(h:isW v=true):∃ n:Nat,v=.int .u32 (n:Int)/\n<4294967296:=by
 unfold isW at h;split at h
 ·rename_i n
  simp only[yr,decide_eq_true_eq]at h;obtain⟨m,rfl⟩:=Int.eq_ofNat_of_zero_le h.1;exact⟨m,rfl,by omega⟩
 ·cases h
theorem Tp:∃ h',call Gm 64 8 [] Ij=.ok (.agg ⟨NO⟩) h'/\NO.length=256/\∀ v∈NO,isW v=true:=by
 have h:=kW;unfold NO;generalize call Gm 64 8 [] Ij=r at h;unfold ba at h;split at h
 ·rename_i l h'
  simp only[yr,List.all_eq_true]at h;exact⟨h',rfl,Nat.eq_of_beq_eq_true h.2,h.1⟩
 ·cases h
theorem Q7{φ:Phi}:∀ {L L':List IN},AF3 φ L L'->(∀ v∈L,isW v=true)->L'=L
 |_,_,.nil,_=>rfl
 |_,_,.cons (v:=v) h t,hL=>by
  rw[Q7 t fun x hx=>hL x (yj _ hx)];obtain⟨n,rfl,_⟩:=PD (hL v yk);cases h;rfl
theorem Q8(φ:Phi):∀ {L:List IN},(∀ v∈L,isW v=true)->AF3 φ L L
 |[],_=>.nil
 |v::L,h=>by
  obtain⟨n,rfl,_⟩:=PD (h v yk);exact .cons (.int _ _) (Q8 φ fun x hx=>h x (yj _ hx))
theorem Ym(w:World):Calls yi 8 #[] w fun e w'=>e=.returned (.agg ⟨NO⟩)/\Below w.heap.size w w':=by
 obtain⟨h',hr,_,hw⟩:=Tp;obtain⟨_,hc⟩:=Np _ 8 [] Ij _ h' hr;refine(hc sy w [] .nil (OZ ty w)).mono fun e w' ⟨v',ψ,he,hv,_,ev⟩=>?_
 cases hv with
 |agg hl=>
  rw[Q7 hl hw]at he;exact⟨he,⟨ev.os,ev.tape,ev.output,ev.size,fun k hk=>ev.frame k hk fun i p hp=>by cases hp⟩⟩
theorem YC{P:zp}{ty:TTy}{f:Nat}{L:List IN}(hL:∀ v∈L,isW v=true)(hS:∃ fn,P.funcs[f]? =some fn/\fn.name≠"runtime.NumGoroutine" /\fn.body.isNone=false)(hc:∀ w:World,Calls P f #[] w fun e w'=>e=.returned (.agg ⟨L⟩)/\Below w.heap.size w w'):Il P ty f (Nl L):=fun F args h v h' _ hr=>⟨hS,fun φ w args' AGK H=>by
 have hr:mU L args h=.ok v h':=hr;cases args with
 |cons a l=>cases hr
 |nil=>
  cases hr;cases AGK;exact(hc w).mono fun e w' ⟨he,hb⟩=>⟨_,φ,he,.agg (Q8 φ hL),(G0 H hb).1,(G0 H hb).2⟩⟩
theorem cw:Il yi ty 8 (Nl NO):=YC (Tp.choose_spec.2.2) ⟨Tryz.f8,AFF,Aa (by kernel_rfl),by kernel_rfl⟩ Ym
theorem oT:BX yi ty 8 (Nl NO):=AFI (.inr cw)
theorem Xa{bs:FT}{n f:Nat}{L:List IN}(hb:bs.get f=some (Nl L)){h:Hp}:call bs (yg n) f [] h=.ok (.agg ⟨L⟩) h:=by
 rw[Ab hb];rfl
end
noncomputable section
open Go
set_option maxRecDepth 100000 in
def AC:FT:=(.nd Ap (.nd Ap (.nd Ap (.nd Ap (.nd Ap (.nd b31 (.nd b63 (.nd XG .mt .mt) .mt) (.nd b95 (.nd Ap .mt .mt) .mt)) (.nd b47 (.nd b79 (.nd Ap .mt .mt) .mt) (.nd Ws (.nd Ap .mt .mt) .mt))) (.nd Ap (.nd b39 (.nd b71 (.nd XN .mt .mt) .mt) (.nd Wl (.nd Ap .mt .mt) .mt)) (.nd b55 (.nd b87 (.nd Ap .mt .mt) .mt) (.nd XA (.nd Ap .mt .mt) .mt)))) (.nd b11 (.nd b19 (.nd b35 (.nd b67 (.nd Ap .mt .mt) .mt) (.nd b99 (.nd Ap .mt .mt) .mt)) (.nd Ap (.nd Ap (.nd XR .mt .mt) .mt) (.nd Ww (.nd Ap .mt .mt) .mt))) (.nd Ap (.nd b43 (.nd b75 (.nd Ap .mt .mt) .mt) (.nd Wp (.nd Ap .mt .mt) .mt)) (.nd b59 (.nd Ap (.nd XU .mt .mt) .mt) (.nd XE .mt .mt))))) (.nd b5 (.nd b9 (.nd Ap (.nd b33 (.nd b65 (.nd XI .mt .mt) .mt) (.nd b97 (.nd Ap .mt .mt) .mt)) (.nd Ap (.nd b81 (.nd XP .mt .mt) .mt) (.nd Wu (.nd Ap .mt .mt) .mt))) (.nd Ap (.nd Ap (.nd b73 (.nd Ap .mt .mt) .mt) (.nd Wo (.nd Ap .mt .mt) .mt)) (.nd b57 (.nd b89 (.nd Ap .mt .mt) .mt) (.nd XC .mt .mt)))) (.nd Ap (.nd b21 (.nd b37 (.nd bS (.nd XL .mt .mt) .mt) (.nd Wj (.nd Ap .mt .mt) .mt)) (.nd b53 (.nd Ap (.nd XT .mt .mt) .mt) (.nd Wy (.nd Ap .mt .mt) .mt))) (.nd b29 (.nd b45 (.nd b77 (.nd Ap .mt .mt) .mt) (.nd Wq (.nd Ap .mt .mt) .mt)) (.nd b61 (.nd b93 (.nd Ap .mt .mt) .mt) (.nd Ap .mt .mt)))))) (.nd Ap (.nd Ap (.nd (Nl NO) (.nd KQ (.nd b32 (.nd b64 (.nd XH .mt .mt) .mt) (.nd b96 (.nd Ap .mt .mt) .mt)) (.nd b48 (.nd b80 (.nd Ap .mt .mt) .mt) (.nd Wt (.nd Ap .mt .mt) .mt))) (.nd Ap (.nd b40 (.nd b72 (.nd XO .mt .mt) .mt) (.nd Wn (.nd Ap .mt .mt) .mt)) (.nd b56 (.nd Ap (.nd Ap .mt .mt) .mt) (.nd XB (.nd Ap .mt .mt) .mt)))) (.nd b12 (.nd b20 (.nd b36 (.nd b68 (.nd XK .mt .mt) .mt) (.nd Wi (.nd Ap .mt .mt) .mt)) (.nd Ap (.nd b84 (.nd XS .mt .mt) .mt) (.nd Wx (.nd Ap .mt .mt) .mt))) (.nd Ap (.nd b44 (.nd b76 (.nd Ap .mt .mt) .mt) (.nd Ap (.nd Ap .mt .mt) .mt)) (.nd b60 (.nd b92 (.nd Ap .mt .mt) .mt) (.nd XF .mt .mt))))) (.nd Ap (.nd b10 (.nd b18 (.nd b34 (.nd b66 (.nd XJ .mt .mt) .mt) (.nd b98 (.nd Ap .mt .mt) .mt)) (.nd Ap (.nd b82 (.nd XQ .mt .mt) .mt) (.nd Wv (.nd Ap .mt .mt) .mt))) (.nd Ap (.nd b42 (.nd b74 (.nd Ap .mt .mt) .mt) (.nd Ap (.nd Ap .mt .mt) .mt)) (.nd b58 (.nd Ap (.nd Ap .mt .mt) .mt) (.nd XD .mt .mt)))) (.nd b14 (.nd b22 (.nd b38 (.nd b70 (.nd XM .mt .mt) .mt) (.nd Wk (.nd Ap .mt .mt) .mt)) (.nd Ap (.nd Ap (.nd Ap .mt .mt) .mt) (.nd Wz (.nd Ap .mt .mt) .mt))) (.nd b30 (.nd b46 (.nd b78 (.nd Ap .mt .mt) .mt) (.nd Wr (.nd Ap .mt .mt) .mt)) (.nd b62 (.nd b94 (.nd Ap .mt .mt) .mt) (.nd Ap .mt .mt)))))))
set_option maxRecDepth 100000 in
theorem XX:FT.All (BX yi ty) AC id:=⟨Aq _,⟨Aq _,⟨Aq _,⟨Aq _,⟨Aq _,⟨o31,⟨o63,⟨xD,trivial,trivial⟩,trivial⟩,⟨o95,⟨Aq _,trivial,trivial⟩,trivial⟩⟩,⟨o47,⟨o79,⟨Aq _,trivial,trivial⟩,trivial⟩,⟨wa,⟨Aq _,trivial,trivial⟩,trivial⟩⟩⟩,⟨Aq _,⟨o39,⟨o71,⟨xK,trivial,trivial⟩,trivial⟩,⟨wT,⟨Aq _,trivial,trivial⟩,trivial⟩⟩,⟨o55,⟨o87,⟨Aq _,trivial,trivial⟩,trivial⟩,⟨wm,⟨Aq _,trivial,trivial⟩,trivial⟩⟩⟩⟩,⟨o11,⟨o19,⟨o35,⟨o67,⟨Aq _,trivial,trivial⟩,trivial⟩,⟨o99,⟨Aq _,trivial,trivial⟩,trivial⟩⟩,⟨Aq _,⟨Aq _,⟨xO,trivial,trivial⟩,trivial⟩,⟨wg,⟨Aq _,trivial,trivial⟩,trivial⟩⟩⟩,⟨Aq _,⟨o43,⟨o75,⟨Aq _,trivial,trivial⟩,trivial⟩,⟨wW,⟨Aq _,trivial,trivial⟩,trivial⟩⟩,⟨o59,⟨Aq _,⟨xR,trivial,trivial⟩,trivial⟩,⟨xA,trivial,trivial⟩⟩⟩⟩⟩,⟨o5,⟨o9,⟨Aq _,⟨o33,⟨o65,⟨xF,trivial,trivial⟩,trivial⟩,⟨o97,⟨Aq _,trivial,trivial⟩,trivial⟩⟩,⟨Aq _,⟨o81,⟨xM,trivial,trivial⟩,trivial⟩,⟨wd,⟨Aq _,trivial,trivial⟩,trivial⟩⟩⟩,⟨Aq _,⟨Aq _,⟨o73,⟨Aq _,trivial,trivial⟩,trivial⟩,⟨wV,⟨Aq _,trivial,trivial⟩,trivial⟩⟩,⟨o57,⟨o89,⟨Aq _,trivial,trivial⟩,trivial⟩,⟨wy,trivial,trivial⟩⟩⟩⟩,⟨Aq _,⟨o21,⟨o37,⟨oS,⟨xI,trivial,trivial⟩,trivial⟩,⟨wR,⟨Aq _,trivial,trivial⟩,trivial⟩⟩,⟨o53,⟨Aq _,⟨xQ,trivial,trivial⟩,trivial⟩,⟨wi,⟨Aq _,trivial,trivial⟩,trivial⟩⟩⟩,⟨o29,⟨o45,⟨o77,⟨Aq _,trivial,trivial⟩,trivial⟩,⟨wX,⟨Aq _,trivial,trivial⟩,trivial⟩⟩,⟨o61,⟨o93,⟨Aq _,trivial,trivial⟩,trivial⟩,⟨Aq _,trivial,trivial⟩⟩⟩⟩⟩⟩,⟨Aq _,⟨Aq _,⟨oT,⟨oA,⟨o32,⟨o64,⟨xE,trivial,trivial⟩,trivial⟩,⟨o96,⟨Aq _,trivial,trivial⟩,trivial⟩⟩,⟨o48,⟨o80,⟨Aq _,trivial,trivial⟩,trivial⟩,⟨wb,⟨Aq _,trivial,trivial⟩,trivial⟩⟩⟩,⟨Aq _,⟨o40,⟨o72,⟨xL,trivial,trivial⟩,trivial⟩,⟨wU,⟨Aq _,trivial,trivial⟩,trivial⟩⟩,⟨o56,⟨Aq _,⟨Aq _,trivial,trivial⟩,trivial⟩,⟨wu,⟨Aq _,trivial,trivial⟩,trivial⟩⟩⟩⟩,⟨o12,⟨o20,⟨o36,⟨o68,⟨xH,trivial,trivial⟩,trivial⟩,⟨wQ,⟨Aq _,trivial,trivial⟩,trivial⟩⟩,⟨Aq _,⟨o84,⟨xP,trivial,trivial⟩,trivial⟩,⟨wh,⟨Aq _,trivial,trivial⟩,trivial⟩⟩⟩,⟨Aq _,⟨o44,⟨o76,⟨Aq _,trivial,trivial⟩,trivial⟩,⟨Aq _,⟨Aq _,trivial,trivial⟩,trivial⟩⟩,⟨o60,⟨o92,⟨Aq _,trivial,trivial⟩,trivial⟩,⟨xC,trivial,trivial⟩⟩⟩⟩⟩,⟨Aq _,⟨o10,⟨o18,⟨o34,⟨o66,⟨xG,trivial,trivial⟩,trivial⟩,⟨o98,⟨Aq _,trivial,trivial⟩,trivial⟩⟩,⟨Aq _,⟨o82,⟨xN,trivial,trivial⟩,trivial⟩,⟨we,⟨Aq _,trivial,trivial⟩,trivial⟩⟩⟩,⟨Aq _,⟨o42,⟨o74,⟨Aq _,trivial,trivial⟩,trivial⟩,⟨Aq _,⟨Aq _,trivial,trivial⟩,trivial⟩⟩,⟨o58,⟨Aq _,⟨Aq _,trivial,trivial⟩,trivial⟩,⟨wz,trivial,trivial⟩⟩⟩⟩,⟨o14,⟨o22,⟨o38,⟨o70,⟨xJ,trivial,trivial⟩,trivial⟩,⟨wS,⟨Aq _,trivial,trivial⟩,trivial⟩⟩,⟨Aq _,⟨Aq _,⟨Aq _,trivial,trivial⟩,trivial⟩,⟨wl,⟨Aq _,trivial,trivial⟩,trivial⟩⟩⟩,⟨o30,⟨o46,⟨o78,⟨Aq _,trivial,trivial⟩,trivial⟩,⟨wY,⟨Aq _,trivial,trivial⟩,trivial⟩⟩,⟨o62,⟨o94,⟨Aq _,trivial,trivial⟩,trivial⟩,⟨Aq _,trivial,trivial⟩⟩⟩⟩⟩⟩⟩
theorem ZW(n:Nat):Db yi ty (call AC n):=JN mV (by kernel_rfl) XX n
theorem Pw:AC.get 16=some KQ:=by kernel_rfl
theorem cx:AC.get 8=some (Nl NO):=by kernel_rfl
end
noncomputable section
open Go
set_option maxRecDepth 100000
theorem pC{n:Nat}{args:List IN}{h:Hp}(hl:yl (BF args) 240=true):call AC (yg n) 18 args h=A4 [.t (J 4)] (d18 (call AC n) (AS e0 0 args) h):=by
 have hb:AC.get 18=some b18:=by kernel_rfl
 rw[Ab hb];have hd:b18=⟨[.t (J 4)],d18⟩:=by kernel_rfl
 rw[hd,AW hl]
theorem pD{n:Nat}{args:List IN}{h:Hp}(hl:yl (BF args) 240=true):call AC (yg n) 19 args h=A4 [.t (J 2)] (d19 (call AC n) (AS e0 0 args) h):=by
 have hb:AC.get 19=some b19:=by kernel_rfl
 rw[Ab hb];have hd:b19=⟨[.t (J 2)],d19⟩:=by kernel_rfl
 rw[hd,AW hl]
theorem pF{n:Nat}{args:List IN}{h:Hp}(hl:yl (BF args) 240=true):call AC (yg n) 22 args h=A4 [.t (J 4)] (d22 (call AC n) (AS e0 0 args) h):=by
 have hb:AC.get 22=some b22:=by kernel_rfl
 rw[Ab hb];have hd:b22=⟨[.t (J 4)],d22⟩:=by kernel_rfl
 rw[hd,AW hl]
theorem pG{n:Nat}{args:List IN}{h:Hp}(hl:yl (BF args) 240=true):call AC (yg n) 30 args h=A4 [.t (J 2),.t (J 3)] (d30 (call AC n) (AS e0 0 args) h):=by
 have hb:AC.get 30=some b30:=by kernel_rfl
 rw[Ab hb];have hd:b30=⟨[.t (J 2),.t (J 3)],d30⟩:=by kernel_rfl
 rw[hd,AW hl]
theorem pP{n:Nat}{args:List IN}{h:Hp}(hl:yl (BF args) 240=true):call AC (yg n) 40 args h=A4 [.t (J 2)] (d40 (call AC n) (AS e0 0 args) h):=by
 have hb:AC.get 40=some b40:=by kernel_rfl
 rw[Ab hb];have hd:b40=⟨[.t (J 2)],d40⟩:=by kernel_rfl
 rw[hd,AW hl]
theorem pQ{n:Nat}{args:List IN}{h:Hp}(hl:yl (BF args) 240=true):call AC (yg n) 45 args h=A4 [.t (J 2)] (d45 (call AC n) (AS e0 0 args) h):=by
 have hb:AC.get 45=some b45:=by kernel_rfl
 rw[Ab hb];have hd:b45=⟨[.t (J 2)],d45⟩:=by kernel_rfl
 rw[hd,AW hl]
theorem pS{n:Nat}{args:List IN}{h:Hp}(hl:yl (BF args) 240=true):call AC (yg n) 47 args h=A4 [.t (J 6),.t (J 7)] (d47 (call AC n) (AS e0 0 args) h):=by
 have hb:AC.get 47=some b47:=by kernel_rfl
 rw[Ab hb];have hd:b47=⟨[.t (J 6),.t (J 7)],d47⟩:=by kernel_rfl
 rw[hd,AW hl]
theorem pT{n:Nat}{args:List IN}{h:Hp}(hl:yl (BF args) 240=true):call AC (yg n) 48 args h=A4 [.t (J 4)] (d48 (call AC n) (AS e0 0 args) h):=by
 have hb:AC.get 48=some b48:=by kernel_rfl
 rw[Ab hb];have hd:b48=⟨[.t (J 4)],d48⟩:=by kernel_rfl
 rw[hd,AW hl]
theorem pU{n:Nat}{args:List IN}{h:Hp}(hl:yl (BF args) 240=true):call AC (yg n) 53 args h=A4 [.t (J 2)] (d53 (call AC n) (AS e0 0 args) h):=by
 have hb:AC.get 53=some b53:=by kernel_rfl
 rw[Ab hb];have hd:b53=⟨[.t (J 2)],d53⟩:=by kernel_rfl
 rw[hd,AW hl]
theorem pX{n:Nat}{args:List IN}{h:Hp}(hl:yl (BF args) 240=true):call AC (yg n) 57 args h=A4 [.t (J 2)] (d57 (call AC n) (AS e0 0 args) h):=by
 have hb:AC.get 57=some b57:=by kernel_rfl
 rw[Ab hb];have hd:b57=⟨[.t (J 2)],d57⟩:=by kernel_rfl
 rw[hd,AW hl]
theorem Ip{n:Nat}{args:List IN}{h:Hp}(hl:yl (BF args) 240=true):call AC (yg n) 58 args h=A4 [.t (J 10)] (d58 (call AC n) (AS e0 0 args) h):=by
 have hb:AC.get 58=some b58:=by kernel_rfl
 rw[Ab hb];have hd:b58=⟨[.t (J 10)],d58⟩:=by kernel_rfl
 rw[hd,AW hl]
theorem MK{n:Nat}{args:List IN}{h:Hp}(hl:yl (BF args) 240=true):call AC (yg n) 59 args h=A4 [.t (J 8)] (d59 (call AC n) (AS e0 0 args) h):=by
 have hb:AC.get 59=some b59:=by kernel_rfl
 rw[Ab hb];have hd:b59=⟨[.t (J 8)],d59⟩:=by kernel_rfl
 rw[hd,AW hl]
theorem Sn{n:Nat}{args:List IN}{h:Hp}(hl:yl (BF args) 240=true):call AC (yg n) 60 args h=A4 [.t (J 8)] (d60 (call AC n) (AS e0 0 args) h):=by
 have hb:AC.get 60=some b60:=by kernel_rfl
 rw[Ab hb];have hd:b60=⟨[.t (J 8)],d60⟩:=by kernel_rfl
 rw[hd,AW hl]
theorem pf{n:Nat}{args:List IN}{h:Hp}(hl:yl (BF args) 240=true):call AC (yg n) 63 args h=A4 [.cN (J 8) 5,.t (J 9)] (d63 (call AC n) (AS e0 0 args) h):=by
 have hb:AC.get 63=some b63:=by kernel_rfl
 rw[Ab hb];have hd:b63=⟨[.cN (J 8) 5,.t (J 9)],d63⟩:=by kernel_rfl
 rw[hd,AW hl]
theorem ZR{n:Nat}{args:List IN}{h:Hp}(hl:yl (BF args) 240=true):call AC (yg n) 64 args h=A4 [.t (J 8)] (d64 (call AC n) (AS e0 0 args) h):=by
 have hb:AC.get 64=some b64:=by kernel_rfl
 rw[Ab hb];have hd:b64=⟨[.t (J 8)],d64⟩:=by kernel_rfl
 rw[hd,AW hl]
theorem pk{n:Nat}{args:List IN}{h:Hp}(hl:yl (BF args) 240=true):call AC (yg n) 67 args h=A4 [.t (J 8)] (d67 (call AC n) (AS e0 0 args) h):=by
 have hb:AC.get 67=some b67:=by kernel_rfl
 rw[Ab hb];have hd:b67=⟨[.t (J 8)],d67⟩:=by kernel_rfl
 rw[hd,AW hl]
theorem pn{n:Nat}{args:List IN}{h:Hp}(hl:yl (BF args) 240=true):call AC (yg n) 68 args h=A4 [.cN (J 2) 5] (d68 (call AC n) (AS e0 0 args) h):=by
 have hb:AC.get 68=some b68:=by kernel_rfl
 rw[Ab hb];have hd:b68=⟨[.cN (J 2) 5],d68⟩:=by kernel_rfl
 rw[hd,AW hl]
theorem pp{n:Nat}{args:List IN}{h:Hp}(hl:yl (BF args) 240=true):call AC (yg n) 71 args h=A4 [.t (J 2)] (d71 (call AC n) (AS e0 0 args) h):=by
 have hb:AC.get 71=some b71:=by kernel_rfl
 rw[Ab hb];have hd:b71=⟨[.t (J 2)],d71⟩:=by kernel_rfl
 rw[hd,AW hl]
theorem pq{n:Nat}{args:List IN}{h:Hp}(hl:yl (BF args) 240=true):call AC (yg n) 72 args h=A4 [.t (J 2)] (d72 (call AC n) (AS e0 0 args) h):=by
 have hb:AC.get 72=some b72:=by kernel_rfl
 rw[Ab hb];have hd:b72=⟨[.t (J 2)],d72⟩:=by kernel_rfl
 rw[hd,AW hl]
theorem pr{n:Nat}{args:List IN}{h:Hp}(hl:yl (BF args) 240=true):call AC (yg n) 73 args h=A4 [.cN (J 4) 6,.t (J 5),.t (J 6),.t (J 7)] (d73 (call AC n) (AS e0 0 args) h):=by
 have hb:AC.get 73=some b73:=by kernel_rfl
 rw[Ab hb];have hd:b73=⟨[.cN (J 4) 6,.t (J 5),.t (J 6),.t (J 7)],d73⟩:=by kernel_rfl
 rw[hd,AW hl]
theorem ZS{n:Nat}{args:List IN}{h:Hp}(hl:yl (BF args) 240=true):call AC (yg n) 74 args h=A4 [] (d74 (call AC n) (AS e0 0 args) h):=by
 have hb:AC.get 74=some b74:=by kernel_rfl
 rw[Ab hb];have hd:b74=⟨[],d74⟩:=by kernel_rfl
 rw[hd,AW hl]
theorem pu{n:Nat}{args:List IN}{h:Hp}(hl:yl (BF args) 240=true):call AC (yg n) 75 args h=A4 [.t (J 4)] (d75 (call AC n) (AS e0 0 args) h):=by
 have hb:AC.get 75=some b75:=by kernel_rfl
 rw[Ab hb];have hd:b75=⟨[.t (J 4)],d75⟩:=by kernel_rfl
 rw[hd,AW hl]
theorem px{n:Nat}{args:List IN}{h:Hp}(hl:yl (BF args) 240=true):call AC (yg n) 76 args h=A4 [.t (J 2)] (d76 (call AC n) (AS e0 0 args) h):=by
 have hb:AC.get 76=some b76:=by kernel_rfl
 rw[Ab hb];have hd:b76=⟨[.t (J 2)],d76⟩:=by kernel_rfl
 rw[hd,AW hl]
theorem py{n:Nat}{args:List IN}{h:Hp}(hl:yl (BF args) 240=true):call AC (yg n) 77 args h=A4 [.t (J 3)] (d77 (call AC n) (AS e0 0 args) h):=by
 have hb:AC.get 77=some b77:=by kernel_rfl
 rw[Ab hb];have hd:b77=⟨[.t (J 3)],d77⟩:=by kernel_rfl
 rw[hd,AW hl]
theorem pz{n:Nat}{args:List IN}{h:Hp}(hl:yl (BF args) 240=true):call AC (yg n) 78 args h=A4 [.t (J 4)] (d78 (call AC n) (AS e0 0 args) h):=by
 have hb:AC.get 78=some b78:=by kernel_rfl
 rw[Ab hb];have hd:b78=⟨[.t (J 4)],d78⟩:=by kernel_rfl
 rw[hd,AW hl]
theorem qA{n:Nat}{args:List IN}{h:Hp}(hl:yl (BF args) 240=true):call AC (yg n) 79 args h=A4 [.t (J 3)] (d79 (call AC n) (AS e0 0 args) h):=by
 have hb:AC.get 79=some b79:=by kernel_rfl
 rw[Ab hb];have hd:b79=⟨[.t (J 3)],d79⟩:=by kernel_rfl
 rw[hd,AW hl]
theorem qB{n:Nat}{args:List IN}{h:Hp}(hl:yl (BF args) 240=true):call AC (yg n) 80 args h=A4 [.t (J 4)] (d80 (call AC n) (AS e0 0 args) h):=by
 have hb:AC.get 80=some b80:=by kernel_rfl
 rw[Ab hb];have hd:b80=⟨[.t (J 4)],d80⟩:=by kernel_rfl
 rw[hd,AW hl]
theorem ZT{n:Nat}{args:List IN}{h:Hp}(hl:yl (BF args) 240=true):call AC (yg n) 81 args h=A4 [.t (J 4)] (d81 (call AC n) (AS e0 0 args) h):=by
 have hb:AC.get 81=some b81:=by kernel_rfl
 rw[Ab hb];have hd:b81=⟨[.t (J 4)],d81⟩:=by kernel_rfl
 rw[hd,AW hl]
theorem So{n:Nat}{args:List IN}{h:Hp}(hl:yl (BF args) 240=true):call AC (yg n) 82 args h=A4 [.t (J 4),.t (J 5)] (d82 (call AC n) (AS e0 0 args) h):=by
 have hb:AC.get 82=some b82:=by kernel_rfl
 rw[Ab hb];have hd:b82=⟨[.t (J 4),.t (J 5)],d82⟩:=by kernel_rfl
 rw[hd,AW hl]
theorem ZU{n:Nat}{args:List IN}{h:Hp}(hl:yl (BF args) 240=true):call AC (yg n) 84 args h=A4 [.t (J 4),.t (J 5),.t (J 6)] (d84 (call AC n) (AS e0 0 args) h):=by
 have hb:AC.get 84=some b84:=by kernel_rfl
 rw[Ab hb];have hd:b84=⟨[.t (J 4),.t (J 5),.t (J 6)],d84⟩:=by kernel_rfl
 rw[hd,AW hl]
theorem qC{n:Nat}{args:List IN}{h:Hp}(hl:yl (BF args) 240=true):call AC (yg n) 87 args h=A4 [.t (J 4)] (d87 (call AC n) (AS e0 0 args) h):=by
 have hb:AC.get 87=some b87:=by kernel_rfl
 rw[Ab hb];have hd:b87=⟨[.t (J 4)],d87⟩:=by kernel_rfl
 rw[hd,AW hl]
theorem qE{n:Nat}{args:List IN}{h:Hp}(hl:yl (BF args) 240=true):call AC (yg n) 92 args h=A4 [.t (J 2)] (d92 (call AC n) (AS e0 0 args) h):=by
 have hb:AC.get 92=some b92:=by kernel_rfl
 rw[Ab hb];have hd:b92=⟨[.t (J 2)],d92⟩:=by kernel_rfl
 rw[hd,AW hl]
theorem Iq{n:Nat}{args:List IN}{h:Hp}(hl:yl (BF args) 240=true):call AC (yg n) 93 args h=A4 [.t (J 2)] (d93 (call AC n) (AS e0 0 args) h):=by
 have hb:AC.get 93=some b93:=by kernel_rfl
 rw[Ab hb];have hd:b93=⟨[.t (J 2)],d93⟩:=by kernel_rfl
 rw[hd,AW hl]
theorem qF{n:Nat}{args:List IN}{h:Hp}(hl:yl (BF args) 240=true):call AC (yg n) 94 args h=A4 [.t (J 2)] (d94 (call AC n) (AS e0 0 args) h):=by
 have hb:AC.get 94=some b94:=by kernel_rfl
 rw[Ab hb];have hd:b94=⟨[.t (J 2)],d94⟩:=by kernel_rfl
 rw[hd,AW hl]
theorem qG{n:Nat}{args:List IN}{h:Hp}(hl:yl (BF args) 240=true):call AC (yg n) 95 args h=A4 [.t (J 8)] (d95 (call AC n) (AS e0 0 args) h):=by
 have hb:AC.get 95=some b95:=by kernel_rfl
 rw[Ab hb];have hd:b95=⟨[.t (J 8)],d95⟩:=by kernel_rfl
 rw[hd,AW hl]
theorem Sp{n:Nat}{args:List IN}{h:Hp}(hl:yl (BF args) 240=true):call AC (yg n) 96 args h=A4 [.t (J 4)] (d96 (call AC n) (AS e0 0 args) h):=by
 have hb:AC.get 96=some b96:=by kernel_rfl
 rw[Ab hb];have hd:b96=⟨[.t (J 4)],d96⟩:=by kernel_rfl
 rw[hd,AW hl]
theorem qH{n:Nat}{args:List IN}{h:Hp}(hl:yl (BF args) 240=true):call AC (yg n) 97 args h=A4 [.t (J 8)] (d97 (call AC n) (AS e0 0 args) h):=by
 have hb:AC.get 97=some b97:=by kernel_rfl
 rw[Ab hb];have hd:b97=⟨[.t (J 8)],d97⟩:=by kernel_rfl
 rw[hd,AW hl]
theorem ZV{n:Nat}{args:List IN}{h:Hp}(hl:yl (BF args) 240=true):call AC (yg n) 98 args h=A4 [.t (J 4),.t (J 5)] (d98 (call AC n) (AS e0 0 args) h):=by
 have hb:AC.get 98=some b98:=by kernel_rfl
 rw[Ab hb];have hd:b98=⟨[.t (J 4),.t (J 5)],d98⟩:=by kernel_rfl
 rw[hd,AW hl]
theorem qI{n:Nat}{args:List IN}{h:Hp}(hl:yl (BF args) 240=true):call AC (yg n) 99 args h=A4 [.t (J 6)] (d99 (call AC n) (AS e0 0 args) h):=by
 have hb:AC.get 99=some b99:=by kernel_rfl
 rw[Ab hb];have hd:b99=⟨[.t (J 6)],d99⟩:=by kernel_rfl
 rw[hd,AW hl]
theorem eo{n:Nat}{args:List IN}{h:Hp}(hl:yl (BF args) 240=true):call AC (yg n) 100 args h=A4 [.t (J 4)] (f0 (call AC n) (AS e0 0 args) h):=by
 have hb:AC.get 100=some Wi:=by kernel_rfl
 rw[Ab hb];have hd:Wi=⟨[.t (J 4)],f0⟩:=by kernel_rfl
 rw[hd,AW hl]
theorem et{n:Nat}{args:List IN}{h:Hp}(hl:yl (BF args) 240=true):call AC (yg n) 101 args h=A4 [.t (J 4)] (gA (call AC n) (AS e0 0 args) h):=by
 have hb:AC.get 101=some Wj:=by kernel_rfl
 rw[Ab hb];have hd:Wj=⟨[.t (J 4)],gA⟩:=by kernel_rfl
 rw[hd,AW hl]
theorem H7{n:Nat}{args:List IN}{h:Hp}(hl:yl (BF args) 240=true):call AC (yg n) 102 args h=A4 [.t (J 2)] (On (call AC n) (AS e0 0 args) h):=by
 have hb:AC.get 102=some Wk:=by kernel_rfl
 rw[Ab hb];have hd:Wk=⟨[.t (J 2)],On⟩:=by kernel_rfl
 rw[hd,AW hl]
theorem Om{n:Nat}{args:List IN}{h:Hp}(hl:yl (BF args) 240=true):call AC (yg n) 103 args h=A4 [.t (J 2)] (Xe (call AC n) (AS e0 0 args) h):=by
 have hb:AC.get 103=some Wl:=by kernel_rfl
 rw[Ab hb];have hd:Wl=⟨[.t (J 2)],Xe⟩:=by kernel_rfl
 rw[hd,AW hl]
theorem eu{n:Nat}{args:List IN}{h:Hp}(hl:yl (BF args) 240=true):call AC (yg n) 104 args h=A4 [.t (J 4)] (gC (call AC n) (AS e0 0 args) h):=by
 have hb:AC.get 104=some Wn:=by kernel_rfl
 rw[Ab hb];have hd:Wn=⟨[.t (J 4)],gC⟩:=by kernel_rfl
 rw[hd,AW hl]
theorem ez{n:Nat}{args:List IN}{h:Hp}(hl:yl (BF args) 240=true):call AC (yg n) 105 args h=A4 [.t (J 4)] (gE (call AC n) (AS e0 0 args) h):=by
 have hb:AC.get 105=some Wo:=by kernel_rfl
 rw[Ab hb];have hd:Wo=⟨[.t (J 4)],gE⟩:=by kernel_rfl
 rw[hd,AW hl]
theorem fC{n:Nat}{args:List IN}{h:Hp}(hl:yl (BF args) 240=true):call AC (yg n) 109 args h=A4 [.t (J 4),.t (J 5)] (gG (call AC n) (AS e0 0 args) h):=by
 have hb:AC.get 109=some Wq:=by kernel_rfl
 rw[Ab hb];have hd:Wq=⟨[.t (J 4),.t (J 5)],gG⟩:=by kernel_rfl
 rw[hd,AW hl]
theorem Lm{n:Nat}{args:List IN}{h:Hp}(hl:yl (BF args) 240=true):call AC (yg n) 110 args h=A4 [.t (J 4)] (Su (call AC n) (AS e0 0 args) h):=by
 have hb:AC.get 110=some Wr:=by kernel_rfl
 rw[Ab hb];have hd:Wr=⟨[.t (J 4)],Su⟩:=by kernel_rfl
 rw[hd,AW hl]
theorem fD{n:Nat}{args:List IN}{h:Hp}(hl:yl (BF args) 240=true):call AC (yg n) 111 args h=A4 [.t (J 2)] (gH (call AC n) (AS e0 0 args) h):=by
 have hb:AC.get 111=some Ws:=by kernel_rfl
 rw[Ab hb];have hd:Ws=⟨[.t (J 2)],gH⟩:=by kernel_rfl
 rw[hd,AW hl]
theorem JM{n:Nat}{args:List IN}{h:Hp}(hl:yl (BF args) 240=true):call AC (yg n) 112 args h=A4 [.cN (J 4) 5,.t (J 5),.t (J 6),.t (J 7)] (gI (call AC n) (AS e0 0 args) h):=by
 have hb:AC.get 112=some Wt:=by kernel_rfl
 rw[Ab hb];have hd:Wt=⟨[.cN (J 4) 5,.t (J 5),.t (J 6),.t (J 7)],gI⟩:=by kernel_rfl
 rw[hd,AW hl]
theorem UT{n:Nat}{args:List IN}{h:Hp}(hl:yl (BF args) 240=true):call AC (yg n) 113 args h=A4 [.t (J 6),.t (J 7)] (gJ (call AC n) (AS e0 0 args) h):=by
 have hb:AC.get 113=some Wu:=by kernel_rfl
 rw[Ab hb];have hd:Wu=⟨[.t (J 6),.t (J 7)],gJ⟩:=by kernel_rfl
 rw[hd,AW hl]
theorem UU{n:Nat}{args:List IN}{h:Hp}(hl:yl (BF args) 240=true):call AC (yg n) 114 args h=A4 [] (gK (call AC n) (AS e0 0 args) h):=by
 have hb:AC.get 114=some Wv:=by kernel_rfl
 rw[Ab hb];have hd:Wv=⟨[],gK⟩:=by kernel_rfl
 rw[hd,AW hl]
theorem fF{n:Nat}{args:List IN}{h:Hp}(hl:yl (BF args) 240=true):call AC (yg n) 115 args h=A4 [.t (J 2)] (gL (call AC n) (AS e0 0 args) h):=by
 have hb:AC.get 115=some Ww:=by kernel_rfl
 rw[Ab hb];have hd:Ww=⟨[.t (J 2)],gL⟩:=by kernel_rfl
 rw[hd,AW hl]
theorem UV{n:Nat}{args:List IN}{h:Hp}(hl:yl (BF args) 240=true):call AC (yg n) 116 args h=A4 [.t (J 2)] (gM (call AC n) (AS e0 0 args) h):=by
 have hb:AC.get 116=some Wx:=by kernel_rfl
 rw[Ab hb];have hd:Wx=⟨[.t (J 2)],gM⟩:=by kernel_rfl
 rw[hd,AW hl]
theorem fG{n:Nat}{args:List IN}{h:Hp}(hl:yl (BF args) 240=true):call AC (yg n) 117 args h=A4 [.t (J 4)] (gN (call AC n) (AS e0 0 args) h):=by
 have hb:AC.get 117=some Wy:=by kernel_rfl
 rw[Ab hb];have hd:Wy=⟨[.t (J 4)],gN⟩:=by kernel_rfl
 rw[hd,AW hl]
theorem fH{n:Nat}{args:List IN}{h:Hp}(hl:yl (BF args) 240=true):call AC (yg n) 118 args h=A4 [.t (J 3)] (gO (call AC n) (AS e0 0 args) h):=by
 have hb:AC.get 118=some Wz:=by kernel_rfl
 rw[Ab hb];have hd:Wz=⟨[.t (J 3)],gO⟩:=by kernel_rfl
 rw[hd,AW hl]
theorem fI{n:Nat}{args:List IN}{h:Hp}(hl:yl (BF args) 240=true):call AC (yg n) 119 args h=A4 [.t (J 3)] (gQ (call AC n) (AS e0 0 args) h):=by
 have hb:AC.get 119=some XA:=by kernel_rfl
 rw[Ab hb];have hd:XA=⟨[.t (J 3)],gQ⟩:=by kernel_rfl
 rw[hd,AW hl]
theorem UW{n:Nat}{args:List IN}{h:Hp}(hl:yl (BF args) 240=true):call AC (yg n) 120 args h=A4 [.t (J 4)] (gS (call AC n) (AS e0 0 args) h):=by
 have hb:AC.get 120=some XB:=by kernel_rfl
 rw[Ab hb];have hd:XB=⟨[.t (J 4)],gS⟩:=by kernel_rfl
 rw[hd,AW hl]
theorem fJ{n:Nat}{args:List IN}{h:Hp}(hl:yl (BF args) 240=true):call AC (yg n) 121 args h=A4 [.t (J 4)] (gT (call AC n) (AS e0 0 args) h):=by
 have hb:AC.get 121=some XC:=by kernel_rfl
 rw[Ab hb];have hd:XC=⟨[.t (J 4)],gT⟩:=by kernel_rfl
 rw[hd,AW hl]
theorem fL{n:Nat}{args:List IN}{h:Hp}(hl:yl (BF args) 240=true):call AC (yg n) 122 args h=A4 [.t (J 2)] (gV (call AC n) (AS e0 0 args) h):=by
 have hb:AC.get 122=some XD:=by kernel_rfl
 rw[Ab hb];have hd:XD=⟨[.t (J 2)],gV⟩:=by kernel_rfl
 rw[hd,AW hl]
theorem fM{n:Nat}{args:List IN}{h:Hp}(hl:yl (BF args) 240=true):call AC (yg n) 123 args h=A4 [.t (J 6)] (gW (call AC n) (AS e0 0 args) h):=by
 have hb:AC.get 123=some XE:=by kernel_rfl
 rw[Ab hb];have hd:XE=⟨[.t (J 6)],gW⟩:=by kernel_rfl
 rw[hd,AW hl]
theorem fN{n:Nat}{args:List IN}{h:Hp}(hl:yl (BF args) 240=true):call AC (yg n) 124 args h=A4 [.t (J 2)] (gX (call AC n) (AS e0 0 args) h):=by
 have hb:AC.get 124=some XF:=by kernel_rfl
 rw[Ab hb];have hd:XF=⟨[.t (J 2)],gX⟩:=by kernel_rfl
 rw[hd,AW hl]
theorem fO{n:Nat}{args:List IN}{h:Hp}(hl:yl (BF args) 240=true):call AC (yg n) 127 args h=A4 [.t (J 5)] (gZ (call AC n) (AS e0 0 args) h):=by
 have hb:AC.get 127=some XG:=by kernel_rfl
 rw[Ab hb];have hd:XG=⟨[.t (J 5)],gZ⟩:=by kernel_rfl
 rw[hd,AW hl]
theorem fP{n:Nat}{args:List IN}{h:Hp}(hl:yl (BF args) 240=true):call AC (yg n) 128 args h=A4 [.t (J 6)] (ga (call AC n) (AS e0 0 args) h):=by
 have hb:AC.get 128=some XH:=by kernel_rfl
 rw[Ab hb];have hd:XH=⟨[.t (J 6)],ga⟩:=by kernel_rfl
 rw[hd,AW hl]
theorem fQ{n:Nat}{args:List IN}{h:Hp}(hl:yl (BF args) 240=true):call AC (yg n) 129 args h=A4 [.t (J 3)] (gb (call AC n) (AS e0 0 args) h):=by
 have hb:AC.get 129=some XI:=by kernel_rfl
 rw[Ab hb];have hd:XI=⟨[.t (J 3)],gb⟩:=by kernel_rfl
 rw[hd,AW hl]
theorem fR{n:Nat}{args:List IN}{h:Hp}(hl:yl (BF args) 240=true):call AC (yg n) 130 args h=A4 [.t (J 6)] (gc (call AC n) (AS e0 0 args) h):=by
 have hb:AC.get 130=some XJ:=by kernel_rfl
 rw[Ab hb];have hd:XJ=⟨[.t (J 6)],gc⟩:=by kernel_rfl
 rw[hd,AW hl]
theorem fU{n:Nat}{args:List IN}{h:Hp}(hl:yl (BF args) 240=true):call AC (yg n) 133 args h=A4 [.t (J 4)] (gf (call AC n) (AS e0 0 args) h):=by
 have hb:AC.get 133=some XL:=by kernel_rfl
 rw[Ab hb];have hd:XL=⟨[.t (J 4)],gf⟩:=by kernel_rfl
 rw[hd,AW hl]
theorem Ln{n:Nat}{args:List IN}{h:Hp}(hl:yl (BF args) 240=true):call AC (yg n) 134 args h=A4 [.t (J 4)] (gh (call AC n) (AS e0 0 args) h):=by
 have hb:AC.get 134=some XM:=by kernel_rfl
 rw[Ab hb];have hd:XM=⟨[.t (J 4)],gh⟩:=by kernel_rfl
 rw[hd,AW hl]
theorem fV{n:Nat}{args:List IN}{h:Hp}(hl:yl (BF args) 240=true):call AC (yg n) 135 args h=A4 [.t (J 2)] (gi (call AC n) (AS e0 0 args) h):=by
 have hb:AC.get 135=some XN:=by kernel_rfl
 rw[Ab hb];have hd:XN=⟨[.t (J 2)],gi⟩:=by kernel_rfl
 rw[hd,AW hl]
theorem UX{n:Nat}{args:List IN}{h:Hp}(hl:yl (BF args) 240=true):call AC (yg n) 136 args h=A4 [] (gj (call AC n) (AS e0 0 args) h):=by
 have hb:AC.get 136=some XO:=by kernel_rfl
 rw[Ab hb];have hd:XO=⟨[],gj⟩:=by kernel_rfl
 rw[hd,AW hl]
theorem fX{n:Nat}{args:List IN}{h:Hp}(hl:yl (BF args) 240=true):call AC (yg n) 145 args h=A4 [.t (J 2)] (gk (call AC n) (AS e0 0 args) h):=by
 have hb:AC.get 145=some XP:=by kernel_rfl
 rw[Ab hb];have hd:XP=⟨[.t (J 2)],gk⟩:=by kernel_rfl
 rw[hd,AW hl]
theorem UY{n:Nat}{args:List IN}{h:Hp}(hl:yl (BF args) 240=true):call AC (yg n) 146 args h=A4 [.t (J 2)] (Zk (call AC n) (AS e0 0 args) h):=by
 have hb:AC.get 146=some XQ:=by kernel_rfl
 rw[Ab hb];have hd:XQ=⟨[.t (J 2)],Zk⟩:=by kernel_rfl
 rw[hd,AW hl]
theorem fY{n:Nat}{args:List IN}{h:Hp}(hl:yl (BF args) 240=true):call AC (yg n) 147 args h=A4 [.t (J 2)] (gm (call AC n) (AS e0 0 args) h):=by
 have hb:AC.get 147=some XR:=by kernel_rfl
 rw[Ab hb];have hd:XR=⟨[.t (J 2)],gm⟩:=by kernel_rfl
 rw[hd,AW hl]
theorem fZ{n:Nat}{args:List IN}{h:Hp}(hl:yl (BF args) 240=true):call AC (yg n) 148 args h=A4 [.t (J 4)] (gn (call AC n) (AS e0 0 args) h):=by
 have hb:AC.get 148=some XS:=by kernel_rfl
 rw[Ab hb];have hd:XS=⟨[.t (J 4)],gn⟩:=by kernel_rfl
 rw[hd,AW hl]
end
noncomputable section
open Go
set_option maxRecDepth 100000
theorem mZ:Bb ty5.zero 1=[.int .u8 0]:=by kernel_rfl
theorem qo:d87=G 4 (AQ (kV (.slice none 0 0))) (BL (Ae 0 (A9 NT)) dH):=rfl
theorem Yq{F:AFi}{h0 h:Hp}{k:Nat}(x0:h0.Ext h)(hk:h0.next<=k)(hk2:k<=h.next){v:IN}{l:List Nat}(o:h.Own k 5 v (l.map bv))(hl:l.length<=1000000){N:Nat}(hN:N<18446744073709551616){e:Env}(s0:J 0 e=v)(s1:J 1 e=.int .u64 (N:Int)):
  ∃ e' h' v' xs m,A9 NT F e h=.exit 0 e' h'/\J 0 e'=v'/\J 1 e'=.int .u64 ((m:Nat):Int)/\m<128/\l++CD N=xs++[m]/\h0.Ext h'/\h'.Own k 5 v' (xs.map bv)/\h.next<=h'.next/\(∀ b el L,¬ AGA v b->h.Row b el L->h'.Row b el L/\¬ AGA v' b):=by
 have ALF:=LC hN;refine Bh (I:=fun i e' h'=>∃ v' xs m,J 0 e'=v'/\J 1 e'=.int .u64 ((m:Nat):Int)/\m<18446744073709551616/\l++CD N=xs++CD m/\i+(CD m).length=(CD N).length/\h0.Ext h'/\h'.Own k 5 v' (xs.map bv)/\h.next<=h'.next/\(∀ b el L,¬ AGA v b->h.Row b el L->h'.Row b el L/\¬ AGA v' b))
  (Q:=fun x=>∃ e' h' v' xs m,x=.exit 0 e' h'/\J 0 e'=v'/\J 1 e'=.int .u64 ((m:Nat):Int)/\m<128/\l++CD N=xs++[m]/\h0.Ext h'/\h'.Own k 5 v' (xs.map bv)/\h.next<=h'.next/\(∀ b el L,¬ AGA v b->h.Row b el L->h'.Row b el L/\¬ AGA v' b)) 20 (by omega) (fun i e' h' ⟨v',xs,m,t0,t1,hm,hx,hi,x1,o1,hn,fr⟩=>?_)
  ⟨v,l,N,s0,s1,hN,rfl,If _,x0,o,IT _,fun b el L hb r=>⟨r,hb⟩⟩
 have hlen:=congrArg ACA hx;rw[No,No]at hlen;by_cases h1:m<128
 ·right
  have c1:iGt (m:Int) 127=false:=by rw[Gr];simp;omega
  have hrun:NT F e' h'=.exit 0 (Env.set 6 (.bool false) e') h':=by
   unfold NT;simp only[sT,By,BY,reduceIte,AK,AJ,t1,c1]
  rw[hrun];refine⟨rfl,_,_,v',xs,m,rfl,by simp[AG,t0],by simp[AG,t1],h1,?_,x1,o1,hn,fr⟩;rw[hx,FD h1]
 ·left
  have W:=x1.wf;have c1:iGt (m:Int) 127=true:=by rw[Gr];simp;omega
  have r1:Tc .u64 (.int .u64 (m:Int)) (.int .u64 128) h'=.ok (.int .u64 ((m % 128:Nat):Int)) h':=by rw[Lz (by omega)];rfl
  have a1:Ez .u64 (.int .u64 ((m % 128:Nat):Int)) (.int .u64 128) h'=.ok (.int .u64 ((m % 128+128:Nat):Int)) h':=by
   have:ADM.wrap (((m % 128:Nat):Int)+128)=((m % 128+128:Nat):Int):=by
    rw[show((m % 128:Nat):Int)+128=((m % 128+128:Nat):Int)by omega];exact Ee (by omega)
   rw[Dq,this]
  have v1:Di .u8 (.int .u64 ((m % 128+128:Nat):Int)) h'=.ok (.int .u8 ((m % 128+128:Nat):Int)) h':=by
   rw[Cw,IY,ABe (show m % 128+128<256 by omega)]
  have os:∀ e,J 11 e=.int .u8 ((m % 128+128:Nat):Int)->As 1 (Bb ty5.zero 1) [(0,1,J 11)] F e h'=.ok (.slice (some ⟨h'.next,0,none⟩) 1 1) (h'.AFh 0 [.int .u8 ((m % 128+128:Nat):Int)]):=fun e he=>by rw[mZ];exact IQ W he rfl rfl
  have hpos:=Yp (m/128);rw[Gk (n:=m) (by omega)]at hi hlen hx;rw[yh]at hi hlen;obtain⟨h2,v2,a2,x2,o2,hn2,fr2⟩:=Jw (eb:=1) (n:=((m % 128+128:Nat):Int)) (kd:=.u8) x1 hk (zO hk2 hn) o1 (by rw[OF];omega);have d1:Sx .u64 (.int .u64 (m:Int)) (.int .u64 128) h2=.ok (.int .u64 ((m/128:Nat):Int)) h2:=by
   have:ADM.wrap ((m:Int).tdiv 128)=((m/128:Nat):Int):=Ee (n:=m/128) (by omega);rw[Lp (by omega),this]
  have hrun:∃ e2,NT F e' h'=.norm e2 h2/\J 0 e2=v2/\J 1 e2=.int .u64 ((m/128:Nat):Int):=by
   unfold NT;simp only[sT,By,BY,reduceIte,AK,AJ,t1,c1,IO,r1,BM,a1,CX,v1,os,BN,t0,a2,Jt,d1];exact⟨_,rfl,by simp[AG]⟩
  obtain⟨e2,b1,b2,b3⟩:=hrun;refine⟨by omega,e2,h2,b1,v2,xs++[m % 128+128],m/128,b2,b3,by omega,?_,by omega,x2,?_,by omega,fun b el L hb r=>?_⟩
  ·rw[hx];simp
  ·rw[zb];exact o2
  ·obtain⟨r1,r2⟩:=fr b el L hb r
   exact fr2 b el L r2 r1
theorem km{n:Nat}{h0 h:Hp}{k:Nat}(x0:h0.Ext h)(hk:h0.next<=k)(hk2:k<=h.next){v:IN}{l:List Nat}(o:h.Own k 5 v (l.map bv))(hl:l.length<=1000000){N:Nat}(hN:N<18446744073709551616):
  ∃ h' v',call AC (n+1) 87 [v,.int .u64 (N:Int)] h=.ok v' h'/\h0.Ext h'/\h'.Own k 5 v' ((l++CD N).map bv)/\h.next<=h'.next/\(∀ b el L,¬ AGA v b->h.Row b el L->h'.Row b el L/\¬ AGA v' b):=by
 obtain⟨e1,h1,v1,xs,m,q1,s0,s1,hm,hx,x1,o1,hn,fr⟩:=Yq (F:=call AC n) x0 hk hk2 o hl hN (e:=Env.set 4 (.slice none 0 0) (Env.set 1 (.int .u64 (N:Int)) (Env.set 0 v e0))) (by simp[AG]) (by simp[AG]);have W:=x1.wf;have ALF:=LC hN;have hlen:=congrArg ACA hx;rw[No,No,List.length_singleton]at hlen;have c1:Di .u8 (.int .u64 (m:Int)) h1=.ok (.int .u8 (m:Int)) h1:=by
  rw[Cw,IY,ABe (show m<256 by omega)]
 have os:∀ e,J 18 e=.int .u8 (m:Int)->As 1 (Bb ty5.zero 1) [(0,1,J 18)] (call AC n) e h1=.ok (.slice (some ⟨h1.next,0,none⟩) 1 1) (h1.AFh 0 [.int .u8 (m:Int)]):=fun e he=>by rw[mZ];exact IQ W he rfl rfl
 obtain⟨h2,v2,a2,x2,o2,hn2,fr2⟩:=Jw (eb:=1) (n:=(m:Int)) (kd:=.u8) x1 hk (zO hk2 hn) o1 (by rw[OF];omega);refine⟨h2,v2,?_,x2,?_,by omega,fun b el L hb r=>?_⟩
 ·rw[qC rfl,qo]
  simp only[iN,IS,AG,By,BY,reduceIte,Gn,Gw,D9,Gv,Fd,BJ,Az];rw[q1];simp only[BD,BA];unfold dH;simp only[sT,By,BY,reduceIte,CX,s1,c1,os,BN,s0,a2,lV0]
 ·rw[hx,zb];exact o2
 ·obtain⟨r1,r2⟩:=fr b el L hb r
  exact fr2 b el L r2 r1
def ma(l:List Nat)(p:Nat)(a b c:Int):Prop:=(∃ v j:Nat,Fy 0 0 (l.drop p)=some (v,j)/\a=(v:Int)/\b=((p+j:Nat):Int)/\c=0)\/(Fy 0 0 (l.drop p)=none/\c≠0)
def O0:C:=(Bn 46
(G 4 (AQ (kV (.int .u64 0)))
(G 5 (AQ (kV (AI AT 0)))
(G 6 (AQ (kV (AI AT 10)))
Ar)))
(G 49 (Nd .u8 (J 9) (kV (.int .u8 128)))
(G 50 (C5 .u64 (J 49))
(G 52 (C3 AD3 .i64 (kV (AI AT 7)) (J 10))
(G 53 (Nf .u64 (J 50) (J 52))
(G 54 (CJ .u64 (BH .u64) (J 7) (J 53))
(G 7 (Aj 54)
(G 56 (Ai iLt .u8 (J 9) (kV (.int .u8 128)))
(Bn 56
(G 59 (CJ .i64 (BH .i64) (J 8) (kV (AI AT 1)))
(G 4 (Aj 7)
(G 5 (Aj 59)
(G 6 (AQ (kV (AI AT 0)))
Ar))))
Aw)))))))))
def rN(K:C):C:=(G 34 (Ai iGt .i64 (J 10) (kV (AI AT 0)))
(An 34 true 36 (Aj 9)
(An 34 true 37 (Ai iEq .u8 (J 36) (kV (.int .u8 0)))
(G 38 (A5 (J 34) (J 37) (kV (.bool false)))
(An 38 false 40 (Aj 10)
(An 38 false 41 (Ai iGt .i64 (J 40) (kV (AI AT 8)))
(An 38 false 42 (Aj 41)
(An 42 true 43 (Aj 9)
(An 42 true 44 (Ai iGt .u8 (J 43) (kV (.int .u8 1)))
(An 38 false 45 (A5 (J 42) (J 44) (kV (.bool false)))
(G 46 (A5 (J 38) (kV (.bool true)) (J 45))
K)))))))))))
theorem VG:Qa=G 22 (Bl (J 0)) (G 23 (Ai iLt .i64 (J 8) (J 22)) (Bn 23 (BL (Ae 1 (G 28 (CG 1 (J 0) (J 8)) (G 29 (AO (J 28)) (G 32 (C3 zX .i64 (J 8) (J 1)) (G 9 (Aj 29) (G 10 (Aj 32) (rN O0))))))) (G 25 (CJ .i64 (BH .i64) (J 8) (kV (AI AT 1))) (G 8 (Aj 25) Aw))) (CM 0))):=rfl
theorem iX{K:C}{F:AFi}{h:Hp}{e:Env}{c i:Nat}{b1 b2 b3 b4:Bool}(s9:J 9 e=.int .u8 (c:Int))(s10:J 10 e=AI AT (i:Int))(i1:iGt (i:Int) 0=b1)(i2:iEq (c:Int) 0=b2)(i3:iGt (i:Int) 8=b3)(i4:iGt (c:Int) 1=b4):
  ∃ e',rN K F e h=K F e' h/\J 46 e'=.bool ((b1 && b2) || (b3 && b4))/\J 0 e'=J 0 e/\J 1 e'=J 1 e/\J 7 e'=J 7 e/\J 8 e'=J 8 e/\J 9 e'=J 9 e/\J 10 e'=J 10 e:=by
 unfold rN;cases b1<;>cases b2<;>cases b3<;>cases b4<;>
 ·simp only[sT,By,BY,reduceIte,gD,AK,AJ,s9,s10,i1,i2,i3,i4]
  exact⟨_,rfl,by simp[AG],by simp[AG],by simp[AG],by simp[AG],by simp[AG],by simp only[AG,By,BY,reduceIte,s9],by simp only[AG,By,BY,reduceIte,s10]⟩
theorem RR{i:Nat}(hi:i<=9):2 ^ (7*i)<=9223372036854775808:=by
 have:2 ^ (7*i)<=2 ^ 63:=Nat.pow_le_pow_right (by omega) (by omega);have e:(2:Nat) ^ 63=9223372036854775808:=rfl;omega
theorem aI{F:AFi}{h:Hp}{u:IN}{l:List Nat}{p:Nat}(V:h.AF5 u (l.map bv))(hb:∀ x∈l,x<256)(hp:p<=l.length)(hl:l.length<=1000000){e:Env}(s0:J 0 e=u)(s1:J 1 e=AI AT (p:Int))(s7:J 7 e=.int .u64 0)(s8:J 8 e=AI AT (p:Int)):
  (∃ e',A9 Qa F e h=.exit 0 e' h/\Fy 0 0 (l.drop p)=none)\/(∃ e' a b c,A9 Qa F e h=.ret e' h/\J 4 e'=.int .u64 a/\J 5 e'=AI AT b/\J 6 e'=AI AT c/\ma l p a b c):=by
 have Vl:AGQ u h=.ok (AI AT (l.length:Int)) h:=by have:=V.len;rwa [OF]at this
 refine Bh (I:=fun i e' h'=>h'=h/\∃ acc:Nat,J 0 e'=u/\J 1 e'=AI AT (p:Int)/\J 7 e'=.int .u64 (acc:Int)/\J 8 e'=AI AT ((p+i:Nat):Int)/\acc<2 ^ (7*i)/\i<=9/\p+i<=l.length/\Fy 0 0 (l.drop p)=Fy i acc (l.drop (p+i)))
  (Q:=fun x=>(∃ e',x=.exit 0 e' h/\Fy 0 0 (l.drop p)=none)\/(∃ e' a b c,x=.ret e' h/\J 4 e'=.int .u64 a/\J 5 e'=AI AT b/\J 6 e'=AI AT c/\ma l p a b c)) 20 (by omega) (fun i e' h' ⟨hh,acc,t0,t1,t7,t8,hacc,hi9,hpi,hu⟩=>?_)
  ⟨rfl,0,s0,s1,s7,s8,by decide,by omega,hp,rfl⟩
 subst hh;by_cases hlt:p+i<l.length
 ·have hc:l.getD (p+i) 0<256:=hb _ (by rw[yf,sh hlt];exact List.getElem_mem hlt)
  have hd:l.drop (p+i)=l.getD (p+i) 0::l.drop (p+i+1):=by
   rw[List.drop_eq_getElem_cons hlt,yf,sh hlt];rfl
  have hel:(l.map bv).getD (p+i) AFl=.int .u8 ((l.getD (p+i) 0:Nat):Int):=by
   rw[yf,List.getElem?_map,yf,sh hlt];rfl
  obtain⟨a,g1,g2⟩:=V.at (i:=p+i) (by rw[OF];exact hlt);rw[hel]at g2;rw[hd]at hu;generalize l.getD (p+i) 0=c at hc g2 hu;have c1:iLt ((p+i:Nat):Int) (l.length:Int)=true:=by rw[DF];simp;omega
  have a2:Fv zX .i64 (AI AT ((p+i:Nat):Int)) (AI AT (p:Int)) h'=.ok (AI AT (i:Int)) h':=by
   have:zX ((p+i:Nat):Int) (p:Int)=(i:Int):=by show((p+i:Nat):Int) - (p:Int)=i;omega
   rw[Cg,this,Bf (by omega)]
  have a3:Ez .i64 (AI AT ((p+i:Nat):Int)) (AI AT 1) h'=.ok (AI AT ((p+(i+1):Nat):Int)) h':=by
   have:((p+i:Nat):Int)+1=((p+(i+1):Nat):Int):=by omega
   rw[Dq,this,Bf (by omega)]
  have pre:∃ e2,Qa F e' h'=Ye (KT 1 (O0 F e2 h')) (G 25 (CJ .i64 (BH .i64) (J 8) (kV (AI AT 1))) (G 8 (Aj 25) Aw)) F/\J 46 e2=.bool ((decide (0<i) && decide (c=0)) || (decide (8<i) && decide (1<c)))/\J 0 e2=u/\J 1 e2=AI AT (p:Int)/\J 7 e2=.int .u64 (acc:Int)/\J 8 e2=AI AT ((p+i:Nat):Int)/\J 9 e2=.int .u8 (c:Int)/\J 10 e2=AI AT (i:Int):=by
   obtain⟨e2,q1,q2,q3,q4,q5,q6,q7,q8⟩:=iX (K:=O0) (F:=F) (h:=h') (e:=Env.set 10 (AI AT (i:Int)) (Env.set 9 (.int .u8 (c:Int)) (Env.set 32 (AI AT (i:Int)) (Env.set 29 (.int .u8 (c:Int)) (Env.set 28 (.pointer (some a)) (Env.set 23 (.bool true) (Env.set 22 (AI AT (l.length:Int)) e'))))))) (c:=c) (i:=i) (b1:=decide (0<i)) (b2:=decide (c=0)) (b3:=decide (8<i)) (b4:=decide (1<c))
    (by simp[AG]) (by simp[AG]) (by rw[Gr,decide_eq_decide];omega) (by rw[Dc,Bool.eq_iff_iff,beq_iff_eq,decide_eq_true_eq];omega) (by rw[Gr,decide_eq_decide];omega) (by rw[Gr,decide_eq_decide];omega)
   refine⟨e2,?_,q2,?_,?_,?_,?_,?_,?_⟩
   ·rw[VG]
    simp only[Gn,HU,Ok,BJ,Az,Gw,Iu,D9,Gv,Fd,AG,By,BY,reduceIte,Ah,t0,Vl,AK,AJ,t8,c1,BB,g1,AM,g2,B3,t1,a2,q1]
   ·rw[q3];simp only[AG,By,BY,reduceIte];exact t0
   ·rw[q4];simp only[AG,By,BY,reduceIte];exact t1
   ·rw[q5];simp only[AG,By,BY,reduceIte];exact t7
   ·rw[q6];simp only[AG,By,BY,reduceIte];exact t8
   ·rw[q7];simp only[AG,By,BY,reduceIte]
   ·rw[q8];simp only[AG,By,BY,reduceIte]
  obtain⟨e2,p1,p46,p0,pp1,p7,p8,p9,p10⟩:=pre;rw[Fy]at hu;by_cases AHj:(0<i/\c=0)\/(8<i/\1<c)
  ·right
   have hB:((decide (0<i) && decide (c=0)) || (decide (8<i) && decide (1<c)))=true:=by simpa using AHj
   rw[hB]at p46;rw[if_pos AHj]at hu;have hrun:∃ e3,O0 F e2 h'=.ret e3 h'/\J 4 e3=.int .u64 0/\J 5 e3=AI AT 0/\J 6 e3=AI AT 10:=by
    unfold O0;simp only[sT,By,BY,reduceIte,p46];exact⟨_,rfl,by simp[AG]⟩
   obtain⟨e3,r1,r4,r5,r6⟩:=hrun;rw[p1,r1,CQ,DC];exact⟨rfl,.inr ⟨e3,0,0,10,rfl,r4,r5,r6,.inr ⟨hu,by omega⟩⟩⟩
  ·have hB:((decide (0<i) && decide (c=0)) || (decide (8<i) && decide (1<c)))=false:=by
    rw[<- Bool.not_eq_true];simpa using AHj
   rw[hB]at p46;rw[if_neg AHj]at hu;have hle:acc+c % 128*2 ^ (7*i)<2 ^ (7*(i+1)):=by
    rw[NC];have h1:c % 128<=127:=by omega
    have h2:=ACP (2 ^ (7*i)) h1;omega
   have AMG:c % 128*2 ^ (7*i)<=9223372036854775808/\acc<9223372036854775808:=by
    have h3:=RR hi9;refine⟨?_,by omega⟩;rcases Nat.lt_or_ge i 9 with h4|h4
    ·have h5:2 ^ (7*(i+1))<=9223372036854775808:=RR (by omega)
     omega
    ·have h5:c % 128<=1:=by omega
     have h6:=ACP (2 ^ (7*i)) h5;omega
   have m1:Tc .u8 (.int .u8 (c:Int)) (.int .u8 128) h'=.ok (.int .u8 ((c % 128:Nat):Int)) h':=by rw[Lz (by omega)];rfl
   have m2:Di .u64 (.int .u8 ((c % 128:Nat):Int)) h'=.ok (.int .u64 ((c % 128:Nat):Int)) h':=by rw[Cw,Ee (by omega)]
   have m3:Fv AD3 .i64 (AI AT 7) (AI AT (i:Int)) h'=.ok (AI AT ((7*i:Nat):Int)) h':=by
    have:AD3 7 (i:Int)=((7*i:Nat):Int):=by show(7:Int)*(i:Int)=_;omega
    rw[Cg,this,Bf (by omega)]
   have m4:kK .u64 (.int .u64 ((c % 128:Nat):Int)) (AI AT ((7*i:Nat):Int)) h'=.ok (.int .u64 ((c % 128*2 ^ (7*i):Nat):Int)) h':=by
    have:min (7*i) ADM.bits=7*i:=Nat.min_eq_left (by show 7*i<=64;omega);rw[kL,this,Ee (by omega)]
   have m5:Ez .u64 (.int .u64 (acc:Int)) (.int .u64 ((c % 128*2 ^ (7*i):Nat):Int)) h'=.ok (.int .u64 ((acc+c % 128*2 ^ (7*i):Nat):Int)) h':=by
    rw[Dq,<- Int.natCast_add,Ee (by omega)]
   by_cases hsm:c<128
   ·right
    rw[if_pos hsm]at hu;have c2:iLt (c:Int) 128=true:=by rw[DF];simp;omega
    have hrun:∃ e3,O0 F e2 h'=.ret e3 h'/\J 4 e3=.int .u64 ((acc+c % 128*2 ^ (7*i):Nat):Int)/\J 5 e3=AI AT ((p+(i+1):Nat):Int)/\J 6 e3=AI AT 0:=by
     unfold O0;simp only[sT,By,BY,reduceIte,p46,IO,p9,m1,CX,m2,B3,p10,m3,Vt,m4,BM,p7,m5,AK,AJ,c2,p8,a3];exact⟨_,rfl,by simp[AG]⟩
    obtain⟨e3,r1,r4,r5,r6⟩:=hrun;rw[p1,r1,CQ,DC];refine⟨rfl,.inr ⟨e3,_,_,_,rfl,r4,r5,r6,.inl ⟨_,_,hu,?_,rfl,rfl⟩⟩⟩;rw[ABe hsm]
   ·left
    rw[if_neg hsm]at hu;have hi8:i<=8:=by omega
    have c2:iLt (c:Int) 128=false:=by rw[DF];simp;omega
    have hrun:∃ e3,O0 F e2 h'=.norm e3 h'/\J 0 e3=u/\J 1 e3=AI AT (p:Int)/\J 7 e3=.int .u64 ((acc+c % 128*2 ^ (7*i):Nat):Int)/\J 8 e3=AI AT ((p+i:Nat):Int):=by
     unfold O0;simp only[sT,By,BY,reduceIte,p46,IO,p9,m1,CX,m2,B3,p10,m3,Vt,m4,BM,p7,m5,AK,AJ,c2,p8,a3];exact⟨_,rfl,by simp[AG,p0,pp1,p8]⟩
    obtain⟨e3,r1,r0,rr1,r7,r8⟩:=hrun;have AH7:∃ e4,Qa F e' h'=.norm e4 h'/\J 0 e4=u/\J 1 e4=AI AT (p:Int)/\J 7 e4=.int .u64 ((acc+c % 128*2 ^ (7*i):Nat):Int)/\J 8 e4=AI AT ((p+(i+1):Nat):Int):=by
     rw[p1,r1];simp only[CT,BA,Gn,Gw,BM,r8,Fd,a3,D9,Gv,MJ,AG,By,BY,reduceIte];exact⟨_,rfl,by simp[AG,r0,rr1,r7]⟩
    obtain⟨e4,k1,k2,k3,k4,k5⟩:=AH7;exact⟨by omega,e4,h',k1,rfl,_,k2,k3,k4,k5,hle,by omega,by omega,hu⟩
 ·right
  have c1:iLt ((p+i:Nat):Int) (l.length:Int)=false:=by rw[DF];simp;omega
  have hrun:∃ e2,Qa F e' h'=.exit 0 e2 h':=by
   rw[VG];simp only[sT,By,BY,reduceIte,Ah,t0,Vl,AK,AJ,t8,c1];exact⟨_,rfl⟩
  obtain⟨e2,r1⟩:=hrun;rw[r1];refine⟨rfl,.inl ⟨e2,rfl,?_⟩⟩;rw[hu,List.drop_of_length_le (by omega)];rfl
theorem VI:Me=G 7 (AQ (kV (.int .u64 0))) (G 8 (Aj 1) (BL (Ae 0 (A9 Qa)) rM)):=rfl
theorem Zp:d84=iC:=rfl
theorem rP{n:Nat}{h:Hp}{u:IN}{l:List Nat}{p:Nat}(V:h.AF5 u (l.map bv))(hb:∀ x∈l,x<256)(hp:p<=l.length)(hl:l.length<=1000000):
  ∃ a b c,call AC (n+1) 84 [u,AI AT (p:Int)] h=.ok (.tuple ⟨[.int .u64 a,AI AT b,AI AT c]⟩) h/\ma l p a b c:=by
 have Vl:AGQ u h=.ok (AI AT (l.length:Int)) h:=by have:=V.len;rwa [OF]at this
 have c0:iLt (p:Int) 0=false:=by rw[DF];simp
 have c1:iGt (p:Int) (l.length:Int)=false:=by rw[Gr];simp;omega
 have pre:∃ e1,iC (call AC n) (AS e0 0 [u,AI AT (p:Int)]) h=Me (call AC n) e1 h/\J 0 e1=u/\J 1 e1=AI AT (p:Int):=by
  unfold iC;simp only[iN,IS,Gn,HU,Ok,Gw,HV,D9,Gv,Fd,AG,By,BY,reduceIte,gD,AK,AJ,c0,Ah,Vl,c1];exact⟨_,rfl,by simp[AG]⟩
 obtain⟨e1,p1,p2,p3⟩:=pre;have H:=aI (F:=call AC n) (e:=Env.set 8 (AI AT (p:Int)) (Env.set 7 (.int .u64 0) e1)) V hb hp hl (by simp[AG,p2]) (by simp[AG,p3]) (by simp[AG]) (by simp[AG]);rcases H with ⟨e2,q1,q2⟩|⟨e2,a,b,c,q1,q4,q5,q6,q7⟩
 ·refine⟨0,0,11,?_,.inr ⟨q2,by omega⟩⟩
  rw[ZU rfl,Zp,p1,VI];simp only[Gn,Gw,D9,Gv,Fd,AG,By,BY,reduceIte,p3,BJ,Az];rw[q1];simp only[BD,BA];unfold rM;simp only[sT,By,BY,reduceIte,BI,Mb]
 ·refine⟨a,b,c,?_,q7⟩
  rw[ZU rfl,Zp,p1,VI];simp only[Gn,Gw,D9,Gv,Fd,AG,By,BY,reduceIte,p3,BJ,Az];rw[q1];simp only[CQ,DC];simp only[BI,Mb,q4,q5,q6]
end
noncomputable section
open Go
def Pb(T:List Nat):Nat->List Nat->Nat
 |s,[]=>s
 |s,b::l=>Pb T (AA6 (T.getD (AA6 (s % 256) b) 0) (s/256)) l
def CE(T l:List Nat):Nat:=4294967295 - Pb T 4294967295 l
def AGc(T:List Nat):Prop:=T.length=256/\∀ i,T.getD i 0<4294967296
theorem lB{a b:Nat}(ha:a<256)(hb:b<256):AA6 a b<256:=ADx (n:=8) ha hb
theorem dN{a b:Nat}(ha:a<4294967296)(hb:b<4294967296):AA6 a b<4294967296:=ADx (n:=32) ha hb
theorem Ob{T:List Nat}(hT:AGc T){s:Nat}(hs:s<4294967296)(b:Nat):AA6 (T.getD (AA6 (s % 256) b) 0) (s/256)<4294967296:=dN (hT.2 _) (by omega)
theorem WN{T:List Nat}(hT:AGc T):∀ (l:List Nat) (s:Nat),s<4294967296->Pb T s l<4294967296
 |[],s,hs=>hs
 |b::l,s,hs=>WN hT l _ (Ob hT hs b)
theorem IX(T l:List Nat):CE T l<4294967296:=by unfold CE;omega
def HB(s:Nat):List Nat:=[s/16777216 % 256,s/65536 % 256,s/256 % 256,s % 256]
def Eg(T l:List Nat):List Nat:=l++HB (CE T l)
theorem IU(T l:List Nat):(Eg T l).length=l.length+4:=by unfold Eg;rw[No];rfl
theorem kS(s x:Nat)(h:x∈HB s):x<256:=by
 unfold HB at h;simp only[yv,List.mem_nil_iff,or_false]at h;omega
theorem Rx{T l:List Nat}(h:∀ x∈l,x<256):∀ x∈Eg T l,x<256:=fun x hx=>by
 rcases zK.1 hx with h1|h1
 ·exact h x h1
 ·exact kS _ x h1
def B4(ns:List Nat):List Nat:=ns.flatMap CD
theorem FE(n:Nat)(ns:List Nat):B4 (n::ns)=CD n++B4 ns:=rfl
theorem Tv(a b:List Nat):B4 (a++b)=B4 a++B4 b:=List.flatMap_append
theorem Od{ns:List Nat}:∀ x∈B4 ns,x<256:=fun x hx=>by
 obtain⟨n,_,h⟩:=List.mem_flatMap.1 hx;exact dG n x h
theorem JG:∀ {ns:List Nat},(∀ v∈ns,v<18446744073709551616)->(B4 ns).length<=10*ns.length
 |[],_=>IT _
 |n::ns,h=>by
  have h1:=LC (h n yk);have h2:=JG fun v hv=>h v (yj _ hv)
  rw[FE,No,yh];omega
def PT(l:List Nat):List Nat:=l++yp (60 - l.length) 0
theorem M7{l:List Nat}(h:l.length<=60):(PT l).length=60:=by unfold PT;rw[No,List.length_replicate];omega
theorem V7{l:List Nat}(h:∀ x∈l,x<256):∀ x∈PT l,x<256:=fun x hx=>by
 rcases zK.1 hx with h1|h1
 ·exact h x h1
 ·rw[ABq h1];decide
def Lb(ns:List Nat):List Nat:=PT (B4 ns)
def rdN:Nat->List Nat->Nat->Option (List Nat×Nat)
 |0,_,p=>some ([],p)
 |k+1,l,p=>match Fy 0 0 (l.drop p)with
  |none=>none
  |some (v,j)=>if v<=1099511627776 then(match rdN k l (p+j)with
   |none=>none
   |some (vs,q)=>some (v::vs,q))else none
theorem Lx:∀ (ns:List Nat) (a r:List Nat),(∀ v∈ns,v<=1099511627776)->rdN ns.length (a++(B4 ns++r)) a.length=some (ns,a.length+(B4 ns).length)
 |[],a,r,_=>rfl
 |v::ns,a,r,h=>by
  have hv:=h v yk;rw[yh,rdN,ADV,FE,zC,tX (by omega)];simp only;have:=Lx ns (a++CD v) r fun x hx=>h x (yj _ hx)
  rw[zC,No]at this;rw[if_pos hv,this];simp only[No,Nat.add_assoc]
theorem Lw:∀ (k:Nat) (l:List Nat) (p:Nat) (ns:List Nat) (q:Nat),(∀ x∈l,x<256)->p<=l.length->rdN k l p=some (ns,q)->ns.length=k/\l.drop p=B4 ns++l.drop q/\q=p+(B4 ns).length/\q<=l.length/\∀ v∈ns,v<=1099511627776
 |0,l,p,ns,q,hb,hp,h=>by
  cases h;exact⟨rfl,rfl,rfl,hp,fun v hv=>by cases hv⟩
 |k+1,l,p,ns,q,hb,hp,h=>by
  rw[rdN]at h;cases hu:Fy 0 0 (l.drop p)with
  |none=>rw[hu]at h;cases h
  |some vj=>
   obtain⟨v,j⟩:=vj;rw[hu]at h;simp only at h;by_cases hv:v<=1099511627776
   ·rw[if_pos hv]at h
    have hbd:∀ x∈l.drop p,x<256:=fun x hx=>hb x (List.mem_of_mem_drop hx)
    have hj:=mY hbd hu;rw[zl]at hj;obtain⟨g1,g2,g3⟩:=dE hbd hu;cases hr:rdN k l (p+j)with
    |none=>rw[hr]at h;cases h
    |some y=>
     obtain⟨vs,q'⟩:=y;rw[hr]at h;cases h;obtain⟨i1,i2,i3,i4,i5⟩:=Lw k l (p+j) vs q hb (by omega) hr;refine⟨by rw[yh,i1],?_,?_,i4,fun x hx=>?_⟩
     ·rw[g1,List.drop_drop,i2,FE,zC]
     ·rw[i3,FE,No];omega
     ·rcases yv.1 hx with rfl|hx
      ·exact hv
      ·exact i5 x hx
   ·rw[if_neg hv]at h;cases h
def AFx(a b c:Int)(s n:Nat):Bool:=decide (0<=a/\a<=1099511627776/\0<=b/\b<255/\1<=c/\c<=1099511627776/\(s=1\/s=2)/\n<=65536)
def at6(ns:List Nat)(i:Nat):Nat:=ns.getD i 0
def Ey(T l:List Nat):Option (List Nat):=if l.length<4 then none else if Eg T (l.take (l.length - 4))=l then some (l.take (l.length - 4))else none
def PP(ns:List Nat):Prop:=AFx (at6 ns 1) (at6 ns 2) (at6 ns 3) (min (at6 ns 0) 9) 0=true/\at6 ns 4<=65536/\at6 ns 5<=4294967295
def jq(ns:List Nat):Prop:=at6 ns 0<=2/\at6 ns 4<=65536/\at6 ns 5<=4294967295/\AFx (at6 ns 1) (at6 ns 2) (at6 ns 3) (at6 ns 0) 0=true
theorem jr{ns:List Nat}:PP ns↔jq ns:=by
 unfold PP jq AFx;simp only[decide_eq_true_eq];generalize at6 ns 0=s;constructor
 ·rintro⟨⟨h1,h2,h3,h4,h5,h6,h7,h8⟩,h9,h10⟩
  exact⟨by omega,h9,h10,h1,h2,h3,h4,h5,h6,by omega,h8⟩
 ·rintro⟨h0,h9,h10,h1,h2,h3,h4,h5,h6,h7,h8⟩
  exact⟨⟨h1,h2,h3,h4,h5,h6,by omega,h8⟩,h9,h10⟩
def LY(T l ns:List Nat):Prop:=∃ body q,Ey T l=some body/\body.length=60/\rdN 6 body 0=some (ns,q)/\PP ns/\∀ x∈body.drop q,x=0
def yG(T l ns:List Nat):Prop:=∃ q,rdN 6 l 0=some (ns,q)/\jq ns/\Eg T (Lb ns)=l
theorem KE{T l body:List Nat}(h:Ey T l=some body):Eg T body=l/\body=l.take (l.length - 4):=by
 unfold Ey at h;split at h
 ·cases h
 ·split at h
  ·rename_i h2
   cases h;exact⟨h2,rfl⟩
  ·cases h
theorem Pf(T body:List Nat):Ey T (Eg T body)=some body:=by
 have h1:(Eg T body).take ((Eg T body).length - 4)=body:=by
  rw[IU,Nat.add_sub_cancel];unfold Eg;exact List.take_left
 unfold Ey;rw[h1,if_neg (by rw[IU];omega),if_pos rfl]
theorem dR{l:List Nat}(h:∀ x∈l,x=0):l=yp l.length 0:=List.eq_replicate_iff.2 ⟨rfl,h⟩
theorem RP{T l ns:List Nat}(hb:∀ x∈l,x<256):LY T l ns↔yG T l ns:=by
 constructor
 ·rintro⟨body,q,h1,h2,h3,h4,h5⟩
  obtain⟨k1,k2⟩:=KE h1;have hbb:∀ x∈body,x<256:=fun x hx=>hb x (by rw[k2]at hx;exact List.mem_of_mem_take hx)
  obtain⟨g1,g2,g3,g4,g5⟩:=Lw 6 body 0 ns q hbb (zL _) h3;rw[List.drop_zero]at g2;have hz:=dR h5;have hh:Lb ns=body:=by
   unfold Lb PT;rw[show 60 - (B4 ns).length=(body.drop q).length by rw[zl];omega,<- hz,<- g2]
  refine⟨(B4 ns).length,?_,jr.1 h4,by rw[hh];exact k1⟩;have:=Lx ns [] (body.drop q++HB (CE T body)) g5;rw[g1]at this;rw[<- k1];unfold Eg;rw[List.nil_append,<- zC,<- g2]at this
  simpa using this
 ·rintro⟨q,h1,h2,h3⟩
  obtain⟨g1,g2,g3,g4,g5⟩:=Lw 6 l 0 ns q hb (zL _) h1;have hlen:(B4 ns).length<=60:=by
   have:=JG (ns:=ns) fun v hv=>by have:=g5 v hv;omega
   omega
  refine⟨Lb ns,(B4 ns).length,by rw[<- h3];exact Pf T _,M7 hlen,?_,jr.2 h2,fun x hx=>?_⟩
  ·have:=Lx ns [] (yp (60 - (B4 ns).length) 0) g5
   rw[g1]at this;unfold Lb PT
   simpa using this
  ·unfold Lb PT at hx
   rw[ADV]at hx;exact ABq hx
end
end Go.Proofs.YtbjadbhkogcfeaaGreat

/-
  Part ZJ of what Lawke stands on: printed by program, names and spaces cut.
-/
import Derived.Test.YtedbmmfebjfibaaGreatZI
import Derived.Shelf.SlIterI.Nil
import Derived.Shelf.SortM.Plain
import Derived.Shelf.SortM.SortNone
open Go.Value renaming int→AI
open Go.IntKind renaming i64→AT
open Nat renaming reduceEqDiff→BY,reduceLT→By,reduceAdd→IS,le_refl→IT,zero_add→vk,succ→vo,ble→vx,beq→wB,zero_le→wP,le_trans→wd,blt→wz,xor→yg,mul_one→yk,mod_eq_of_lt→zc,mul_le_mul_right→AB7,xor_lt_two_pow→ACJ
open Go renaming Value→IN,Program→xD,intOf→ADZ
open List renaming length_append→No,length_map→OF,getElem?_eq_getElem→sh,getD_eq_getElem?_getD→vm,mem_cons_self→vp,mem_cons_of_mem→vr,length_cons→vw,replicate→v8,mem_cons→wA,append_assoc→wG,mem_append→wK,mem_map→wM,map_append→wa,eq_nil_of_length_eq_zero→wh,length_drop→xC,getElem?_map→xH,drop_of_length_le→xL,map_cons→xV,drop_eq_getElem_cons→xW,pairwise_cons→yG,pairwise_map→yY,map_map→zb,eq_of_mem_replicate→zn,length→AAM,drop_left→ABs
open Go.Proofs.Tryz renaming prog→vu,underlying3→xy,zeroValue3→zr,underlying4→zw,underlying62→AAZ,sizeOf3→AAg,zeroValue62→AAk,underlying0→AAm,zeroValue0→AAu,isAgg3→AAv,sizeOf62→ABP,sizeOf0→ABj,isAgg62→ABk,isAgg0→AB4,func82→AB5,underlying111→ACA,zeroValue111→ACG,zeroValue4→ACd,sizeOf111→ACq,isAgg111→AC1,sizeOf4→AC8,func125→AC9,func119→ADA,func108→ADB,func107→ADC,func106→ADD,isAgg4→ADN,func94→ADO,func78→ADP,func67→ADQ,func66→ADR,func9→ADc,func8→ADd,f125→ADq,f119→ADr,f108→ADs,f107→ADt,f82→AD1,f67→AD2,f66→AD3
open Bool renaming and_eq_true→wJ
open Or renaming inl→wX,inr→ADg
open Int renaming sub→wi,ofNat→wj,mul→ACN
open Array renaming ext'→xG
open Go.WideElems renaming rg→xp,rd→ABV
open Go.Fence renaming wide→zZ
open Go.DataW renaming insert→zq,map→ADo
open Go.WideShapes renaming sorted_perm→AAP
open Go.IntKind renaming u64→ABh
open Go.Proofs.AnyZI renaming sorted_in→ACb,SortsIn→ACz
open Go.Proofs.SlLaysZI renaming n6→ACe
set_option linter.unusedSimpArgs false
set_option linter.unusedVariables false
namespace Go.Proofs.YtedbmmfebjfibaaGreat
noncomputable section
open Go Go.Proofs Go.RowKit Go.Shelf Go.Maps Go.MapKept Go.ChangeShapes
def UK(m:Nat):List Nat->List Nat
 |[]=>[m]
 |x::l=>match vx m x with
  |true=>m::x::l
  |false=>x::UK m l
def DF:List Nat->List Nat
 |[]=>[]
 |x::l=>UK x (DF l)
def PL:List Nat->Bool
 |[]=>true
 |x::l=>(match l with
  |[]=>true
  |y::_=>wz x y) && PL l
def Ua:IN->Option Nat
 |.int k n=>match k,n with
  |.i64,.ofNat m=>some m
  |_,_=>none
 |_=>none
def LT(clk:Nat):List Ent->Nat->Option (List Nat)
 |[],_=>some []
 |e::l,lo=>match Ua e.key with
  |some m=>match wz m 9223372036854775808 && (vx lo e.born && wz e.born clk)with
   |true=>match LT clk l (vo e.born)with
    |some r=>some (m::r)
    |none=>none
   |false=>none
  |none=>none
def zv(m:Nat):IN:=AI AT (.ofNat m)
def GD(t:Nat)(h:Hp):List Nat->R
 |[]=>.ok (.slice none 0 0) h
 |x::l=>match PL (x::l)with
  |true=>AEU (BA (x::l)) fun n=>newRow h (vo t) ((x::l).map zv) (Eo n n)
  |false=>.no
def MH(t:Nat)(h:Hp)(v:IN):R:=match v with
 |.map none=>.ok (.slice none 0 0) h
 |.map (some r)=>match BV h r with
  |.ok es clk=>match vx (BA es) 1000000 with
   |true=>match LT clk es 0 with
    |some ks=>GD t h (DF ks)
    |none=>.no
   |false=>.no
  |.no=>.no
 |_=>.no
def J7(t:Nat)(a:Addr)(h:Hp):R:=match wB a.off 0 && vx 256 a.block with
 |true=>match rowOf h a.block with
  |.ok c s e=>match wB e 0 && wz 0 s with
   |true=>MH t h (c.get 0)
   |false=>.no
  |.no=>.no
 |false=>.no
def MG(Ks:List Nat)(t:Nat)(args:List IN)(h:Hp):R:=match args with
 |[v]=>match v with
  |.func fn f c=>match fn with
   |.func g=>match memN g Ks with
    |true=>match f.toList with
     |[]=>match c.toList with
      |[p]=>match p with
       |.pointer (some a)=>J7 t a h
       |_=>.no
      |_=>.no
     |_::_=>.no
    |false=>.no
   |_=>.no
  |_=>.no
 |_=>.no
def VQ(Ks:List Nat)(t:Nat):Body:=⟨[.x (fun _=>MG Ks t)],cNo⟩
theorem Ko(m:Nat):∀ l:List Nat,(UK m l).Perm (m::l)
 |[]=>.refl _
 |x::l=>by
  unfold UK;split
  ·exact .refl _
  ·exact((Ko m l).cons x).trans (.swap m x l)
theorem D7:∀ l:List Nat,(DF l).Perm l
 |[]=>.refl _
 |x::l=>(Ko x _).trans ((D7 l).cons x)
theorem KG:∀ {l:List Nat},PL l=true->l.Pairwise (· < ·)
 |[],_=>.nil
 |x::l,h=>by
  unfold PL at h;rw[wJ]at h;have hl:=KG h.2;refine yG.2 ⟨fun y hy=>?_,hl⟩;cases l with
  |nil=>cases hy
  |cons z l=>
   have h1:x<z:=BD.1 h.1;rcases wA.1 hy with rfl|hy
   ·exact h1
   ·exact Nat.lt_trans h1 ((yG.1 hl).1 y hy)
theorem rh{a b:Nat}(h:zv a=zv b):a=b:=by
 unfold zv at h;injection h with _ h
 injection h
theorem S7{ks:List Nat}(h:PL (DF ks)=true):((ks.map wj).mergeSort leI).map encZ=(DF ks).map zv:=by
 have hp:=KG h;have h1:(ks.map wj).mergeSort leI=((DF ks).map wj).mergeSort leI:=mergeSort_of_perm_i ((D7 ks).symm.map _);have h2:((DF ks).map wj).Pairwise (fun a b=>leI a b=true):=yY.2 (hp.imp fun {a b} hab=>by
  simp only[leI,decide_eq_true_eq];exact Int.ofNat_le.2 (Nat.le_of_lt hab))
 rw[h1,List.mergeSort_of_pairwise h2,zb];rfl
structure AFP (P:xD)(S K t:Nat):Prop where
 nil:∀ (w:World) (b:Nat),b<w.heap.size->w.cell? ⟨b,0,none⟩=some (.map none)->
  Calls P S #[.func (.func K) #[] #[.pointer (some ⟨b,0,none⟩)]] w fun e w'=>e=.returned (.slice none 0 0)/\Below w.heap.size w w'
 map:∀ (w:World) (b r:Nat) (es:Array MapEntry) (clk:Nat) (ks:List Nat),b<w.heap.size->w.cell? ⟨b,0,none⟩=some (.map (some r))->w.heap[r]? =some (.map es clk)->es.size<=1000000->Stamped es clk->
  es.toList.map (·.key)=ks.map zv->(∀ k∈ks,k<9223372036854775808)->
  Calls P S #[.func (.func K) #[] #[.pointer (some ⟨b,0,none⟩)]] w fun e w'=>∃ v,e=.returned v/\w'.ownsRow w.heap.size t 1 v ks.length (((ks.map wj).mergeSort leI).map encZ)/\(v=.slice none 0 0↔ks=[])/\Below w.heap.size w w'
def bF:IN->Int
 |.int _ q=>q
 |_=>0
theorem uR{m:Nat}(h:m<9223372036854775808):(Lit.int .i64 (wj m)).wf=true:=by
 simp[Lit.wf,IntKind.min,IntKind.max,IntKind.signed,IntKind.bits];omega
theorem Uz{P:xD}{ρ ρ':Ren}(L:ACe P ρ)(L':SlLaysZI.n10 P ρ')(hsort:∀ m,ACz P ρ zZ m)
  (e9:∀ args w,(callFunc (ρ.f 9) args).run P w=.ok (.enter (ρ.f 9) args) w)(eg:∀ args w,(callFunc (ρ'.f 10) args).run P w=.ok (.enter (ρ'.f 10) args) w):AFP P (ρ.f 6) (ρ'.f 10) (ρ.t 26) where
 nil:=fun w b hb hc=>by
  have hseq:SeqGives zZ 2 P (ρ'.f 10) #[.pointer (some ⟨b,0,none⟩)] encZ (fun ss:List Int=>ss=[]) 0 w:=AnyZI.keys_gives_nil L' zZ 2 trivial rfl b w hb hc;have cS:=ACb L zZ 5 trivial trivial trivial trivial rfl (by omega) (hsort _) e9 (ρ'.f 10) #[.pointer (some ⟨b,0,none⟩)] trivial eg _ 0 (wP _) (by omega) w hseq;refine(callsIn_wide.1 cS).mono ?_;rintro e w' ⟨v,ss,rfl,rfl,hrow,AGq,hbl⟩;exact⟨by rw[AGq.2 rfl],hbl⟩
 map:=fun w b r es clk ks hb hc hr hsz hst hk hlt=>by
  let R:IN->Option (DataW Unit×List MemPlace):=fun _=>some (.nil,[])
  have hkey:∀ x∈es.toList,∃ m,x.key=zv m/\m<9223372036854775808:=fun x hx=>by
   have:x.key∈ks.map zv:=hk ▸ List.mem_map_of_mem hx;obtain⟨m,hm,he⟩:=wM.1 this;exact⟨m,he.symm,hlt m hm⟩
  have hrd:∀ x∈es.toList,∀ m,x.key=zv m->m<9223372036854775808->ABV P (ρ'.t 26) R x=some (.int .i64 (wj m),.nil):=fun x hx m he hm=>by
   unfold ABV;rw[he,zv,keyOf_int_mk L'.t26 (uR hm)];rfl
  have hown:w.ownsMap P (ρ'.t 26) R r es.size (.map ((es.toList.map (xp P (ρ'.t 26) R)).foldr zq [])):=
   ⟨es,clk,hr,⟨by unfold maxLen;omega,hst,fun x hx=>by
    obtain⟨m,he,hm⟩:=hkey x hx;exact⟨_,hrd x hx m he hm⟩⟩,IT _,rfl⟩
  have hlen:Maps.size (ADo ((es.toList.map (xp P (ρ'.t 26) R)).foldr zq []))=es.size:=by
   show((es.toList.map (xp P (ρ'.t 26) R)).foldr zq []).length=_;rw[(AAP _).length_eq];simp
  have AJu:(intKeys (ADo ((es.toList.map (xp P (ρ'.t 26) R)).foldr zq []))).Perm (ks.map wj):=by
   show(((es.toList.map (xp P (ρ'.t 26) R)).foldr zq []).map fun p=>ADZ p.1).Perm _;refine((AAP _).map _).trans ?_;have e1:ks.map wj=es.toList.map fun x=>bF x.key:=by
    have:(es.toList.map (·.key)).map bF=(ks.map zv).map bF:=by rw[hk]
    rw[zb,zb]at this;exact this.symm
   have e2:(es.toList.map (xp P (ρ'.t 26) R)).map (fun p=>ADZ p.1)=es.toList.map fun x=>bF x.key:=by
    rw[zb];refine List.map_congr_left fun x hx=>?_
    obtain⟨m,he,hm⟩:=hkey x hx;show ADZ (xp P (ρ'.t 26) R x).1=bF x.key;unfold xp;rw[hrd x hx m he hm,he];rfl
   rw[e1,e2]
  have hseq:=AnyZI.keys_gives L' zZ 2 trivial rfl (by omega) b r es.size _ w hb hc hown;have cS:=ACb L zZ 5 trivial trivial trivial trivial rfl (by omega) (hsort _) e9 (ρ'.f 10) #[.pointer (some ⟨b,0,none⟩)] trivial eg _ _ (by rw[hlen];unfold maxLen;omega) (by rw[hlen];omega) w hseq;refine(callsIn_wide.1 cS).mono ?_;rintro e w' ⟨v,ss,rfl,hS,hrow,AGq,hbl⟩;have hp:ss.Perm (ks.map wj):=hS.trans AJu;have hl:ss.length=ks.length:=by rw[hp.length_eq];simp
  refine⟨v,rfl,?_,AGq.trans ?_,hbl⟩
  ·have h1:ss.mergeSort leI=(ks.map wj).mergeSort leI:=mergeSort_of_perm_i hp
   rw[<- hl,<- h1];exact hrow
  ·constructor
   ·rintro rfl
    simp only[List.length_nil]at hl;exact wh hl.symm
   ·rintro rfl
    exact wh hl
section
variable {P:xD}{U:TTy}{φ:Phi}{E:Nat->Prop}{h h':Hp}{w w':World}{v:IN}
theorem AEG.below(H:AEG U φ E h w)(hb:Below w.heap.size w w'):AEG U φ E h w'/\Evo φ h w φ h w':=
 ⟨{dom:=fun i p e=>⟨(H.dom i p e).1,Nat.lt_of_lt_of_le (H.dom i p e).2 hb.size⟩
   inj:=H.inj
   row:=fun i p e hE=>(by rw[hb.block _ (H.dom i p e).2];exact H.row i p e hE)
   fresh:=H.fresh
   kind:=H.kind
   inp:=H.inp},
  {le:=.refl _
   new:=fun _ _ e=>.inl e
   next:=IT _
   size:=hb.size
   tape:=hb.tape
   os:=hb.os
   output:=hb.output
   frame:=fun k hk _=>hb.block k hk
   back:=fun i p e hl _=>⟨i,p,e,hl,rfl,rfl,.inl rfl⟩
   kept:=fun _ _ _=>rfl
   low:=IT _
   high:=IT _
   shape:=fun _ _=>.refl _
   only:=fun _ _ _=>rfl
   all:=fun _ h1 h2=>absurd h2 (Nat.not_lt.2 h1)}⟩
theorem YC{u u':IN}{m:Nat}(hn:Ua u=some m)(hr:AED φ u u'):u'=zv m:=by
 unfold Ua at hn;split at hn
 ·split at hn
  ·cases hn;cases hr;rfl
  ·cases hn
 ·cases hn
theorem RW{clk:Nat}:∀ {es:List Ent} {es':List MapEntry} {lo:Nat} {ks:List Nat},LT clk es lo=some ks->AE8 φ es es'->
  es'.map (·.key)=ks.map zv/\(∀ k∈ks,k<9223372036854775808)/\(∀ x∈es',lo<=x.born/\x.born<clk)/\(es'.map (·.born)).Nodup
 |[],es',lo,ks,hk,he=>by
  cases he;cases hk;exact⟨rfl,(fun k hk=>by cases hk),(fun x hx=>by cases hx),.nil⟩
 |e::es,es',lo,ks,hk,he=>by
  cases he with
  |@cons k k' v v' b _ l' hkey hv ht=>
  unfold LT at hk;split at hk
  case h_2=>cases hk
  rename_i m hm;split at hk
  case h_2=>cases hk
  rename_i hb;simp only[wJ]at hb;split at hk
  case h_2=>cases hk
  rename_i r hr;cases hk;obtain⟨h1,h2,h3,h4⟩:=RW hr ht;have b1:lo<=b:=Ac.1 hb.2.1;have b2:b<clk:=BD.1 hb.2.2;refine⟨?_,fun x hx=>?_,fun x hx=>?_,?_⟩
  ·simp only[xV,h1,YC hm hkey]
  ·rcases wA.1 hx with rfl|hx
   ·exact BD.1 hb.1
   ·exact h2 x hx
  ·rcases wA.1 hx with rfl|hx
   ·exact⟨b1,b2⟩
   ·have:=h3 x hx
    have h5:b+1<=x.born:=this.1;exact⟨by omega,this.2⟩
  ·rw[xV,List.nodup_cons]
   refine⟨fun hx=>?_,h4⟩;obtain⟨x,hx,he⟩:=wM.1 hx;have h5:b+1<=x.born:=(h3 x hx).1;have he:x.born=b:=he;omega
theorem S8{Ks:List Nat}{t:Nat}{args:List IN}(hr:MG Ks t args h=.ok v h'):∃ g a,args=[.func (.func g) ⟨[]⟩ ⟨[.pointer (some a)]⟩]/\memN g Ks=true/\J7 t a h=.ok v h':=by
 unfold MG at hr;split at hr
 case h_2=>cases hr
 split at hr
 case h_2=>cases hr
 rename_i fn f c;split at hr
 case h_2=>cases hr
 rename_i g;split at hr
 case h_2=>cases hr
 rename_i hm;split at hr
 case h_2=>cases hr
 rename_i hf;split at hr
 case h_2=>cases hr
 rename_i p hc;split at hr
 case h_2=>cases hr
 rename_i a;refine⟨g,a,?_,hm,hr⟩;have e1:f=⟨[]⟩:=xG hf;have e2:c=⟨[.pointer (some a)]⟩:=xG hc;rw[e1,e2]
theorem Uy(H:AEG U φ nil h w){t:Nat}{ti:TI}(hty:U.get t=some ti)(hs:ti.size=1){ks:List Nat}(hk:GD t h (DF ks)=.ok v h')(hb:Below w.heap.size w w'){v':IN}
  (ho:w'.ownsRow w.heap.size t 1 v' ks.length (((ks.map wj).mergeSort leI).map encZ))(hn:v'=.slice none 0 0↔ks=[]):
  ∃ ψ,AED ψ v v'/\AEG U ψ nil h' w'/\Evo φ h w ψ h' w':=by
 have hpl:=(D7 ks).length_eq;unfold GD at hk;split at hk
 ·rename_i he
  cases hk;rw[he]at hpl;have:ks=[]:=wh hpl.symm;rw[hn.2 this];exact⟨φ,.AEz,H.below hb⟩
 ·rename_i x l he
  split at hk
  case h_2=>cases hk
  rename_i AHf;rw[<- he]at AHf hk;rw[AZ,BL,hpl]at hk;have hpos:0<ks.length:=by rw[<- hpl,he];simp
  rw[S7 AHf]at ho;obtain⟨_,⟨_,h0⟩|⟨g,cap,cur,rfl,hg,hgb,hcap,_,hcs,AHK⟩⟩:=ho
  ·omega
  unfold newRow at hk;split at hk
  case h_2=>cases hk
  rename_i c AEg;unfold CL at hk;rw[AZ]at hk;obtain⟨bl,hbl,hk'⟩:=GX hk;cases hk';have hlen:BA ((DF ks).map zv)=ks.length:=by rw[BL,OF,hpl]
  rw[hlen]at hbl;rw[yk]at hcs AHK
  let p:Pl:={blk:=g,off:=0,sz:=ks.length,room:=cap,es:=1}
  have hsame:∀ k,k<w.heap.size->w'.heap[k]? =w.heap[k]?:=hb.block;have hgl:g<w'.heap.size:=(Array.getElem?_eq_some_iff.1 hgb).1;have hB:AFA U (φ.put h.next p) p (.cells c ks.length (vo t)) w'.heap[p.blk]?:=by
   show AFA U (φ.put h.next p) p (.cells c ks.length (vo t)) w'.heap[g]?;rw[hgb];refine .cells {kind:=⟨rfl,.inr ⟨t,ti,rfl,hty,hs.symm⟩⟩,room:=hcap,fits:=(by show 0+cap<=cur.size;omega),loose:=.inl (.inl rfl),cell:=fun j hj=>?_};have hj2:j<((DF ks).map zv).length:=by rw[OF,hpl];exact hj
   have e1:=JE AEg j hj2;rw[e1];refine⟨((DF ks).map zv).getD j undef,?_,?_⟩
   ·show cur[0+j]? =_
    rw[vk,<- Array.getElem?_toList];have e2:(cur.toList.take ks.length)[j]? =((DF ks).map zv)[j]?:=by rw[AHK]
    rw[List.getElem?_take,if_pos hj]at e2;rw[e2,vm,sh hj2];rfl
   ·rw[vm,sh hj2]
    show AED _ (((DF ks).map zv)[j]) _;rw[List.getElem_map];exact .int _ _
  refine⟨φ.put h.next p,?_,H.new hbl hb.size hgl (fun j q e _=>by have:=(H.dom j q e).2;show q.blk≠g;omega) (fun k hk _=>hsame k hk) hB,.made H hbl hg hb.size hsame hb.tape hb.os hb.output⟩;refine .slice (IT _) ⟨rfl,rfl,p,Phi.AEx _ _ _,rfl,.inl ⟨hpos,rfl,.inr ⟨?_,hcap,?_⟩⟩⟩
  ·show 0+ks.length*1=ks.length
   omega
  ·show 0+cap*1<=cap
   omega
theorem S9{S t:Nat}{Ks:List Nat}{ti:TI}(hS:∃ fn,P.funcs[S]? =some fn/\fn.name≠"runtime.NumGoroutine" /\fn.body.isNone=false)(hc:∀ K,memN K Ks=true->AFP P S K t)
  (hty:U.get t=some ti)(hs:ti.size=1):It P U S (VQ Ks t):=fun F args h v h' _ hr=>⟨hS,fun φ w args' AEh H=>by
 have hr:MG Ks t args h=.ok v h':=hr;obtain⟨g,a,rfl,hg,hr⟩:=S8 hr;obtain⟨cn,cm⟩:=hc g hg;cases AEh with
 |cons hv hn=>
 cases hn;cases hv with
 |func _ h1 h2=>
 cases h1;cases h2 with
 |cons hp hn=>
 cases hn;cases hp with
 |@ptr _ a' ha=>
 obtain⟨s1,s2,p,hp,hbl,ho⟩:=ha;unfold J7 at hr;split at hr
 case h_2=>cases hr
 rename_i hq;rw[wJ]at hq;have q1:=Am.1 hq.1;have q2:=Ac.1 hq.2;split at hr
 case h_2=>cases hr
 rename_i c s e hrow;split at hr
 case h_2=>cases hr
 rename_i hq3;rw[wJ]at hq3;have q3:=Am.1 hq3.1;have q4:=BD.1 hq3.2;subst q3;have hoff:p.off=0:=by
  rcases (H.kind a.block p c s 0 hp (DC hrow)).2 with ⟨_,_,_,h0|h0⟩|⟨_,_,h0,_⟩
  ·exact h0
  ·have:=H.inp a.block p hp h0
   omega
  ·omega
 have ea:a'=⟨p.blk,0,none⟩:=by
  obtain⟨ab,ao,asp⟩:=a';simp only at s2 hbl ho;subst s2;subst hbl
  congr 1
  omega
 subst ea;obtain⟨cs,tt,fr,hw,R⟩:=H.rowAt hp (fun h=>h) hrow;obtain⟨x,hx,hxr⟩:=R.cell 0 q4;rw[hoff,vk]at hx;have hcell:w.cell? ⟨p.blk,0,none⟩=some x:=by rw[IE hw];exact hx
 have hpb:=(H.dom _ _ hp).2;generalize c.get 0=y at hr hxr;unfold MH at hr;split at hr
 ·cases hxr
  cases hr;refine(cn w p.blk hpb hcell).mono ?_;rintro e w' ⟨rfl,hb⟩;exact⟨_,φ,rfl,.AEz,H.below hb⟩
 ·rename_i r
  cases hxr with
  |map hq=>
  rename_i q;split at hr
  case h_2=>cases hr
  rename_i es clk hes;split at hr
  case h_2=>cases hr
  rename_i hsz;split at hr
  case h_2=>cases hr
  rename_i ks hks;obtain⟨es',hwm,hre⟩:=H.AFH hq (fun h=>h) hes;obtain⟨k1,k2,k3,k4⟩:=RW hks hre;have hl:es'.length<=1000000:=by
   have:=Ac.1 hsz;rw[BL]at this;have e2:es'.length=es.length:=by
    clear hes hwm hks k1 k2 k3 k4 hsz this
    induction hre with
    |nil=>rfl
    |cons _ _ _ ih=>simp only[vw,ih]
   omega
  have hnd:ks.Nodup:=by
   have AHf:PL (DF ks)=true:=by
    cases he:DF ks with
    |nil=>rfl
    |cons x l=>
     rw[he]at hr;unfold GD at hr;split at hr
     ·rename_i e;cases e
     ·rename_i e
      cases e;split at hr
      ·assumption
      ·cases hr
   have:=(KG AHf).imp fun {a b} (hab:a<b)=>Nat.ne_of_lt hab
   exact(D7 ks).nodup_iff.1 this
  have hst:Stamped ⟨es'⟩ clk:=⟨fun x hx=>(k3 x hx).2,k4,by
   show(es'.map (·.key)).Nodup;rw[k1];exact yY.2 (hnd.imp fun {a b} hab e=>hab (rh e))⟩
  refine(cm w p.blk q.blk ⟨es'⟩ clk ks hpb hcell hwm hl hst k1 k2).mono ?_;rintro e w' ⟨v',rfl,ho,hn,hb⟩;obtain⟨ψ,r1,r2,r3⟩:=Uy H hty hs hr hb ho hn;exact⟨v',ψ,rfl,r1,r2,r3⟩
 ·cases hr⟩
end
end
end Go.Proofs.YtedbmmfebjfibaaGreat
set_option maxRecDepth 100000
namespace Go.Proofs.YtedbmmfebjfibaaGreat
noncomputable section
open Go Go.Proofs Go.RowKit Go.Maps Go.Sort Go.Shelf
def Jj:Ren:=⟨fun| 7=>67| 10=>94|n=>n,fun| 23=>96| 26=>3| 3=>100| 28=>111| 0=>0| 27=>110| 33=>105| 4=>4|n=>n,fun n=>n⟩
theorem bO:SlLaysZI.n7 vu Jj where
 mixed:=by kernel_rfl
 f7:=⟨AD2.name,by decide,ADQ.trans (congrArg some (by kernel_rfl))⟩
 f10:=⟨Tryz.f94.name,by decide,ADO.trans (congrArg some (by kernel_rfl))⟩
 t0:=AAm
 a0:=AB4
 z0:=ABj
 v0:=AAu
 t4:=zw
 a4:=ADN
 z4:=AC8
 v4:=ACd
 t23:=Tryz.underlying96
 a23:=Tryz.isAgg96
 z23:=Tryz.sizeOf96
 v23:=Tryz.zeroValue96
 t26:=xy
 a26:=AAv
 z26:=AAg
 v26:=zr
 t27:=Tryz.underlying110
 a27:=Tryz.isAgg110
 z27:=Tryz.sizeOf110
 v27:=Tryz.zeroValue110
 t28:=ACA
 a28:=AC1
 z28:=ACq
 v28:=ACG
 t33:=Tryz.underlying105
 a33:=Tryz.isAgg105
 z33:=Tryz.sizeOf105
 v33:=Tryz.zeroValue105
def GK:Ren:=⟨fun| 6=>66| 8=>93| 9=>82| 11=>113| 13=>78| 12=>108| 23=>105| 24=>106| 14=>119| 15=>120| 16=>121| 17=>122| 18=>123| 19=>124| 20=>125| 21=>126| 22=>127| 25=>129| 26=>115| 27=>116| 28=>130| 29=>131| 30=>107| 31=>132|n=>n,fun| 26=>3| 28=>111| 24=>62| 0=>0| 3=>3| 37=>114| 48=>25| 50=>116| 4=>4| 40=>136| 39=>135| 45=>140| 5=>5| 9=>9| 51=>152| 55=>156| 57=>164| 58=>165| 33=>105|n=>n,fun n=>n⟩
theorem X9:ACe vu GK where
 mixed:=by kernel_rfl
 f6:=⟨AD3.name,by decide,ADR.trans (congrArg some (by kernel_rfl))⟩
 f8:=⟨Tryz.f93.name,by decide,Tryz.func93.trans (congrArg some (by kernel_rfl))⟩
 f11:=⟨Tryz.f113.name,by decide,Tryz.func113.trans (congrArg some (by kernel_rfl))⟩
 t0:=AAm
 a0:=AB4
 z0:=ABj
 v0:=AAu
 t24:=AAZ
 a24:=ABk
 z24:=ABP
 v24:=AAk
 t26:=xy
 a26:=AAv
 z26:=AAg
 v26:=zr
 t28:=ACA
 a28:=AC1
 z28:=ACq
 v28:=ACG
 i26:=by kernel_rfl
def Rg:Ren:=⟨fun| 5=>82| 8=>78| 7=>108| 19=>105| 20=>106| 10=>119| 11=>120| 12=>121| 13=>122| 14=>123| 15=>124| 16=>125| 17=>126| 18=>127| 30=>129| 31=>115| 32=>116| 33=>130| 34=>131| 35=>107| 40=>132|n=>n,fun| 23=>62| 25=>3| 3=>3| 32=>114| 22=>62| 0=>0| 44=>25| 46=>116| 4=>4| 36=>136| 35=>135| 41=>140| 5=>5| 9=>9| 53=>152| 57=>156| 63=>164| 64=>165|n=>n,fun n=>n⟩
theorem WQ:SlLaysM.n5 vu Rg where
 mixed:=by kernel_rfl
 f5:=⟨AD1.name,by decide,AB5.trans (congrArg some (by kernel_rfl))⟩
 f7:=⟨ADs.name,by decide,ADB.trans (congrArg some (by kernel_rfl))⟩
 f8:=ADP.trans (congrArg some (by kernel_rfl))
 f10:=⟨ADr.name,by decide,ADA.trans (congrArg some (by kernel_rfl))⟩
 f11:=⟨Tryz.f120.name,by decide,Tryz.func120.trans (congrArg some (by kernel_rfl))⟩
 f12:=⟨Tryz.f121.name,by decide,Tryz.func121.trans (congrArg some (by kernel_rfl))⟩
 f13:=⟨Tryz.f122.name,by decide,Tryz.func122.trans (congrArg some (by kernel_rfl))⟩
 f14:=⟨Tryz.f123.name,by decide,Tryz.func123.trans (congrArg some (by kernel_rfl))⟩
 f15:=⟨Tryz.f124.name,by decide,Tryz.func124.trans (congrArg some (by kernel_rfl))⟩
 f16:=⟨ADq.name,by decide,AC9.trans (congrArg some (by kernel_rfl))⟩
 f17:=⟨Tryz.f126.name,by decide,Tryz.func126.trans (congrArg some (by kernel_rfl))⟩
 f18:=⟨Tryz.f127.name,by decide,Tryz.func127.trans (congrArg some (by kernel_rfl))⟩
 f19:=Tryz.func105.trans (congrArg some (by kernel_rfl))
 f20:=ADD.trans (congrArg some (by kernel_rfl))
 f30:=⟨Tryz.f129.name,by decide,Tryz.func129.trans (congrArg some (by kernel_rfl))⟩
 f31:=Tryz.func115.trans (congrArg some (by kernel_rfl))
 f32:=Tryz.func116.trans (congrArg some (by kernel_rfl))
 f33:=⟨Tryz.f130.name,by decide,Tryz.func130.trans (congrArg some (by kernel_rfl))⟩
 f34:=⟨Tryz.f131.name,by decide,Tryz.func131.trans (congrArg some (by kernel_rfl))⟩
 f35:=⟨ADt.name,by decide,ADC.trans (congrArg some (by kernel_rfl))⟩
 f40:=⟨Tryz.f132.name,by decide,Tryz.func132.trans (congrArg some (by kernel_rfl))⟩
 t0:=AAm
 a0:=AB4
 z0:=ABj
 v0:=AAu
 t3:=xy
 a3:=AAv
 z3:=AAg
 v3:=zr
 t4:=zw
 a4:=ADN
 z4:=AC8
 v4:=ACd
 t5:=Tryz.underlying5
 a5:=Tryz.isAgg5
 z5:=Tryz.sizeOf5
 v5:=Tryz.zeroValue5
 t9:=Tryz.underlying9
 a9:=Tryz.isAgg9
 z9:=Tryz.sizeOf9
 v9:=Tryz.zeroValue9
 t22:=AAZ
 a22:=ABk
 z22:=ABP
 v22:=AAk
 t23:=AAZ
 a23:=ABk
 z23:=ABP
 v23:=AAk
 t25:=xy
 a25:=AAv
 z25:=AAg
 v25:=zr
 t32:=Tryz.underlying114
 a32:=Tryz.isAgg114
 z32:=Tryz.sizeOf114
 v32:=Tryz.zeroValue114
 t35:=Tryz.underlying135
 a35:=Tryz.isAgg135
 z35:=Tryz.sizeOf135
 v35:=Tryz.zeroValue135
 t36:=Tryz.underlying136
 a36:=Tryz.isAgg136
 z36:=Tryz.sizeOf136
 v36:=Tryz.zeroValue136
 t41:=Tryz.underlying140
 a41:=Tryz.isAgg140
 z41:=Tryz.sizeOf140
 v41:=Tryz.zeroValue140
 t44:=Tryz.underlying25
 a44:=Tryz.isAgg25
 z44:=Tryz.sizeOf25
 v44:=Tryz.zeroValue25
 t46:=Tryz.underlying116
 a46:=Tryz.isAgg116
 z46:=Tryz.sizeOf116
 v46:=Tryz.zeroValue116
 t53:=Tryz.underlying152
 a53:=Tryz.isAgg152
 z53:=Tryz.sizeOf152
 v53:=Tryz.zeroValue152
 t57:=Tryz.underlying156
 a57:=Tryz.isAgg156
 z57:=Tryz.sizeOf156
 v57:=Tryz.zeroValue156
 t63:=Tryz.underlying164
 a63:=Tryz.isAgg164
 z63:=Tryz.sizeOf164
 v63:=Tryz.zeroValue164
 t64:=Tryz.underlying165
 a64:=Tryz.isAgg165
 z64:=Tryz.sizeOf165
 v64:=Tryz.zeroValue165
theorem rJ(m:Nat):ACz vu GK zZ m:=
 ⟨fun blk off cap ss W hH hblk hsz=>callsIn_wide.2 (AnyM.slices_Sort_int WQ blk off cap ss W hH hblk hsz),
  fun p cap W=>callsIn_wide.2 (AnyM.slices_Sort_int_none WQ p cap W)⟩
theorem un:AFP vu 66 94 3:=Uz (ρ:=GK) (ρ':=Jj) X9 {bO with} rJ (enters_of AB5 (by kernel_rfl) rfl) (enters_of ADO (by kernel_rfl) rfl)
theorem bY{a b:String}(h:(a == b)=false):a≠b:=by simpa using h
def bS:Body:=VQ [94] 3
theorem Yk:It vu U 66 bS:=S9 (ti:=ty3) ⟨AD3,ADR,bY (by kernel_rfl),rfl⟩ (fun K hK=>by
 have hK:=Jl.1 hK;simp only[wA,List.not_mem_nil,or_false]at hK;rcases hK with rfl
 ·exact un) (by kernel_rfl) rfl
end
end Go.Proofs.YtedbmmfebjfibaaGreat
namespace Go.Proofs.YtedbmmfebjfibaaGreat
noncomputable section
open Go
theorem oS:BX vu U 66 bS:=ADg (.inr Yk)
theorem Aa{a b:String}(h:(a == b)=false):a≠b:=by simpa using h
theorem o7:BX vu U 7 b7:=wX ⟨Tryz.f7,al7,Tryz.func7,Aa (by kernel_rfl),tv⟩
theorem o8:BX vu U 8 b8:=wX ⟨Tryz.f8,al8,ADd,Aa (by kernel_rfl),tw⟩
theorem o9:BX vu U 9 b9:=wX ⟨Tryz.f9,al9,ADc,Aa (by kernel_rfl),tz⟩
theorem o10:BX vu U 10 b10:=wX ⟨Tryz.f10,rk,Tryz.func10,Aa (by kernel_rfl),lK⟩
theorem o11:BX vu U 11 b11:=wX ⟨Tryz.f11,rl,Tryz.func11,Aa (by kernel_rfl),lM⟩
theorem o12:BX vu U 12 b12:=wX ⟨Tryz.f12,rm,Tryz.func12,Aa (by kernel_rfl),lN⟩
theorem o16:BX vu U 16 b16:=wX ⟨Tryz.f16,rn,Tryz.func16,Aa (by kernel_rfl),lO⟩
theorem o17:BX vu U 17 b17:=wX ⟨Tryz.f17,ro,Tryz.func17,Aa (by kernel_rfl),lQ⟩
theorem o19:BX vu U 19 b19:=wX ⟨Tryz.f19,rq,Tryz.func19,Aa (by kernel_rfl),lR⟩
theorem o20:BX vu U 20 b20:=wX ⟨Tryz.f20,rr,Tryz.func20,Aa (by kernel_rfl),lS⟩
theorem o21:BX vu U 21 b21:=wX ⟨Tryz.f21,rt,Tryz.func21,Aa (by kernel_rfl),lT⟩
theorem o22:BX vu U 22 b22:=wX ⟨Tryz.f22,ru,Tryz.func22,Aa (by kernel_rfl),lU⟩
theorem o24:BX vu U 24 b24:=wX ⟨Tryz.f24,rv,Tryz.func24,Aa (by kernel_rfl),lV⟩
theorem o25:BX vu U 25 b25:=wX ⟨Tryz.f25,rx,Tryz.func25,Aa (by kernel_rfl),lW⟩
theorem o26:BX vu U 26 b26:=wX ⟨Tryz.f26,ry,Tryz.func26,Aa (by kernel_rfl),lX⟩
theorem o27:BX vu U 27 b27:=wX ⟨Tryz.f27,rz,Tryz.func27,Aa (by kernel_rfl),lY⟩
theorem o28:BX vu U 28 b28:=wX ⟨Tryz.f28,sA,Tryz.func28,Aa (by kernel_rfl),lZ⟩
theorem o29:BX vu U 29 b29:=wX ⟨Tryz.f29,sB,Tryz.func29,Aa (by kernel_rfl),la⟩
theorem o30:BX vu U 30 b30:=wX ⟨Tryz.f30,sC,Tryz.func30,Aa (by kernel_rfl),lc⟩
theorem o31:BX vu U 31 b31:=wX ⟨Tryz.f31,sD,Tryz.func31,Aa (by kernel_rfl),lg⟩
theorem o32:BX vu U 32 b32:=wX ⟨Tryz.f32,sE,Tryz.func32,Aa (by kernel_rfl),li⟩
theorem o33:BX vu U 33 b33:=wX ⟨Tryz.f33,sF,Tryz.func33,Aa (by kernel_rfl),ll⟩
theorem o34:BX vu U 34 b34:=wX ⟨Tryz.f34,sG,Tryz.func34,Aa (by kernel_rfl),lm⟩
theorem o35:BX vu U 35 b35:=wX ⟨Tryz.f35,sH,Tryz.func35,Aa (by kernel_rfl),lq⟩
theorem o36:BX vu U 36 b36:=wX ⟨Tryz.f36,sI,Tryz.func36,Aa (by kernel_rfl),lr⟩
theorem o37:BX vu U 37 b37:=wX ⟨Tryz.f37,sJ,Tryz.func37,Aa (by kernel_rfl),lw⟩
theorem o38:BX vu U 38 b38:=wX ⟨Tryz.f38,sK,Tryz.func38,Aa (by kernel_rfl),lx⟩
theorem o39:BX vu U 39 b39:=wX ⟨Tryz.f39,sL,Tryz.func39,Aa (by kernel_rfl),ly⟩
theorem o40:BX vu U 40 b40:=wX ⟨Tryz.f40,sM,Tryz.func40,Aa (by kernel_rfl),lz⟩
theorem o41:BX vu U 41 b41:=wX ⟨Tryz.f41,sN,Tryz.func41,Aa (by kernel_rfl),l7⟩
theorem o42:BX vu U 42 b42:=wX ⟨Tryz.f42,sO,Tryz.func42,Aa (by kernel_rfl),l8⟩
theorem o43:BX vu U 43 b43:=wX ⟨Tryz.f43,sP,Tryz.func43,Aa (by kernel_rfl),mA⟩
theorem o44:BX vu U 44 b44:=wX ⟨Tryz.f44,sQ,Tryz.func44,Aa (by kernel_rfl),mB⟩
theorem o45:BX vu U 45 b45:=wX ⟨Tryz.f45,sR,Tryz.func45,Aa (by kernel_rfl),mC⟩
theorem o46:BX vu U 46 b46:=wX ⟨Tryz.f46,sS,Tryz.func46,Aa (by kernel_rfl),mD⟩
theorem o47:BX vu U 47 b47:=wX ⟨Tryz.f47,sU,Tryz.func47,Aa (by kernel_rfl),mE⟩
theorem o48:BX vu U 48 b48:=wX ⟨Tryz.f48,sV,Tryz.func48,Aa (by kernel_rfl),mF⟩
theorem o49:BX vu U 49 b49:=wX ⟨Tryz.f49,sW,Tryz.func49,Aa (by kernel_rfl),mG⟩
theorem o50:BX vu U 50 b50:=wX ⟨Tryz.f50,sX,Tryz.func50,Aa (by kernel_rfl),mH⟩
theorem o51:BX vu U 51 b51:=wX ⟨Tryz.f51,sY,Tryz.func51,Aa (by kernel_rfl),mI⟩
theorem o52:BX vu U 52 b52:=wX ⟨Tryz.f52,sZ,Tryz.func52,Aa (by kernel_rfl),mJ⟩
theorem o53:BX vu U 53 b53:=wX ⟨Tryz.f53,sd,Tryz.func53,Aa (by kernel_rfl),mK⟩
theorem o54:BX vu U 54 b54:=wX ⟨Tryz.f54,se,Tryz.func54,Aa (by kernel_rfl),mL⟩
theorem o55:BX vu U 55 b55:=wX ⟨Tryz.f55,sk,Tryz.func55,Aa (by kernel_rfl),mM⟩
theorem o56:BX vu U 56 b56:=wX ⟨Tryz.f56,so,Tryz.func56,Aa (by kernel_rfl),mN⟩
theorem o57:BX vu U 57 b57:=wX ⟨Tryz.f57,su,Tryz.func57,Aa (by kernel_rfl),mO⟩
theorem o58:BX vu U 58 b58:=wX ⟨Tryz.f58,sv,Tryz.func58,Aa (by kernel_rfl),mP⟩
theorem o59:BX vu U 59 b59:=wX ⟨Tryz.f59,sx,Tryz.func59,Aa (by kernel_rfl),mQ⟩
theorem o60:BX vu U 60 b60:=wX ⟨Tryz.f60,sy,Tryz.func60,Aa (by kernel_rfl),mR⟩
theorem o61:BX vu U 61 b61:=wX ⟨Tryz.f61,tA,Tryz.func61,Aa (by kernel_rfl),mS⟩
theorem o62:BX vu U 62 b62:=wX ⟨Tryz.f62,tB,Tryz.func62,Aa (by kernel_rfl),mT⟩
theorem o63:BX vu U 63 b63:=wX ⟨Tryz.f63,tC,Tryz.func63,Aa (by kernel_rfl),mU⟩
theorem o64:BX vu U 64 b64:=wX ⟨Tryz.f64,tD,Tryz.func64,Aa (by kernel_rfl),mV⟩
theorem o65:BX vu U 65 b65:=wX ⟨Tryz.f65,tE,Tryz.func65,Aa (by kernel_rfl),mW⟩
theorem o67:BX vu U 67 b67:=wX ⟨AD2,tF,ADQ,Aa (by kernel_rfl),mX⟩
theorem o68:BX vu U 68 b68:=wX ⟨Tryz.f68,tG,Tryz.func68,Aa (by kernel_rfl),mY⟩
theorem o69:BX vu U 69 b69:=wX ⟨Tryz.f69,tH,Tryz.func69,Aa (by kernel_rfl),mZ⟩
theorem o70:BX vu U 70 b70:=wX ⟨Tryz.f70,tI,Tryz.func70,Aa (by kernel_rfl),ma⟩
theorem o71:BX vu U 71 b71:=wX ⟨Tryz.f71,tJ,Tryz.func71,Aa (by kernel_rfl),mc⟩
theorem o72:BX vu U 72 b72:=wX ⟨Tryz.f72,tK,Tryz.func72,Aa (by kernel_rfl),me⟩
theorem o73:BX vu U 73 b73:=wX ⟨Tryz.f73,tL,Tryz.func73,Aa (by kernel_rfl),mf⟩
theorem o74:BX vu U 74 b74:=wX ⟨Tryz.f74,tM,Tryz.func74,Aa (by kernel_rfl),mg⟩
theorem o75:BX vu U 75 b75:=wX ⟨Tryz.f75,tN,Tryz.func75,Aa (by kernel_rfl),mh⟩
theorem o76:BX vu U 76 b76:=wX ⟨Tryz.f76,tO,Tryz.func76,Aa (by kernel_rfl),mi⟩
theorem o77:BX vu U 77 b77:=wX ⟨Tryz.f77,tP,Tryz.func77,Aa (by kernel_rfl),mj⟩
theorem o78:BX vu U 78 b78:=wX ⟨Tryz.f78,tQ,ADP,Aa (by kernel_rfl),ml⟩
theorem o79:BX vu U 79 b79:=wX ⟨Tryz.f79,tR,Tryz.func79,Aa (by kernel_rfl),mo⟩
theorem o80:BX vu U 80 b80:=wX ⟨Tryz.f80,tS,Tryz.func80,Aa (by kernel_rfl),mq⟩
theorem o81:BX vu U 81 b81:=wX ⟨Tryz.f81,tT,Tryz.func81,Aa (by kernel_rfl),mr⟩
theorem o82:BX vu U 82 b82:=wX ⟨AD1,tU,AB5,Aa (by kernel_rfl),mu⟩
theorem o83:BX vu U 83 b83:=wX ⟨Tryz.f83,tV,Tryz.func83,Aa (by kernel_rfl),mw⟩
theorem o84:BX vu U 84 b84:=wX ⟨Tryz.f84,tW,Tryz.func84,Aa (by kernel_rfl),my⟩
theorem o85:BX vu U 85 b85:=wX ⟨Tryz.f85,tX,Tryz.func85,Aa (by kernel_rfl),mz⟩
theorem o86:BX vu U 86 b86:=wX ⟨Tryz.f86,tY,Tryz.func86,Aa (by kernel_rfl),m8⟩
theorem o87:BX vu U 87 b87:=wX ⟨Tryz.f87,tZ,Tryz.func87,Aa (by kernel_rfl),nB⟩
theorem o88:BX vu U 88 b88:=wX ⟨Tryz.f88,tc,Tryz.func88,Aa (by kernel_rfl),nC⟩
theorem o89:BX vu U 89 b89:=wX ⟨Tryz.f89,te,Tryz.func89,Aa (by kernel_rfl),nE⟩
theorem o90:BX vu U 90 b90:=wX ⟨Tryz.f90,tf,Tryz.func90,Aa (by kernel_rfl),nF⟩
theorem o91:BX vu U 91 b91:=wX ⟨Tryz.f91,tg,Tryz.func91,Aa (by kernel_rfl),nG⟩
theorem o92:BX vu U 92 b92:=wX ⟨Tryz.f92,th,Tryz.func92,Aa (by kernel_rfl),nH⟩
theorem o95:BX vu U 95 b95:=wX ⟨Tryz.f95,tm,Tryz.func95,Aa (by kernel_rfl),nI⟩
theorem o96:BX vu U 96 b96:=wX ⟨Tryz.f96,tq,Tryz.func96,Aa (by kernel_rfl),nJ⟩
theorem o97:BX vu U 97 b97:=wX ⟨Tryz.f97,tu,Tryz.func97,Aa (by kernel_rfl),nL⟩
theorem uS:BX vu U 106 XU:=wX ⟨Tryz.f106,kE,ADD,Aa (by kernel_rfl),eY⟩
theorem uT:BX vu U 107 XV:=wX ⟨ADt,kF,ADC,Aa (by kernel_rfl),eZ⟩
theorem uU:BX vu U 108 XW:=wX ⟨ADs,kG,ADB,Aa (by kernel_rfl),ed⟩
theorem uV:BX vu U 109 XX:=wX ⟨Tryz.f109,kH,Tryz.func109,Aa (by kernel_rfl),ee⟩
theorem uW:BX vu U 110 XY:=wX ⟨Tryz.f110,kI,Tryz.func110,Aa (by kernel_rfl),ef⟩
theorem uX:BX vu U 111 XZ:=wX ⟨Tryz.f111,kJ,Tryz.func111,Aa (by kernel_rfl),eh⟩
theorem uY:BX vu U 112 Xa:=wX ⟨Tryz.f112,kK,Tryz.func112,Aa (by kernel_rfl),eo⟩
theorem uZ:BX vu U 119 Xb:=wX ⟨ADr,kL,ADA,Aa (by kernel_rfl),et⟩
theorem ua:BX vu U 125 Xc:=wX ⟨ADq,kM,AC9,Aa (by kernel_rfl),eu⟩
theorem Ax(i:Nat):BX vu U i Au:=ADg (.inl rfl)
set_option maxRecDepth 100000 in
def Gk:FT:=(.nd Au (.nd Au (.nd Au (.nd b7 (.nd Au (.nd b31 (.nd b63 (.nd Au .mt .mt) .mt) (.nd b95 .mt .mt)) (.nd b47 (.nd b79 (.nd Au .mt .mt) .mt) (.nd XZ .mt .mt))) (.nd Au (.nd b39 (.nd b71 (.nd Au .mt .mt) .mt) (.nd Au .mt .mt)) (.nd b55 (.nd b87 .mt .mt) (.nd Xb .mt .mt)))) (.nd b11 (.nd b19 (.nd b35 (.nd b67 (.nd Au .mt .mt) .mt) (.nd Au .mt .mt)) (.nd b51 (.nd b83 (.nd Au .mt .mt) .mt) (.nd Au .mt .mt))) (.nd b27 (.nd b43 (.nd b75 (.nd Au .mt .mt) .mt) (.nd XV .mt .mt)) (.nd b59 (.nd b91 .mt .mt) (.nd Au .mt .mt))))) (.nd Au (.nd b9 (.nd b17 (.nd b33 (.nd b65 (.nd Au .mt .mt) .mt) (.nd b97 .mt .mt)) (.nd b49 (.nd b81 (.nd Au .mt .mt) .mt) (.nd Au .mt .mt))) (.nd b25 (.nd b41 (.nd b73 (.nd Au .mt .mt) .mt) (.nd Au .mt .mt)) (.nd b57 (.nd b89 .mt .mt) (.nd Au .mt .mt)))) (.nd Au (.nd b21 (.nd b37 (.nd b69 (.nd Au .mt .mt) .mt) (.nd Au .mt .mt)) (.nd b53 (.nd b85 .mt .mt) (.nd Au .mt .mt))) (.nd b29 (.nd b45 (.nd b77 (.nd Au .mt .mt) .mt) (.nd XX .mt .mt)) (.nd b61 (.nd Au .mt .mt) (.nd Xc .mt .mt)))))) (.nd Au (.nd Au (.nd b8 (.nd b16 (.nd b32 (.nd b64 (.nd Au .mt .mt) .mt) (.nd b96 .mt .mt)) (.nd b48 (.nd b80 (.nd Au .mt .mt) .mt) (.nd Xa .mt .mt))) (.nd b24 (.nd b40 (.nd b72 (.nd Au .mt .mt) .mt) (.nd Au .mt .mt)) (.nd b56 (.nd b88 .mt .mt) (.nd Au .mt .mt)))) (.nd b12 (.nd b20 (.nd b36 (.nd b68 (.nd Au .mt .mt) .mt) (.nd Au .mt .mt)) (.nd b52 (.nd b84 (.nd Au .mt .mt) .mt) (.nd Au .mt .mt))) (.nd b28 (.nd b44 (.nd b76 (.nd Au .mt .mt) .mt) (.nd XW .mt .mt)) (.nd b60 (.nd b92 .mt .mt) (.nd Au .mt .mt))))) (.nd Au (.nd b10 (.nd Au (.nd b34 (.nd bS (.nd Au .mt .mt) .mt) (.nd Au .mt .mt)) (.nd b50 (.nd b82 (.nd Au .mt .mt) .mt) (.nd Au .mt .mt))) (.nd b26 (.nd b42 (.nd b74 (.nd Au .mt .mt) .mt) (.nd XU .mt .mt)) (.nd b58 (.nd b90 .mt .mt) (.nd Au .mt .mt)))) (.nd Au (.nd b22 (.nd b38 (.nd b70 (.nd Au .mt .mt) .mt) (.nd Au .mt .mt)) (.nd b54 (.nd b86 .mt .mt) (.nd Au .mt .mt))) (.nd b30 (.nd b46 (.nd b78 (.nd Au .mt .mt) .mt) (.nd XY .mt .mt)) (.nd b62 (.nd Au .mt .mt) (.nd Au .mt .mt)))))))
set_option maxRecDepth 100000 in
theorem Tg:FT.All (BX vu U) Gk id:=⟨Ax _,⟨Ax _,⟨Ax _,⟨o7,⟨Ax _,⟨o31,⟨o63,⟨Ax _,trivial,trivial⟩,trivial⟩,⟨o95,trivial,trivial⟩⟩,⟨o47,⟨o79,⟨Ax _,trivial,trivial⟩,trivial⟩,⟨uX,trivial,trivial⟩⟩⟩,⟨Ax _,⟨o39,⟨o71,⟨Ax _,trivial,trivial⟩,trivial⟩,⟨Ax _,trivial,trivial⟩⟩,⟨o55,⟨o87,trivial,trivial⟩,⟨uZ,trivial,trivial⟩⟩⟩⟩,⟨o11,⟨o19,⟨o35,⟨o67,⟨Ax _,trivial,trivial⟩,trivial⟩,⟨Ax _,trivial,trivial⟩⟩,⟨o51,⟨o83,⟨Ax _,trivial,trivial⟩,trivial⟩,⟨Ax _,trivial,trivial⟩⟩⟩,⟨o27,⟨o43,⟨o75,⟨Ax _,trivial,trivial⟩,trivial⟩,⟨uT,trivial,trivial⟩⟩,⟨o59,⟨o91,trivial,trivial⟩,⟨Ax _,trivial,trivial⟩⟩⟩⟩⟩,⟨Ax _,⟨o9,⟨o17,⟨o33,⟨o65,⟨Ax _,trivial,trivial⟩,trivial⟩,⟨o97,trivial,trivial⟩⟩,⟨o49,⟨o81,⟨Ax _,trivial,trivial⟩,trivial⟩,⟨Ax _,trivial,trivial⟩⟩⟩,⟨o25,⟨o41,⟨o73,⟨Ax _,trivial,trivial⟩,trivial⟩,⟨Ax _,trivial,trivial⟩⟩,⟨o57,⟨o89,trivial,trivial⟩,⟨Ax _,trivial,trivial⟩⟩⟩⟩,⟨Ax _,⟨o21,⟨o37,⟨o69,⟨Ax _,trivial,trivial⟩,trivial⟩,⟨Ax _,trivial,trivial⟩⟩,⟨o53,⟨o85,trivial,trivial⟩,⟨Ax _,trivial,trivial⟩⟩⟩,⟨o29,⟨o45,⟨o77,⟨Ax _,trivial,trivial⟩,trivial⟩,⟨uV,trivial,trivial⟩⟩,⟨o61,⟨Ax _,trivial,trivial⟩,⟨ua,trivial,trivial⟩⟩⟩⟩⟩⟩,⟨Ax _,⟨Ax _,⟨o8,⟨o16,⟨o32,⟨o64,⟨Ax _,trivial,trivial⟩,trivial⟩,⟨o96,trivial,trivial⟩⟩,⟨o48,⟨o80,⟨Ax _,trivial,trivial⟩,trivial⟩,⟨uY,trivial,trivial⟩⟩⟩,⟨o24,⟨o40,⟨o72,⟨Ax _,trivial,trivial⟩,trivial⟩,⟨Ax _,trivial,trivial⟩⟩,⟨o56,⟨o88,trivial,trivial⟩,⟨Ax _,trivial,trivial⟩⟩⟩⟩,⟨o12,⟨o20,⟨o36,⟨o68,⟨Ax _,trivial,trivial⟩,trivial⟩,⟨Ax _,trivial,trivial⟩⟩,⟨o52,⟨o84,⟨Ax _,trivial,trivial⟩,trivial⟩,⟨Ax _,trivial,trivial⟩⟩⟩,⟨o28,⟨o44,⟨o76,⟨Ax _,trivial,trivial⟩,trivial⟩,⟨uU,trivial,trivial⟩⟩,⟨o60,⟨o92,trivial,trivial⟩,⟨Ax _,trivial,trivial⟩⟩⟩⟩⟩,⟨Ax _,⟨o10,⟨Ax _,⟨o34,⟨oS,⟨Ax _,trivial,trivial⟩,trivial⟩,⟨Ax _,trivial,trivial⟩⟩,⟨o50,⟨o82,⟨Ax _,trivial,trivial⟩,trivial⟩,⟨Ax _,trivial,trivial⟩⟩⟩,⟨o26,⟨o42,⟨o74,⟨Ax _,trivial,trivial⟩,trivial⟩,⟨uS,trivial,trivial⟩⟩,⟨o58,⟨o90,trivial,trivial⟩,⟨Ax _,trivial,trivial⟩⟩⟩⟩,⟨Ax _,⟨o22,⟨o38,⟨o70,⟨Ax _,trivial,trivial⟩,trivial⟩,⟨Ax _,trivial,trivial⟩⟩,⟨o54,⟨o86,trivial,trivial⟩,⟨Ax _,trivial,trivial⟩⟩⟩,⟨o30,⟨o46,⟨o78,⟨Ax _,trivial,trivial⟩,trivial⟩,⟨uW,trivial,trivial⟩⟩,⟨o62,⟨Ax _,trivial,trivial⟩,⟨Ax _,trivial,trivial⟩⟩⟩⟩⟩⟩⟩
theorem kW:Cs vu U:=rM (by kernel_rfl) (by kernel_rfl)
theorem OA(n:Nat):DH vu U (call Gk n):=JO kW (by kernel_rfl) Tg n
end
noncomputable section
open Go
set_option maxHeartbeats 0 in
theorem XT:cW (call Gk 64 8 [] Iq)=true:=by kernel_rfl
theorem Td:It vu U 8 KI:=Yq ⟨Tryz.f8,ADd,Aa (by kernel_rfl),by kernel_rfl⟩ (dM OA XT)
theorem oA:BX vu U 8 KI:=ADg (.inr Td)
open Go.RowKit Go.WideShapes Go.ChangeShapes
set_option maxRecDepth 100000
def kU(L:List IN)(args:List IN)(h:Hp):R:=match args with
 |[]=>.ok (.agg ⟨L⟩) h
 |_::_=>.no
def N8(L:List IN):Body:=⟨[.x (fun _=>kU L)],cNo⟩
def isW:IN->Bool
 |.int .u32 n=>decide (0<=n) && decide (n<4294967296)
 |_=>false
def cV:R->Bool
 |.ok (.agg ⟨l⟩) _=>l.all isW && wB l.length 256
 |_=>false
def qi:R->List IN
 |.ok (.agg ⟨l⟩) _=>l
 |_=>[]
def Np:List IN:=qi (call Gk 64 9 [] Iq)
set_option maxHeartbeats 0 in
theorem jo:cV (call Gk 64 9 [] Iq)=true:=by kernel_rfl
theorem Po{v:IN}(h:isW v=true):∃ n:Nat,v=.int .u32 (n:Int)/\n<4294967296:=by
 unfold isW at h;split at h
 ·rename_i n
  simp only[wJ,decide_eq_true_eq]at h;obtain⟨m,rfl⟩:=Int.eq_ofNat_of_zero_le h.1;exact⟨m,rfl,by omega⟩
 ·cases h
theorem U7:∃ h',call Gk 64 9 [] Iq=.ok (.agg ⟨Np⟩) h'/\Np.length=256/\∀ v∈Np,isW v=true:=by
 have h:=jo;unfold Np;generalize call Gk 64 9 [] Iq=r at h;unfold cV at h;split at h
 ·rename_i l h'
  simp only[wJ,List.all_eq_true]at h;exact⟨h',rfl,Nat.eq_of_beq_eq_true h.2,h.1⟩
 ·cases h
theorem R0{φ:Phi}:∀ {L L':List IN},AEX φ L L'->(∀ v∈L,isW v=true)->L'=L
 |_,_,.nil,_=>rfl
 |_,_,.cons (v:=v) h t,hL=>by
  rw[R0 t fun x hx=>hL x (vr _ hx)];obtain⟨n,rfl,_⟩:=Po (hL v vp);cases h;rfl
theorem SA(φ:Phi):∀ {L:List IN},(∀ v∈L,isW v=true)->AEX φ L L
 |[],_=>.nil
 |v::L,h=>by
  obtain⟨n,rfl,_⟩:=Po (h v vp);exact .cons (.int _ _) (SA φ fun x hx=>h x (vr _ hx))
theorem Yp(w:World):Calls vu 9 #[] w fun e w'=>e=.returned (.agg ⟨Np⟩)/\Below w.heap.size w w':=by
 obtain⟨h',hr,_,hw⟩:=U7;obtain⟨_,hc⟩:=OA _ 9 [] Iq _ h' hr;refine(hc rB w [] .nil (O8 U w)).mono fun e w' ⟨v',ψ,he,hv,_,ev⟩=>?_
 cases hv with
 |agg hl=>
  rw[R0 hl hw]at he;exact⟨he,⟨ev.os,ev.tape,ev.output,ev.size,fun k hk=>ev.frame k hk fun i p hp=>by cases hp⟩⟩
theorem YE{P:xD}{U:TTy}{f:Nat}{L:List IN}(hL:∀ v∈L,isW v=true)(hS:∃ fn,P.funcs[f]? =some fn/\fn.name≠"runtime.NumGoroutine" /\fn.body.isNone=false)(hc:∀ w:World,Calls P f #[] w fun e w'=>e=.returned (.agg ⟨L⟩)/\Below w.heap.size w w'):It P U f (N8 L):=fun F args h v h' _ hr=>⟨hS,fun φ w args' AEh H=>by
 have hr:kU L args h=.ok v h':=hr;cases args with
 |cons a l=>cases hr
 |nil=>
  cases hr;cases AEh;exact(hc w).mono fun e w' ⟨he,hb⟩=>⟨_,φ,he,.agg (SA φ hL),(G3 H hb).1,(G3 H hb).2⟩⟩
theorem dh:It vu U 9 (N8 Np):=YE (U7.choose_spec.2.2) ⟨Tryz.f9,ADc,Aa (by kernel_rfl),by kernel_rfl⟩ Yp
theorem oT:BX vu U 9 (N8 Np):=ADg (.inr dh)
theorem Xh{bs:FT}{n f:Nat}{L:List IN}(hb:bs.get f=some (N8 L)){h:Hp}:call bs (vo n) f [] h=.ok (.agg ⟨L⟩) h:=by
 rw[Ae hb];rfl
end
noncomputable section
open Go
set_option maxRecDepth 100000 in
def AC:FT:=(.nd Au (.nd Au (.nd Au (.nd b7 (.nd Au (.nd b31 (.nd b63 (.nd Au .mt .mt) .mt) (.nd b95 .mt .mt)) (.nd b47 (.nd b79 (.nd Au .mt .mt) .mt) (.nd XZ .mt .mt))) (.nd Au (.nd b39 (.nd b71 (.nd Au .mt .mt) .mt) (.nd Au .mt .mt)) (.nd b55 (.nd b87 .mt .mt) (.nd Xb .mt .mt)))) (.nd b11 (.nd b19 (.nd b35 (.nd b67 (.nd Au .mt .mt) .mt) (.nd Au .mt .mt)) (.nd b51 (.nd b83 (.nd Au .mt .mt) .mt) (.nd Au .mt .mt))) (.nd b27 (.nd b43 (.nd b75 (.nd Au .mt .mt) .mt) (.nd XV .mt .mt)) (.nd b59 (.nd b91 .mt .mt) (.nd Au .mt .mt))))) (.nd Au (.nd (N8 Np) (.nd b17 (.nd b33 (.nd b65 (.nd Au .mt .mt) .mt) (.nd b97 .mt .mt)) (.nd b49 (.nd b81 (.nd Au .mt .mt) .mt) (.nd Au .mt .mt))) (.nd b25 (.nd b41 (.nd b73 (.nd Au .mt .mt) .mt) (.nd Au .mt .mt)) (.nd b57 (.nd b89 .mt .mt) (.nd Au .mt .mt)))) (.nd Au (.nd b21 (.nd b37 (.nd b69 (.nd Au .mt .mt) .mt) (.nd Au .mt .mt)) (.nd b53 (.nd b85 .mt .mt) (.nd Au .mt .mt))) (.nd b29 (.nd b45 (.nd b77 (.nd Au .mt .mt) .mt) (.nd XX .mt .mt)) (.nd b61 (.nd Au .mt .mt) (.nd Xc .mt .mt)))))) (.nd Au (.nd Au (.nd KI (.nd b16 (.nd b32 (.nd b64 (.nd Au .mt .mt) .mt) (.nd b96 .mt .mt)) (.nd b48 (.nd b80 (.nd Au .mt .mt) .mt) (.nd Xa .mt .mt))) (.nd b24 (.nd b40 (.nd b72 (.nd Au .mt .mt) .mt) (.nd Au .mt .mt)) (.nd b56 (.nd b88 .mt .mt) (.nd Au .mt .mt)))) (.nd b12 (.nd b20 (.nd b36 (.nd b68 (.nd Au .mt .mt) .mt) (.nd Au .mt .mt)) (.nd b52 (.nd b84 (.nd Au .mt .mt) .mt) (.nd Au .mt .mt))) (.nd b28 (.nd b44 (.nd b76 (.nd Au .mt .mt) .mt) (.nd XW .mt .mt)) (.nd b60 (.nd b92 .mt .mt) (.nd Au .mt .mt))))) (.nd Au (.nd b10 (.nd Au (.nd b34 (.nd bS (.nd Au .mt .mt) .mt) (.nd Au .mt .mt)) (.nd b50 (.nd b82 (.nd Au .mt .mt) .mt) (.nd Au .mt .mt))) (.nd b26 (.nd b42 (.nd b74 (.nd Au .mt .mt) .mt) (.nd XU .mt .mt)) (.nd b58 (.nd b90 .mt .mt) (.nd Au .mt .mt)))) (.nd Au (.nd b22 (.nd b38 (.nd b70 (.nd Au .mt .mt) .mt) (.nd Au .mt .mt)) (.nd b54 (.nd b86 .mt .mt) (.nd Au .mt .mt))) (.nd b30 (.nd b46 (.nd b78 (.nd Au .mt .mt) .mt) (.nd XY .mt .mt)) (.nd b62 (.nd Au .mt .mt) (.nd Au .mt .mt)))))))
set_option maxRecDepth 100000 in
theorem Xf:FT.All (BX vu U) AC id:=⟨Ax _,⟨Ax _,⟨Ax _,⟨o7,⟨Ax _,⟨o31,⟨o63,⟨Ax _,trivial,trivial⟩,trivial⟩,⟨o95,trivial,trivial⟩⟩,⟨o47,⟨o79,⟨Ax _,trivial,trivial⟩,trivial⟩,⟨uX,trivial,trivial⟩⟩⟩,⟨Ax _,⟨o39,⟨o71,⟨Ax _,trivial,trivial⟩,trivial⟩,⟨Ax _,trivial,trivial⟩⟩,⟨o55,⟨o87,trivial,trivial⟩,⟨uZ,trivial,trivial⟩⟩⟩⟩,⟨o11,⟨o19,⟨o35,⟨o67,⟨Ax _,trivial,trivial⟩,trivial⟩,⟨Ax _,trivial,trivial⟩⟩,⟨o51,⟨o83,⟨Ax _,trivial,trivial⟩,trivial⟩,⟨Ax _,trivial,trivial⟩⟩⟩,⟨o27,⟨o43,⟨o75,⟨Ax _,trivial,trivial⟩,trivial⟩,⟨uT,trivial,trivial⟩⟩,⟨o59,⟨o91,trivial,trivial⟩,⟨Ax _,trivial,trivial⟩⟩⟩⟩⟩,⟨Ax _,⟨oT,⟨o17,⟨o33,⟨o65,⟨Ax _,trivial,trivial⟩,trivial⟩,⟨o97,trivial,trivial⟩⟩,⟨o49,⟨o81,⟨Ax _,trivial,trivial⟩,trivial⟩,⟨Ax _,trivial,trivial⟩⟩⟩,⟨o25,⟨o41,⟨o73,⟨Ax _,trivial,trivial⟩,trivial⟩,⟨Ax _,trivial,trivial⟩⟩,⟨o57,⟨o89,trivial,trivial⟩,⟨Ax _,trivial,trivial⟩⟩⟩⟩,⟨Ax _,⟨o21,⟨o37,⟨o69,⟨Ax _,trivial,trivial⟩,trivial⟩,⟨Ax _,trivial,trivial⟩⟩,⟨o53,⟨o85,trivial,trivial⟩,⟨Ax _,trivial,trivial⟩⟩⟩,⟨o29,⟨o45,⟨o77,⟨Ax _,trivial,trivial⟩,trivial⟩,⟨uV,trivial,trivial⟩⟩,⟨o61,⟨Ax _,trivial,trivial⟩,⟨ua,trivial,trivial⟩⟩⟩⟩⟩⟩,⟨Ax _,⟨Ax _,⟨oA,⟨o16,⟨o32,⟨o64,⟨Ax _,trivial,trivial⟩,trivial⟩,⟨o96,trivial,trivial⟩⟩,⟨o48,⟨o80,⟨Ax _,trivial,trivial⟩,trivial⟩,⟨uY,trivial,trivial⟩⟩⟩,⟨o24,⟨o40,⟨o72,⟨Ax _,trivial,trivial⟩,trivial⟩,⟨Ax _,trivial,trivial⟩⟩,⟨o56,⟨o88,trivial,trivial⟩,⟨Ax _,trivial,trivial⟩⟩⟩⟩,⟨o12,⟨o20,⟨o36,⟨o68,⟨Ax _,trivial,trivial⟩,trivial⟩,⟨Ax _,trivial,trivial⟩⟩,⟨o52,⟨o84,⟨Ax _,trivial,trivial⟩,trivial⟩,⟨Ax _,trivial,trivial⟩⟩⟩,⟨o28,⟨o44,⟨o76,⟨Ax _,trivial,trivial⟩,trivial⟩,⟨uU,trivial,trivial⟩⟩,⟨o60,⟨o92,trivial,trivial⟩,⟨Ax _,trivial,trivial⟩⟩⟩⟩⟩,⟨Ax _,⟨o10,⟨Ax _,⟨o34,⟨oS,⟨Ax _,trivial,trivial⟩,trivial⟩,⟨Ax _,trivial,trivial⟩⟩,⟨o50,⟨o82,⟨Ax _,trivial,trivial⟩,trivial⟩,⟨Ax _,trivial,trivial⟩⟩⟩,⟨o26,⟨o42,⟨o74,⟨Ax _,trivial,trivial⟩,trivial⟩,⟨uS,trivial,trivial⟩⟩,⟨o58,⟨o90,trivial,trivial⟩,⟨Ax _,trivial,trivial⟩⟩⟩⟩,⟨Ax _,⟨o22,⟨o38,⟨o70,⟨Ax _,trivial,trivial⟩,trivial⟩,⟨Ax _,trivial,trivial⟩⟩,⟨o54,⟨o86,trivial,trivial⟩,⟨Ax _,trivial,trivial⟩⟩⟩,⟨o30,⟨o46,⟨o78,⟨Ax _,trivial,trivial⟩,trivial⟩,⟨uW,trivial,trivial⟩⟩,⟨o62,⟨Ax _,trivial,trivial⟩,⟨Ax _,trivial,trivial⟩⟩⟩⟩⟩⟩⟩
theorem Zd(n:Nat):DH vu U (call AC n):=JO kW (by kernel_rfl) Xf n
theorem MR:AC.get 8=some KI:=by kernel_rfl
theorem dj:AC.get 9=some (N8 Np):=by kernel_rfl
end
noncomputable section
open Go
set_option maxRecDepth 100000
theorem nS{n:Nat}{args:List IN}{h:Hp}(hl:vx (BA args) 160=true):call AC (vo n) 10 args h=A5 [.t (J 4),.t (J 5),.t (J 6)] (d10 (call AC n) (AQ e0 0 args) h):=by
 have hb:AC.get 10=some b10:=by kernel_rfl
 rw[Ae hb];have hd:b10=⟨[.t (J 4),.t (J 5),.t (J 6)],d10⟩:=by kernel_rfl
 rw[hd,AW hl]
theorem HZ{n:Nat}{args:List IN}{h:Hp}(hl:vx (BA args) 160=true):call AC (vo n) 11 args h=A5 [.t (J 10)] (d11 (call AC n) (AQ e0 0 args) h):=by
 have hb:AC.get 11=some b11:=by kernel_rfl
 rw[Ae hb];have hd:b11=⟨[.t (J 10)],d11⟩:=by kernel_rfl
 rw[hd,AW hl]
theorem KR{n:Nat}{args:List IN}{h:Hp}(hl:vx (BA args) 160=true):call AC (vo n) 12 args h=A5 [.t (J 8)] (d12 (call AC n) (AQ e0 0 args) h):=by
 have hb:AC.get 12=some b12:=by kernel_rfl
 rw[Ae hb];have hd:b12=⟨[.t (J 8)],d12⟩:=by kernel_rfl
 rw[hd,AW hl]
theorem ZM{n:Nat}{args:List IN}{h:Hp}(hl:vx (BA args) 160=true):call AC (vo n) 16 args h=A5 [.t (J 6),.t (J 7)] (d16 (call AC n) (AQ e0 0 args) h):=by
 have hb:AC.get 16=some b16:=by kernel_rfl
 rw[Ae hb];have hd:b16=⟨[.t (J 6),.t (J 7)],d16⟩:=by kernel_rfl
 rw[hd,AW hl]
theorem nT{n:Nat}{args:List IN}{h:Hp}(hl:vx (BA args) 160=true):call AC (vo n) 19 args h=A5 [.t (J 2)] (d19 (call AC n) (AQ e0 0 args) h):=by
 have hb:AC.get 19=some b19:=by kernel_rfl
 rw[Ae hb];have hd:b19=⟨[.t (J 2)],d19⟩:=by kernel_rfl
 rw[hd,AW hl]
theorem nU{n:Nat}{args:List IN}{h:Hp}(hl:vx (BA args) 160=true):call AC (vo n) 20 args h=A5 [.t (J 2)] (d20 (call AC n) (AQ e0 0 args) h):=by
 have hb:AC.get 20=some b20:=by kernel_rfl
 rw[Ae hb];have hd:b20=⟨[.t (J 2)],d20⟩:=by kernel_rfl
 rw[hd,AW hl]
theorem nV{n:Nat}{args:List IN}{h:Hp}(hl:vx (BA args) 160=true):call AC (vo n) 21 args h=A5 [.t (J 2)] (d21 (call AC n) (AQ e0 0 args) h):=by
 have hb:AC.get 21=some b21:=by kernel_rfl
 rw[Ae hb];have hd:b21=⟨[.t (J 2)],d21⟩:=by kernel_rfl
 rw[hd,AW hl]
theorem MY{n:Nat}{args:List IN}{h:Hp}(hl:vx (BA args) 160=true):call AC (vo n) 22 args h=A5 [.t (J 4)] (d22 (call AC n) (AQ e0 0 args) h):=by
 have hb:AC.get 22=some b22:=by kernel_rfl
 rw[Ae hb];have hd:b22=⟨[.t (J 4)],d22⟩:=by kernel_rfl
 rw[hd,AW hl]
theorem nW{n:Nat}{args:List IN}{h:Hp}(hl:vx (BA args) 160=true):call AC (vo n) 24 args h=A5 [.t (J 4)] (d24 (call AC n) (AQ e0 0 args) h):=by
 have hb:AC.get 24=some b24:=by kernel_rfl
 rw[Ae hb];have hd:b24=⟨[.t (J 4)],d24⟩:=by kernel_rfl
 rw[hd,AW hl]
theorem Tl{n:Nat}{args:List IN}{h:Hp}(hl:vx (BA args) 160=true):call AC (vo n) 25 args h=A5 [.t (J 4)] (d25 (call AC n) (AQ e0 0 args) h):=by
 have hb:AC.get 25=some b25:=by kernel_rfl
 rw[Ae hb];have hd:b25=⟨[.t (J 4)],d25⟩:=by kernel_rfl
 rw[hd,AW hl]
theorem nX{n:Nat}{args:List IN}{h:Hp}(hl:vx (BA args) 160=true):call AC (vo n) 26 args h=A5 [] (d26 (call AC n) (AQ e0 0 args) h):=by
 have hb:AC.get 26=some b26:=by kernel_rfl
 rw[Ae hb];have hd:b26=⟨[],d26⟩:=by kernel_rfl
 rw[hd,AW hl]
theorem nY{n:Nat}{args:List IN}{h:Hp}(hl:vx (BA args) 160=true):call AC (vo n) 27 args h=A5 [.t (J 2)] (d27 (call AC n) (AQ e0 0 args) h):=by
 have hb:AC.get 27=some b27:=by kernel_rfl
 rw[Ae hb];have hd:b27=⟨[.t (J 2)],d27⟩:=by kernel_rfl
 rw[hd,AW hl]
theorem Tm{n:Nat}{args:List IN}{h:Hp}(hl:vx (BA args) 160=true):call AC (vo n) 29 args h=A5 [.t (J 8)] (d29 (call AC n) (AQ e0 0 args) h):=by
 have hb:AC.get 29=some b29:=by kernel_rfl
 rw[Ae hb];have hd:b29=⟨[.t (J 8)],d29⟩:=by kernel_rfl
 rw[hd,AW hl]
theorem Tn{n:Nat}{args:List IN}{h:Hp}(hl:vx (BA args) 160=true):call AC (vo n) 30 args h=A5 [.t (J 8)] (d30 (call AC n) (AQ e0 0 args) h):=by
 have hb:AC.get 30=some b30:=by kernel_rfl
 rw[Ae hb];have hd:b30=⟨[.t (J 8)],d30⟩:=by kernel_rfl
 rw[hd,AW hl]
theorem nc{n:Nat}{args:List IN}{h:Hp}(hl:vx (BA args) 160=true):call AC (vo n) 32 args h=A5 [.t (J 4)] (d32 (call AC n) (AQ e0 0 args) h):=by
 have hb:AC.get 32=some b32:=by kernel_rfl
 rw[Ae hb];have hd:b32=⟨[.t (J 4)],d32⟩:=by kernel_rfl
 rw[hd,AW hl]
theorem nh{n:Nat}{args:List IN}{h:Hp}(hl:vx (BA args) 160=true):call AC (vo n) 35 args h=A5 [.t (J 2),.t (J 3)] (d35 (call AC n) (AQ e0 0 args) h):=by
 have hb:AC.get 35=some b35:=by kernel_rfl
 rw[Ae hb];have hd:b35=⟨[.t (J 2),.t (J 3)],d35⟩:=by kernel_rfl
 rw[hd,AW hl]
theorem ZN{n:Nat}{args:List IN}{h:Hp}(hl:vx (BA args) 160=true):call AC (vo n) 38 args h=A5 [.t (J 2)] (d38 (call AC n) (AQ e0 0 args) h):=by
 have hb:AC.get 38=some b38:=by kernel_rfl
 rw[Ae hb];have hd:b38=⟨[.t (J 2)],d38⟩:=by kernel_rfl
 rw[hd,AW hl]
theorem Iv{n:Nat}{args:List IN}{h:Hp}(hl:vx (BA args) 160=true):call AC (vo n) 39 args h=A5 [.t (J 2)] (d39 (call AC n) (AQ e0 0 args) h):=by
 have hb:AC.get 39=some b39:=by kernel_rfl
 rw[Ae hb];have hd:b39=⟨[.t (J 2)],d39⟩:=by kernel_rfl
 rw[hd,AW hl]
theorem nk{n:Nat}{args:List IN}{h:Hp}(hl:vx (BA args) 160=true):call AC (vo n) 40 args h=A5 [.t (J 2)] (d40 (call AC n) (AQ e0 0 args) h):=by
 have hb:AC.get 40=some b40:=by kernel_rfl
 rw[Ae hb];have hd:b40=⟨[.t (J 2)],d40⟩:=by kernel_rfl
 rw[hd,AW hl]
theorem nl{n:Nat}{args:List IN}{h:Hp}(hl:vx (BA args) 160=true):call AC (vo n) 41 args h=A5 [.t (J 8)] (d41 (call AC n) (AQ e0 0 args) h):=by
 have hb:AC.get 41=some b41:=by kernel_rfl
 rw[Ae hb];have hd:b41=⟨[.t (J 8)],d41⟩:=by kernel_rfl
 rw[hd,AW hl]
theorem To{n:Nat}{args:List IN}{h:Hp}(hl:vx (BA args) 160=true):call AC (vo n) 42 args h=A5 [.t (J 4)] (d42 (call AC n) (AQ e0 0 args) h):=by
 have hb:AC.get 42=some b42:=by kernel_rfl
 rw[Ae hb];have hd:b42=⟨[.t (J 4)],d42⟩:=by kernel_rfl
 rw[hd,AW hl]
theorem nr{n:Nat}{args:List IN}{h:Hp}(hl:vx (BA args) 160=true):call AC (vo n) 43 args h=A5 [.t (J 8)] (d43 (call AC n) (AQ e0 0 args) h):=by
 have hb:AC.get 43=some b43:=by kernel_rfl
 rw[Ae hb];have hd:b43=⟨[.t (J 8)],d43⟩:=by kernel_rfl
 rw[hd,AW hl]
theorem ZO{n:Nat}{args:List IN}{h:Hp}(hl:vx (BA args) 160=true):call AC (vo n) 44 args h=A5 [.t (J 4),.t (J 5)] (d44 (call AC n) (AQ e0 0 args) h):=by
 have hb:AC.get 44=some b44:=by kernel_rfl
 rw[Ae hb];have hd:b44=⟨[.t (J 4),.t (J 5)],d44⟩:=by kernel_rfl
 rw[hd,AW hl]
theorem nt{n:Nat}{args:List IN}{h:Hp}(hl:vx (BA args) 160=true):call AC (vo n) 45 args h=A5 [.t (J 6)] (d45 (call AC n) (AQ e0 0 args) h):=by
 have hb:AC.get 45=some b45:=by kernel_rfl
 rw[Ae hb];have hd:b45=⟨[.t (J 6)],d45⟩:=by kernel_rfl
 rw[hd,AW hl]
theorem nw{n:Nat}{args:List IN}{h:Hp}(hl:vx (BA args) 160=true):call AC (vo n) 46 args h=A5 [.t (J 4)] (d46 (call AC n) (AQ e0 0 args) h):=by
 have hb:AC.get 46=some b46:=by kernel_rfl
 rw[Ae hb];have hd:b46=⟨[.t (J 4)],d46⟩:=by kernel_rfl
 rw[hd,AW hl]
theorem ZP{n:Nat}{args:List IN}{h:Hp}(hl:vx (BA args) 160=true):call AC (vo n) 47 args h=A5 [.t (J 4)] (d47 (call AC n) (AQ e0 0 args) h):=by
 have hb:AC.get 47=some b47:=by kernel_rfl
 rw[Ae hb];have hd:b47=⟨[.t (J 4)],d47⟩:=by kernel_rfl
 rw[hd,AW hl]
theorem KT{n:Nat}{args:List IN}{h:Hp}(hl:vx (BA args) 160=true):call AC (vo n) 48 args h=A5 [.t (J 2)] (d48 (call AC n) (AQ e0 0 args) h):=by
 have hb:AC.get 48=some b48:=by kernel_rfl
 rw[Ae hb];have hd:b48=⟨[.t (J 2)],d48⟩:=by kernel_rfl
 rw[hd,AW hl]
theorem Tp{n:Nat}{args:List IN}{h:Hp}(hl:vx (BA args) 160=true):call AC (vo n) 49 args h=A5 [.t (J 2)] (d49 (call AC n) (AQ e0 0 args) h):=by
 have hb:AC.get 49=some b49:=by kernel_rfl
 rw[Ae hb];have hd:b49=⟨[.t (J 2)],d49⟩:=by kernel_rfl
 rw[hd,AW hl]
theorem ZQ{n:Nat}{args:List IN}{h:Hp}(hl:vx (BA args) 160=true):call AC (vo n) 50 args h=A5 [] (d50 (call AC n) (AQ e0 0 args) h):=by
 have hb:AC.get 50=some b50:=by kernel_rfl
 rw[Ae hb];have hd:b50=⟨[],d50⟩:=by kernel_rfl
 rw[hd,AW hl]
theorem ny{n:Nat}{args:List IN}{h:Hp}(hl:vx (BA args) 160=true):call AC (vo n) 51 args h=A5 [.t (J 4)] (d51 (call AC n) (AQ e0 0 args) h):=by
 have hb:AC.get 51=some b51:=by kernel_rfl
 rw[Ae hb];have hd:b51=⟨[.t (J 4)],d51⟩:=by kernel_rfl
 rw[hd,AW hl]
theorem nz{n:Nat}{args:List IN}{h:Hp}(hl:vx (BA args) 160=true):call AC (vo n) 52 args h=A5 [.t (J 4)] (d52 (call AC n) (AQ e0 0 args) h):=by
 have hb:AC.get 52=some b52:=by kernel_rfl
 rw[Ae hb];have hd:b52=⟨[.t (J 4)],d52⟩:=by kernel_rfl
 rw[hd,AW hl]
theorem ZR{n:Nat}{args:List IN}{h:Hp}(hl:vx (BA args) 160=true):call AC (vo n) 53 args h=A5 [.t (J 4)] (d53 (call AC n) (AQ e0 0 args) h):=by
 have hb:AC.get 53=some b53:=by kernel_rfl
 rw[Ae hb];have hd:b53=⟨[.t (J 4)],d53⟩:=by kernel_rfl
 rw[hd,AW hl]
theorem oB{n:Nat}{args:List IN}{h:Hp}(hl:vx (BA args) 160=true):call AC (vo n) 54 args h=A5 [.t (J 2)] (d54 (call AC n) (AQ e0 0 args) h):=by
 have hb:AC.get 54=some b54:=by kernel_rfl
 rw[Ae hb];have hd:b54=⟨[.t (J 2)],d54⟩:=by kernel_rfl
 rw[hd,AW hl]
theorem oC{n:Nat}{args:List IN}{h:Hp}(hl:vx (BA args) 160=true):call AC (vo n) 55 args h=A5 [.cN (J 4) 6,.t (J 5),.t (J 6),.t (J 7)] (d55 (call AC n) (AQ e0 0 args) h):=by
 have hb:AC.get 55=some b55:=by kernel_rfl
 rw[Ae hb];have hd:b55=⟨[.cN (J 4) 6,.t (J 5),.t (J 6),.t (J 7)],d55⟩:=by kernel_rfl
 rw[hd,AW hl]
theorem oD{n:Nat}{args:List IN}{h:Hp}(hl:vx (BA args) 160=true):call AC (vo n) 56 args h=A5 [.t (J 2)] (d56 (call AC n) (AQ e0 0 args) h):=by
 have hb:AC.get 56=some b56:=by kernel_rfl
 rw[Ae hb];have hd:b56=⟨[.t (J 2)],d56⟩:=by kernel_rfl
 rw[hd,AW hl]
theorem oE{n:Nat}{args:List IN}{h:Hp}(hl:vx (BA args) 160=true):call AC (vo n) 57 args h=A5 [.t (J 2)] (d57 (call AC n) (AQ e0 0 args) h):=by
 have hb:AC.get 57=some b57:=by kernel_rfl
 rw[Ae hb];have hd:b57=⟨[.t (J 2)],d57⟩:=by kernel_rfl
 rw[hd,AW hl]
theorem oF{n:Nat}{args:List IN}{h:Hp}(hl:vx (BA args) 160=true):call AC (vo n) 58 args h=A5 [.t (J 2)] (d58 (call AC n) (AQ e0 0 args) h):=by
 have hb:AC.get 58=some b58:=by kernel_rfl
 rw[Ae hb];have hd:b58=⟨[.t (J 2)],d58⟩:=by kernel_rfl
 rw[hd,AW hl]
theorem oG{n:Nat}{args:List IN}{h:Hp}(hl:vx (BA args) 160=true):call AC (vo n) 59 args h=A5 [.t (J 2)] (d59 (call AC n) (AQ e0 0 args) h):=by
 have hb:AC.get 59=some b59:=by kernel_rfl
 rw[Ae hb];have hd:b59=⟨[.t (J 2)],d59⟩:=by kernel_rfl
 rw[hd,AW hl]
theorem oH{n:Nat}{args:List IN}{h:Hp}(hl:vx (BA args) 160=true):call AC (vo n) 60 args h=A5 [.t (J 3)] (d60 (call AC n) (AQ e0 0 args) h):=by
 have hb:AC.get 60=some b60:=by kernel_rfl
 rw[Ae hb];have hd:b60=⟨[.t (J 3)],d60⟩:=by kernel_rfl
 rw[hd,AW hl]
theorem oI{n:Nat}{args:List IN}{h:Hp}(hl:vx (BA args) 160=true):call AC (vo n) 61 args h=A5 [.t (J 4)] (d61 (call AC n) (AQ e0 0 args) h):=by
 have hb:AC.get 61=some b61:=by kernel_rfl
 rw[Ae hb];have hd:b61=⟨[.t (J 4)],d61⟩:=by kernel_rfl
 rw[hd,AW hl]
theorem oJ{n:Nat}{args:List IN}{h:Hp}(hl:vx (BA args) 160=true):call AC (vo n) 62 args h=A5 [.t (J 3)] (d62 (call AC n) (AQ e0 0 args) h):=by
 have hb:AC.get 62=some b62:=by kernel_rfl
 rw[Ae hb];have hd:b62=⟨[.t (J 3)],d62⟩:=by kernel_rfl
 rw[hd,AW hl]
theorem oK{n:Nat}{args:List IN}{h:Hp}(hl:vx (BA args) 160=true):call AC (vo n) 63 args h=A5 [.t (J 4)] (d63 (call AC n) (AQ e0 0 args) h):=by
 have hb:AC.get 63=some b63:=by kernel_rfl
 rw[Ae hb];have hd:b63=⟨[.t (J 4)],d63⟩:=by kernel_rfl
 rw[hd,AW hl]
theorem oL{n:Nat}{args:List IN}{h:Hp}(hl:vx (BA args) 160=true):call AC (vo n) 64 args h=A5 [.t (J 6)] (d64 (call AC n) (AQ e0 0 args) h):=by
 have hb:AC.get 64=some b64:=by kernel_rfl
 rw[Ae hb];have hd:b64=⟨[.t (J 6)],d64⟩:=by kernel_rfl
 rw[hd,AW hl]
theorem oM{n:Nat}{args:List IN}{h:Hp}(hl:vx (BA args) 160=true):call AC (vo n) 65 args h=A5 [.cN (J 2) 5] (d65 (call AC n) (AQ e0 0 args) h):=by
 have hb:AC.get 65=some b65:=by kernel_rfl
 rw[Ae hb];have hd:b65=⟨[.cN (J 2) 5],d65⟩:=by kernel_rfl
 rw[hd,AW hl]
theorem ZS{n:Nat}{args:List IN}{h:Hp}(hl:vx (BA args) 160=true):call AC (vo n) 68 args h=A5 [.t (J 4)] (d68 (call AC n) (AQ e0 0 args) h):=by
 have hb:AC.get 68=some b68:=by kernel_rfl
 rw[Ae hb];have hd:b68=⟨[.t (J 4)],d68⟩:=by kernel_rfl
 rw[hd,AW hl]
theorem ZT{n:Nat}{args:List IN}{h:Hp}(hl:vx (BA args) 160=true):call AC (vo n) 69 args h=A5 [.t (J 4)] (d69 (call AC n) (AQ e0 0 args) h):=by
 have hb:AC.get 69=some b69:=by kernel_rfl
 rw[Ae hb];have hd:b69=⟨[.t (J 4)],d69⟩:=by kernel_rfl
 rw[hd,AW hl]
theorem oO{n:Nat}{args:List IN}{h:Hp}(hl:vx (BA args) 160=true):call AC (vo n) 70 args h=A5 [.t (J 5)] (d70 (call AC n) (AQ e0 0 args) h):=by
 have hb:AC.get 70=some b70:=by kernel_rfl
 rw[Ae hb];have hd:b70=⟨[.t (J 5)],d70⟩:=by kernel_rfl
 rw[hd,AW hl]
theorem oP{n:Nat}{args:List IN}{h:Hp}(hl:vx (BA args) 160=true):call AC (vo n) 71 args h=A5 [.t (J 4)] (d71 (call AC n) (AQ e0 0 args) h):=by
 have hb:AC.get 71=some b71:=by kernel_rfl
 rw[Ae hb];have hd:b71=⟨[.t (J 4)],d71⟩:=by kernel_rfl
 rw[hd,AW hl]
theorem oQ{n:Nat}{args:List IN}{h:Hp}(hl:vx (BA args) 160=true):call AC (vo n) 72 args h=A5 [.t (J 4)] (d72 (call AC n) (AQ e0 0 args) h):=by
 have hb:AC.get 72=some b72:=by kernel_rfl
 rw[Ae hb];have hd:b72=⟨[.t (J 4)],d72⟩:=by kernel_rfl
 rw[hd,AW hl]
theorem oR{n:Nat}{args:List IN}{h:Hp}(hl:vx (BA args) 160=true):call AC (vo n) 73 args h=A5 [.t (J 4)] (d73 (call AC n) (AQ e0 0 args) h):=by
 have hb:AC.get 73=some b73:=by kernel_rfl
 rw[Ae hb];have hd:b73=⟨[.t (J 4)],d73⟩:=by kernel_rfl
 rw[hd,AW hl]
theorem ZU{n:Nat}{args:List IN}{h:Hp}(hl:vx (BA args) 160=true):call AC (vo n) 74 args h=A5 [.t (J 3)] (d74 (call AC n) (AQ e0 0 args) h):=by
 have hb:AC.get 74=some b74:=by kernel_rfl
 rw[Ae hb];have hd:b74=⟨[.t (J 3)],d74⟩:=by kernel_rfl
 rw[hd,AW hl]
theorem ZV{n:Nat}{args:List IN}{h:Hp}(hl:vx (BA args) 160=true):call AC (vo n) 75 args h=A5 [.t (J 6)] (d75 (call AC n) (AQ e0 0 args) h):=by
 have hb:AC.get 75=some b75:=by kernel_rfl
 rw[Ae hb];have hd:b75=⟨[.t (J 6)],d75⟩:=by kernel_rfl
 rw[hd,AW hl]
theorem ZW{n:Nat}{args:List IN}{h:Hp}(hl:vx (BA args) 160=true):call AC (vo n) 76 args h=A5 [.t (J 2)] (d76 (call AC n) (AQ e0 0 args) h):=by
 have hb:AC.get 76=some b76:=by kernel_rfl
 rw[Ae hb];have hd:b76=⟨[.t (J 2)],d76⟩:=by kernel_rfl
 rw[hd,AW hl]
theorem ZX{n:Nat}{args:List IN}{h:Hp}(hl:vx (BA args) 160=true):call AC (vo n) 77 args h=A5 [] (d77 (call AC n) (AQ e0 0 args) h):=by
 have hb:AC.get 77=some b77:=by kernel_rfl
 rw[Ae hb];have hd:b77=⟨[],d77⟩:=by kernel_rfl
 rw[hd,AW hl]
theorem oU{n:Nat}{args:List IN}{h:Hp}(hl:vx (BA args) 160=true):call AC (vo n) 78 args h=A5 [.t (J 2)] (d78 (call AC n) (AQ e0 0 args) h):=by
 have hb:AC.get 78=some b78:=by kernel_rfl
 rw[Ae hb];have hd:b78=⟨[.t (J 2)],d78⟩:=by kernel_rfl
 rw[hd,AW hl]
theorem ZY{n:Nat}{args:List IN}{h:Hp}(hl:vx (BA args) 160=true):call AC (vo n) 79 args h=A5 [.t (J 2)] (d79 (call AC n) (AQ e0 0 args) h):=by
 have hb:AC.get 79=some b79:=by kernel_rfl
 rw[Ae hb];have hd:b79=⟨[.t (J 2)],d79⟩:=by kernel_rfl
 rw[hd,AW hl]
theorem oV{n:Nat}{args:List IN}{h:Hp}(hl:vx (BA args) 160=true):call AC (vo n) 80 args h=A5 [.t (J 4)] (d80 (call AC n) (AQ e0 0 args) h):=by
 have hb:AC.get 80=some b80:=by kernel_rfl
 rw[Ae hb];have hd:b80=⟨[.t (J 4)],d80⟩:=by kernel_rfl
 rw[hd,AW hl]
theorem oW{n:Nat}{args:List IN}{h:Hp}(hl:vx (BA args) 160=true):call AC (vo n) 81 args h=A5 [.t (J 6)] (d81 (call AC n) (AQ e0 0 args) h):=by
 have hb:AC.get 81=some b81:=by kernel_rfl
 rw[Ae hb];have hd:b81=⟨[.t (J 6)],d81⟩:=by kernel_rfl
 rw[hd,AW hl]
theorem ZZ{n:Nat}{args:List IN}{h:Hp}(hl:vx (BA args) 160=true):call AC (vo n) 83 args h=A5 [.t (J 2)] (d83 (call AC n) (AQ e0 0 args) h):=by
 have hb:AC.get 83=some b83:=by kernel_rfl
 rw[Ae hb];have hd:b83=⟨[.t (J 2)],d83⟩:=by kernel_rfl
 rw[hd,AW hl]
theorem oY{n:Nat}{args:List IN}{h:Hp}(hl:vx (BA args) 160=true):call AC (vo n) 84 args h=A5 [.t (J 4),.t (J 5)] (d84 (call AC n) (AQ e0 0 args) h):=by
 have hb:AC.get 84=some b84:=by kernel_rfl
 rw[Ae hb];have hd:b84=⟨[.t (J 4),.t (J 5)],d84⟩:=by kernel_rfl
 rw[hd,AW hl]
theorem PQ{n:Nat}{args:List IN}{h:Hp}(hl:vx (BA args) 160=true):call AC (vo n) 85 args h=A5 [.t (J 4)] (d85 (call AC n) (AQ e0 0 args) h):=by
 have hb:AC.get 85=some b85:=by kernel_rfl
 rw[Ae hb];have hd:b85=⟨[.t (J 4)],d85⟩:=by kernel_rfl
 rw[hd,AW hl]
theorem oZ{n:Nat}{args:List IN}{h:Hp}(hl:vx (BA args) 160=true):call AC (vo n) 86 args h=A5 [.t (J 2)] (d86 (call AC n) (AQ e0 0 args) h):=by
 have hb:AC.get 86=some b86:=by kernel_rfl
 rw[Ae hb];have hd:b86=⟨[.t (J 2)],d86⟩:=by kernel_rfl
 rw[hd,AW hl]
theorem MZ{n:Nat}{args:List IN}{h:Hp}(hl:vx (BA args) 160=true):call AC (vo n) 87 args h=A5 [.cN (J 4) 5,.t (J 5),.t (J 6),.t (J 7)] (d87 (call AC n) (AQ e0 0 args) h):=by
 have hb:AC.get 87=some b87:=by kernel_rfl
 rw[Ae hb];have hd:b87=⟨[.cN (J 4) 5,.t (J 5),.t (J 6),.t (J 7)],d87⟩:=by kernel_rfl
 rw[hd,AW hl]
theorem Za{n:Nat}{args:List IN}{h:Hp}(hl:vx (BA args) 160=true):call AC (vo n) 88 args h=A5 [.t (J 6),.t (J 7)] (d88 (call AC n) (AQ e0 0 args) h):=by
 have hb:AC.get 88=some b88:=by kernel_rfl
 rw[Ae hb];have hd:b88=⟨[.t (J 6),.t (J 7)],d88⟩:=by kernel_rfl
 rw[hd,AW hl]
theorem oa{n:Nat}{args:List IN}{h:Hp}(hl:vx (BA args) 160=true):call AC (vo n) 89 args h=A5 [.t (J 3)] (d89 (call AC n) (AQ e0 0 args) h):=by
 have hb:AC.get 89=some b89:=by kernel_rfl
 rw[Ae hb];have hd:b89=⟨[.t (J 3)],d89⟩:=by kernel_rfl
 rw[hd,AW hl]
theorem od{n:Nat}{args:List IN}{h:Hp}(hl:vx (BA args) 160=true):call AC (vo n) 90 args h=A5 [.t (J 3)] (d90 (call AC n) (AQ e0 0 args) h):=by
 have hb:AC.get 90=some b90:=by kernel_rfl
 rw[Ae hb];have hd:b90=⟨[.t (J 3)],d90⟩:=by kernel_rfl
 rw[hd,AW hl]
theorem oe{n:Nat}{args:List IN}{h:Hp}(hl:vx (BA args) 160=true):call AC (vo n) 91 args h=A5 [.t (J 4)] (d91 (call AC n) (AQ e0 0 args) h):=by
 have hb:AC.get 91=some b91:=by kernel_rfl
 rw[Ae hb];have hd:b91=⟨[.t (J 4)],d91⟩:=by kernel_rfl
 rw[hd,AW hl]
theorem oh{n:Nat}{args:List IN}{h:Hp}(hl:vx (BA args) 160=true):call AC (vo n) 92 args h=A5 [.t (J 4)] (d92 (call AC n) (AQ e0 0 args) h):=by
 have hb:AC.get 92=some b92:=by kernel_rfl
 rw[Ae hb];have hd:b92=⟨[.t (J 4)],d92⟩:=by kernel_rfl
 rw[hd,AW hl]
theorem oo{n:Nat}{args:List IN}{h:Hp}(hl:vx (BA args) 160=true):call AC (vo n) 95 args h=A5 [.t (J 4)] (d95 (call AC n) (AQ e0 0 args) h):=by
 have hb:AC.get 95=some b95:=by kernel_rfl
 rw[Ae hb];have hd:b95=⟨[.t (J 4)],d95⟩:=by kernel_rfl
 rw[hd,AW hl]
theorem Zb{n:Nat}{args:List IN}{h:Hp}(hl:vx (BA args) 160=true):call AC (vo n) 96 args h=A5 [.t (J 2)] (d96 (call AC n) (AQ e0 0 args) h):=by
 have hb:AC.get 96=some b96:=by kernel_rfl
 rw[Ae hb];have hd:b96=⟨[.t (J 2)],d96⟩:=by kernel_rfl
 rw[hd,AW hl]
theorem Zc{n:Nat}{args:List IN}{h:Hp}(hl:vx (BA args) 160=true):call AC (vo n) 97 args h=A5 [] (d97 (call AC n) (AQ e0 0 args) h):=by
 have hb:AC.get 97=some b97:=by kernel_rfl
 rw[Ae hb];have hd:b97=⟨[],d97⟩:=by kernel_rfl
 rw[hd,AW hl]
theorem fI{n:Nat}{args:List IN}{h:Hp}(hl:vx (BA args) 160=true):call AC (vo n) 106 args h=A5 [.t (J 2)] (fc (call AC n) (AQ e0 0 args) h):=by
 have hb:AC.get 106=some XU:=by kernel_rfl
 rw[Ae hb];have hd:XU=⟨[.t (J 2)],fc⟩:=by kernel_rfl
 rw[hd,AW hl]
theorem VY{n:Nat}{args:List IN}{h:Hp}(hl:vx (BA args) 160=true):call AC (vo n) 107 args h=A5 [.t (J 2)] (Zt (call AC n) (AQ e0 0 args) h):=by
 have hb:AC.get 107=some XV:=by kernel_rfl
 rw[Ae hb];have hd:XV=⟨[.t (J 2)],Zt⟩:=by kernel_rfl
 rw[hd,AW hl]
theorem Lr{n:Nat}{args:List IN}{h:Hp}(hl:vx (BA args) 160=true):call AC (vo n) 109 args h=A5 [.t (J 4)] (ff (call AC n) (AQ e0 0 args) h):=by
 have hb:AC.get 109=some XX:=by kernel_rfl
 rw[Ae hb];have hd:XX=⟨[.t (J 4)],ff⟩:=by kernel_rfl
 rw[hd,AW hl]
theorem PP{n:Nat}{args:List IN}{h:Hp}(hl:vx (BA args) 160=true):call AC (vo n) 110 args h=A5 [.t (J 4),.t (J 5)] (Xl (call AC n) (AQ e0 0 args) h):=by
 have hb:AC.get 110=some XY:=by kernel_rfl
 rw[Ae hb];have hd:XY=⟨[.t (J 4),.t (J 5)],Xl⟩:=by kernel_rfl
 rw[hd,AW hl]
theorem VZ{n:Nat}{args:List IN}{h:Hp}(hl:vx (BA args) 160=true):call AC (vo n) 111 args h=A5 [.t (J 4),.t (J 5),.t (J 6)] (fg (call AC n) (AQ e0 0 args) h):=by
 have hb:AC.get 111=some XZ:=by kernel_rfl
 rw[Ae hb];have hd:XZ=⟨[.t (J 4),.t (J 5),.t (J 6)],fg⟩:=by kernel_rfl
 rw[hd,AW hl]
theorem fL{n:Nat}{args:List IN}{h:Hp}(hl:vx (BA args) 160=true):call AC (vo n) 112 args h=A5 [.t (J 2)] (fh (call AC n) (AQ e0 0 args) h):=by
 have hb:AC.get 112=some Xa:=by kernel_rfl
 rw[Ae hb];have hd:Xa=⟨[.t (J 2)],fh⟩:=by kernel_rfl
 rw[hd,AW hl]
end
noncomputable section
open Go
set_option maxRecDepth 100000
theorem kZ:BQ ty5.zero 1=[.int .u8 0]:=by kernel_rfl
theorem pO:d72=G 4 (AP (kV (.slice none 0 0))) (BI (AY 0 (Aw Nr)) eF):=rfl
theorem Yt{F:AEB}{h0 h:Hp}{k:Nat}(x0:h0.Ext h)(hk:h0.next<=k)(hk2:k<=h.next){v:IN}{l:List Nat}(o:h.Own k 5 v (l.map bv))(hl:l.length<=1000000){N:Nat}(hN:N<18446744073709551616){e:Env}(s0:J 0 e=v)(s1:J 1 e=.int .u64 (N:Int)):
  ∃ e' h' v' xs m,Aw Nr F e h=.exit 0 e' h'/\J 0 e'=v'/\J 1 e'=.int .u64 ((m:Nat):Int)/\m<128/\l++B8 N=xs++[m]/\h0.Ext h'/\h'.Own k 5 v' (xs.map bv)/\h.next<=h'.next/\(∀ b el L,¬ AEe v b->h.Row b el L->h'.Row b el L/\¬ AEe v' b):=by
 have AJv:=LE hN;refine BU (I:=fun i e' h'=>∃ v' xs m,J 0 e'=v'/\J 1 e'=.int .u64 ((m:Nat):Int)/\m<18446744073709551616/\l++B8 N=xs++B8 m/\i+(B8 m).length=(B8 N).length/\h0.Ext h'/\h'.Own k 5 v' (xs.map bv)/\h.next<=h'.next/\(∀ b el L,¬ AEe v b->h.Row b el L->h'.Row b el L/\¬ AEe v' b))
  (Q:=fun x=>∃ e' h' v' xs m,x=.exit 0 e' h'/\J 0 e'=v'/\J 1 e'=.int .u64 ((m:Nat):Int)/\m<128/\l++B8 N=xs++[m]/\h0.Ext h'/\h'.Own k 5 v' (xs.map bv)/\h.next<=h'.next/\(∀ b el L,¬ AEe v b->h.Row b el L->h'.Row b el L/\¬ AEe v' b)) 20 (by omega) (fun i e' h' ⟨v',xs,m,t0,t1,hm,hx,hi,x1,o1,hn,fr⟩=>?_)
  ⟨v,l,N,s0,s1,hN,rfl,vk _,x0,o,IT _,fun b el L hb r=>⟨r,hb⟩⟩
 have hlen:=congrArg AAM hx;rw[No,No]at hlen;by_cases h1:m<128
 ·right
  have c1:iGt (m:Int) 127=false:=by rw[Hj];simp;omega
  have hrun:Nr F e' h'=.exit 0 (Env.set 6 (.bool false) e') h':=by
   unfold Nr;simp only[sT,By,BY,reduceIte,AJ,AH,t1,c1]
  rw[hrun];refine⟨rfl,_,_,v',xs,m,rfl,by simp[AD,t0],by simp[AD,t1],h1,?_,x1,o1,hn,fr⟩;rw[hx,FB h1]
 ·left
  have W:=x1.wf;have c1:iGt (m:Int) 127=true:=by rw[Hj];simp;omega
  have r1:Sr .u64 (.int .u64 (m:Int)) (.int .u64 128) h'=.ok (.int .u64 ((m % 128:Nat):Int)) h':=by rw[QJ (by omega)];rfl
  have a1:Fs .u64 (.int .u64 ((m % 128:Nat):Int)) (.int .u64 128) h'=.ok (.int .u64 ((m % 128+128:Nat):Int)) h':=by
   have:ABh.wrap (((m % 128:Nat):Int)+128)=((m % 128+128:Nat):Int):=by
    rw[show((m % 128:Nat):Int)+128=((m % 128+128:Nat):Int)by omega];exact EV (by omega)
   rw[Er,this]
  have v1:DS .u8 (.int .u64 ((m % 128+128:Nat):Int)) h'=.ok (.int .u8 ((m % 128+128:Nat):Int)) h':=by
   rw[Cd,Ii,zc (show m % 128+128<256 by omega)]
  have os:∀ e,J 11 e=.int .u8 ((m % 128+128:Nat):Int)->Aj 1 (BQ ty5.zero 1) [(0,1,J 11)] F e h'=.ok (.slice (some ⟨h'.next,0,none⟩) 1 1) (h'.AEA 0 [.int .u8 ((m % 128+128:Nat):Int)]):=fun e he=>by rw[kZ];exact IZ W he rfl rfl
  have hpos:=Ys (m/128);rw[Gi (n:=m) (by omega)]at hi hlen hx;rw[vw]at hi hlen;obtain⟨h2,v2,a2,x2,o2,hn2,fr2⟩:=Jv (eb:=1) (n:=((m % 128+128:Nat):Int)) (kd:=.u8) x1 hk (wd hk2 hn) o1 (by rw[OF];omega);have d1:UA .u64 (.int .u64 (m:Int)) (.int .u64 128) h2=.ok (.int .u64 ((m/128:Nat):Int)) h2:=by
   have:ABh.wrap ((m:Int).tdiv 128)=((m/128:Nat):Int):=EV (n:=m/128) (by omega);rw[Lu (by omega),this]
  have hrun:∃ e2,Nr F e' h'=.norm e2 h2/\J 0 e2=v2/\J 1 e2=.int .u64 ((m/128:Nat):Int):=by
   unfold Nr;simp only[sT,By,BY,reduceIte,AJ,AH,t1,c1,Js,r1,BG,a1,CH,v1,os,BF,t0,a2,Jr,d1];exact⟨_,rfl,by simp[AD]⟩
  obtain⟨e2,b1,b2,b3⟩:=hrun;refine⟨by omega,e2,h2,b1,v2,xs++[m % 128+128],m/128,b2,b3,by omega,?_,by omega,x2,?_,by omega,fun b el L hb r=>?_⟩
  ·rw[hx];simp
  ·rw[wa];exact o2
  ·obtain⟨r1,r2⟩:=fr b el L hb r
   exact fr2 b el L r2 r1
theorem jv{n:Nat}{h0 h:Hp}{k:Nat}(x0:h0.Ext h)(hk:h0.next<=k)(hk2:k<=h.next){v:IN}{l:List Nat}(o:h.Own k 5 v (l.map bv))(hl:l.length<=1000000){N:Nat}(hN:N<18446744073709551616):
  ∃ h' v',call AC (n+1) 72 [v,.int .u64 (N:Int)] h=.ok v' h'/\h0.Ext h'/\h'.Own k 5 v' ((l++B8 N).map bv)/\h.next<=h'.next/\(∀ b el L,¬ AEe v b->h.Row b el L->h'.Row b el L/\¬ AEe v' b):=by
 obtain⟨e1,h1,v1,xs,m,q1,s0,s1,hm,hx,x1,o1,hn,fr⟩:=Yt (F:=call AC n) x0 hk hk2 o hl hN (e:=Env.set 4 (.slice none 0 0) (Env.set 1 (.int .u64 (N:Int)) (Env.set 0 v e0))) (by simp[AD]) (by simp[AD]);have W:=x1.wf;have AJv:=LE hN;have hlen:=congrArg AAM hx;rw[No,No,List.length_singleton]at hlen;have c1:DS .u8 (.int .u64 (m:Int)) h1=.ok (.int .u8 (m:Int)) h1:=by
  rw[Cd,Ii,zc (show m<256 by omega)]
 have os:∀ e,J 18 e=.int .u8 (m:Int)->Aj 1 (BQ ty5.zero 1) [(0,1,J 18)] (call AC n) e h1=.ok (.slice (some ⟨h1.next,0,none⟩) 1 1) (h1.AEA 0 [.int .u8 (m:Int)]):=fun e he=>by rw[kZ];exact IZ W he rfl rfl
 obtain⟨h2,v2,a2,x2,o2,hn2,fr2⟩:=Jv (eb:=1) (n:=(m:Int)) (kd:=.u8) x1 hk (wd hk2 hn) o1 (by rw[OF];omega);refine⟨h2,v2,?_,x2,?_,by omega,fun b el L hb r=>?_⟩
 ·rw[oQ rfl,pO]
  simp only[iN,IS,AD,By,BY,reduceIte,Gl,Gx,Dw,Gw,Ho,BB,Ap];rw[q1];simp only[Az,A8];unfold eF;simp only[sT,By,BY,reduceIte,CH,s1,c1,os,BF,s0,a2,lV0]
 ·rw[hx,wa];exact o2
 ·obtain⟨r1,r2⟩:=fr b el L hb r
  exact fr2 b el L r2 r1
def kh(l:List Nat)(p:Nat)(a b c:Int):Prop:=(∃ v j:Nat,Fz 0 0 (l.drop p)=some (v,j)/\a=(v:Int)/\b=((p+j:Nat):Int)/\c=0)\/(Fz 0 0 (l.drop p)=none/\c≠0)
def Pe:C:=(Bo 46
(G 4 (AP (kV (.int .u64 0)))
(G 5 (AP (kV (AI AT 0)))
(G 6 (AP (kV (AI AT 10)))
Ar)))
(G 49 (N1 .u8 (J 9) (kV (.int .u8 128)))
(G 50 (Cm .u64 (J 49))
(G 52 (Cr ACN .i64 (kV (AI AT 7)) (J 10))
(G 53 (N2 .u64 (J 50) (J 52))
(G 54 (CG .u64 (BC .u64) (J 7) (J 53))
(G 7 (Ah 54)
(G 56 (Ai iLt .u8 (J 9) (kV (.int .u8 128)))
(Bo 56
(G 59 (CG .i64 (BC .i64) (J 8) (kV (AI AT 1)))
(G 4 (Ah 7)
(G 5 (Ah 59)
(G 6 (AP (kV (AI AT 0)))
Ar))))
An)))))))))
def pk(K:C):C:=(G 34 (Ai iGt .i64 (J 10) (kV (AI AT 0)))
(Ak 34 true 36 (Ah 9)
(Ak 34 true 37 (Ai iEq .u8 (J 36) (kV (.int .u8 0)))
(G 38 (A0 (J 34) (J 37) (kV (.bool false)))
(Ak 38 false 40 (Ah 10)
(Ak 38 false 41 (Ai iGt .i64 (J 40) (kV (AI AT 8)))
(Ak 38 false 42 (Ah 41)
(Ak 42 true 43 (Ah 9)
(Ak 42 true 44 (Ai iGt .u8 (J 43) (kV (.int .u8 1)))
(Ak 38 false 45 (A0 (J 42) (J 44) (kV (.bool false)))
(G 46 (A0 (J 38) (kV (.bool true)) (J 45))
K)))))))))))
theorem V7:RH=G 22 (Bf (J 0)) (G 23 (Ai iLt .i64 (J 8) (J 22)) (Bo 23 (BI (AY 1 (G 28 (CB 1 (J 0) (J 8)) (G 29 (AN (J 28)) (G 32 (Cr wi .i64 (J 8) (J 1)) (G 9 (Ah 29) (G 10 (Ah 32) (pk Pe))))))) (G 25 (CG .i64 (BC .i64) (J 8) (kV (AI AT 1))) (G 8 (Ah 25) An))) (CA 0))):=rfl
theorem gf{K:C}{F:AEB}{h:Hp}{e:Env}{c i:Nat}{b1 b2 b3 b4:Bool}(s9:J 9 e=.int .u8 (c:Int))(s10:J 10 e=AI AT (i:Int))(i1:iGt (i:Int) 0=b1)(i2:iEq (c:Int) 0=b2)(i3:iGt (i:Int) 8=b3)(i4:iGt (c:Int) 1=b4):
  ∃ e',pk K F e h=K F e' h/\J 46 e'=.bool ((b1 && b2) || (b3 && b4))/\J 0 e'=J 0 e/\J 1 e'=J 1 e/\J 7 e'=J 7 e/\J 8 e'=J 8 e/\J 9 e'=J 9 e/\J 10 e'=J 10 e:=by
 unfold pk;cases b1<;>cases b2<;>cases b3<;>cases b4<;>
 ·simp only[sT,By,BY,reduceIte,gD,AJ,AH,s9,s10,i1,i2,i3,i4]
  exact⟨_,rfl,by simp[AD],by simp[AD],by simp[AD],by simp[AD],by simp[AD],by simp only[AD,By,BY,reduceIte,s9],by simp only[AD,By,BY,reduceIte,s10]⟩
theorem Sf{i:Nat}(hi:i<=9):2 ^ (7*i)<=9223372036854775808:=by
 have:2 ^ (7*i)<=2 ^ 63:=Nat.pow_le_pow_right (by omega) (by omega);have e:(2:Nat) ^ 63=9223372036854775808:=rfl;omega
theorem aY{F:AEB}{h:Hp}{u:IN}{l:List Nat}{p:Nat}(V:h.AEb u (l.map bv))(hb:∀ x∈l,x<256)(hp:p<=l.length)(hl:l.length<=1000000){e:Env}(s0:J 0 e=u)(s1:J 1 e=AI AT (p:Int))(s7:J 7 e=.int .u64 0)(s8:J 8 e=AI AT (p:Int)):
  (∃ e',Aw RH F e h=.exit 0 e' h/\Fz 0 0 (l.drop p)=none)\/(∃ e' a b c,Aw RH F e h=.ret e' h/\J 4 e'=.int .u64 a/\J 5 e'=AI AT b/\J 6 e'=AI AT c/\kh l p a b c):=by
 have Vl:AE5 u h=.ok (AI AT (l.length:Int)) h:=by have:=V.len;rwa [OF]at this
 refine BU (I:=fun i e' h'=>h'=h/\∃ acc:Nat,J 0 e'=u/\J 1 e'=AI AT (p:Int)/\J 7 e'=.int .u64 (acc:Int)/\J 8 e'=AI AT ((p+i:Nat):Int)/\acc<2 ^ (7*i)/\i<=9/\p+i<=l.length/\Fz 0 0 (l.drop p)=Fz i acc (l.drop (p+i)))
  (Q:=fun x=>(∃ e',x=.exit 0 e' h/\Fz 0 0 (l.drop p)=none)\/(∃ e' a b c,x=.ret e' h/\J 4 e'=.int .u64 a/\J 5 e'=AI AT b/\J 6 e'=AI AT c/\kh l p a b c)) 20 (by omega) (fun i e' h' ⟨hh,acc,t0,t1,t7,t8,hacc,hi9,hpi,hu⟩=>?_)
  ⟨rfl,0,s0,s1,s7,s8,by decide,by omega,hp,rfl⟩
 subst hh;by_cases hlt:p+i<l.length
 ·have hc:l.getD (p+i) 0<256:=hb _ (by rw[vm,sh hlt];exact List.getElem_mem hlt)
  have hd:l.drop (p+i)=l.getD (p+i) 0::l.drop (p+i+1):=by
   rw[xW hlt,vm,sh hlt];rfl
  have hel:(l.map bv).getD (p+i) AEE=.int .u8 ((l.getD (p+i) 0:Nat):Int):=by
   rw[vm,xH,vm,sh hlt];rfl
  obtain⟨a,g1,g2⟩:=V.at (i:=p+i) (by rw[OF];exact hlt);rw[hel]at g2;rw[hd]at hu;generalize l.getD (p+i) 0=c at hc g2 hu;have c1:iLt ((p+i:Nat):Int) (l.length:Int)=true:=by rw[C4];simp;omega
  have a2:Ft wi .i64 (AI AT ((p+i:Nat):Int)) (AI AT (p:Int)) h'=.ok (AI AT (i:Int)) h':=by
   have:wi ((p+i:Nat):Int) (p:Int)=(i:Int):=by show((p+i:Nat):Int) - (p:Int)=i;omega
   rw[CV,this,Bb (by omega)]
  have a3:Fs .i64 (AI AT ((p+i:Nat):Int)) (AI AT 1) h'=.ok (AI AT ((p+(i+1):Nat):Int)) h':=by
   have:((p+i:Nat):Int)+1=((p+(i+1):Nat):Int):=by omega
   rw[Er,this,Bb (by omega)]
  have pre:∃ e2,RH F e' h'=Yh (KK 1 (Pe F e2 h')) (G 25 (CG .i64 (BC .i64) (J 8) (kV (AI AT 1))) (G 8 (Ah 25) An)) F/\J 46 e2=.bool ((decide (0<i) && decide (c=0)) || (decide (8<i) && decide (1<c)))/\J 0 e2=u/\J 1 e2=AI AT (p:Int)/\J 7 e2=.int .u64 (acc:Int)/\J 8 e2=AI AT ((p+i:Nat):Int)/\J 9 e2=.int .u8 (c:Int)/\J 10 e2=AI AT (i:Int):=by
   obtain⟨e2,q1,q2,q3,q4,q5,q6,q7,q8⟩:=gf (K:=Pe) (F:=F) (h:=h') (e:=Env.set 10 (AI AT (i:Int)) (Env.set 9 (.int .u8 (c:Int)) (Env.set 32 (AI AT (i:Int)) (Env.set 29 (.int .u8 (c:Int)) (Env.set 28 (.pointer (some a)) (Env.set 23 (.bool true) (Env.set 22 (AI AT (l.length:Int)) e'))))))) (c:=c) (i:=i) (b1:=decide (0<i)) (b2:=decide (c=0)) (b3:=decide (8<i)) (b4:=decide (1<c))
    (by simp[AD]) (by simp[AD]) (by rw[Hj,decide_eq_decide];omega) (by rw[EM,Bool.eq_iff_iff,beq_iff_eq,decide_eq_true_eq];omega) (by rw[Hj,decide_eq_decide];omega) (by rw[Hj,decide_eq_decide];omega)
   refine⟨e2,?_,q2,?_,?_,?_,?_,?_,?_⟩
   ·rw[V7]
    simp only[Gl,HY,PN,BB,Ap,Gx,Iz,Dw,Gw,Ho,AD,By,BY,reduceIte,AX,t0,Vl,AJ,AH,t8,c1,Ay,g1,AK,g2,Bu,t1,a2,q1]
   ·rw[q3];simp only[AD,By,BY,reduceIte];exact t0
   ·rw[q4];simp only[AD,By,BY,reduceIte];exact t1
   ·rw[q5];simp only[AD,By,BY,reduceIte];exact t7
   ·rw[q6];simp only[AD,By,BY,reduceIte];exact t8
   ·rw[q7];simp only[AD,By,BY,reduceIte]
   ·rw[q8];simp only[AD,By,BY,reduceIte]
  obtain⟨e2,p1,p46,p0,pp1,p7,p8,p9,p10⟩:=pre;rw[Fz]at hu;by_cases AGS:(0<i/\c=0)\/(8<i/\1<c)
  ·right
   have hB:((decide (0<i) && decide (c=0)) || (decide (8<i) && decide (1<c)))=true:=by simpa using AGS
   rw[hB]at p46;rw[if_pos AGS]at hu;have hrun:∃ e3,Pe F e2 h'=.ret e3 h'/\J 4 e3=.int .u64 0/\J 5 e3=AI AT 0/\J 6 e3=AI AT 10:=by
    unfold Pe;simp only[sT,By,BY,reduceIte,p46];exact⟨_,rfl,by simp[AD]⟩
   obtain⟨e3,r1,r4,r5,r6⟩:=hrun;rw[p1,r1,Bz,CU];exact⟨rfl,.inr ⟨e3,0,0,10,rfl,r4,r5,r6,.inr ⟨hu,by omega⟩⟩⟩
  ·have hB:((decide (0<i) && decide (c=0)) || (decide (8<i) && decide (1<c)))=false:=by
    rw[<- Bool.not_eq_true];simpa using AGS
   rw[hB]at p46;rw[if_neg AGS]at hu;have hle:acc+c % 128*2 ^ (7*i)<2 ^ (7*(i+1)):=by
    rw[Nc];have h1:c % 128<=127:=by omega
    have h2:=AB7 (2 ^ (7*i)) h1;omega
   have AKr:c % 128*2 ^ (7*i)<=9223372036854775808/\acc<9223372036854775808:=by
    have h3:=Sf hi9;refine⟨?_,by omega⟩;rcases Nat.lt_or_ge i 9 with h4|h4
    ·have h5:2 ^ (7*(i+1))<=9223372036854775808:=Sf (by omega)
     omega
    ·have h5:c % 128<=1:=by omega
     have h6:=AB7 (2 ^ (7*i)) h5;omega
   have m1:Sr .u8 (.int .u8 (c:Int)) (.int .u8 128) h'=.ok (.int .u8 ((c % 128:Nat):Int)) h':=by rw[QJ (by omega)];rfl
   have m2:DS .u64 (.int .u8 ((c % 128:Nat):Int)) h'=.ok (.int .u64 ((c % 128:Nat):Int)) h':=by rw[Cd,EV (by omega)]
   have m3:Ft ACN .i64 (AI AT 7) (AI AT (i:Int)) h'=.ok (AI AT ((7*i:Nat):Int)) h':=by
    have:ACN 7 (i:Int)=((7*i:Nat):Int):=by show(7:Int)*(i:Int)=_;omega
    rw[CV,this,Bb (by omega)]
   have m4:jd .u64 (.int .u64 ((c % 128:Nat):Int)) (AI AT ((7*i:Nat):Int)) h'=.ok (.int .u64 ((c % 128*2 ^ (7*i):Nat):Int)) h':=by
    have:min (7*i) ABh.bits=7*i:=Nat.min_eq_left (by show 7*i<=64;omega);rw[je,this,EV (by omega)]
   have m5:Fs .u64 (.int .u64 (acc:Int)) (.int .u64 ((c % 128*2 ^ (7*i):Nat):Int)) h'=.ok (.int .u64 ((acc+c % 128*2 ^ (7*i):Nat):Int)) h':=by
    rw[Er,<- Int.natCast_add,EV (by omega)]
   by_cases hsm:c<128
   ·right
    rw[if_pos hsm]at hu;have c2:iLt (c:Int) 128=true:=by rw[C4];simp;omega
    have hrun:∃ e3,Pe F e2 h'=.ret e3 h'/\J 4 e3=.int .u64 ((acc+c % 128*2 ^ (7*i):Nat):Int)/\J 5 e3=AI AT ((p+(i+1):Nat):Int)/\J 6 e3=AI AT 0:=by
     unfold Pe;simp only[sT,By,BY,reduceIte,p46,Js,p9,m1,CH,m2,Bu,p10,m3,Wb,m4,BG,p7,m5,AJ,AH,c2,p8,a3];exact⟨_,rfl,by simp[AD]⟩
    obtain⟨e3,r1,r4,r5,r6⟩:=hrun;rw[p1,r1,Bz,CU];refine⟨rfl,.inr ⟨e3,_,_,_,rfl,r4,r5,r6,.inl ⟨_,_,hu,?_,rfl,rfl⟩⟩⟩;rw[zc hsm]
   ·left
    rw[if_neg hsm]at hu;have hi8:i<=8:=by omega
    have c2:iLt (c:Int) 128=false:=by rw[C4];simp;omega
    have hrun:∃ e3,Pe F e2 h'=.norm e3 h'/\J 0 e3=u/\J 1 e3=AI AT (p:Int)/\J 7 e3=.int .u64 ((acc+c % 128*2 ^ (7*i):Nat):Int)/\J 8 e3=AI AT ((p+i:Nat):Int):=by
     unfold Pe;simp only[sT,By,BY,reduceIte,p46,Js,p9,m1,CH,m2,Bu,p10,m3,Wb,m4,BG,p7,m5,AJ,AH,c2,p8,a3];exact⟨_,rfl,by simp[AD,p0,pp1,p8]⟩
    obtain⟨e3,r1,r0,rr1,r7,r8⟩:=hrun;have AF3:∃ e4,RH F e' h'=.norm e4 h'/\J 0 e4=u/\J 1 e4=AI AT (p:Int)/\J 7 e4=.int .u64 ((acc+c % 128*2 ^ (7*i):Nat):Int)/\J 8 e4=AI AT ((p+(i+1):Nat):Int):=by
     rw[p1,r1];simp only[D9,A8,Gl,Gx,BG,r8,Ho,a3,Dw,Gw,MX,AD,By,BY,reduceIte];exact⟨_,rfl,by simp[AD,r0,rr1,r7]⟩
    obtain⟨e4,k1,k2,k3,k4,k5⟩:=AF3;exact⟨by omega,e4,h',k1,rfl,_,k2,k3,k4,k5,hle,by omega,by omega,hu⟩
 ·right
  have c1:iLt ((p+i:Nat):Int) (l.length:Int)=false:=by rw[C4];simp;omega
  have hrun:∃ e2,RH F e' h'=.exit 0 e2 h':=by
   rw[V7];simp only[sT,By,BY,reduceIte,AX,t0,Vl,AJ,AH,t8,c1];exact⟨_,rfl⟩
  obtain⟨e2,r1⟩:=hrun;rw[r1];refine⟨rfl,.inl ⟨e2,rfl,?_⟩⟩;rw[hu,xL (by omega)];rfl
theorem V9:Mt=G 7 (AP (kV (.int .u64 0))) (G 8 (Ah 1) (BI (AY 0 (Aw RH)) pj)):=rfl
theorem Vh:fg=Vi:=rfl
theorem po{n:Nat}{h:Hp}{u:IN}{l:List Nat}{p:Nat}(V:h.AEb u (l.map bv))(hb:∀ x∈l,x<256)(hp:p<=l.length)(hl:l.length<=1000000):
  ∃ a b c,call AC (n+1) 111 [u,AI AT (p:Int)] h=.ok (.tuple ⟨[.int .u64 a,AI AT b,AI AT c]⟩) h/\kh l p a b c:=by
 have Vl:AE5 u h=.ok (AI AT (l.length:Int)) h:=by have:=V.len;rwa [OF]at this
 have c0:iLt (p:Int) 0=false:=by rw[C4];simp
 have c1:iGt (p:Int) (l.length:Int)=false:=by rw[Hj];simp;omega
 have pre:∃ e1,Vi (call AC n) (AQ e0 0 [u,AI AT (p:Int)]) h=Mt (call AC n) e1 h/\J 0 e1=u/\J 1 e1=AI AT (p:Int):=by
  unfold Vi;simp only[iN,IS,Gl,HY,PN,Gx,Ha,Dw,Gw,Ho,AD,By,BY,reduceIte,gD,AJ,AH,c0,AX,Vl,c1];exact⟨_,rfl,by simp[AD]⟩
 obtain⟨e1,p1,p2,p3⟩:=pre;have H:=aY (F:=call AC n) (e:=Env.set 8 (AI AT (p:Int)) (Env.set 7 (.int .u64 0) e1)) V hb hp hl (by simp[AD,p2]) (by simp[AD,p3]) (by simp[AD]) (by simp[AD]);rcases H with ⟨e2,q1,q2⟩|⟨e2,a,b,c,q1,q4,q5,q6,q7⟩
 ·refine⟨0,0,11,?_,.inr ⟨q2,by omega⟩⟩
  rw[VZ rfl,Vh,p1,V9];simp only[Gl,Gx,Dw,Gw,Ho,AD,By,BY,reduceIte,p3,BB,Ap];rw[q1];simp only[Az,A8];unfold pj;simp only[sT,By,BY,reduceIte,Bg,Mp]
 ·refine⟨a,b,c,?_,q7⟩
  rw[VZ rfl,Vh,p1,V9];simp only[Gl,Gx,Dw,Gw,Ho,AD,By,BY,reduceIte,p3,BB,Ap];rw[q1];simp only[Bz,CU];simp only[Bg,Mp,q4,q5,q6]
end
noncomputable section
open Go
def QP(T:List Nat):Nat->List Nat->Nat
 |s,[]=>s
 |s,b::l=>QP T (yg (T.getD (yg (s % 256) b) 0) (s/256)) l
def B9(T l:List Nat):Nat:=4294967295 - QP T 4294967295 l
def AE1(T:List Nat):Prop:=T.length=256/\∀ i,T.getD i 0<4294967296
theorem jx{a b:Nat}(ha:a<256)(hb:b<256):yg a b<256:=ACJ (n:=8) ha hb
theorem eL{a b:Nat}(ha:a<4294967296)(hb:b<4294967296):yg a b<4294967296:=ACJ (n:=32) ha hb
theorem PA{T:List Nat}(hT:AE1 T){s:Nat}(hs:s<4294967296)(b:Nat):yg (T.getD (yg (s % 256) b) 0) (s/256)<4294967296:=eL (hT.2 _) (by omega)
theorem XE{T:List Nat}(hT:AE1 T):∀ (l:List Nat) (s:Nat),s<4294967296->QP T s l<4294967296
 |[],s,hs=>hs
 |b::l,s,hs=>XE hT l _ (PA hT hs b)
theorem Ih(T l:List Nat):B9 T l<4294967296:=by unfold B9;omega
def HC(s:Nat):List Nat:=[s/16777216 % 256,s/65536 % 256,s/256 % 256,s % 256]
def EY(T l:List Nat):List Nat:=l++HC (B9 T l)
theorem Ic(T l:List Nat):(EY T l).length=l.length+4:=by unfold EY;rw[No];rfl
theorem jl(s x:Nat)(h:x∈HC s):x<256:=by
 unfold HC at h;simp only[wA,List.mem_nil_iff,or_false]at h;omega
theorem S0{T l:List Nat}(h:∀ x∈l,x<256):∀ x∈EY T l,x<256:=fun x hx=>by
 rcases wK.1 hx with h1|h1
 ·exact h x h1
 ·exact jl _ x h1
def Bw(ns:List Nat):List Nat:=ns.flatMap B8
theorem FC(n:Nat)(ns:List Nat):Bw (n::ns)=B8 n++Bw ns:=rfl
theorem VB(a b:List Nat):Bw (a++b)=Bw a++Bw b:=List.flatMap_append
theorem PB{ns:List Nat}:∀ x∈Bw ns,x<256:=fun x hx=>by
 obtain⟨n,_,h⟩:=List.mem_flatMap.1 hx;exact eE n x h
theorem JI:∀ {ns:List Nat},(∀ v∈ns,v<18446744073709551616)->(Bw ns).length<=10*ns.length
 |[],_=>IT _
 |n::ns,h=>by
  have h1:=LE (h n vp);have h2:=JI fun v hv=>h v (vr _ hv)
  rw[FC,No,vw];omega
def QE(l:List Nat):List Nat:=l++v8 (60 - l.length) 0
theorem NX{l:List Nat}(h:l.length<=60):(QE l).length=60:=by unfold QE;rw[No,List.length_replicate];omega
theorem Wr{l:List Nat}(h:∀ x∈l,x<256):∀ x∈QE l,x<256:=fun x hx=>by
 rcases wK.1 hx with h1|h1
 ·exact h x h1
 ·rw[zn h1];decide
def Li(ns:List Nat):List Nat:=QE (Bw ns)
def rdN:Nat->List Nat->Nat->Option (List Nat×Nat)
 |0,_,p=>some ([],p)
 |k+1,l,p=>match Fz 0 0 (l.drop p)with
  |none=>none
  |some (v,j)=>if v<=1099511627776 then(match rdN k l (p+j)with
   |none=>none
   |some (vs,q)=>some (v::vs,q))else none
theorem MC:∀ (ns:List Nat) (a r:List Nat),(∀ v∈ns,v<=1099511627776)->rdN ns.length (a++(Bw ns++r)) a.length=some (ns,a.length+(Bw ns).length)
 |[],a,r,_=>rfl
 |v::ns,a,r,h=>by
  have hv:=h v vp;rw[vw,rdN,ABs,FC,wG,rQ (by omega)];simp only;have:=MC ns (a++B8 v) r fun x hx=>h x (vr _ hx)
  rw[wG,No]at this;rw[if_pos hv,this];simp only[No,Nat.add_assoc]
theorem MB:∀ (k:Nat) (l:List Nat) (p:Nat) (ns:List Nat) (q:Nat),(∀ x∈l,x<256)->p<=l.length->rdN k l p=some (ns,q)->ns.length=k/\l.drop p=Bw ns++l.drop q/\q=p+(Bw ns).length/\q<=l.length/\∀ v∈ns,v<=1099511627776
 |0,l,p,ns,q,hb,hp,h=>by
  cases h;exact⟨rfl,rfl,rfl,hp,fun v hv=>by cases hv⟩
 |k+1,l,p,ns,q,hb,hp,h=>by
  rw[rdN]at h;cases hu:Fz 0 0 (l.drop p)with
  |none=>rw[hu]at h;cases h
  |some vj=>
   obtain⟨v,j⟩:=vj;rw[hu]at h;simp only at h;by_cases hv:v<=1099511627776
   ·rw[if_pos hv]at h
    have hbd:∀ x∈l.drop p,x<256:=fun x hx=>hb x (List.mem_of_mem_drop hx)
    have hj:=kY hbd hu;rw[xC]at hj;obtain⟨g1,g2,g3⟩:=eB hbd hu;cases hr:rdN k l (p+j)with
    |none=>rw[hr]at h;cases h
    |some y=>
     obtain⟨vs,q'⟩:=y;rw[hr]at h;cases h;obtain⟨i1,i2,i3,i4,i5⟩:=MB k l (p+j) vs q hb (by omega) hr;refine⟨by rw[vw,i1],?_,?_,i4,fun x hx=>?_⟩
     ·rw[g1,List.drop_drop,i2,FC,wG]
     ·rw[i3,FC,No];omega
     ·rcases wA.1 hx with rfl|hx
      ·exact hv
      ·exact i5 x hx
   ·rw[if_neg hv]at h;cases h
def AEN(a b c:Int)(s n:Nat):Bool:=decide (0<=a/\a<=1099511627776/\0<=b/\b<255/\1<=c/\c<=1099511627776/\(s=1\/s=2)/\n<=65536)
def at6(ns:List Nat)(i:Nat):Nat:=ns.getD i 0
def Ew(T l:List Nat):Option (List Nat):=if l.length<4 then none else if EY T (l.take (l.length - 4))=l then some (l.take (l.length - 4))else none
def P8(ns:List Nat):Prop:=AEN (at6 ns 1) (at6 ns 2) (at6 ns 3) (min (at6 ns 0) 9) 0=true/\at6 ns 4<=65536/\at6 ns 5<=4294967295
def jH(ns:List Nat):Prop:=at6 ns 0<=2/\at6 ns 4<=65536/\at6 ns 5<=4294967295/\AEN (at6 ns 1) (at6 ns 2) (at6 ns 3) (at6 ns 0) 0=true
theorem jI{ns:List Nat}:P8 ns↔jH ns:=by
 unfold P8 jH AEN;simp only[decide_eq_true_eq];generalize at6 ns 0=s;constructor
 ·rintro⟨⟨h1,h2,h3,h4,h5,h6,h7,h8⟩,h9,h10⟩
  exact⟨by omega,h9,h10,h1,h2,h3,h4,h5,h6,by omega,h8⟩
 ·rintro⟨h0,h9,h10,h1,h2,h3,h4,h5,h6,h7,h8⟩
  exact⟨⟨h1,h2,h3,h4,h5,h6,by omega,h8⟩,h9,h10⟩
def Ld(T l ns:List Nat):Prop:=∃ body q,Ew T l=some body/\body.length=60/\rdN 6 body 0=some (ns,q)/\P8 ns/\∀ x∈body.drop q,x=0
def vL(T l ns:List Nat):Prop:=∃ q,rdN 6 l 0=some (ns,q)/\jH ns/\EY T (Li ns)=l
theorem KC{T l body:List Nat}(h:Ew T l=some body):EY T body=l/\body=l.take (l.length - 4):=by
 unfold Ew at h;split at h
 ·cases h
 ·split at h
  ·rename_i h2
   cases h;exact⟨h2,rfl⟩
  ·cases h
theorem QT(T body:List Nat):Ew T (EY T body)=some body:=by
 have h1:(EY T body).take ((EY T body).length - 4)=body:=by
  rw[Ic,Nat.add_sub_cancel];unfold EY;exact List.take_left
 unfold Ew;rw[h1,if_neg (by rw[Ic];omega),if_pos rfl]
theorem eQ{l:List Nat}(h:∀ x∈l,x=0):l=v8 l.length 0:=List.eq_replicate_iff.2 ⟨rfl,h⟩
theorem Sa{T l ns:List Nat}(hb:∀ x∈l,x<256):Ld T l ns↔vL T l ns:=by
 constructor
 ·rintro⟨body,q,h1,h2,h3,h4,h5⟩
  obtain⟨k1,k2⟩:=KC h1;have hbb:∀ x∈body,x<256:=fun x hx=>hb x (by rw[k2]at hx;exact List.mem_of_mem_take hx)
  obtain⟨g1,g2,g3,g4,g5⟩:=MB 6 body 0 ns q hbb (wP _) h3;rw[List.drop_zero]at g2;have hz:=eQ h5;have hh:Li ns=body:=by
   unfold Li QE;rw[show 60 - (Bw ns).length=(body.drop q).length by rw[xC];omega,<- hz,<- g2]
  refine⟨(Bw ns).length,?_,jI.1 h4,by rw[hh];exact k1⟩;have:=MC ns [] (body.drop q++HC (B9 T body)) g5;rw[g1]at this;rw[<- k1];unfold EY;rw[List.nil_append,<- wG,<- g2]at this
  simpa using this
 ·rintro⟨q,h1,h2,h3⟩
  obtain⟨g1,g2,g3,g4,g5⟩:=MB 6 l 0 ns q hb (wP _) h1;have hlen:(Bw ns).length<=60:=by
   have:=JI (ns:=ns) fun v hv=>by have:=g5 v hv;omega
   omega
  refine⟨Li ns,(Bw ns).length,by rw[<- h3];exact QT T _,NX hlen,?_,jI.2 h2,fun x hx=>?_⟩
  ·have:=MC ns [] (v8 (60 - (Bw ns).length) 0) g5
   rw[g1]at this;unfold Li QE
   simpa using this
  ·unfold Li QE at hx
   rw[ABs]at hx;exact zn hx
end
noncomputable section
open Go
set_option maxRecDepth 100000
abbrev pt(b:Nat):IN:=.pointer (some ⟨b,0,none⟩)
def wv(n:Nat):IN:=.int .u32 (n:Int)
theorem Ad{a:Addr}{h:Hp}:YD (.pointer (some a)) h=.ok (.pointer (some a)) h:=rfl
theorem Ao{F:AEB}{e:Env}{h:Hp}{x:O}:Bl x F e h=YD (x e) h:=rfl
theorem kX:TP.k=.ptr 27:=by kernel_rfl
theorem rD{F:AEB}{e:Env}{h:Hp}{a:Addr}{g:O}(hg:g e=.pointer (some a)):oEq TP.k false g (kV (.pointer none)) F e h=.ok (.bool false) h:=by
 show(match eqV TP.k (g e) (.pointer none)with|some r=>okB (false != r) h|none=>.no)=_;rw[kX,hg];exact Ff
theorem rL{h:Hp}{tb:Nat}{T:List Nat}(R:h.Row tb 0 (T.map wv))(hT:AE1 T){k:IntKind}{x:Nat}(hx:x<256):Nv 256 1 (pt tb) (.int k (x:Int)) h=.ok (.pointer (some ⟨tb,x,none⟩)) h/\HN (.pointer (some ⟨tb,x,none⟩)) h=.ok (wv (T.getD x 0)) h:=by
 refine⟨?_,?_⟩
 ·have:=WJ (h:=h) (n:=256) (es:=1) (b:=tb) (off:=0) (i:=x) (k:=k) hx
  rwa [vk,yk]at this
 ·have hx':x<T.length:=by rw[hT.1];exact hx
  rw[AO,R.AEF (off:=x) (by rw[OF];exact hx'),vm,xH,vm,sh hx'];rfl
theorem JL{h:Hp}{u:IN}{l:List Nat}(V:h.AEb u (l.map bv)){i:Nat}(hi:i<l.length):∃ a,AE0 1 u (AI AT (i:Int)) h=.ok (.pointer (some a)) h/\HN (.pointer (some a)) h=.ok (.int .u8 ((l.getD i 0:Nat):Int)) h:=by
 obtain⟨a,g1,g2⟩:=V.at (i:=i) (by rw[OF];exact hi);refine⟨a,g1,?_⟩;rw[g2,vm,xH,vm,sh hi];rfl
theorem ge{l:List Nat}(hb:∀ x∈l,x<256)(i:Nat):l.getD i 0<256:=by
 rw[vm];cases h:l[i]? with
 |none=>decide
 |some x=>exact hb x (List.mem_of_getElem? h)
theorem GP{l:List Nat}{i:Nat}(hi:i<l.length):l.drop i=l.getD i 0::l.drop (i+1):=by
 rw[xW hi,vm,sh hi];rfl
theorem Hp.AEb.bl{h:Hp}{u:IN}{l:List Nat}(V:h.AEb u (l.map bv))(g:Hp):AE5 u g=.ok (AI AT (l.length:Int)) g:=by
 obtain⟨a,c,hu⟩:=V.shape;rw[hu,OF];rfl
theorem ve{a b:Nat}(ha:a<256)(hb:b<256){h:Hp}:ZF yg .u8 (.int .u8 (a:Int)) (.int .u8 (b:Int)) h=.ok (.int .u8 ((yg a b:Nat):Int)) h:=VU (by show a<=255;omega) (by show b<=255;omega)
theorem vE{a b:Nat}(ha:a<4294967296)(hb:b<4294967296){h:Hp}:ZF yg .u32 (.int .u32 (a:Int)) (.int .u32 (b:Int)) h=.ok (.int .u32 ((yg a b:Nat):Int)) h:=VU (by show a<=4294967295;omega) (by show b<=4294967295;omega)
theorem TV{n:Nat}(h:n<=4294967295):IntKind.u32.wrap (n:Int)=n:=DN .u32 n h
theorem CF{i:Nat}(hi:i<=1000000000){h:Hp}:Fs .i64 (AI AT (i:Int)) (AI AT 1) h=.ok (AI AT ((i+1:Nat):Int)) h:=by
 have:(i:Int)+1=((i+1:Nat):Int):=by omega
 rw[Er,this,Bb (by omega)]
theorem EF{a b:Nat}(h:a<b):iLt (a:Int) (b:Int)=true:=by rw[C4];simp;omega
theorem Cz{a b:Nat}(h:b<=a):iLt (a:Int) (b:Int)=false:=by rw[C4];simp;omega
theorem rK:suS=BI (AY 0 (Aw suB)) suE:=rfl
theorem pN:d71=gF:=rfl
theorem jk{F:AEB}{h:Hp}{tb:Nat}{T:List Nat}(R:h.Row tb 0 (T.map wv))(hT:AE1 T){u:IN}{l:List Nat}(V:h.AEb u (l.map bv))(hb:∀ x∈l,x<256)(hl:l.length<=900000){e:Env}(s0:J 0 e=pt tb)(s1:J 1 e=u)(s5:J 5 e=.int .u32 ((4294967295:Nat):Int))(s10:J 10 e=AI AT (l.length:Int))(s11:J 11 e=AI AT ((0:Nat):Int)):
  ∃ e' h',Aw suB F e h=.exit 0 e' h'/\(h'=h\/h'=h.marked)/\J 5 e'=.int .u32 ((QP T 4294967295 l:Nat):Int):=by
 refine BU (I:=fun i e' h'=>(h'=h\/h'=h.marked)/\∃ s:Nat,J 0 e'=pt tb/\J 1 e'=u/\J 5 e'=.int .u32 (s:Int)/\J 10 e'=AI AT (l.length:Int)/\J 11 e'=AI AT (i:Int)/\i<=l.length/\s<4294967296/\QP T 4294967295 l=QP T s (l.drop i))
  (Q:=fun x=>∃ e' h',x=.exit 0 e' h'/\(h'=h\/h'=h.marked)/\J 5 e'=.int .u32 ((QP T 4294967295 l:Nat):Int)) l.length (by omega) (fun i e' h' ⟨hh,s,t0,t1,t5,t10,t11,hi,hs,hr⟩=>?_) ⟨.inl rfl,4294967295,s0,s1,s5,s10,s11,wP _,by decide,rfl⟩
 have hm:h'.marked=h.marked:=by rcases hh with rfl|rfl<;>rfl
 by_cases hlt:i<l.length
 ·left
  have V2:h.marked.AEb u (l.map bv):=V.same rfl;have R2:h.marked.Row tb 0 (T.map wv):=R.same rfl;obtain⟨a,g1,g2⟩:=JL V2 hlt;have hc:=ge hb i;rw[GP hlt]at hr;generalize l.getD i 0=c at g2 hc hr;have c1:=EF hlt;have v1:DS .u8 (.int .u32 (s:Int)) h.marked=.ok (.int .u8 ((s % 256:Nat):Int)) h.marked:=by rw[Cd,Ii]
  have x1:=ve (h:=h.marked) (show s % 256<256 by omega) hc;have hx:=jx (show s % 256<256 by omega) hc;obtain⟨i1,l1⟩:=rL R2 hT (k:=.u8) hx;have r1:dS .u32 (.int .u32 (s:Int)) (.int .u64 8) h.marked=.ok (.int .u32 ((s/256:Nat):Int)) h.marked:=Wy (j:=.u32) (q:=.u64) (m:=s) (n:=8);have x2:=vE (h:=h.marked) (hT.2 (yg (s % 256) c)) (show s/256<4294967296 by omega);have l1:HN (.pointer (some ⟨tb,yg (s % 256) c,none⟩)) h.marked=.ok (.int .u32 ((T.getD (yg (s % 256) c) 0:Nat):Int)) h.marked:=l1;have hst:=PA hT hs c;have a3:=CF (i:=i) (h:=h.marked) (by omega);have hrun:∃ e2,suB F e' h'=.norm e2 h.marked/\J 0 e2=pt tb/\J 1 e2=u/\J 5 e2=.int .u32 ((yg (T.getD (yg (s % 256) c) 0) (s/256):Nat):Int)/\J 10 e2=AI AT (l.length:Int)/\J 11 e2=AI AT ((i+1:Nat):Int):=by
   unfold suB;simp only[sT,By,BY,reduceIte,AJ,AH,t11,t10,c1,A3,hm,CH,t5,v1,Ay,t1,g1,AK,g2,iT,x1,Ao,t0,Ad,DL,i1,l1,Wc,r1,x2,BG,a3];exact⟨_,rfl,by simp[AD,t0,t1,t10]⟩
  obtain⟨e2,q1,q2,q3,q4,q5,q6⟩:=hrun;exact⟨hlt,e2,h.marked,q1,.inr rfl,_,q2,q3,q4,q5,q6,hlt,hst,hr⟩
 ·right
  have c1:=Cz (show l.length<=i by omega);have hrun:∃ e2,suB F e' h'=.exit 0 e2 h'/\J 5 e2=.int .u32 (s:Int):=by
   unfold suB;simp only[sT,By,BY,reduceIte,AJ,AH,t11,t10,c1];exact⟨_,rfl,by simp[AD,t5]⟩
  obtain⟨e2,q1,q2⟩:=hrun;rw[q1];refine⟨rfl,e2,h',rfl,hh,?_⟩;rw[q2,hr,xL (by omega)];rfl
theorem U4{n:Nat}{h:Hp}{tb:Nat}{T:List Nat}(R:h.Row tb 0 (T.map wv))(hT:AE1 T){u:IN}{l:List Nat}(V:h.AEb u (l.map bv))(hb:∀ x∈l,x<256)(hl:l.length<=900000):
  ∃ h',call AC (n+1) 71 [pt tb,u] h=.ok (.int .u32 ((B9 T l:Nat):Int)) h'/\(h'=h\/h'=h.marked):=by
 have ne:∀ e:Env,J 0 e=pt tb->oEq TP.k false (J 0) (kV (.pointer none)) (call AC n) e h=.ok (.bool false) h:=fun e he=>rD he
 have Vl:=V.bl h;have pre:∃ e1,gF (call AC n) (AQ e0 0 [pt tb,u]) h=suS (call AC n) e1 h/\J 0 e1=pt tb/\J 1 e1=u/\J 5 e1=.int .u32 ((4294967295:Nat):Int)/\J 10 e1=AI AT (l.length:Int)/\J 11 e1=AI AT ((0:Nat):Int):=by
  unfold gF;simp only[iN,IS,sT,By,BY,reduceIte,ne,AX,Vl];exact⟨_,rfl,by simp[AD]⟩
 obtain⟨e1,p1,p2,p3,p4,p5,p6⟩:=pre;obtain⟨e2,h',q1,q2,q3⟩:=jk (F:=call AC n) R hT V hb hl p2 p3 p4 p5 p6;have a1:Ft wi .u32 (.int .u32 4294967295) (.int .u32 ((QP T 4294967295 l:Nat):Int)) h'=.ok (.int .u32 ((B9 T l:Nat):Int)) h':=by
  have hs:=XE hT l 4294967295 (by decide);have:wi 4294967295 ((QP T 4294967295 l:Nat):Int)=((B9 T l:Nat):Int):=by
   show(4294967295:Int) - _=_;unfold B9;omega
  rw[CV,this,TV (by unfold B9;omega)]
 refine⟨h',?_,q2⟩;rw[oP rfl,pN,p1,rK];simp only[BB,Ap,q1,Az,A8];unfold suE;simp only[sT,By,BY,reduceIte,Bu,q3,a1,lV0]
end
end Go.Proofs.YtedbmmfebjfibaaGreat

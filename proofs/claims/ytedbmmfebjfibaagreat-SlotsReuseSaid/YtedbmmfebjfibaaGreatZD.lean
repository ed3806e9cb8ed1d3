/-
  Part ZD of what Lawru stands on: printed by program, names and spaces cut.
-/
import Derived.Test.YtedbmmfebjfibaaGreatZC
import Derived.Laws.BytesString
import Derived.DeepKeys3
open Go renaming Value→BY,IntKind→vQ,Operand→vm,World→vt,TypeId→vx,MapEntry→wJ,Program→wK,newRow→zo,TypeDesc→AAc,BinOp→AB6
open Nat renaming le_refl→IN,zero_add→sh,succ→vD,ble→vJ,beq→vO,lt_or_ge→vd,mul→vr,add→wg,beq_refl→wz,div→xK,mul_one→xd,mod→yR,succ_mul→zM,one_ne_zero→AAQ,le_add_right→ABy,mul_le_mul→ACL
open Go.Result renaming andThen_ok→IS
open List renaming length_append→IT,getD_eq_getElem?_getD→OF,getElem?_append_left→vP,mem_cons→vS,getElem?_toArray→vb,getElem?_cons_zero→vf,getElem?_cons_succ→wE,range→wI,map_cons→yZ,filter_cons→yx,map_map→zA,length_eq_zero_iff→zE,all_cons→zF,drop_drop→AAX,map_flatten→ABl,cons→AB1,all_nil→ACZ
open Go.Sem renaming run_bind→vE,run_pure→vF,run_ite→zL
open Bool renaming and_eq_true→vT,false_eq_true→vo,not_true→wQ,not_false→wm,and_true→AAq
open Go.Op renaming operands→vY,equalIn→yO,equal→zQ
open Go.Instr renaming findAsking→vg,next→xG,typeAssert→xJ,lookup→xr,sameBits→zP,range→zS,mapUpdate→AAE,entry→AAF,sameNow→AAd,findNow→AAe,findKey→AAf,keyThatStays→ABT
open Go.Builtin renaming firstCells→wH,len_→wT,clear_→wX,append_→xV,nextslicecap→xz,delete_→yH,zeroCells→zb,cap_→AAi
open Array renaming ext'→wO,all_eq_true_iff_forall_mem→xD,mem_toList_iff→xF,getElem?_setIfInBounds→xP,getElem?_modify→yD,toList_filter→zg,getElem?_push→ABM,replicate→ABp
open Go.Value renaming int→wb,iface→ABF,formed→ACI
open Option renaming map_some→we
open Go.IntKind renaming i64→xH,signed→ABe,bits→AB2,min→ACB,max→ACC
open Go.Program renaming keyTypeAt→xc,keyLits→yF,eqGuardType→zH
open UInt8 renaming ofNat→yE
open Go.Question renaming forced→ym
open Go.World renaming shape?→AAC,freeze→AAr
open Go.Deferred renaming ofValue→ABJ
open ByteArray renaming empty→ABK
open Go.Oper renaming wp→ACl
open Ne renaming symm→ADD
set_option linter.unusedSimpArgs false
set_option linter.unusedVariables false
namespace Go.Proofs.YtedbmmfebjfibaaGreat
noncomputable section
open Go
section
variable {P:wK}{ty:TTy}{φ:Phi}{E:Nat→Prop}{h h':Hp}{w:vt}{F:ADS}{e:Env}{v:BY}
theorem Yk{ADe en:Nat}{base:Option Addr}{sc need:Nat}{cs:List BY}(hr:JH ADe en base sc need cs h=.ok v h'):
  ∃ (t:VT) (m:Nat),(∀ j,j<cs.length→t.get j=cs.getD j undef)∧m=cs.length∧Ep ADe en base sc need t m h=.ok v h':=by
 unfold JH at hr;split at hr
 case h_2=>cases hr
 rename_i c ADx;exact⟨c,_,Il ADx,BI _,hr⟩
open Classical in
theorem QE{ADe en:Nat}{base:Option Addr}{sl sc need:Nat}{news:List BY}
  (hr:Gw ADe en base sl sc need news h (BH h ADe (.slice base sl sc) sl fun olds=>JH ADe en base sc need (olds++news) h)=.ok v h'):
  ∃ G:List BY→R,BH h ADe (.slice base sl sc) sl G=.ok v h'∧∀ olds,G olds=.ok v h'→∃ (t:VT) (m:Nat),(∀ j,j<(olds++news).length→t.get j=(olds++news).getD j undef)∧
   m=(olds++news).length∧Ep ADe en base sc need t m h=.ok v h':=by
 have AFb:BH h ADe (.slice base sl sc) sl (fun olds=>JH ADe en base sc need (olds++news) h)=.ok v h'→
   ∃ G:List BY→R,BH h ADe (.slice base sl sc) sl G=.ok v h'∧∀ olds,G olds=.ok v h'→∃ (t:VT) (m:Nat),(∀ j,j<(olds++news).length→t.get j=(olds++news).getD j undef)∧
    m=(olds++news).length∧Ep ADe en base sc need t m h=.ok v h':=fun hr=>⟨_,hr,fun olds h=>Yk h⟩
 unfold Gw at hr;split at hr
 ·exact AFb hr
 ·rename_i _ a
  split at hr
  ·rename_i hoff
   split at hr
   ·rename_i c sz ec hrow
    split at hr
    ·rename_i hb
     have hsz:sz=sl * ADe:=Am.1 hb;split at hr
     case h_2=>cases hr
     rename_i t ADx;refine⟨fun olds=>if olds=AEo c 0 sz then Ep ADe en (some a) sc need t (wg sz (A8 news)) h else .no,?_,fun olds ho=>?_⟩
     ·unfold BH
      simp only[hrow,hoff];have hle:vJ (wg 0 (vr sl ADe)) sz=true:=Ab.2 (by show 0+sl*ADe≤sz;omega);rw[hle,Fo,List.append_nil];have:vr sl ADe=sz:=hsz.symm;rw[this];simp only[cond_true,if_true];exact hr
     ·by_cases he:olds=AEo c 0 sz
      ·simp only[he,if_true]at ho
       subst he;refine⟨t,_,fun j hj=>?_,?_,ho⟩
       ·have hl:(AEo c 0 sz).length=sz:=Fv c 0 sz
        rw[Gj _ _ _ _ ADx j,OF (l:=AEo c 0 sz++news)];rw[IT,hl]at hj;rcases vd j sz with hjs|hjs
        ·rw[if_neg (by omega),vP (by omega)]
         simp[AEo,hjs]
        ·rw[if_pos (by omega),List.getElem?_append_right (by omega),hl,← OF]
       ·rw[IT,Fv,BI];rfl
      ·simp only[he,if_false]at ho;cases ho
    ·exact AFb hr
   ·exact AFb hr
  ·exact AFb hr
def CF(elem:vx)(size:Nat)(base:Option Addr)(s:BY)(sLen sCap n:Nat)(AE2:Bool)(x:BY)(AEA:Sem (Array BY)):Sem BY:=do
 let need:=sLen+n
 if need≤sCap then
  let new ← AEA
  if let some a:=base then storeCells (a.add (sLen*size)) new.toList
  pure (.slice base need sCap)
 else
  if(need:Int) > xH.max∧(AE2∨(← typeInfo elem).bytes=0)then runtimePanic (.error "growslice: len out of range")
  if xz need sCap*(← typeInfo elem).bytes > 2 ^ 48 then(if AE2 then runtimePanic (.error "growslice: len out of range")else do
   if !(← Builtin.mayShare size sLen n base x)then mark .noRoom
   unsupported (.resourceLimit "append: a slice or a string whose bytes no memory bears"))
  let AFP ← choose (.appendCap need sCap elem)
  askRoom (AFP*(← typeInfo elem).bytes)
  let old ← wH size sLen s
  let new ← AEA
  let rest:=zb (← zeroValue elem).cells (AFP - need)
  pure (.slice (some (← zo elem (old++new++rest))) need AFP)
theorem IF(H:ADX ty φ E h w)(hE:∀ b,¬ E b){en:Nat}{ei:TI}(hty:ty.get en=some ei)(TE:ADt P en ei)(hes:0<ei.size)(hz:ei.zero.length=ei.size)
  {base base':Option Addr}{sl sc sc' n:Nat}(hs:ADU φ (.slice base sl sc) (.slice base' sl sc')){AE2:Bool}{x':BY}{AEA:Sem (Array BY)}{news news':List BY}
  (hn:ADp φ news news')(hnl:news.length=n*ei.size)(AGk:∀ w':vt,w'.heap=w.heap→AEA.run P w'=.ok ⟨news'⟩ w')
  (hr:(∃ k,sl+n≤sc∧k=(match base with
    |none=>(.ok (.slice none (sl+n) sc) h:R)
    |some a=>Ci (Ey a (sl*ei.size)) news h fun h=>.ok (.slice (some a) (sl+n) sc) h)∧k=.ok v h')∨
   (sc<sl+n∧vJ (vr (vD (sl+n)) (vD ei.bytes)) JN=true∧Bd news=true∧
    ∃ G:List BY→R,BH h ei.size (.slice base sl sc) sl G=.ok v h'∧∀ olds,G olds=.ok v h'→∃ (t:VT) (m:Nat),(∀ j,j<(olds++news).length→t.get j=(olds++news).getD j undef)∧
     m=(olds++news).length∧Ep ei.size en base sc (sl+n) t m h=.ok v h')):
  BM ty φ E h w v h' ((CF en ei.size base' (.slice base' sl sc') sl sc' n AE2 x' AEA).run P w):=by
 obtain⟨inf,AFZ,hsz,hbt,_⟩:=TE.info;obtain⟨z,_,hzr,hzc,hzp⟩:=TE.AEY hz;have hzs:z.cells.size=ei.size:=by rw[← hz,← hzc];simp
 rcases hr with ⟨k,hle,rfl,hr⟩|⟨hlt,AG7,hone,G,hr,hG⟩
 ·cases hs with
  |AEF=>
   cases hr;have:n=0:=by omega
   subst this;have key:(CF en ei.size none (.slice none 0 0) 0 0 0 AE2 x' AEA).run P w=.ok (.slice none 0 0) w:=by
    simp only[CF,IN,if_true,vE,AGk w rfl,IS,vF]
   rw[key];exact .same H .AEF
  |@slice a a' _ _ _ hlc hs=>
   simp only at hr;have h0:sc=0→news=[]:=fun h0=>zE.1 (by
    have:n=0:=by omega
    rw[hnl,this,Nat.zero_mul])
   obtain⟨h1,w1,hk,hrun,H1,ev⟩:=Wy (P:=P) H hE hs h0 hr hn;cases hk;have hcc:sl+n≤sc':=Nat.le_trans hle hs.le;have key:(CF en ei.size (some a') (.slice (some a') sl sc') sl sc' n AE2 x' AEA).run P w=.ok (.slice (some a') (sl+n) sc') w1:=by
    simp only[CF,hcc,if_true,vE,AGk w rfl,IS,hrun,vF]
   rw[key];exact⟨_,_,φ,rfl,.slice hle hs,H1,ev⟩
 ·have hs0:=hs
  obtain⟨olds,AE5,hr,ho,hrun,hl1,hl2,hcell⟩:=Fy (P:=P) H (fun _ _ _ _=>hE _) hs hr (fun m hm=>by cases hm;exact IN _);obtain⟨tr,tn,hT,hN,hr⟩:=hG olds hr;have AG8:=IL hn hone;obtain⟨hm1,hm2⟩:=Um AG7;have hol:olds.length=sl*ei.size:=by
   rw[← ho.length];cases base' with
   |none=>cases hs;have:=hrun w rfl;simp only[wH,vF]at this;cases this;simp
   |some a'=>exact hl1 a' sl sc' rfl
  have AIh:(olds++news).length=(sl+n)*ei.size:=by rw[IT,hol,hnl,Nat.add_mul]
  obtain⟨AIi,AG9⟩:=Yl (P:=P) H hE hty hes hs hlt ho hn hol AIh AG8 (fun a a' ha ha' hpos=>hcell a sl sc (by rw[ha]) hpos) hT hN hr;rcases vd sc' (sl+n)with hroom|hroom
  ·
   let q:Question:=.appendCap (sl+n) sc' en
   let c:Nat:=q.cut (w.tape w.drawn q)
   let w1:vt:={w with drawn:=w.drawn+1}
   have hc:sl+n≤c:=ABy _ _;have hrl:(BO z.cells.toList (c - (sl+n))).length=(c - (sl+n))*ei.size:=by rw[Fu];simp[hzs]
   obtain⟨ψ,hv,H2,ev⟩:=AIi c (BO z.cells.toList (c - (sl+n))) hc hrl {w1 with heap:=w.heap.push (.cells ⟨(AE5++news')++BO z.cells.toList (c - (sl+n))⟩ en)} hroom rfl rfl rfl rfl;have AFe:¬ ((sl+n:Nat):Int) > xH.max:=by
    have:xH.max=9223372036854775807:=by decide
    rw[this];omega
   have hnx:¬ (xz (sl+n) sc'*ei.bytes > 2 ^ 48):=by
    have h1:=eB hroom;have h2:xz (sl+n) sc'*ei.bytes≤(2*(sl+n))*ei.bytes:=Nat.mul_le_mul_right _ h1;have h3:(2*(sl+n))*ei.bytes≤(2*(sl+n+1))*(ei.bytes+1):=ACL (by omega) (by omega);have h4:(2*(sl+n+1))*(ei.bytes+1)=2*((sl+n+1)*(ei.bytes+1)):=by rw[Nat.mul_assoc]
    omega
   have AIj:¬ (sl+n≤sc'):=by omega
   have key:(CF en ei.size base' (.slice base' sl sc') sl sc' n AE2 x' AEA).run P w=.ok (.slice (some ⟨w.heap.size,0,none⟩) (sl+n) c)
     {w1 with heap:=w.heap.push (.cells ⟨(AE5++news')++BO z.cells.toList (c - (sl+n))⟩ en)}:=by
    have ho1:=hrun w1 rfl;have hn1:=AGk w1 rfl;have AE6:q.forced=false:=rfl;simp only[CF,AIj,if_false,vE,run_typeInfo _ AFZ,IS,AFe,false_and,vF,hbt,hnx,zL,run_choose,AE6,vo,run_askRoom];show((wH ei.size sl (.slice base' sl sc')).run P w1).andThen _=_;rw[ho1];simp only[IS];show(AEA.run P w1).andThen _=_;rw[hn1];have AHA:∀ a b:List BY,(⟨a⟩:Array BY)++(⟨b⟩:Array BY)=⟨a++b⟩:=fun a b=>by apply wO;simp
    simp only[IS,hzr,Gq,zo,vE,run_newObj,vF,AHA];rfl
   rw[key];exact⟨_,_,ψ,rfl,hv,H2,ev⟩
  ·
   cases base' with
   |none=>cases hs;omega
   |some a'=>
    obtain⟨w',ψ,hst,hv,H2,ev⟩:=AG9 a' rfl hroom;have key:(CF en ei.size (some a') (.slice (some a') sl sc') sl sc' n AE2 x' AEA).run P w=.ok (.slice (some a') (sl+n) sc') w':=by
     simp only[CF,hroom,if_true,vE,AGk w rfl,IS,hst,vF]
    rw[key];exact⟨_,_,ψ,rfl,hv,H2,ev⟩
theorem Jn{ats:Array vx}{dt st t el:vx}(h0:ats[0]? =some dt)(h1:ats[1]? =some st){ti xi:TI}(T:ADt P dt ti)(hk:ti.k=.slice el)(TX:ADt P st xi)(hx:(∃ q,xi.k=.slice q)∨xi.k=.string){ei:TI}(TE:ADt P el ei){base:Option Addr}{sl sc n:Nat}{x:BY}
  (hn:(Builtin.lenOf x).run P w=.ok n w):
  (xV ats t #[.slice base sl sc,x]).run P w=(CF el ei.size base (.slice base sl sc) sl sc n false x (wH ei.size n x)).run P w:=by
 obtain⟨d,hd,hkd⟩:=T.desc;rw[hk]at hkd;cases hkd;obtain⟨dx,hdx,hkx⟩:=TX.desc;rcases hx with ⟨q,hx⟩|hx<;>rw[hx]at hkx<;>cases hkx<;>
 ·unfold xV CF
  simp only[vE,hd,IS,TE.size,vF,h0,h1,vb,vf,wE,hdx,vo,if_false,hn,wm,if_true];rfl
theorem MY(H:ADX ty φ E h w)(hE:∀ b,¬ E b){s x:O}{s' x':BY}{ats:Array vx}{dt st t el:vx}(h0:ats[0]? =some dt)(h1:ats[1]? =some st){ti xi ei:TI}(T:ADt P dt ti)(hk:ti.k=.slice el)(TX:ADt P st xi)(hxk:(∃ q,xi.k=.slice q)∨xi.k=.string)
  (hty:ty.get el=some ei)(TE:ADt P el ei)(hes:0<ei.size)(hz:ei.zero.length=ei.size)
  (hs:ADU φ (s e) s')(hx:ADU φ (x e) x')(hr:Bi ei.size ei.bytes el s x F e h=.ok v h'):BM ty φ E h w v h' ((xV ats t #[s',x']).run P w):=by
 unfold Bi Db at hr;split at hr
 case h_2=>cases hr
 rename_i base sl sc hse;rw[hse]at hs;split at hr
 case h_2=>cases hr
 rename_i n hn;obtain⟨news,news',hr,hnr,hrun,hl1,hl2,_⟩:=Fy (P:=P) H (fun _ _ _ _=>hE _) hx hr (fun m hm=>by rw[hn]at hm;cases hm;exact IN _);rw[AZ]at hr;have hlen:=QZ (P:=P) (w:=w) hx hn;have hb:∃ base' sc',s'=.slice base' sl sc':=by
  cases hs
  ·exact⟨_,_,rfl⟩
  ·exact⟨_,_,rfl⟩
 obtain⟨base',sc',rfl⟩:=hb;rw[Jn h0 h1 T hk TX hxk TE hlen];have hnl:news.length=n*ei.size:=by
  rw[← hnr.length];cases x' with
  |string s=>obtain⟨q1,q2⟩:=hl2 s rfl;rw[q1,q2,xd]
  |slice a l c=>
   cases a with
   |some a=>exact hl1 a l c rfl
   |none=>
    have:=hrun w rfl;simp only[wH,vF]at this;cases this;have hn0:n=0:=by
     generalize x e=xv at hx hn;cases hx
     ·unfold lenV at hn;cases hn;rfl
     ·unfold lenV at hn;cases hn
    rw[hn0];simp
  |_=>have:=hrun w rfl;simp only[wH]at this;cases this
 refine IF (P:=P) H hE hty TE hes hz hs hnr hnl hrun ?_;split at hr
 ·rename_i hb
  refine .inl ⟨_,Ab.1 hb,rfl,?_⟩;exact hr
 ·rename_i hb
  obtain⟨hm,hr⟩:=Bk hr;obtain⟨hone,hr⟩:=Bk hr;refine .inr ⟨?_,hm,hone,QE hr⟩;rcases vd sc (sl+n)with h|h
  ·exact h
  ·exact absurd (Ab.2 (show wg sl n≤sc from h)) (by rw[hb];simp)
theorem K4{ats:Array vx}{dt st t el:vx}(h0:ats[0]? =some dt)(h1:ats[1]? =some st){ti xi:TI}(T:ADt P dt ti)(hk:ti.k=.slice el)(TX:ADt P st xi){q:vQ}(hx:xi.k=.int q){ei:TI}(TE:ADt P el ei){base:Option Addr}{sl sc n:Nat}{q':vQ}
  (hn1:n≤70368744177664)(hn2:n*ei.bytes≤70368744177664):
  (xV ats t #[.slice base sl sc,.int q' (n:Nat)]).run P w=(CF el ei.size base (.slice base sl sc) sl sc n true (.int q' (n:Nat))
   (if n*ei.size=0 then pure #[]else do pure (zb (← zeroValue el).cells n))).run P w:=by
 obtain⟨d,hd,hkd⟩:=T.desc;rw[hk]at hkd;cases hkd;obtain⟨dx,hdx,hkx⟩:=TX.desc;rw[hx]at hkx;cases hkx;obtain⟨inf,AFZ,hsz,hbt,_⟩:=TE.info;have w1:xH.wrap (n:Int)=n:=Hh (by omega);have q0:¬ ((n:Int)<0):=by omega
 have q1:¬ ((n:Int)*(ei.bytes:Int) > 2 ^ 48):=by rw[← Int.natCast_mul];omega
 unfold xV CF;simp only[vE,hd,IS,TE.size,vF,vb,vf,wE,h0,h1,hdx,if_true,asInt,asIntOf,w1,q0,if_false,run_typeInfo _ AFZ,hbt,q1,Int.toNat_natCast,wQ,vo];rfl
theorem Qn(H:ADX ty φ E h w)(hE:∀ b,¬ E b){s x:O}{s' x':BY}{ats:Array vx}{dt st t el:vx}(h0:ats[0]? =some dt)(h1:ats[1]? =some st){ti xi ei:TI}(T:ADt P dt ti)(hk:ti.k=.slice el)(TX:ADt P st xi){q:vQ}(hxk:xi.k=.int q)
  (hty:ty.get el=some ei)(TE:ADt P el ei)(hes:0<ei.size)(hz:ei.zero.length=ei.size)
  (hs:ADU φ (s e) s')(hx:ADU φ (x e) x')(hr:FQ ei.size ei.bytes el ei.zero s x F e h=.ok v h'):BM ty φ E h w v h' ((xV ats t #[s',x']).run P w):=by
 unfold FQ Hj at hr;split at hr
 case h_2=>cases hr
 rename_i base sl sc hse;rw[hse]at hs;split at hr
 case h_2=>cases hr
 rename_i n hn;obtain⟨q',rfl⟩:=EC hx hn;rw[AZ]at hr;have hb:∃ base' sc',s'=.slice base' sl sc':=by
  cases hs
  ·exact⟨_,_,rfl⟩
  ·exact⟨_,_,rfl⟩
 obtain⟨base',sc',rfl⟩:=hb;obtain⟨hm,hr⟩:=Bk hr;obtain⟨hone,hr⟩:=Bk hr;obtain⟨hm1,hm2⟩:=Um hm;have AJ2:sl+n≤70368744177664:=hm1;have AJ3:(sl+n+1)*(ei.bytes+1)≤70368744177664:=hm2;have hnb:n*ei.bytes≤(sl+n+1)*(ei.bytes+1):=ACL (by omega) (by omega);rw[K4 h0 h1 T hk TX hxk TE (by omega) (by omega)];obtain⟨z,_,hzr,hzc,hzp⟩:=TE.AEY hz;have hzs:z.cells.size=ei.size:=by rw[← hz,← hzc];simp
 have ADy:ADp φ (BO ei.zero n) (BO ei.zero n):=Ha (.plain hzp) n;have hnl:(BO ei.zero n).length=n*ei.size:=by rw[Fu,hz]
 have AHB:Bd (BO ei.zero n)=true:=by
  have app:∀ a b:List BY,Bd a=true→Bd b=true→Bd (a++b)=true:=by
   intro a
   induction a with
   |nil=>intro b _ h;exact h
   |cons u a ih=>
    intro b h1 h2;unfold Bd at h1;cases hu:oneCell u with
    |false=>rw[hu]at h1;cases h1
    |true=>
     rw[hu]at h1;show(bif oneCell u then Bd (a++b)else false)=true;rw[hu];exact ih b h1 h2
  have:∀ n,Bd (BO ei.zero n)=true:=by
   intro n
   induction n with
   |zero=>rfl
   |succ n ih=>exact app _ _ hone ih
  exact this n
 refine IF (P:=P) H hE hty TE hes hz hs ADy hnl (fun w' _=>?_) ?_
 ·by_cases h0:n*ei.size=0
  ·rw[if_pos h0]
   have:BO ei.zero n=[]:=zE.1 (by rw[hnl,h0]);rw[this];rfl
  ·rw[if_neg h0]
   simp only[vE,hzr,IS,Gq,hzc,vF]
 ·split at hr
  ·rename_i hb
   exact .inl ⟨_,Ab.1 hb,rfl,hr⟩
  ·rename_i hb
   refine .inr ⟨?_,hm,AHB,QE hr⟩;rcases vd sc (sl+n)with h|h
   ·exact h
   ·exact absurd (Ab.2 (show wg sl n≤sc from h)) (by rw[hb];simp)
end
end
noncomputable section
open Go
section
variable {P:wK}{ty:TTy}{φ:Phi}{E:Nat→Prop}{h h':Hp}{w:vt}{F:ADS}{e:Env}{v:BY}
theorem Ll:∀ {cs cs':List BY} {bs:List UInt8},ADp φ cs cs'→Ef cs=some bs→
  ∃ ns:List Int,cs'=ns.map (wb .u8)∧∀ s:ByteArray,(ns.foldl (fun r n=>r.push (yE n.toNat)) s).data.toList=s.data.toList++bs
 |_,_,bs,.nil,hb=>by
  cases hb;exact⟨[],rfl,fun s=>by simp⟩
 |_,_,bs,.cons (v:=u) (v':=u') (l:=l) (l':=l') hu t,hb=>by
  unfold Ef at hb;split at hb
  ·cases ‹_::_=[]›
  ·rename_i n l2 heq
   injection heq with h1 h2
   subst h1;subst h2;split at hb
   ·rename_i bs' hbs
    rw[AZ]at hb;cases hb;obtain⟨ns,hns,hf⟩:=Ll t hbs;have:=hu.ADz;subst this;refine⟨(n:Int)::ns,by rw[hns];rfl,fun s=>?_⟩;rw[List.foldl_cons,hf];simp
   ·cases hb
  ·cases hb
theorem Wl(H:ADX ty φ E h w){x:O}(hE:∀ a l c,x e=.slice (some a) l c→¬ E a.block){x':BY}{src dst el:vx}{si di ei:TI}(TS:ADt P src si)(hs:si.k=.slice el)(TD:ADt P dst di)(hd:di.k=.string)(TE:ADt P el ei)(he:ei.k=.int .u8)
  (hx:ADU φ (x e) x')(hr:FR x F e h=.ok v h'):BM ty φ E h w v h' ((convert src dst x').run P w):=by
 obtain⟨d1,h1,k1⟩:=TS.und;obtain⟨d2,h2,k2⟩:=TD.und;obtain⟨d3,h3,k3⟩:=TE.und;rw[hs]at k1;cases k1;rw[hd]at k2;cases k2;rw[he]at k3;cases k3;unfold FR at hr;split at hr
 case h_2=>cases hr
 rename_i a n c hxe;rw[hxe]at hx;have hx0:=hx;obtain⟨cs,cs',hr,hcs,hrun,hl1,hl2,_⟩:=Fy (P:=P) H (fun a l c heq=>by cases heq;exact hE _ _ _ hxe) hx hr (fun m hm=>by cases hm;exact IN _);split at hr
 case h_2=>cases hr
 rename_i bs hbs;cases hr;obtain⟨ns,hns,hf⟩:=Ll hcs hbs;have AGQ:=hf ABK;have AHv:=HC (a:=ns.foldl (fun r n=>r.push (yE n.toNat)) ABK) (l:=bs) (by rw[AGQ];rfl);cases hx with
 |AEF=>
  rw[run_convert_bytes_string w src dst el none 0 0 h1 h3 h2];have:=hrun w rfl;simp only[wH,vF]at this;have AGD:cs'=[]:=by cases this;rfl
  have AIk:ns=[]:=by
   rw[AGD]at hns;cases ns with
   |nil=>rfl
   |cons _ _=>cases hns
  subst AIk;rw[← AHv];exact .same H (.string _)
 |@slice _ a' _ _ c' hlc hsl=>
  rw[run_convert_bytes_string w src dst el (some a') n c' h1 h3 h2];have hld:(loadCells a' n).run P w=.ok (ns.map (wb .u8)).toArray w:=by
   have:=hrun w rfl;rw[hns]at this;simp only[wH,xd]at this;exact this
  rw[run_bytesToString w a' n c' ns hld,AHv];exact .same H (.string _)
theorem Qh(A:Array Obj)(x:Obj)(f:Obj→Obj):(A.push x).modify A.size f=A.push (f x):=by
 apply Array.ext_getElem?;intro i;rw[yD,ABM,ABM];by_cases hi:i=A.size
 ·subst hi;simp
 ·rw[if_neg (ADD hi),if_neg hi,if_neg hi]
theorem Y9(w:vt)(A:Array BY)(el:vx):(markStringish ⟨w.heap.size,0,none⟩).run P {w with heap:=w.heap.push (.cells A el)}=
  .ok () {w with heap:=w.heap.push (.cells A el (A.size,A.size+1))}:=by
 have hs:AAC {w with heap:=w.heap.push (.cells A el)} w.heap.size=some (el,A.size):=by simp[AAC]
 simp only[markStringish,vE,run_shape,IS,hs,run_freeze,AAr,AAQ,if_false,Qh];rfl
theorem Qy(H:ADX ty φ E h w){x:O}{x':BY}{src dst el:vx}{si di ei:TI}(TS:ADt P src si)(hs:si.k=.string)(TD:ADt P dst di)(hd:di.k=.slice el)(TE:ADt P el ei)(he:ei.k=.int .u8)
  (hty:ty.get el=some ei)(hz:ei.size=1)(hx:ADU φ (x e) x')(hr:Me el x F e h=.ok v h'):BM ty φ E h w v h' ((convert src dst x').run P w):=by
 obtain⟨d1,h1,k1⟩:=TS.und;obtain⟨d2,h2,k2⟩:=TD.und;obtain⟨d3,h3,k3⟩:=TE.und;rw[hs]at k1;cases k1;rw[hd]at k2;cases k2;rw[he]at k3;cases k3;unfold Me at hr;split at hr
 case h_2=>cases hr
 rename_i s hxe;rw[hxe]at hx;obtain rfl:=hx.ADr;rw[AZ,BI]at hr;obtain⟨hb,hr⟩:=Bk hr
 let q:Question:=.appendCap s.size 0 el
 let c:Nat:=q.cut (w.tape w.drawn q)
 have hc:s.size≤c:=ABy _ _
 let cells:List BY:=s.data.toList.map fun b=>.int .u8 (b.toNat:Int)
 let rest:List BY:=List.replicate (c - s.size) (.int .u8 0)
 have hcl:cells.length=s.size:=by simp[cells]
 let w':vt:={w with drawn:=w.drawn+1,heap:=w.heap.push (.cells ⟨cells++rest⟩ el (c,c+1))}
 have hsz:(⟨cells++rest⟩:Array BY).size=c:=by simp[rest,hcl];omega
 have ADy:ADp φ (Ca s.data.toList) cells:=Kg _;have hlen:(Ca s.data.toList).length=s.size:=by rw[← ADy.length,hcl]
 obtain⟨hh1,hk,H1,ev⟩:=Nn (cs':=⟨cells++rest⟩) (t:=el) (fr:=(c,c+1)) (w':=w')
  (p:={blk:=w.heap.size,off:=0,sz:=(Ca s.data.toList).length,room:=(⟨cells++rest⟩:Array BY).size,es:=1}) H hr rfl ⟨rfl,.inr ⟨el,ei,rfl,hty,hz.symm⟩⟩ (by rw[hlen,hsz];exact hc) (.inr (by rw[hsz];exact IN _))
  (fun j u hj=>by
   obtain⟨u',hu,hru⟩:=ADy.get j u hj;refine⟨u',?_,hru⟩;have hj':j<cells.length:=by
    rcases vd j cells.length with h|h
    ·exact h
    ·rw[List.getElem?_eq_none h]at hu;cases hu
   simp only[vb];rw[vP hj'];exact hu) rfl rfl rfl rfl
 cases hk;have key:(convert src dst (.string s)).run P w=.ok (.slice (some ⟨w.heap.size,0,none⟩) s.size c) w':=by
  have AE6:(Question.appendCap s.size 0 el).forced=false:=rfl;have AIl:(s.data.map fun b=>(wb .u8 (b.toNat:Int)))++ABp (c - s.size) (wb .u8 0)=⟨cells++rest⟩:=by
   apply wO;simp[cells,rest]
  have hm:=Y9 (P:=P) {w with drawn:=w.drawn+1} ⟨cells++rest⟩ el;rw[hsz]at hm;simp only[convert,vE,run_underlying h1,run_underlying h2,run_underlying h3,IS,Conv.stringToBytes,run_choose,AE6,vo,if_false,zo,run_newObj,vF];show(((markStringish ⟨w.heap.size,0,none⟩).run P {w with drawn:=w.drawn+1,heap:=w.heap.push (.cells ((s.data.map fun b=>(wb .u8 (b.toNat:Int)))++ABp (c - s.size) (wb .u8 0)) el)}).andThen
   fun _ w''=>Result.ok (Value.slice (some ⟨w.heap.size,0,none⟩) s.size c) w'')=_
  rw[AIl];have hm':(markStringish ⟨w.heap.size,0,none⟩).run P {w with drawn:=w.drawn+1,heap:=w.heap.push (.cells ⟨cells++rest⟩ el)}=.ok () w':=hm;rw[hm'];rfl
 rw[key];refine⟨_,_,_,rfl,?_,H1,ev⟩;have e1:s.data.toList.length=s.size:=rfl;rw[e1];refine .slice (IN _) ⟨rfl,rfl,_,Phi.AED _ _ _,rfl,?_⟩;rcases Nat.eq_zero_or_pos s.size with h0|h0
 ·refine .inr ⟨h0,.inr ⟨?_,?_⟩⟩
  ·simp only[hlen,h0]
  ·simp only[hlen,hsz,h0];omega
 ·refine .inl ⟨h0,rfl,.inr ⟨?_,hc,?_⟩⟩
  ·simp only[hlen];omega
  ·simp only[hsz];omega
end
end
noncomputable section
open Go
section
variable {P:wK}{ty:TTy}{φ:Phi}{h:Hp}{w:vt}{e:Env}{v:BY}{f:Fr}
def FY:BY→Lit
 |.bool b=>.bool b
 |.int q n=>.int q n
 |.string s=>.string s.data.toList
 |_=>.bool false
theorem mX{k:vQ}{n:Int}(h:inK k n=true):(Lit.int k n).wf=true:=by
 unfold Lit.wf;simp only[vT,decide_eq_true_eq];cases n with
 |ofNat m=>
  have h:vJ m (BB k)=true:=h;have:=Ab.1 h;cases k<;>simp[ACB,ACC,ABe,AB2,BB]at this ⊢<;>omega
 |negSucc m=>
  cases k<;>simp only[inK]at h<;>first|(cases h;done)|skip
  all_goals
   have:=Ab.1 h;simp[ACB,ACC,ABe,AB2,BB]at this ⊢;omega
theorem HD{k:vQ}{v:BY}(h:K6 (.i k) v=true):∃ n,v=.int k n∧(Lit.int k n).wf=true:=by
 unfold K6 at h;simp only at h;split at h
 ·split at h
  ·rename_i hq
   exact⟨_,by rw[Hc hq],mX h⟩
  ·cases h
 ·cases h
theorem GE{v:BY}(h:K6 .b v=true):∃ b,v=.bool b:=by
 unfold K6 at h;simp only at h;split at h
 ·exact⟨_,rfl⟩
 ·cases h
theorem HE{v:BY}(h:K6 .s v=true):∃ s,v=.string s∧s.size≤maxLen:=by
 unfold K6 at h;simp only at h;split at h
 ·rename_i s
  refine⟨s,rfl,?_⟩;have:=Ab.1 h;rw[BI]at this;have e:s.data.toList.length=s.size:=by simp
  have hm:most≤maxLen:=by unfold most maxLen;omega
  omega
 ·cases h
theorem DC{l:List BY}(h:ES [] l=true):l=[]:=by
 cases l with
 |nil=>rfl
 |cons=>cases h
theorem Cb{c:CK}{ks:List CK}{l:List BY}(h:ES (c::ks) l=true):∃ v r,l=v::r∧K6 c v=true∧ES ks r=true:=by
 cases l with
 |nil=>cases h
 |cons v r=>
  unfold ES at h;split at h
  ·rename_i hc;exact⟨v,r,rfl,hc,h⟩
  ·cases h
theorem JD:∀ {ks:List CK} {l:List BY},ES ks l=true→l.length=ks.length
 |[],l,h=>by rw[DC h];rfl
 |c::ks,l,h=>by
  obtain⟨v,r,rfl,_,hr⟩:=Cb h;simp[JD hr]
theorem HF:∀ {a b:List CK} {l:List BY},ES (a++b) l=true→ES a (l.take a.length)=true∧ES b (l.drop a.length)=true
 |[],b,l,h=>⟨rfl,h⟩
 |c::a,b,l,h=>by
  obtain⟨v,r,rfl,hc,hr⟩:=Cb h;obtain⟨h1,h2⟩:=HF hr;refine⟨?_,by simpa using h2⟩;show ES (c::a) (v::r.take a.length)=true;unfold ES;rw[hc];exact h1
theorem IW{c:CK}{v:BY}(h:K6 c v=true):∃ l:Lit,FY v=l∧v=l.toCell∧l.keyWf:=by
 cases c with
 |i k=>obtain⟨n,rfl,hw⟩:=HD h;exact⟨.int k n,rfl,rfl,hw⟩
 |b=>obtain⟨b,rfl⟩:=GE h;exact⟨.bool b,rfl,rfl,trivial⟩
 |s=>obtain⟨s,rfl,hs⟩:=HE h;exact⟨.string s.data.toList,rfl,rfl,by show s.data.toList.length≤maxLen;simpa using hs⟩
theorem P5{ks:List CK}:∀ {l l':List BY},ES ks l=true→ADp φ l l'→l'=l:=by
 induction ks with
 |nil=>intro l l' h hr;rw[DC h]at hr ⊢;cases hr;rfl
 |cons c ks ih=>
  intro l l' h hr;obtain⟨v,r,rfl,hc,hr'⟩:=Cb h;cases hr with
  |cons hv ht=>
   rw[ih hr' ht]
   congr 1
   cases c with
   |i k=>obtain⟨n,rfl,_⟩:=HD hc;exact hv.ADz
   |b=>obtain⟨n,rfl⟩:=GE hc;exact hv.AEK
   |s=>obtain⟨n,rfl,_⟩:=HE hc;exact hv.ADr
theorem Fj{x:BY}(hne:∀ l,x≠.agg l):cellsOf x=[x]:=by
 unfold cellsOf;split
 ·rename_i l;exact absurd rfl (hne l)
 ·rfl
theorem C6{K:KS}{x:BY}(h:Fd K x=true):ES K.ks (cellsOf x)=true∧cellsOf x=x.cells.toList∧((K.agg=true∧∃ l,x=.agg ⟨l⟩)∨(K.agg=false∧(∀ l,x≠.agg l)∧∀ l,x≠.tuple l)):=by
 unfold Fd at h;split at h
 ·rename_i cs
  split at h
  ·rename_i ha
   exact⟨h,rfl,.inl ⟨ha,cs.toList,rfl⟩⟩
  ·cases h
 ·rename_i hne
  split at h
  ·cases h
  ·rename_i ha
   have AFv:∀ l,x≠.agg l:=fun l e=>hne l e
   have hc:cellsOf x=[x]:=by
    unfold cellsOf;split
    ·rename_i l;exact absurd rfl (AFv l)
    ·rfl
   have hnt:∀ l,x≠.tuple l:=by
    intro l e;subst e;cases hk:K.ks with
    |nil=>rw[hk]at h;cases h
    |cons c ks=>
     rw[hk]at h;obtain⟨v,r,e,hc,_⟩:=Cb h;cases e;cases c<;>cases hc
   refine⟨by rw[hc];exact h,?_,.inr ⟨ha,AFv,hnt⟩⟩;rw[hc];cases x<;>first|rfl|exact absurd rfl (AFv _)|exact absurd rfl (hnt _)
theorem JC{K:KS}{x x':BY}(h:Fd K x=true)(hr:ADU φ x x'):x'=x:=by
 obtain⟨h1,h2,h3⟩:=C6 h;rcases h3 with ⟨_,l,rfl⟩|⟨_,hne,hnt⟩
 ·cases hr with
  |agg hr=>rw[P5 h1 hr];rfl
 ·have hc:cellsOf x=[x]:=Fj hne
  rw[hc]at h1;have:=P5 h1 (.cons hr .nil);exact AB1.inj this |>.1
theorem MT{α β:Type}{f:α→Option β}{g:α→β}:∀ {L:List α},(∀ x∈L,f x=some (g x))→L.mapM f=some (L.map g)
 |[],_=>rfl
 |x::L,h=>by
  rw[List.mapM_cons,h x (by simp),MT fun y hy=>h y (by simp[hy])];rfl
theorem P6{ks:List CK}:∀ {m:Nat} {cs:List BY},ES (BO ks m) cs=true→cs.length=m*ks.length∧∀ i,i<m→ES ks ((cs.drop (i*ks.length)).take ks.length)=true
 |0,cs,h=>by
  refine⟨?_,fun i hi=>absurd hi (Nat.not_lt_zero _)⟩;rw[DC h];simp
 |m+1,cs,h=>by
  have h:ES (ks++BO ks m) cs=true:=h;obtain⟨h1,h2⟩:=HF h;obtain⟨h3,h4⟩:=P6 h2;have hl:=JD h1;refine⟨?_,fun i hi=>?_⟩
  ·simp only[List.length_take,List.length_drop]at hl h3
   rw[zM];omega
  ·cases i with
   |zero=>simpa using h1
   |succ i=>
    have:=h4 i (by omega);rw[AAX]at this;rw[zM,Nat.add_comm];exact this
theorem P9{P:wK}{rec:Nat→Option (List CK)}:∀ {L:List Field} {off:Nat} {ks:List CK},flatK.flatF rec off (L.map fun f=>(f.offset,P.cellsOf f.type,f.type))=some ks→
  (∀ f∈L,∃ kf,rec f.type=some kf)∧
  ∀ cs:List BY,ES ks (cs.drop off)=true→(∀ f∈L,∀ kf,rec f.type=some kf→ES kf ((cs.drop f.offset).take (P.cellsOf f.type))=true)∧
   ((L.map fun f=>(cs.drop f.offset).take (P.cellsOf f.type)).flatten=cs.drop off)
 |[],off,ks,hk=>by
  cases hk;refine⟨(fun f hf=>by cases hf),fun cs h=>⟨(fun f hf=>by cases hf),?_⟩⟩;rw[DC h];rfl
 |f::L,off,ks,hk=>by
  rw[yZ]at hk;unfold flatK.flatF at hk;split at hk
  case h_2=>cases hk
  rename_i ho;split at hk
  case h_2=>cases hk
  rename_i kf hkf;split at hk
  case h_2=>cases hk
  rename_i hl;split at hk
  case h_2=>cases hk
  rename_i r hr;cases hk;have ho:f.offset=off:=Am.1 ho;have hl:kf.length=P.cellsOf f.type:=by rw[← Am.1 hl,BI]
  obtain⟨i1,i2⟩:=P9 hr;refine⟨fun g hg=>?_,fun cs h=>?_⟩
  ·rcases vS.1 hg with rfl|hg
   ·exact⟨kf,hkf⟩
   ·exact i1 g hg
  ·obtain⟨h1,h2⟩:=HF h
   rw[hl]at h1 h2;rw[AAX]at h2;obtain⟨i3,i4⟩:=i2 cs h2;refine⟨fun g hg kg hkg=>?_,?_⟩
   ·rcases vS.1 hg with rfl|hg
    ·rw[hkf]at hkg;cases hkg
     rw[ho];exact h1
    ·exact i3 g hg kg hkg
   ·rw[yZ,List.flatten_cons,i4,ho]
    have:cs.drop (wg off (P.cellsOf f.type))=(cs.drop off).drop (P.cellsOf f.type):=by rw[AAX];rfl
    rw[this,List.take_append_drop]
theorem OV{t:Nat}{fs:Array Field}(hu:P.underlying t=some (.struct fs))(hf:AFc P t=true):
  (∀ f∈fs.toList,(f.name != "_")=true)∧(!(P.cutTypes.any (·.2 == t)) && !P.stoodInHeld t)=true:=by
 unfold AFc at hf;rw[hu]at hf;simp only[vT,xD]at hf;obtain⟨⟨h1,h2⟩,h3⟩:=hf;exact⟨fun f hm=>h1 f (xF.1 hm),by rw[h2,h3];rfl⟩
theorem Eo(hT:Ck P ty):∀ (n t:Nat) (ks:List CK),flatK ty n t=some ks→
  P.keyTypeAt n t=true∧(∀ d,n≤d→P.eqGuardType d t=false)∧(∀ ti,ty.get t=some ti→ti.k.agg=true→ks.length=ti.size)∧
  ∀ cs,ES ks cs=true→P.keyLits n t cs=some (cs.map FY)
 |0,t,ks,h=>by cases h
 |n+1,t,ks,h=>by
  unfold flatK at h;cases hg:ty.get t with
  |none=>rw[hg]at h;cases h
  |some ti=>
   simp only[hg]at h;have T:=hT t ti hg;obtain⟨d,hd,hk⟩:=T.und;have hcell:=T.cells;have plain:∀ {d:AAc},(match d with|.interface _=>true|.struct _=>true|.array _ _=>true|_=>false)=false→P.underlying t=some d→∀ q,n+1≤q→P.eqGuardType q t=false:=by
    intro d h1 hd q hq;cases q with
    |zero=>omega
    |succ q=>unfold zH;rw[hd];cases d<;>first|rfl|cases h1
   cases hkk:ti.k with
   |int k=>
    simp only[hkk]at h;rw[hkk]at hk;cases hk;cases h;refine⟨by unfold xc;rw[hd],plain rfl hd,(fun ti' ht' ha=>by cases ht';rw[hkk]at ha;cases ha),fun cs hf=>?_⟩;obtain⟨v,r,rfl,hc,hr⟩:=Cb hf;obtain rfl:=DC hr;obtain⟨m,rfl,hw⟩:=HD hc;unfold yF;rw[hd];simp[hw,FY]
   |bool=>
    simp only[hkk]at h;rw[hkk]at hk;cases hk;cases h;refine⟨by unfold xc;rw[hd],plain rfl hd,(fun ti' ht' ha=>by cases ht';rw[hkk]at ha;cases ha),fun cs hf=>?_⟩;obtain⟨v,r,rfl,hc,hr⟩:=Cb hf;obtain rfl:=DC hr;obtain⟨m,rfl⟩:=GE hc;unfold yF;rw[hd];simp[FY]
   |string=>
    simp only[hkk]at h;rw[hkk]at hk;cases hk;cases h;refine⟨by unfold xc;rw[hd],plain rfl hd,(fun ti' ht' ha=>by cases ht';rw[hkk]at ha;cases ha),fun cs hf=>?_⟩;obtain⟨v,r,rfl,hc,hr⟩:=Cb hf;obtain rfl:=DC hr;obtain⟨m,rfl,hw⟩:=HE hc;unfold yF;rw[hd];simp[hw,FY]
   |arr m el=>
    simp only[hkk]at h;rw[hkk]at hk;cases hk;split at h
    case h_2=>cases h
    rename_i ei hei;split at h
    case h_2=>cases h
    rename_i ke hke;split at h
    case h_2=>cases h
    rename_i hl;split at h
    case h_2=>cases h
    rename_i hm;cases h;obtain⟨i1,i2,_,i3⟩:=Eo hT n el ke hke;have hce:=(hT el ei hei).cells;have hl:ke.length=ei.size:=by rw[← Am.1 hl,BI]
    have hm:m*ei.size=ti.size:=Am.1 hm;have AIm:∀ m,(BO ke m).length=m*ke.length:=by
     intro m
     induction m with
     |zero=>simp[BO]
     |succ m ih=>rw[BO,IT,ih,zM];omega
    refine⟨by unfold xc;rw[hd];exact i1,fun q hq=>?_,(fun ti' ht' ha=>by cases ht';rw[AIm,hl,hm]),fun cs hf=>?_⟩
    ·cases q with
     |zero=>omega
     |succ q=>unfold zH;rw[hd];exact i2 q (by omega)
    ·obtain⟨f1,f2⟩:=P6 hf
     have hlen:cs.length=P.cellsOf t:=by rw[hcell,← hm,f1,hl]
     have hmap:(wI m).mapM (fun i=>P.keyLits n el ((cs.drop (i*P.cellsOf el)).take (P.cellsOf el)))=some ((wI m).map fun i=>((cs.drop (i*P.cellsOf el)).take (P.cellsOf el)).map FY):=
      MT fun i hi=>by
       rw[hce,← hl];exact i3 _ (f2 i (List.mem_range.1 hi))
     unfold yF;rw[hd];simp only[hlen,if_true,hmap,we]
     congr 1
     have:=chunks_flatten (P.cellsOf el) m cs (by rw[hce,← hl];exact f1)
     conv=>rhs;rw[← this]
     rw[ABl,zA];rfl
   |struct fs=>
    simp only[hkk]at h;rw[hkk]at hk;cases hk with
    |@struct _ fields hfs _=>
     split at h
     case h_2=>cases h
     rename_i ks' hks;split at h
     case h_2=>cases h
     rename_i hl;cases h;have hl:ks.length=ti.size:=by rw[← Am.1 hl,BI]
     rw[← hfs]at hks;obtain⟨j1,j2⟩:=P9 hks;obtain⟨n1,n2⟩:=OV hd T.AIc;refine⟨?_,fun q hq=>?_,(fun ti' ht' ha=>by cases ht';exact hl),fun cs hf=>?_⟩
     ·unfold xc
      rw[hd];simp only[Bool.and_assoc,n2,AAq];rw[xD];intro f hm;obtain⟨kf,hkf⟩:=j1 f (xF.2 hm);rw[n1 f (xF.2 hm),(Eo hT n f.type kf hkf).1];rfl
     ·cases q with
      |zero=>omega
      |succ q=>
       unfold zH;rw[hd];simp only;rw[Array.any_eq_false];intro i hi;obtain⟨kf,hkf⟩:=j1 fields[i] (xF.2 (Array.getElem_mem hi));rw[(Eo hT n _ kf hkf).2.1 q (by omega)];simp
     ·have hf0:ES ks (cs.drop 0)=true:=hf
      obtain⟨k1,k2⟩:=j2 cs hf0;have hlen:cs.length=P.cellsOf t:=by rw[hcell,← hl,JD hf]
      have hmap:fields.toList.mapM (fun f=>P.keyLits n f.type ((cs.drop f.offset).take (P.cellsOf f.type)))=some (fields.toList.map fun f=>((cs.drop f.offset).take (P.cellsOf f.type)).map FY):=
       MT fun f hm=>by
        obtain⟨kf,hkf⟩:=j1 f hm;exact(Eo hT n f.type kf hkf).2.2.2 _ (k1 f hm kf hkf)
      have hall:fields.all (·.name != "_")=true:=by
       rw[xD];intro f hm;exact n1 f (xF.2 hm)
      unfold yF;rw[hd];simp only[hlen,hall,and_self,if_true,hmap,we]
      congr 1
      have:cs=cs.drop 0:=rfl
      conv=>rhs;rw[this,← k2]
      rw[ABl,zA];rfl
   |_=>simp only[hkk]at h;cases h
theorem Jy{c:CK}{a b:BY}(ha:K6 c a=true)(hb:K6 c b=true){r:Bool}(hr:Lp a b=some r):r=true↔FY a=FY b:=by
 cases c with
 |i k=>
  obtain⟨m,rfl,_⟩:=HD ha;obtain⟨n,rfl,_⟩:=HD hb;unfold Lp at hr;simp only at hr;split at hr
  ·cases hr;rw[D9];simp[FY]
  ·cases hr
 |b=>
  obtain⟨m,rfl⟩:=GE ha;obtain⟨n,rfl⟩:=GE hb;unfold Lp at hr;cases hr;simp[FY]
 |s=>
  obtain⟨m,rfl,_⟩:=HE ha;obtain⟨n,rfl,_⟩:=HE hb;unfold Lp at hr;cases hr;rw[Lh];simp[FY]
theorem Lr:∀ {ks:List CK} {a b:List BY},ES ks a=true→ES ks b=true→∀ {r:Bool},GV a b=some r→(r=true↔a.map FY=b.map FY)
 |[],a,b,ha,hb,r,hr=>by
  rw[DC ha,DC hb]at *;cases hr;simp
 |c::ks,a,b,ha,hb,r,hr=>by
  obtain⟨x,a,rfl,hx,ha⟩:=Cb ha;obtain⟨y,b,rfl,hy,hb⟩:=Cb hb;unfold GV at hr;split at hr
  ·rename_i h1
   have i1:=(Jy hx hy h1).1 rfl;rw[Lr ha hb hr];simp[i1]
  ·rename_i h1
   cases hr;have i1:=Jy hx hy h1;simp only[yZ,AB1.injEq];constructor
   ·intro h;cases h
   ·intro h;exact i1.2 h.1
  ·cases hr
structure AEU (P:wK)(ty:TTy)(t:Nat)(K:KS):Prop where
 ti:∃ ti,ty.get t=some ti∧K.agg=ti.k.agg
 flat:flatK ty 8 t=some K.ks
theorem AEU.formed(hT:Ck P ty){t:Nat}{K:KS}(hK:AEU P ty t K){x:BY}(hx:Fd K x=true):x.formed P t=true∧P.keyLits 8 t x.cells.toList=some ((cellsOf x).map FY):=by
 obtain⟨ti,hti,ha⟩:=hK.ti;obtain⟨_,_,f3,f4⟩:=Eo hT 8 t K.ks hK.flat;obtain⟨h1,h2,h3⟩:=C6 hx;have T:=hT t ti hti;obtain⟨d,hd,hk⟩:=T.und;refine⟨?_,by rw[← h2];exact f4 _ h1⟩;rcases h3 with ⟨hag,l,rfl⟩|⟨hag,hne,hnt⟩
 ·rw[ha]at hag
  have hs:=f3 ti hti hag;have hl:=JD h1;unfold ACI;rw[hd];have hsz:(Array.mk l).size=P.cellsOf t:=by
   have:l.length=K.ks.length:=hl;rw[T.cells,← hs,← this];rfl
  generalize ti.k=kk at hk hag;cases hk<;>first|(cases hag;done)|(simp only[hsz];exact beq_self_eq_true _)
 ·rw[ha]at hag
  have:(match P.underlying t with|some (.struct _)=>false|some (.array _ _)=>false|_=>true)=true:=by
   rw[hd];generalize ti.k=kk at hk hag;cases hk<;>first|rfl|(cases hag;done)|skip
   rename_i ho;cases d<;>first|rfl|cases ho
  unfold ACI;cases x<;>first|exact absurd rfl (hne _)|exact absurd rfl (hnt _)|exact this
theorem AEU.equal(hT:Ck P ty){t:Nat}{K:KS}(hK:AEU P ty t K){x y:BY}(hx:Fd K x=true)(hy:Fd K y=true){r:Bool}(hr:GV (cellsOf x) (cellsOf y)=some r)(w:vt):
  (zQ t x y).run P w=.ok r w:=by
 obtain⟨f1,f2⟩:=hK.formed hT hx;obtain⟨g1,g2⟩:=hK.formed hT hy;obtain⟨k1,_⟩:=Eo hT 8 t K.ks hK.flat;obtain⟨r',hr',hiff⟩:=run_equalIn_deep (P:=P) 9992 8 t k1 w _ _ x y _ _ f1 g1 f2 g2;have:=Lr (C6 hx).1 (C6 hy).1 hr;have e:r'=r:=by
  rw[Bool.eq_iff_iff,hiff,this]
 rw[← e];exact hr'
theorem AEU.check(hT:Ck P ty){t:Nat}{K:KS}(hK:AEU P ty t K){x:BY}(hx:Fd K x=true)(em:Bool)(w:vt):(Instr.checkKey em 10000 t x).run P w=.ok () w:=by
 obtain⟨f1,f2⟩:=hK.formed hT hx;obtain⟨k1,_⟩:=Eo hT 8 t K.ks hK.flat;exact run_checkKey_deep (P:=P) em 9992 8 t k1 w _ x _ f1 f2
theorem OU{t:Nat}{d:AAc}(hd:P.underlying t=some d)(n:Nat){a b:BY}{c:Bool}(hs:AAd d a b=some c)(w:vt):(yO (n+1) t a b).run P w=.ok c w:=by
 unfold AAd at hs;split at hs
 ·split at hs
  ·rename_i hkk
   cases hs;simp[yO,run_underlying hd,hkk]
  ·cases hs
 ·cases hs;simp[yO,run_underlying hd]
 ·cases hs;simp[yO,run_underlying hd]
 ·cases hs
theorem JB{t:Nat}{d:AAc}(hd:P.underlying t=some d){k:BY}:∀ {es:List wJ} {i:Nat} {r:Option (Nat×BY)},AAe d k es i=some r→∀ w:vt,(vg t k es i).run P w=.ok r w
 |[],i,r,h,w=>by cases h;simp[vg]
 |e::es,i,r,h,w=>by
  have same:∀ {a b:BY} {c:Bool},AAd d a b=some c→(zQ t a b).run P w=.ok c w:=fun hs=>OU hd 9999 hs w
  unfold AAe at h;split at h
  ·rename_i hs
   cases h;simp[vg,same hs]
  ·rename_i hs
   have:=JB hd h w;simp[vg,same hs,this]
  ·cases h
theorem Do{t:Nat}{d:AAc}(hd:P.underlying t=some d){k:BY}{es:List wJ}{r:Option (Nat×BY)}(hr:(vg t k es 0).run P w=.ok r w):(AAf t k es).run P w=.ok r w:=by
 unfold AAf;simp only[vE,run_underlying hd,IS];cases hn:AAe d k es 0 with
 |none=>exact hr
 |some r'=>
  have:=JB hd hn w;rw[hr]at this;cases this;simp
theorem FN(hT:Ck P ty){t:Nat}{K:KS}(hK:AEU P ty t K){x y y':BY}(hx:Fd K x=true)(hy:ADU φ y y'){r:Bool}(hr:Gx K x y=some r)(w:vt):(zQ t x y').run P w=.ok r w∧Fd K y=true∧y'=y:=by
 unfold Gx at hr;split at hr
 ·rename_i hf
  have:=JC hf hy;subst this;exact⟨hK.equal hT hx hf hr w,hf,rfl⟩
 ·cases hr
theorem L4(hT:Ck P ty){t:Nat}{K:KS}(hK:AEU P ty t K){x:BY}(hx:Fd K x=true)(w:vt):∀ {es:List Ent} {es':List wJ} (i:Nat),AEO φ es es'→∀ {r:Option Ent},IH K x es=some r→
  match r with
  |none=>(vg t x es' i).run P w=.ok none w
  |some e=>∃ j v',(vg t x es' i).run P w=.ok (some (j,v')) w∧ADU φ e.val v'
 |_,_,i,.nil,r,h=>by cases h;simp[vg]
 |_,_,i,.cons (k:=k) (k':=k') (v:=v) (v':=v') (b:=b) (l:=l) (l':=l') hk hv ht,r,h=>by
  unfold IH at h;split at h
  ·rename_i he
   cases h;obtain⟨h1,_⟩:=FN hT hK hx hk he w;exact⟨i,v',by simp[vg,h1],hv⟩
  ·rename_i he
   obtain⟨h1,_⟩:=FN hT hK hx hk he w;have ih:=L4 hT hK hx w (i+1) ht h;cases r with
   |none=>simpa [vg,h1] using ih
   |some e=>
    obtain⟨j,u,hj,hu⟩:=ih;exact⟨j,u,by simp[vg,h1,hj],hu⟩
  ·cases h
theorem P7{c:CK}{x:BY}(h:K6 c x=true)(n:Nat):zP n x x=true:=by
 obtain⟨l,_,rfl,hw⟩:=IW h;exact sameBits_toCell hw n
theorem V3{ks:List CK}(n:Nat):∀ {l:List BY},ES ks l=true→(l.zip l).all (fun (x,y)=>zP n x y)=true:=by
 induction ks with
 |nil=>intro l h;rw[DC h];rfl
 |cons c ks ih=>
  intro l h;obtain⟨v,r,rfl,hc,hr⟩:=Cb h;simp only[List.zip_cons_cons,zF,P7 hc,ih hr,Bool.and_self]
theorem Vy{K:KS}{x:BY}(h:Fd K x=true)(n:Nat):zP (n+1) x x=true:=by
 obtain⟨h1,_,h3⟩:=C6 h;rcases h3 with ⟨_,l,rfl⟩|⟨_,hne,hnt⟩
 ·unfold zP
  simp only[beq_self_eq_true,Bool.true_and];exact V3 n h1
 ·have hc:cellsOf x=[x]:=Fj hne
  rw[hc]at h1;cases hk:K.ks with
  |nil=>rw[hk]at h1;cases h1
  |cons c ks=>
   rw[hk]at h1;obtain⟨v,r,e,hcc,_⟩:=Cb h1;cases e;exact P7 hcc _
theorem Lq:∀ {ks:List CK} {a b:List BY},ES ks a=true→ES ks b=true→GV a b=some true→a=b
 |[],a,b,ha,hb,_=>by rw[DC ha,DC hb]
 |c::ks,a,b,ha,hb,hr=>by
  obtain⟨x,a,rfl,hx,ha⟩:=Cb ha;obtain⟨y,b,rfl,hy,hb⟩:=Cb hb;unfold GV at hr;split at hr
  ·rename_i h1
   have i1:=(Jy hx hy h1).1 rfl;rw[Lq ha hb hr];obtain⟨l,e1,e2,_⟩:=IW hx;obtain⟨m,e3,e4,_⟩:=IW hy;rw[e2,e4,← e1,← e3,i1]
  ·cases hr
  ·cases hr
theorem Sq{K:KS}{x y:BY}(hx:Fd K x=true)(hr:Gx K x y=some true):x=y:=by
 unfold Gx at hr;split at hr
 ·rename_i hf
  obtain⟨h1,h2,h3⟩:=C6 hx;obtain⟨g1,g2,g3⟩:=C6 hf;have:=Lq h1 g1 hr;rcases h3 with ⟨ha,l,rfl⟩|⟨ha,hne,hnt⟩
  ·rcases g3 with ⟨_,m,rfl⟩|⟨hb,_⟩
   ·have:l=m:=this
    rw[this]
   ·rw[ha]at hb;cases hb
  ·rcases g3 with ⟨hb,_⟩|⟨_,gne,gnt⟩
   ·rw[ha]at hb;cases hb
   ·have c1:cellsOf x=[x]:=Fj hne
    have c2:cellsOf y=[y]:=Fj gne;rw[c1,c2]at this;exact AB1.inj this |>.1
 ·cases hr
theorem LW(hT:Ck P ty){t:Nat}{K:KS}(hK:AEU P ty t K){x:BY}(hx:Fd K x=true){u u':BY}(hu:ADU φ u u')(hxx:ADU φ x x)(w:vt):∀ {es:List Ent} {es':List wJ} (i:Nat),AEO φ es es'→∀ {r:Option (List Ent)},NH K x u es=some r→
  match r with
  |none=>(vg t x es' i).run P w=.ok none w
  |some es2=>∃ j v' en,(vg t x es' i).run P w=.ok (some (i+j,v')) w∧es'[j]? =some en∧en.key=x∧AEO φ es2 (es'.modify j fun e=>{e with key:=x,val:=u'})
 |_,_,i,.nil,r,h=>by cases h;simp[vg]
 |_,_,i,.cons (k:=k) (k':=k') (v:=v) (v':=v') (b:=b) (l:=l) (l':=l') hk hv ht,r,h=>by
  unfold NH at h;split at h
  ·rename_i he
   cases h;obtain⟨h1,_,h2⟩:=FN hT hK hx hk he w;have h3:=Sq hx he;exact⟨0,v',⟨k',v',b⟩,by simp[vg,h1],rfl,by simp only;rw[h2];exact h3.symm,by simpa using AEO.cons hxx hu ht⟩
  ·rename_i he
   obtain⟨h1,_⟩:=FN hT hK hx hk he w;split at h
   ·rename_i es2 hs
    cases h;obtain⟨j,v2,en,e1,e2,e3,e4⟩:=LW hT hK hx hu hxx w (i+1) ht hs;refine⟨j+1,v2,en,?_,by simpa using e2,e3,by simpa using AEO.cons hk hv e4⟩;simp only[vg,vE,h1,IS,vo,if_false];rw[e1];congr 3;omega
   ·rename_i hs
    cases h;have:=LW hT hK hx hu hxx w (i+1) ht hs
    simpa [vg,h1] using this
   ·cases h
  ·cases h
theorem Tw(hT:Ck P ty){t:Nat}{K:KS}(hK:AEU P ty t K){x:BY}(hx:Fd K x=true)(w:vt):∀ {es:List Ent} {es':List wJ} (i:Nat),AEO φ es es'→∀ {es2:List Ent},cy K x es=some es2→
  ((vg t x es' i).run P w=.ok none w∧es2=es)∨∃ j v',(vg t x es' i).run P w=.ok (some (i+j,v')) w∧AEO φ es2 (es'.eraseIdx j)
 |_,_,i,.nil,es2,h=>by cases h;exact .inl ⟨by simp[vg],rfl⟩
 |_,_,i,.cons (k:=k) (k':=k') (v:=v) (v':=v') (b:=b) (l:=l) (l':=l') hk hv ht,es2,h=>by
  unfold cy at h;split at h
  ·rename_i he
   cases h;obtain⟨h1,_⟩:=FN hT hK hx hk he w;exact .inr ⟨0,v',by simp[vg,h1],by simpa using ht⟩
  ·rename_i he
   obtain⟨h1,_⟩:=FN hT hK hx hk he w;split at h
   ·rename_i l2 hs
    cases h;rcases Tw hT hK hx w (i+1) ht hs with ⟨e1,e2⟩|⟨j,v2,e1,e2⟩
    ·exact .inl ⟨by simp[vg,h1,e1],by rw[e2]⟩
    ·refine .inr ⟨j+1,v2,?_,by simpa using AEO.cons hk hv e2⟩
     simp only[vg,vE,h1,IS,vo,if_false];rw[e1];congr 3;omega
   ·cases h
  ·cases h
theorem Tb{x:Ent}:∀ {es:List Ent},VQ x es=es++[x]
 |[]=>rfl
 |e::es=>by unfold VQ;rw[Tb];rfl
theorem AEO.append{x:Ent}{x':wJ}(hx:AEO φ [x] [x']):∀ {es:List Ent} {es':List wJ},AEO φ es es'→AEO φ (es++[x]) (es'++[x'])
 |_,_,.nil=>hx
 |_,_,.cons hk hv t=>.cons hk hv (AEO.append hx t)
theorem L8{K:KS}{x x':BY}(h:Fd K x=true)(hr:ADU φ x x'):x'=x∧ADU φ x x:=by
 have:=JC h hr;subst this;exact⟨rfl,hr⟩
end
end
noncomputable section
open Go
section
variable {P:wK}{ty:TTy}{φ:Phi}{E:Nat→Prop}{h h':Hp}{w:vt}{F:ADS}{e:Env}{v:BY}
def UO:BY→Bool
 |.bool _|.pointer _|.slice _ _ _|.map _|.func _ _ _|.nilFunc=>true
 |_=>false
theorem XQ{op:AB6}{neg:Bool}(hop:(op=.eql∧neg=false)∨(op=.neq∧neg=true)){t:vx}{X Y:vm}{a b:BY}(ha:UO a=true∨∃ l,a=.agg l)(hg:(eqGuard op t X Y a b).run P w=.ok () w)
  {r:Bool}(hr:(zQ t a b).run P w=.ok r w):(Bn op t X Y a b).run P w=.ok (.bool (neg != r)) w:=by
 unfold Bn;rw[vE,hg,IS];have:binOp op t a b=(do pure (.bool (neg != (← zQ t a b)))):=by
  rcases hop with ⟨rfl,rfl⟩|⟨rfl,rfl⟩
  ·rcases ha with ha|⟨l,rfl⟩
   ·cases a<;>first|(cases ha;done)|skip
    all_goals (simp[binOp];try rfl)
   ·simp[binOp]
  ·rcases ha with ha|⟨l,rfl⟩
   ·cases a<;>first|(cases ha;done)|skip
    all_goals (simp[binOp];try rfl)
   ·simp[binOp]
 rw[this,vE,hr,IS,vF]
theorem Sf{op:AB6}{t:vx}{X Y:vm}{a b:BY}(ha:UO a=true):(eqGuard op t X Y a b).run P w=.ok () w:=by
 cases op<;>first|rfl|skip
 all_goals (cases a<;>first|(cases ha;done)|rfl)
theorem V6{op:AB6}{t:vx}{X Y:vm}{a b:Array BY}(hg:P.eqGuardType P.depth t=false):(eqGuard op t X Y (.agg a) (.agg b)).run P w=.ok () w:=by
 cases op<;>first|rfl|skip
 all_goals (simp[eqGuard,hg])
theorem mA(n:Nat){k:TK}{x y x' y':BY}{r:Bool}(hr:eqV k x y=some r)(hx:ADU φ x x')(hy:ADU φ y y'){t:Nat}{d:AAc}(hd:P.underlying t=some d)(hk:KOk P k d)(w:vt):
  UO x'=true∧(yO (n+1) t x' y').run P w=.ok r w:=by
 unfold eqV at hr;split at hr
 case h_12=>cases hr
 all_goals (cases hr;cases hk;first|skip|(rename_i ho;cases ho))
 all_goals (cases hx;cases hy)
 all_goals (refine⟨rfl,?_⟩;simp[yO,run_underlying hd])
theorem mB{k:TK}{x y x' y':BY}{r:Bool}(hr:eqV k x y=some r)(hx:ADU φ x x')(hy:ADU φ y y'){t:Nat}{d:AAc}(hd:P.underlying t=some d)(hk:KOk P k d)(w:vt):
 UO x'=true∧(zQ t x' y').run P w=.ok r w:=mA 9999 hr hx hy hd hk w
theorem ZR(H:ADX ty φ E h w){k:TK}{op:AB6}{neg:Bool}(hop:(op=.eql∧neg=false)∨(op=.neq∧neg=true)){t:Nat}{ti:TI}(T:ADt P t ti)(hk:ti.k=k){X Y:vm}{x y:O}{x' y':BY}
  (hx:ADU φ (x e) x')(hy:ADU φ (y e) y')(hr:oEq k neg x y F e h=.ok v h'):BM ty φ E h w v h' ((Bn op t X Y x' y').run P w):=by
 obtain⟨d,hd,hkd⟩:=T.und;rw[hk]at hkd;unfold oEq at hr;split at hr
 case h_2=>cases hr
 rename_i r hq;obtain⟨rfl,rfl⟩:=Ig hr;obtain⟨h1,h2⟩:=mB hq hx hy hd hkd w;rw[XQ hop (.inl h1) (Sf h1) h2];exact .same H (.bool _)
theorem Qv(H:ADX ty φ E h w){op:AB6}{neg:Bool}(hop:(op=.eql∧neg=false)∨(op=.neq∧neg=true)){t:Nat}{ti:TI}(T:ADt P t ti)(hk:ti.k=.iface){X:vm}{x:O}{x':BY}
  (hx:ADU φ (x e) x')(hr:Nr neg x F e h=.ok v h'):BM ty φ E h w v h' ((Bn op t X (.const .nilIface) x' .nilIface).run P w):=by
 obtain⟨d,hd,hkd⟩:=T.und;rw[hk]at hkd;have main:∀ (a:BY) (r:Bool),((a=.nilIface∧r=true)∨((∃ t v,a=.iface t v)∧r=false))→(Bn op t X (.const .nilIface) a .nilIface).run P w=.ok (.bool (neg != r)) w:=by
  intro a r ha;cases hkd with
  |iface ms=>
  unfold Bn;have hg:(eqGuard op t X (.const .nilIface) a .nilIface).run P w=.ok () w:=by
   cases op<;>first|rfl|skip
   all_goals (rcases ha with ⟨rfl,_⟩|⟨⟨t,v,rfl⟩,_⟩<;>simp[eqGuard])
  have he1:∀ n,(yO (n+1) t a .nilIface).run P w=.ok r w:=fun n=>by
   rcases ha with ⟨rfl,rfl⟩|⟨⟨t,v,rfl⟩,rfl⟩<;>simp[yO,run_underlying hd]
  have he:(zQ t a .nilIface).run P w=.ok r w:=he1 9999;have hb:binOp op t a .nilIface=(do pure (.bool (neg != (← zQ t a .nilIface)))):=by
   rcases hop with ⟨rfl,rfl⟩|⟨rfl,rfl⟩<;>rcases ha with ⟨rfl,rfl⟩|⟨⟨t,v,rfl⟩,rfl⟩<;>(simp[binOp];try rfl)
  rw[vE,hg,IS,hb,vE,he,IS,vF]
 have hr:ZF neg (x e) h=.ok v h':=hr;generalize x e=u at hx hr;unfold ZF at hr;split at hr
 ·obtain⟨rfl,rfl⟩:=Ig hr
  cases hx;rw[main _ true (.inl ⟨rfl,rfl⟩)];exact .same H (.bool _)
 ·obtain⟨rfl,rfl⟩:=Ig hr
  cases hx with
  |iface t h=>rw[main _ false (.inr ⟨⟨_,_,rfl⟩,rfl⟩)];exact .same H (.bool _)
 ·cases hr
theorem LP(hT:Ck P ty)(H:ADX ty φ E h w){K:KS}{op:AB6}{neg:Bool}(hop:(op=.eql∧neg=false)∨(op=.neq∧neg=true)){t:Nat}{ti:TI}(hti:ty.get t=some ti)(hk:ti.k.agg=true)(hf:flatK ty 8 t=some K.ks)(ha:K.agg=true)
  {X Y:vm}{x y:O}{x' y':BY}(hx:ADU φ (x e) x')(hy:ADU φ (y e) y')(hr:Qp K neg x y F e h=.ok v h'):BM ty φ E h w v h' ((Bn op t X Y x' y').run P w):=by
 have T:=hT t ti hti;have hK:AEU P ty t K:=⟨⟨ti,hti,by rw[ha,hk]⟩,hf⟩;unfold Qp eqC at hr;split at hr
 case h_2=>cases hr
 rename_i r hq;split at hq
 case h_2=>cases hq
 rename_i hfx;obtain⟨rfl,rfl⟩:=Ig hr;have e1:=JC hfx hx;obtain⟨h1,hfy,e2⟩:=FN hT hK hfx hy hq w;rw[← e1]at hfx;have hgt:=(Eo hT 8 t K.ks hf).2.1 P.depth T.deep;obtain⟨_,_,g1⟩:=C6 hfx;obtain⟨_,_,g2⟩:=C6 hfy;rw[← e2]at g2;rcases g1 with ⟨_,l,hl⟩|⟨hb,_⟩
 ·rcases g2 with ⟨_,m,hm⟩|⟨hb,_⟩
  ·rw[← e1]at h1
   have hg:(eqGuard op t X Y x' y').run P w=.ok () w:=by rw[hl,hm];exact V6 hgt
   rw[XQ hop (.inr ⟨_,hl⟩) hg h1];exact .same H (.bool _)
  ·rw[ha]at hb;cases hb
 ·rw[ha]at hb;cases hb
end
end
noncomputable section
open Go
section
variable {P:wK}{ty:TTy}{φ:Phi}{E:Nat→Prop}{h h':Hp}{w:vt}{F:ADS}{e:Env}{v:BY}{f:Fr}
theorem BZ{t:Nat}{k:TI→OpF}(hr:wTy ty t k F e h=.ok v h'):∃ ti,ty.get t=some ti∧k ti F e h=.ok v h':=by
 unfold wTy at hr;cases hg:ty.get t with
 |none=>rw[hg]at hr;cases hr
 |some ti=>rw[hg]at hr;exact⟨ti,rfl,hr⟩
theorem C1{x:vm}{k:O→OpF}(hr:w1 f x k F e h=.ok v h'):∃ y,cO f x=some y∧k y F e h=.ok v h':=by
 unfold w1 at hr;cases hg:cO f x with
 |none=>rw[hg]at hr;cases hr
 |some y=>rw[hg]at hr;exact⟨y,rfl,hr⟩
theorem Jl{x y:vm}{k:O→O→OpF}(hr:w2 f x y k F e h=.ok v h'):∃ x' y',cO f x=some x'∧cO f y=some y'∧k x' y' F e h=.ok v h':=by
 unfold w2 at hr;obtain⟨x',hx,hr⟩:=C1 hr;obtain⟨y',hy,hr⟩:=C1 hr;exact⟨x',y',hx,hy,hr⟩
theorem IJ{ti:TI}{k:OpF}(hr:wZ ti k F e h=.ok v h'):ti.zero.length=ti.size∧k F e h=.ok v h':=by
 unfold wZ at hr;cases hg:vO (A8 ti.zero) ti.size with
 |false=>rw[hg]at hr;cases hr
 |true=>rw[hg]at hr;exact⟨by rw[← Am.1 hg,BI],hr⟩
def C2(P:wK)(ty:TTy)(F:ADS):Prop:=∀ g args h v h',F g args h=.ok v h'→
 (∃ fn,P.funcs[g]? =some fn∧fn.name≠"runtime.NumGoroutine" ∧fn.body.isNone=false)∧
 ∀ φ w args',ADp φ args args'→ADX ty φ (fun _=>False) h w→
  Calls P g ⟨args'⟩ w fun en w'=>∃ v' ψ,en=.returned v'∧ADU ψ v v'∧ADX ty ψ (fun _=>False) h' w'∧Evo φ h w ψ h' w'
def EO(P:wK)(ty:TTy)(φ:Phi)(E:Nat→Prop)(h:Hp)(v:BY)(h':Hp)(o:Oper)(a:Act)(w:vt):Prop:=
 ∀ (next:Act→vt→Prop) (Q:Exit→Act→vt→Prop),
  (∀ ψ v' w',ADU ψ v v'→ADX ty ψ E h' w'→Evo φ h w ψ h' w'→next (a.put o.dst v') w')→o.wp P a w next Q
theorem EO.ADT{o:Oper}{a:Act}{s:Sem BY}(hx:execOp a.eval o=(do pure (.value (← s))))(hg:BM ty φ E h w v h' (s.run P w)):EO P ty φ E h v h' o a w:=by
 intro next Q hn
 obtain⟨v',w',ψ,hs,hv,H,ev⟩:=hg;unfold ACl;rw[hx,vE,hs,IS,vF,Oper.upon_value];exact hn ψ v' w' hv H ev
theorem EO.AEu{o:Oper}{a:Act}{s:Sem Unit}(hx:execOp a.eval o=(do s;pure .skip))(hg:XG ty φ E h w v h' (s.run P w)):EO P ty φ E h v h' o a w:=by
 intro next Q hn
 obtain⟨rfl,w',hs,H,ev⟩:=hg;unfold ACl;rw[hx,vE,hs,IS,vF,Oper.upon_skip];exact hn φ undef w' (.tuple .nil) H ev
theorem JU{place:Nat→Option (Nat×Nat)}{ρ:vm→BY}:∀ {l:List (Nat×vm)} {ps:List (Nat×Nat×O)},Ge f place l=some ps→
  (∀ p∈l,∀ y,cO f p.2=some y→ADU φ (y e) (ρ p.2))→AFj φ e place ps (l.map fun (i,x)=>(i,ρ x))
 |[],ps,hp,_=>by cases hp;exact .nil
 |(i,x)::l,ps,hp,hst=>by
  unfold Ge at hp;split at hp
  ·rename_i off size hpl
   split at hp
   ·rename_i y hy
    split at hp
    ·rename_i r hr
     cases hp;exact .cons hpl (hst (i,x) (by simp) y hy) (JU hr fun p hp=>hst p (by simp[hp]))
    ·cases hp
   ·cases hp
  ·cases hp
theorem OM{ρ:vm→BY}:∀ {l:List vm} {ys:List O},cOs f l=some ys→(∀ x∈l,∀ y,cO f x=some y→ADU φ (y e) (ρ x))→ADp φ (vals e ys) (l.map ρ)
 |[],ys,h,_=>by cases h;exact .nil
 |x::l,ys,h,hst=>by
  unfold cOs at h;split at h
  ·rename_i y hy
   split at h
   ·rename_i r hr
    cases h;exact .cons (hst x (by simp) y hy) (OM hr fun x hx=>hst x (by simp[hx]))
   ·cases h
  ·cases h
theorem SM{ρ:vm→BY}{x:Option vm}{y:Option O}(h:cOo f x=some y)(hst:∀ z,x=some z→∀ y,cO f z=some y→ADU φ (y e) (ρ z)):AEz φ e y (x.map ρ):=by
 unfold cOo at h;split at h
 ·cases h;exact .none
 ·rename_i x
  split at h
  ·rename_i y hy;cases h;exact .some (hst x rfl y hy)
  ·cases h
def ge(φ:Phi)(f:Fr)(e:Env)(ρ:vm→BY)(op:Op):Prop:=∀ x∈op.operands.toList,∀ y,cO f x=some y→ADU φ (y e) (ρ x)
def G5(ty:TTy)(f:Fr)(e:Env)(E:Nat→Prop)(op:Op):Prop:=match kd ty op with
 |.p=>True
 |.a=>True
 |.r x=>∀ y,cO f x=some y→∀ b,AD3 (y e)=.ok b→¬ E b
 |.w _=>∀ b,¬ E b
 |.q=>∀ b,¬ E b
theorem jy(hT:Ck P ty)(H:ADX ty φ E h w){op:AB6}{t yt:vx}{x y:vm}{o:Oper}{a:Act}(ho:o.op=.binOp op t x y yt)(hst:ge φ f e a.eval o.op)(hr:XP ty f op t x y F e h=.ok v h'):EO P ty φ E h v h' o a w:=by
 have hx:execOp a.eval o=(do pure (.value (← Bn op t x y (a.eval x) (a.eval y)))):=by unfold execOp;rw[ho];rfl
 unfold XP at hr;obtain⟨ti,hti,hr⟩:=BZ hr;obtain⟨x',y',hx',hy',hr⟩:=Jl hr;have r1:=hst x (by rw[ho];simp[vY]) x' hx';have r2:=hst y (by rw[ho];simp[vY]) y' hy';cases hk:ti.k with
 |int k=>
  rw[hk]at hr;cases op with
  |add=>exact .ADT hx (eG H r1 r2 hr)
  |sub=>exact .ADT hx (Un H (.inl ⟨rfl,rfl⟩) r1 r2 hr)
  |mul=>exact .ADT hx (Un H (.inr ⟨rfl,rfl⟩) r1 r2 hr)
  |quo=>exact .ADT hx (eZ H r1 r2 hr)
  |rem=>exact .ADT hx (fH H r1 r2 hr)
  |and=>exact .ADT hx (Ow H (.inl ⟨rfl,rfl⟩) r1 r2 hr)
  |or=>exact .ADT hx (Ow H (.inr (.inl ⟨rfl,rfl⟩)) r1 r2 hr)
  |xor=>exact .ADT hx (Ow H (.inr (.inr ⟨rfl,rfl⟩)) r1 r2 hr)
  |shl=>exact .ADT hx (fJ H r1 r2 hr)
  |shr=>exact .ADT hx (fM H r1 r2 hr)
  |andNot=>cases hr
  |eql=>exact .ADT hx (Hz H (.inl ⟨rfl,rfl⟩) r1 r2 hr)
  |neq=>exact .ADT hx (Hz H (.inr (.inl ⟨rfl,rfl⟩)) r1 r2 hr)
  |lss=>exact .ADT hx (Hz H (.inr (.inr (.inl ⟨rfl,rfl⟩))) r1 r2 hr)
  |leq=>exact .ADT hx (Hz H (.inr (.inr (.inr (.inl ⟨rfl,rfl⟩)))) r1 r2 hr)
  |gtr=>exact .ADT hx (Hz H (.inr (.inr (.inr (.inr (.inl ⟨rfl,rfl⟩))))) r1 r2 hr)
  |geq=>exact .ADT hx (Hz H (.inr (.inr (.inr (.inr (.inr ⟨rfl,rfl⟩))))) r1 r2 hr)
 |string=>
  rw[hk]at hr;cases op with
  |add=>exact .ADT hx (eQ H r1 r2 hr)
  |eql=>exact .ADT hx (H5 H (.inl ⟨rfl,rfl⟩) r1 r2 hr)
  |neq=>exact .ADT hx (H5 H (.inr (.inl ⟨rfl,rfl⟩)) r1 r2 hr)
  |lss=>exact .ADT hx (H5 H (.inr (.inr (.inl ⟨rfl,rfl⟩))) r1 r2 hr)
  |gtr=>exact .ADT hx (H5 H (.inr (.inr (.inr (.inl ⟨rfl,rfl⟩)))) r1 r2 hr)
  |leq=>exact .ADT hx (H5 H (.inr (.inr (.inr (.inr (.inl ⟨rfl,rfl⟩))))) r1 r2 hr)
  |geq=>exact .ADT hx (H5 H (.inr (.inr (.inr (.inr (.inr ⟨rfl,rfl⟩))))) r1 r2 hr)
  |_=>cases hr
 |struct fs=>
  rw[hk]at hr;simp only at hr;cases hf:flatK ty 8 t with
  |none=>rw[hf]at hr;cases hr
  |some ks=>
   rw[hf]at hr;have hag:ti.k.agg=true:=by rw[hk];rfl
   cases op with
   |eql=>exact .ADT hx (LP hT H (K:=⟨true,ks⟩) (.inl ⟨rfl,rfl⟩) hti hag hf rfl r1 r2 hr)
   |neq=>exact .ADT hx (LP hT H (K:=⟨true,ks⟩) (.inr ⟨rfl,rfl⟩) hti hag hf rfl r1 r2 hr)
   |_=>cases hr
 |arr n el=>
  rw[hk]at hr;simp only at hr;cases hf:flatK ty 8 t with
  |none=>rw[hf]at hr;cases hr
  |some ks=>
   rw[hf]at hr;have hag:ti.k.agg=true:=by rw[hk];rfl
   cases op with
   |eql=>exact .ADT hx (LP hT H (K:=⟨true,ks⟩) (.inl ⟨rfl,rfl⟩) hti hag hf rfl r1 r2 hr)
   |neq=>exact .ADT hx (LP hT H (K:=⟨true,ks⟩) (.inr ⟨rfl,rfl⟩) hti hag hf rfl r1 r2 hr)
   |_=>cases hr
 |iface=>
  rw[hk]at hr;have hr:(match Oi y with|true=>(match op with|.eql=>Nr false x'|.neq=>Nr true x'|_=>oNo)|false=>oNo) F e h=.ok v h':=hr;cases hn:Oi y with
  |false=>rw[hn]at hr;cases hr
  |true=>
   rw[hn]at hr;have hy:y=.const .nilIface:=by
    unfold Oi at hn;split at hn
    ·split at hn
     ·rfl
     ·cases hn
    ·cases hn
   subst hy;cases op with
   |eql=>exact .ADT hx (Qv H (.inl ⟨rfl,rfl⟩) (hT t ti hti) hk r1 hr)
   |neq=>exact .ADT hx (Qv H (.inr ⟨rfl,rfl⟩) (hT t ti hti) hk r1 hr)
   |_=>cases hr
 |_=>
  rw[hk]at hr;cases op with
  |eql=>exact .ADT hx (ZR H (.inl ⟨rfl,rfl⟩) (hT t ti hti) hk r1 r2 hr)
  |neq=>exact .ADT hx (ZR H (.inr ⟨rfl,rfl⟩) (hT t ti hti) hk r1 r2 hr)
  |_=>cases hr
end
end
noncomputable section
open Go
section
variable {P:wK}{ty:TTy}{φ:Phi}{E:Nat→Prop}{h h':Hp}{w:vt}{F:ADS}{e:Env}{v:BY}{f:Fr}
theorem ADX.less(H:ADX ty φ E h w)(hE:∀ b,¬ E b){E':Nat→Prop}:ADX ty φ E' h w where
 dom:=H.dom
 inj:=fun i j p q ei ej _ _=>H.inj i j p q ei ej (hE i) (hE j)
 row:=fun i p hp _=>H.row i p hp (hE i)
 fresh:=H.fresh
 kind:=H.kind
 inp:=H.inp
theorem OQ(hF:C2 P ty F)(H:ADX ty φ E h w)(hE:∀ b,¬ E b){g:Nat}{args args':List BY}(ha:ADp φ args args')(hr:F g args h=.ok v h'){o:Oper}{a:Act}
  (hx:(execOp a.eval o).run P w=(callFunc g ⟨args'⟩).run P w):EO P ty φ E h v h' o a w:=by
 intro next Q hn
 obtain⟨⟨fn,hfn,hnm,hb⟩,hc⟩:=hF g args h v h' hr;have AHC:(callFunc g ⟨args'⟩).run P w=.ok (.enter g ⟨args'⟩) w:=by
  have AIn:(fn.name == "runtime.NumGoroutine")=false:=by simpa using hnm
  simp only[callFunc,vE,run_program,IS,hfn,AIn,vo,if_false,hb,vF,zL]
 unfold ACl;rw[hx,AHC,Oper.upon_enter];refine(hc φ w args' ha (H.less hE)).mono fun en w' ⟨v',ψ,he,hv,H',ev⟩=>?_
 subst he;exact hn ψ v' w' hv (H'.less (fun _ h=>h)) ev
theorem ZK(hF:C2 P ty F)(H:ADX ty φ E h w)(hE:∀ b,¬ E b){g:Nat}{c:Call}(hc:c.callee=.value (.func g)){o:Oper}{a:Act}(ho:o.op=.call c){args:List O}
  (ha:ADp φ (vals e args) (c.args.toList.map a.eval))(hr:AU g args F e h=.ok v h'):EO P ty φ E h v h' o a w:=by
 unfold AU at hr;rw[CQ]at hr;refine OQ hF H hE ha hr ?_;have e1:c.args.map a.eval=⟨c.args.toList.map a.eval⟩:=by apply wO;simp
 unfold execOp;rw[ho];simp only[resolve,hc,e1,Act.eval,ABJ,vE,vF,IS,invoke]
 congr 2
 apply wO;simp
theorem KI(hF:C2 P ty F)(H:ADX ty φ E h w)(hE:∀ b,¬ E b){x:vm}{g:O}{c:Call}(hc:c.callee=.value x){o:Oper}{a:Act}(ho:o.op=.call c){args:List O}
  (hg:ADU φ (g e) (a.eval x))(ha:ADp φ (vals e args) (c.args.toList.map a.eval))(hr:EY g args F e h=.ok v h'):EO P ty φ E h v h' o a w:=by
 unfold EY at hr;split at hr
 case h_2=>cases hr
 rename_i k first cap hge
 rw[hge]at hg;rw[CQ]at hr;generalize hxe:a.eval x=xv at hg;cases hg with
 |func _ h1 h2=>
  refine OQ hF H hE (h1.append (ha.append h2)) hr ?_;have e1:c.args.map a.eval=⟨c.args.toList.map a.eval⟩:=by apply wO;simp
  unfold execOp;rw[ho];simp only[resolve,hc,e1,hxe,ABJ,vE,vF,IS,invoke]
  congr 2
  apply wO;simp
theorem MV{name:String}:∀ {t:TTy} {ix:Nat→Nat} {u f:Nat},(u,f)∈t.meths name ix→∃ k ti,u=ix k∧t.get k=some ti∧findM name ti.ms=some f
 |.mt,ix,u,f,h=>by cases h
 |.nd t l r,ix,u,f,h=>by
  have sub:(u,f)∈l.meths name (fun k=>ix (vD (vr 2 k)))++r.meths name (fun k=>ix (vD (vD (vr 2 k))))→∃ k ti,u=ix k∧(TTy.nd t l r).get k=some ti∧findM name ti.ms=some f:=fun h=>by
   rcases List.mem_append.1 h with h|h
   ·obtain⟨k,ti,h1,h2,h3⟩:=MV h
    refine⟨vD (vr 2 k),ti,h1,?_,h3⟩;show(match yR (vr 2 k) 2 with| 0=>l.get (xK (vr 2 k) 2)|vD _=>r.get (xK (vr 2 k) 2))=_;have e1:yR (vr 2 k) 2=0:=by show(2*k) % 2=0;omega
    have e2:xK (vr 2 k) 2=k:=by show(2*k)/2=k;omega
    rw[e1,e2];exact h2
   ·obtain⟨k,ti,h1,h2,h3⟩:=MV h
    refine⟨vD (vD (vr 2 k)),ti,h1,?_,h3⟩;show(match yR (vD (vr 2 k)) 2 with| 0=>l.get (xK (vD (vr 2 k)) 2)|vD _=>r.get (xK (vD (vr 2 k)) 2))=_;have e1:yR (vD (vr 2 k)) 2=1:=by show(2*k+1) % 2=1;omega
    have e2:xK (vD (vr 2 k)) 2=k:=by show(2*k+1)/2=k;omega
    rw[e1,e2];exact h2
  unfold TTy.meths at h;split at h
  ·rename_i g hg
   rcases vS.1 h with h|h
   ·cases h
    cases t with
    |none=>cases hg
    |some ti=>exact⟨0,ti,rfl,rfl,hg⟩
   ·exact sub h
  ·exact sub h
theorem Pv{t f:Nat}:∀ {l:List (Nat×Nat)},UD t l=some f→(t,f)∈l
 |[],h=>by cases h
 |(u,g)::l,h=>by
  have h:(bif vO u t then some g else UD t l)=some f:=h;cases hb:vO u t with
  |true=>
   rw[hb]at h;cases h;rw[Am.1 hb];exact List.mem_cons_self
  |false=>
   rw[hb]at h;exact List.mem_cons_of_mem _ (Pv h)
theorem S9(hT:Ck P ty)(hF:C2 P ty F)(H:ADX ty φ E h w)(hE:∀ b,¬ E b){recv:vm}{name:String}{x:O}{c:Call}(hc:c.callee=.invoke recv name){o:Oper}{a:Act}(ho:o.op=.call c){args:List O}
  (hg:ADU φ (x e) (a.eval recv))(ha:ADp φ (vals e args) (c.args.toList.map a.eval))(hr:LQ (ty.meths name fun k=>k) x args F e h=.ok v h'):EO P ty φ E h v h' o a w:=by
 unfold LQ at hr;split at hr
 case h_2=>cases hr
 rename_i t u hxe;split at hr
 case h_2=>cases hr
 rename_i f hf;rw[BC,CQ]at hr;rw[hxe]at hg;generalize AIo:a.eval recv=xv at hg;cases hg with
 |@iface _ _ u' hu=>
  obtain⟨k,ti,hk,h2,h3⟩:=MV (Pv hf);have hk:t=k:=hk;subst hk;have hm:=(hT t ti h2).ms name f h3 u' w;refine OQ hF H hE (.cons hu ha) hr ?_;have e1:c.args.map a.eval=⟨c.args.toList.map a.eval⟩:=by apply wO;simp
  unfold execOp;rw[ho];have e2:(#[ABF t u']++(⟨c.args.toList.map a.eval⟩:Array BY))[0]? =some (.iface t u'):=by simp
  have e3:(#[ABF t u']++(⟨c.args.toList.map a.eval⟩:Array BY)).extract 1 (#[ABF t u']++(⟨c.args.toList.map a.eval⟩:Array BY)).size=⟨c.args.toList.map a.eval⟩:=by apply wO;simp;exact List.take_of_length_le (by simp)
  have e4: #[u']++(⟨c.args.toList.map a.eval⟩:Array BY)=⟨u'::c.args.toList.map a.eval⟩:=by apply wO;simp
  simp only[resolve,hc,e1,AIo,vE,vF,IS,invoke,e2,e3,callMethod,run_program,hm,e4]
theorem Bu{b:Nat}{ob:Obj}(h1:w.heap[b]? =some ob)(h2:(match ob with|.cells .. =>true|_=>false)=false):(getObj b).run P w=.ok ob w:=by
 unfold getObj;simp only[Sem.run,h1];cases ob<;>first|rfl|cases h2
theorem AEO.length:∀ {l:List Ent} {l':List wJ},AEO φ l l'→l'.length=l.length
 |_,_,.nil=>rfl
 |_,_,.cons _ _ t=>congrArg (· +1) t.length
theorem Fm{r:Nat}{es:List Ent}{c:Nat}(hr:BP h r=.ok es c):h.bl.get r=.map es c:=by
 unfold BP dD at hr;split at hr
 ·cases hr;assumption
 ·cases hr
theorem ADX.AEZ(H:ADX ty φ E h w){r:Nat}{p:Pl}(hp:φ r=some p)(hE:¬ E r){es:List Ent}{c:Nat}(hr:BP h r=.ok es c):
  ∃ es',w.heap[p.blk]? =some (.map ⟨es'⟩ c)∧AEO φ es es':=by
 have:=H.row r p hp hE;rw[Fm hr]at this;generalize w.heap[p.blk]? =o at this;cases this with
 |map h=>exact⟨_,rfl,h⟩
theorem ZX(H:ADX ty φ E h w){x:O}{x':BY}{ats:Array vx}{t t' el:vx}(h0:ats[0]? =some t){ti:TI}(T:ADt P t ti)(hk:ti.k=.slice el)(hx:ADU φ (x e) x')(hr:Bl x F e h=.ok v h'):
  BM ty φ E h w v h' ((wT ats t' #[x']).run P w):=by
 unfold Bl at hr;split at hr
 case h_3=>cases hr
 case h_2=>
  rename_i r hxe;rw[hxe]at hx;cases hr;obtain⟨d,hd,hkd⟩:=T.desc;rw[hk]at hkd;cases hkd;have key:(wT ats t' #[x']).run P w=.ok (goInt ((0:Nat):Int)) w:=by
   cases hx<;>simp only[wT,h0,vE,hd,IS,vF,vb,vf]
  rw[key];exact .same H (.int _ _)
 rename_i a n c hxe;rw[hxe]at hx;cases hr;obtain⟨d,hd,hkd⟩:=T.desc;rw[hk]at hkd;cases hkd;have key:(wT ats t' #[x']).run P w=.ok (goInt n) w:=by
  cases hx<;>simp only[wT,h0,vE,hd,IS,vF,vb,vf]
 rw[key];exact .same H (.int _ _)
theorem ZM(H:ADX ty φ E h w){x:O}{x':BY}{ats:Array vx}{t t' el:vx}(h0:ats[0]? =some t){ti:TI}(T:ADt P t ti)(hk:ti.k=.slice el)(hx:ADU φ (x e) x')(hr:ZL x F e h=.ok v h'):
  BM ty φ E h w v h' ((AAi ats t' #[x']).run P w):=by
 unfold ZL at hr;split at hr
 case h_2=>cases hr
 rename_i hxe;rw[hxe]at hx;cases hr;obtain⟨d,hd,hkd⟩:=T.desc;rw[hk]at hkd;cases hkd;have key:(AAi ats t' #[x']).run P w=.ok (goInt 0) w:=by
  cases hx<;>simp only[AAi,h0,vE,hd,IS,vF,vb,vf]<;>rfl
 rw[key];exact .same H (.int _ _)
theorem ZZ(H:ADX ty φ E h w){x:O}{x':BY}{ats:Array vx}{t t':vx}(h0:ats[0]? =some t){ti:TI}(T:ADt P t ti)(hk:ti.k=.string)(hx:ADU φ (x e) x')(hr:Qt x F e h=.ok v h'):
  BM ty φ E h w v h' ((wT ats t' #[x']).run P w):=by
 unfold Qt at hr;split at hr
 case h_2=>cases hr
 rename_i s hxe;rw[hxe]at hx;rw[AZ,BI]at hr;cases hr;obtain⟨d,hd,hkd⟩:=T.desc;rw[hk]at hkd;cases hkd;obtain rfl:=hx.ADr;have key:(wT ats t' #[.string s]).run P w=.ok (goInt s.size) w:=by
  simp only[wT,h0,vE,hd,IS,vF,vb,vf]
 rw[key];exact .same H (.int _ _)
theorem ZV(H:ADX ty φ E h w){x:O}{x':BY}{ats:Array vx}{t t' kt el:vx}(h0:ats[0]? =some t){ti:TI}(T:ADt P t ti)(hk:ti.k=.map kt el)(hx:ADU φ (x e) x')
  (hE:∀ r,x e=.map (some r)→¬ E r)(hr:Qs x F e h=.ok v h'):BM ty φ E h w v h' ((wT ats t' #[x']).run P w):=by
 obtain⟨d,hd,hkd⟩:=T.desc;rw[hk]at hkd;cases hkd;unfold Qs at hr;split at hr
 ·rename_i hxe
  rw[hxe]at hx;cases hr;cases hx;have key:(wT ats t' #[.map none]).run P w=.ok (goInt 0) w:=by
   simp only[wT,h0,vE,hd,IS,vF,vb,vf]
  rw[key];exact .same H (.int _ _)
 ·rename_i r hxe
  rw[hxe]at hx;cases hx with
  |@map _ p hp=>
   split at hr
   case h_2=>cases hr
   rename_i es c hes;rw[AZ,BI]at hr;cases hr;obtain⟨es',hw,ADy⟩:=H.AEZ hp (hE r hxe) hes;have key:(wT ats t' #[.map (some p.blk)]).run P w=.ok (goInt es.length) w:=by
    simp only[wT,h0,vE,hd,IS,vF,vb,vf,Bu hw rfl];rw[← ADy.length];rfl
   rw[key];exact .same H (.int _ _)
 ·cases hr
theorem dh{x':BY}{ats:Array vx}{t t' el:vx}{n:Nat}(h0:ats[0]? =some t){ti:TI}(T:ADt P t ti)(hk:ti.k=.arr n el):(wT ats t' #[x']).run P w=.ok (goInt n) w:=by
 obtain⟨d,hd,hkd⟩:=T.desc;rw[hk]at hkd;cases hkd;simp only[wT,h0,vE,hd,IS,vF,vb,vf]
theorem Dr{b:Nat}{ob ob':Obj}(h1:w.heap[b]? =some ob)(h2:(match ob with|.cells .. =>true|_=>false)=false):
  (setObj b ob').run P w=.ok () {w with heap:=w.heap.setIfInBounds b ob'}:=by
 unfold setObj;simp only[Sem.run,h1];cases ob<;>first|rfl|cases h2
theorem FE(H:ADX ty φ E h w){r:Nat}{p:Pl}(hEr:¬ E r)(hp:φ r=some p)(hl:Live h r){o:Blk}{ob:Obj}{k:Hp→R}(hr:EE h r o k=.ok v h')(hsh:ADn (h.bl.get r) o)(hB:AER ty φ p o (some ob)):
  ∃ h1,k h1=.ok v h'∧ADX ty φ E h1 {w with heap:=w.heap.setIfInBounds p.blk ob}∧Evo φ h w φ h1 {w with heap:=w.heap.setIfInBounds p.blk ob}:=by
 obtain⟨bl,ADg,hbl,hk⟩:=FD hr;have hlt:=(H.dom r p hp).2;have e1:(w.heap.setIfInBounds p.blk ob).size=w.heap.size:=by simp
 have e2:∀ k,k≠p.blk→(w.heap.setIfInBounds p.blk ob)[k]? =w.heap[k]?:=fun k hk=>by
  rw[xP,if_neg (ADD hk)]
 have e3:(w.heap.setIfInBounds p.blk ob)[p.blk]? =some ob:=by rw[xP,if_pos rfl,if_pos hlt]
 exact⟨_,hk,H.put hEr ADg hp hl hbl e1 e2 (by show AER ty φ p o ((w.heap.setIfInBounds p.blk ob)[p.blk]?);rw[e3];exact hB),.put (H.AEX hp ADg) hp hl hbl hsh e1 e2 rfl rfl rfl⟩
theorem GG{r:Nat}{es:List Ent}{c:Nat}(hr:BP h r=.ok es c):Live h r:=by
 unfold Live;rw[Fm hr];intro hd;cases hd
theorem Ox(H:ADX ty φ E h w)(hE:∀ b,¬ E b){x:O}{x':BY}{ats:Array vx}{t t':vx}{ti:TI}(h0:ats[0]? =some t)(T:ADt P t ti)(hx:ADU φ (x e) x')(hr:De x F e h=.ok v h'):
  BM ty φ E h w v h' ((wX ats t' #[x']).run P w):=by
 obtain⟨d,hd,_⟩:=T.desc;unfold De at hr;split at hr
 ·rename_i hxe
  rw[hxe]at hx;cases hr;cases hx;have key:(wX ats t' #[.map none]).run P w=.ok ADV w:=by
   simp only[wX,h0,vE,hd,IS,vF,vb,vf];rfl
  rw[key];exact .same H (.tuple .nil)
 ·rename_i r hxe
  rw[hxe]at hx;cases hx with
  |@map _ p hp=>
   split at hr
   case h_2=>cases hr
   rename_i es c hes;obtain⟨es',hw,ADy⟩:=H.AEZ hp (hE r) hes;obtain⟨h1,hk,H1,ev⟩:=FE (ob:=.map #[] c) H (hE _) hp (GG hes) hr (by rw[Fm hes];exact .inr trivial) (.map .nil);cases hk;have key:(wX ats t' #[.map (some p.blk)]).run P w=.ok ADV {w with heap:=w.heap.setIfInBounds p.blk (.map #[] c)}:=by
    simp only[wX,h0,vE,hd,IS,vF,vb,vf,Bu hw rfl,Dr hw rfl];rfl
   rw[key];exact⟨_,_,φ,rfl,.tuple .nil,H1,ev⟩
 ·cases hr
theorem WU(H:ADX ty φ E h w)(hE:∀ b,¬ E b){x:O}{x':BY}{ats:Array vx}{t t' el:vx}{ti ei:TI}(h0:ats[0]? =some t)(T:ADt P t ti)(hk:ti.k=.slice el)(TE:ADt P el ei)(hz:ei.zero.length=ei.size)
  (hx:ADU φ (x e) x')(hr:Ma ei.zero x F e h=.ok v h'):BM ty φ E h w v h' ((wX ats t' #[x']).run P w):=by
 obtain⟨d,hd,hkd⟩:=T.desc;rw[hk]at hkd;cases hkd;obtain⟨z,_,hzr,hzc,hzp⟩:=TE.AEY hz;unfold Ma at hr;split at hr
 ·rename_i hxe
  rw[hxe]at hx;cases hr;cases hx;have key:(wX ats t' #[.slice none 0 0]).run P w=.ok ADV w:=by
   simp only[wX,h0,vE,hd,IS,vF,vb,vf];rfl
  rw[key];exact .same H (.tuple .nil)
 ·rename_i a n c hxe
  rw[hxe]at hx;cases hx with
  |@slice _ a' _ _ c' hlc hs=>
   cases n with
   |zero=>
    cases hr;have key:(wX ats t' #[.slice (some a') 0 c']).run P w=.ok ADV w:=by
     simp only[wX,h0,vE,hd,IS,vF,vb,vf];rfl
    rw[key];exact .same H (.tuple .nil)
   |succ n=>
    have ADy:ADp φ (BO ei.zero (n+1)) (BO ei.zero (n+1)):=Ha (.plain hzp) (n+1);obtain⟨h1,w1,hk2,hrun,H1,ev⟩:=IB (P:=P) H hr (KX hlc hs (Nat.succ_pos n)) ADy (hE _);cases hk2;have hc:(zb z.cells (n+1)).toList=BO ei.zero (n+1):=by rw[Gq,hzc]
    have key:(wX ats t' #[.slice (some a') (n+1) c']).run P w=.ok ADV w1:=by
     simp only[wX,h0,vE,hd,IS,vF,vb,vf,hzr,hc,hrun];rfl
    rw[key];exact⟨_,_,φ,rfl,.tuple .nil,H1,ev⟩
 ·cases hr
theorem WT(H:ADX ty φ E h w)(hE:∀ b,¬ E b){x:O}{x':BY}{t el:vx}{ti ei:TI}(T:ADt P t ti)(hk:ti.k=.slice el)(TE:ADt P el ei)(he:ei.k=.int .u8)(hx:ADU φ (x e) x')(hr:KK x F e h=.ok v h'):
  BM ty φ E h w v h' ((convert t t x').run P w):=by
 obtain⟨d,hd,hkd⟩:=T.und;rw[hk]at hkd;cases hkd;obtain⟨d3,h3,k3⟩:=TE.und;rw[he]at k3;cases k3;unfold KK at hr;split at hr
 case h_2=>cases hr
 rename_i a n c hxe;rw[hxe]at hx;have hx0:=hx;cases hx with
 |@slice _ a' _ _ c' hlc hs=>
  split at hr
  case h_2=>cases hr
  rename_i ct s en hrow;obtain⟨s1,s2,p,hp,hbl,hor⟩:=hs;obtain⟨cs,tt,fr,hw,R⟩:=H.rowAt hp (hE _) hrow;have AEE:Live h a.block:=by unfold Live;rw[Cx hrow];intro hd;cases hd
  obtain⟨bl,ADg,AFd,hk2⟩:=FD hr;cases hk2
  let fr':Nat×Nat:=if fr.1 == fr.2 then(cs.size,cs.size+1)else(min fr.1 cs.size,max fr.2 (cs.size+1))
  let w':vt:=w.freeze ⟨a'.block,cs.size,none⟩ 1
  have hf:∃ g:Obj→Obj,w'.heap=w.heap.modify p.blk g∧g (.cells cs tt fr)=.cells cs tt fr':=by
   obtain⟨lo,hi⟩:=fr;refine⟨_,by show(w.freeze ⟨a'.block,cs.size,none⟩ 1).heap=_;unfold AAr;rw[if_neg AAQ,hbl],rfl⟩
  obtain⟨g,hheap,hg⟩:=hf;have e1:w'.heap.size=w.heap.size:=by rw[hheap];simp
  have e2:∀ k,k≠p.blk→w'.heap[k]? =w.heap[k]?:=fun k hk=>by
   rw[hheap,yD,if_neg (ADD hk)]
  have e3:w'.heap[p.blk]? =some (.cells cs tt fr'):=by
   rw[hheap,yD,if_pos rfl,hw,we,hg]
  have e4:w'.tape=w.tape∧w'.os=w.os∧w'.output=w.output:=by
   show(w.freeze ⟨a'.block,cs.size,none⟩ 1).tape=_∧(w.freeze ⟨a'.block,cs.size,none⟩ 1).os=_∧(w.freeze ⟨a'.block,cs.size,none⟩ 1).output=_;unfold AAr;rw[if_neg AAQ];exact⟨rfl,rfl,rfl⟩
  have hB:AER ty φ p (.cells ct s en) w'.heap[p.blk]?:=by
   rw[e3];refine .cells {R with loose:=.inl ?_};have:=R.AId (H.AEX hp ADg);show fr'.1=fr'.2∨cs.size≤fr'.1;refine .inr ?_;simp only[fr'];split
   ·exact IN _
   ·rename_i hne
    have AFv:fr.1≠fr.2:=by simpa using hne
    rcases this with h|h
    ·exact absurd h AFv
    ·show cs.size≤min fr.1 cs.size
     omega
  have key:(convert t t (.slice (some a') n c')).run P w=.ok (.slice (some a') n c') w':=by
   have hsh:w.shape? a'.block=some (tt,cs.size):=by rw[hbl];simp[AAC,hw]
   simp only[convert,vE,run_underlying hd,run_underlying h3,IS,beq_self_eq_true,markStringish,run_shape,hsh,run_freeze,vF];rfl
  rw[key];exact⟨_,w',φ,rfl,hx0,H.put (hE _) ADg hp AEE AFd e1 e2 hB,.put (H.AEX hp ADg) hp AEE AFd (by rw[Cx hrow];exact .inr ⟨rfl,rfl⟩) e1 e2 e4.1 e4.2.1 e4.2.2⟩
end
end
noncomputable section
open Go
section
variable {P:wK}{ty:TTy}{φ:Phi}{E:Nat→Prop}{h h':Hp}{w:vt}{F:ADS}{e:Env}{v:BY}
theorem Nm(H:ADX ty φ E h w){o:Blk}{ob:Obj}(hr:F6 h o Ii=.ok v h')
  (hB:AER ty (φ.put h.next {blk:=w.heap.size,off:=0,sz:=0,room:=0,es:=1}) {blk:=w.heap.size,off:=0,sz:=0,room:=0,es:=1} o (some ob)):
  BM ty φ E h w v h' (.ok (.pointer (some ⟨w.heap.size,0,none⟩)) {w with heap:=w.heap.push ob}):=by
 obtain⟨bl,hbl,hk⟩:=GH hr;cases hk
 let w':vt:={w with heap:=w.heap.push ob}
 have hs:w'.heap.size=w.heap.size+1:=by simp[w']
 have hsame:∀ k,k<w.heap.size→w'.heap[k]? =w.heap[k]?:=fun k hk=>by
  show(w.heap.push _)[k]? =_;rw[Array.getElem?_push_lt hk,Array.getElem?_eq_getElem hk]
 refine⟨_,w',φ.put h.next {blk:=w.heap.size,off:=0,sz:=0,room:=0,es:=1},rfl,O8 (Phi.AED _ _ _) rfl,
  H.new hbl (by omega) (by show w.heap.size<_;omega) (fun j q e _=>by have:=(H.dom j q e).2;show _≠w.heap.size;omega) (fun k hk _=>hsame k hk) ?_,
  .made H hbl (IN _) (by omega) hsame rfl rfl rfl⟩
 have:w'.heap[w.heap.size]? =some ob:=by show(w.heap.push _)[w.heap.size]? =_;simp
 rw[this];exact hB
theorem Wi(H:ADX ty φ E h w)(hE:∀ b,¬ E b){x:O}{x':BY}{t kt el:vx}{ti:TI}(T:ADt P t ti)(hk:ti.k=.map kt el)(hx:ADU φ (x e) x')(hr:KM x F e h=.ok v h'):
  BM ty φ E h w v h' ((zS t x').run P w):=by
 obtain⟨d,hd,hkd⟩:=T.desc;rw[hk]at hkd;cases hkd;unfold KM at hr;split at hr
 ·rename_i hxe
  rw[hxe]at hx;cases hx;have key:(zS t (.map none)).run P w=.ok (.pointer (some ⟨w.heap.size,0,none⟩)) {w with heap:=w.heap.push (.mapIter none 0 #[] 0)}:=by
   simp only[zS,vE,hd,IS,vF,run_newObj]
  rw[key];exact Nm H hr (.AFG rfl)
 ·rename_i r hxe
  rw[hxe]at hx;cases hx with
  |@map _ p hp=>
   split at hr
   case h_2=>cases hr
   rename_i es c hes;obtain⟨es',hw,ADy⟩:=H.AEZ hp (hE r) hes;have key:(zS t (.map (some p.blk))).run P w=.ok (.pointer (some ⟨w.heap.size,0,none⟩)) {w with heap:=w.heap.push (.mapIter (some p.blk) c #[] c)}:=by
    simp only[zS,vE,hd,IS,Bu hw rfl,vF,run_newObj]
   rw[key];exact Nm H hr (.iter rfl (Phi.AEq H.AEI _ _ hp))
 ·cases hr
theorem LM(n:Nat):∀ l:List Nat,Fe n l=l.contains n
 |[]=>rfl
 |x::l=>by
  unfold Fe;rw[LM n l,List.contains_cons];cases hb:vO x n with
  |true=>
   have:x=n:=Am.1 hb;subst this;simp
  |false=>
   have:¬ n=x:=fun h=>by rw[h,wz]at hb;cases hb
   simp[this]
theorem Mo(n:Nat):∀ l:List Nat,JW n l=l++[n]
 |[]=>rfl
 |x::l=>congrArg (x:: ·) (Mo n l)
theorem QY{since:Nat}{seen:List Nat}:∀ {es:List Ent} {es':List wJ} {l:List Ent},AEO φ es es'→Ko since seen es=some l→
  ∃ l',AEO φ l l'∧es'.filter (fun e=> !seen.contains e.born)=l'∧l'.filter (fun e=>decide (e.born<since))=l'∧l'.filter (fun e=>decide (e.born≥since))=[]
 |_,_,l,.nil,h=>by cases h;exact⟨[],.nil,rfl,rfl,rfl⟩
 |_,_,l,.cons (b:=b) hk hv t,h=>by
  unfold Ko at h;split at h
  ·rename_i r hr
   obtain⟨l',h1,h2,h3,h4⟩:=QY t hr;rw[LM]at h;cases hm:seen.contains b with
   |true=>
    simp only[hm,cond_true]at h;cases h;exact⟨l',h1,by rw[yx];simp only[hm,wQ,vo,if_false];exact h2,h3,h4⟩
   |false=>
    simp only[hm,cond_false]at h;obtain⟨hb,h⟩:Nat.blt b since=true∧_=some l:=by
     cases hb:Nat.blt b since with
     |true=>rw[hb]at h;exact⟨rfl,h⟩
     |false=>rw[hb]at h;cases h
    cases h;have hlt:=A9.1 hb;refine⟨_,.cons hk hv h1,by rw[yx];simp only[hm,wm,if_true];rw[h2],?_,?_⟩
    ·rw[yx];simp[hlt,h3]
    ·rw[yx];simp[Nat.not_le.2 hlt,h4]
  ·cases h
theorem Ke{last:Nat}:∀ {es:List Ent} {es':List wJ},AEO φ es es'→es'.all (fun e=>decide (e.born≥last))=FI last es
 |_,_,.nil=>rfl
 |_,_,.cons (b:=b) hk hv t=>by
  unfold FI;rw[zF,Ke t];cases hb:vJ last b with
  |true=>simp[Ab.1 hb]
  |false=>
   have:¬ last≤b:=fun h=>by rw[Ab.2 h]at hb;cases hb
   simp[this]
theorem Hu{b:Nat}{m:Option Nat}{s:Nat}{l:List Nat}{t:Nat}(hr:EA (h.bl.get b)=.ok m s l t):h.bl.get b=.iter m s l t:=by
 unfold EA at hr;split at hr<;>first|(cases hr;assumption)|cases hr
theorem lc{b m s t:Nat}(hr:EA (h.bl.get b)=.cur m s t):h.bl.get b=.cur m s t:=by
 unfold EA at hr;split at hr<;>first|(cases hr;assumption)|cases hr
theorem fd{b m s t:Nat}{sn:Option (List Nat)}(hr:EA (h.bl.get b)=.pick m s t sn):h.bl.get b=.pick m s t sn:=by
 unfold EA at hr;split at hr<;>first|(cases hr;assumption)|cases hr
theorem Q5:ADU φ (.tuple ⟨[.bool false]⟩) (.tuple #[.bool false]):=.tuple (.cons (.bool _) .nil)
theorem Zc(H:ADX ty φ E h w)(hE:∀ b,¬ E b){x:O}{x':BY}{t:vx}(hx:ADU φ (x e) x')(hr:Gz x F e h=.ok v h'):BM ty φ E h w v h' ((xG x' false t).run P w):=by
 unfold Gz at hr;split at hr
 case h_2=>cases hr
 rename_i a ha;obtain⟨hb,hr⟩:=Bk hr;obtain⟨a',rfl,hra⟩:=Fh hx ha;obtain⟨p,hp,rfl⟩:=hra.eq;have hoff:a.off=0:=Am.1 hb;unfold GI at hr;split at hr
 ·rename_i s l tl hit
  cases hr;have hrow:=H.row a.block p hp (hE _);rw[Hu hit]at hrow;generalize hw:w.heap[p.blk]? =ob at hrow;cases hrow with
  |AFG hp0=>
   have key:(xG (.pointer (some ⟨p.blk,p.off+a.off,none⟩)) false t).run P w=.ok (.tuple #[.bool false]) w:=by
    rw[hp0,hoff];simp only[xG,vE,Bu hw rfl,IS,vF]
   rw[key];exact .same H Q5
 ·rename_i m since seen last hit
  have hrow:=H.row a.block p hp (hE _);rw[Hu hit]at hrow;generalize hw:w.heap[p.blk]? =ob at hrow;cases hrow with
  |@iter _ q _ _ _ hp0 hq=>
   split at hr
   case h_2=>cases hr
   rename_i es c hes;obtain⟨es',hwm,ADy⟩:=H.AEZ hq (hE m) hes;rw[hp0,hoff];have AGR:∃ k:R,k=.ok v h'∧(!(⟨seen⟩:Array Nat).isEmpty && !(⟨es'⟩:Array wJ).isEmpty && (⟨es'⟩:Array wJ).all (fun e=>decide (e.born≥last)))=false∧
     k=(match Ko since seen es with
      |some []=>Zs h
      |some [x]=>EE h a.block (.iter (some m) since (JW x.born seen) c) fun h=>.ok (.tuple ⟨[.bool true,x.key,x.val]⟩) h
      |_=>.no):=by
    have hall:(⟨es'⟩:Array wJ).all (fun e=>decide (e.born≥last))=FI last es:=by
     rw[← Ke ADy];simp
    cases seen with
    |nil=>exact⟨_,hr,by simp,rfl⟩
    |cons s0 sl=>
     cases ADy with
     |nil=>exact⟨_,hr,by simp,rfl⟩
     |cons hk hv tl=>
      simp only at hr;rw[hall];generalize hy:FI last _=y at hr ⊢;cases y with
      |true=>cases hr
      |false=>exact⟨_,hr,by simp,rfl⟩
   obtain⟨k,hk,hstop,rfl⟩:=AGR;cases hl:Ko since seen es with
   |none=>rw[hl]at hk;cases hk
   |some l=>
    rw[hl]at hk;obtain⟨l',q1,q2,q3,q4⟩:=QY ADy hl;have f1:(⟨es'⟩:Array wJ).filter (fun e=> !(⟨seen⟩:Array Nat).contains e.born)=⟨l'⟩:=by
     rw[← q2];apply wO;simp
    have f2:(⟨l'⟩:Array wJ).filter (fun e=>decide (e.born<since))=⟨l'⟩:=by
     apply wO;rw[zg];exact q3
    have f3:(⟨l'⟩:Array wJ).filter (fun e=>decide (e.born≥since))= #[]:=by
     apply wO;rw[zg];exact q4
    cases q1 with
    |nil=>
     cases hk;have key:(xG (.pointer (some ⟨p.blk,0,none⟩)) false t).run P w=.ok (.tuple #[.bool false]) w:=by
      simp only[xG,vE,Bu hw rfl,IS,Bu hwm rfl,hstop,vo,if_false,f1,f2,f3];simp[run_choose,ym]
     have:p.off+a.off=0:=by omega
     rw[show(0:Nat)+0=0 from rfl,key];exact .same H Q5
    |cons hkk hvv tl=>
     cases tl with
     |cons _ _ _=>cases hk
     |nil=>
      rename_i k0 k1 v0 v1 b0;have AEE:Live h a.block:=by unfold Live;rw[Hu hit];intro hd;cases hd
      simp only at hk;obtain⟨h1,hk2,H1,ev⟩:=FE (ob:=.mapIter (some q.blk) since ⟨seen++[b0]⟩ c) H (hE _) hp AEE hk (by rw[Hu hit];exact .inr trivial) (by rw[Mo];exact .iter hp0 hq);cases hk2;have key:(xG (.pointer (some ⟨p.blk,0,none⟩)) false t).run P w=.ok (.tuple #[.bool true,k1,v1]) {w with heap:=w.heap.setIfInBounds p.blk (.mapIter (some q.blk) since ⟨seen++[b0]⟩ c)}:=by
       have ADx:=Dr (P:=P) (ob':=.mapIter (some q.blk) since ⟨seen++[b0]⟩ c) hw rfl;simp only[xG,vE,Bu hw rfl,IS,Bu hwm rfl,hstop,vo,if_false,f1,f2,f3];simp[run_choose,ym,ADx]
      rw[key];exact⟨_,_,φ,rfl,.tuple (.cons (.bool _) (.cons hkk (.cons hvv .nil))),H1,ev⟩
 ·cases hr
 ·cases hr
 ·rename_i m s last hit
  have hrow:=H.row a.block p hp (hE _);rw[fd hit]at hrow;cases hrow
theorem QW:∀ l:List Nat,QV l=l.getLast?
 |[]=>rfl
 |[x]=>rfl
 |x::y::l=>by
  show QV (y::l)=_;rw[QW (y::l)];rfl
theorem Pu{n:Nat}:∀ {es:List Ent} {es':List wJ} {x:Ent},AEO φ es es'→GD n es=some x→∃ x',es'.find? (fun e=>e.born == n)=some x'∧ADU φ x.key x'.key∧ADU φ x.val x'.val
 |_,_,x,.nil,h=>by cases h
 |_,_,x,.cons (k':=k') (v':=v') (b:=b) hk hv t,h=>by
  unfold GD at h;rw[List.find?_cons];cases hb:vO b n with
  |true=>
   simp only[hb,cond_true]at h;cases h;have:b=n:=Am.1 hb;subst this;refine⟨⟨k',v',b⟩,?_,hk,hv⟩;simp only[beq_self_eq_true]
  |false=>
   simp only[hb,cond_false]at h;have hne:(b == n)=false:=by
    rw[beq_eq_false_iff_ne];intro he;rw[he,wz]at hb;cases hb
   obtain⟨x',q1,q2⟩:=Pu t h;exact⟨x',by simp only[hne];exact q1,q2⟩
theorem SZ(H:ADX ty φ E h w)(hE:∀ b,¬ E b){m s last:Nat}{q:Pl}(hq:φ m=some q)(hr:Ho m s last h=.ok v h'):
  h'=h∧∃ (es':List wJ) (c:Nat) (en':wJ) (k0 v0:BY),w.heap[q.blk]? =some (.map ⟨es'⟩ c)∧c=last∧(⟨es'⟩:Array wJ).find? (fun e=>e.born == s)=some en'∧v=.tuple ⟨[k0,v0]⟩∧ADU φ k0 en'.key∧ADU φ v0 en'.val:=by
 unfold Ho at hr;split at hr
 case h_2=>cases hr
 rename_i es c hes;obtain⟨hc,hr⟩:=Bk hr;split at hr
 case h_2=>cases hr
 rename_i en hen;cases hr;obtain⟨es',hwm,ADy⟩:=H.AEZ hq (hE m) hes;obtain⟨en',q1,q2,q3⟩:=Pu ADy hen;exact⟨rfl,es',c,en',_,_,hwm,Am.1 hc,by rw[← q1];simp,rfl,q2,q3⟩
theorem WV(H:ADX ty φ E h w)(hE:∀ b,¬ E b){x:O}{x':BY}(hx:ADU φ (x e) x')(hr:Ie x F e h=.ok v h'):BM ty φ E h w v h' ((AAF x').run P w):=by
 unfold Ie at hr;split at hr
 case h_2=>cases hr
 rename_i a ha;obtain⟨hb,hr⟩:=Bk hr;obtain⟨a',rfl,hra⟩:=Fh hx ha;obtain⟨p,hp,rfl⟩:=hra.eq;have hoff:a.off=0:=Am.1 hb;have main:∀ {m s last:Nat} {q:Pl} {sn:Nat} {seen:List Nat},φ m=some q→p.off=0→w.heap[p.blk]? =some (.mapIter (some q.blk) sn ⟨seen⟩ last)→seen.getLast? =some s→Ho m s last h=.ok v h'→
   BM ty φ E h w v h' ((AAF (.pointer (some ⟨p.blk,p.off+a.off,none⟩))).run P w):=by
  intro m s last q sn seen hq hp0 hw hl hr;obtain⟨rfl,es',c,en',k0,v0,hwm,rfl,hfind,rfl,q2,q3⟩:=SZ H hE hq hr;have AE7:(⟨seen⟩:Array Nat).back? =some s:=by
   rw[← hl];simp[Array.back?_eq_getElem?,List.getLast?_eq_getElem?]
  rw[hp0,hoff];have key:(AAF (.pointer (some ⟨p.blk,0,none⟩))).run P w=.ok (.tuple #[en'.key,en'.val]) w:=by
   simp only[AAF,vE,Bu hw rfl,IS,AE7,Bu hwm rfl,bne_self_eq_false,vo,if_false,hfind,vF]
  rw[key];exact .same H (.tuple (.cons q2 (.cons q3 .nil)))
 unfold J4 at hr;split at hr
 ·rename_i m since seen last hit
  have hrow:=H.row a.block p hp (hE _);rw[Hu hit]at hrow;generalize hw:w.heap[p.blk]? =ob at hrow;cases hrow with
  |@iter _ q _ _ _ hp0 hq=>
   split at hr
   case h_2=>cases hr
   rename_i st hst;exact main hq hp0 hw (by rw[← QW];exact hst) hr
 ·rename_i m st last hit
  have hrow:=H.row a.block p hp (hE _);rw[lc hit]at hrow;generalize hw:w.heap[p.blk]? =ob at hrow;cases hrow with
  |cur hp0 hq hl=>exact main hq hp0 hw hl hr
 ·cases hr
end
end
noncomputable section
open Go
section
variable {P:wK}{ty:TTy}{φ:Phi}{E:Nat→Prop}{h h':Hp}{w:vt}{F:ADS}{e:Env}{v:BY}
theorem Lb{t:Nat}{k:KS→OpF}(hr:wKey ty t k F e h=.ok v h'):∃ ti kt el K,ty.get t=some ti∧ti.k=.map kt el∧AEU P ty kt K∧k K F e h=.ok v h':=by
 unfold wKey at hr;obtain⟨ti,hti,hr⟩:=BZ hr;cases hk:ti.k with
 |map kt el=>
  simp only[hk]at hr;obtain⟨ki,hki,hr⟩:=BZ hr;cases hf:flatK ty 8 kt with
  |none=>rw[hf]at hr;cases hr
  |some ks=>
   rw[hf]at hr;exact⟨ti,kt,el,⟨ki.k.agg,ks⟩,hti,hk,⟨⟨ki,hki,rfl⟩,hf⟩,hr⟩
 |_=>simp only[hk]at hr;cases hr
theorem AEU.und(hT:Ck P ty){t:Nat}{K:KS}(hK:AEU P ty t K):∃ d,P.underlying t=some d:=by
 obtain⟨ti,hti,_⟩:=hK.ti;obtain⟨d,hd,_⟩:=(hT t ti hti).und;exact⟨d,hd⟩
theorem Ot{t:Nat}{ti:TI}(T:ADt P t ti){kt el:Nat}(hk:ti.k=.map kt el):P.underlying t=some (.map kt el):=by
 obtain⟨d,hd,hkd⟩:=T.und;rw[hk]at hkd;cases hkd;exact hd
theorem EX{ok:Bool}{u:BY}{b:Bool}(hr:DN ok u b h=.ok v h'):h'=h∧v=(if ok then .tuple ⟨[u,.bool b]⟩else u):=by
 unfold DN at hr;cases ok<;>simp only[BC]at hr<;>cases hr<;>exact⟨rfl,rfl⟩
theorem Du{ok:Bool}{u u':BY}{b:Bool}(hu:ADU φ u u'):ADU φ (if ok then .tuple ⟨[u,.bool b]⟩else u) (if ok then .tuple #[u',.bool b]else u'):=by
 cases ok
 ·exact hu
 ·exact .tuple (.cons hu (.cons (.bool b) .nil))
theorem TB(hT:Ck P ty)(H:ADX ty φ E h w){t kt el:Nat}{ti ei:TI}(T:ADt P t ti)(hk:ti.k=.map kt el)(TE:ADt P el ei)(hz:ei.zero.length=ei.size){z:BY}(hzv:zeroV ei=some z){K:KS}(hK:AEU P ty kt K)
  {ok:Bool}{x ix:O}{x' ix':BY}(hx:ADU φ (x e) x')(hix:ADU φ (ix e) ix')(hE:∀ r,x e=.map (some r)→¬ E r)(hr:E7 K z ok x ix F e h=.ok v h'):
  BM ty φ E h w v h' ((xr t x' ix' ok).run P w):=by
 obtain⟨z0,hz0,hzr,_,hzp⟩:=TE.AEY hz;rw[hzv]at hz0;cases hz0;have AFQ:ADU φ z z:=by
  unfold zeroV at hzv;split at hzv
  ·cases hzv;exact .agg (.plain hzp)
  ·split at hzv
   ·rename_i u hu
    cases hzv;rw[hu]at hzp;simp only[zF,ACZ,AAq]at hzp;exact .plain hzp
   ·cases hzv
 obtain⟨kd,hkd⟩:=hK.und hT;have hu:=Ot T hk;unfold E7 Fp at hr;split at hr
 case h_2=>cases hr
 rename_i hfit;have he:=JC hfit hix;subst he;split at hr
 ·rename_i hxe
  rw[hxe]at hx;cases hx;obtain⟨rfl,rfl⟩:=EX hr;have hf:(AAf kt (ix e) []).run P w=.ok none w:=Do hkd (by simp[vg]);have key:(xr t (.map none) (ix e) ok).run P w=.ok (if ok then .tuple #[z,.bool false]else z) w:=by
   simp only[xr,vE,run_underlying hu,IS,vF,hK.check hT hfit,hf,hzr]
  rw[key];exact .same H (Du AFQ)
 ·rename_i r hxe
  rw[hxe]at hx;cases hx with
  |@map _ p hp=>
   split at hr
   case h_2=>cases hr
   rename_i es c hes;obtain⟨es',hw,ADy⟩:=H.AEZ hp (hE r hxe) hes;have AFa:=Bu (P:=P) hw rfl;split at hr
   ·rename_i en hfe
    obtain⟨rfl,rfl⟩:=EX hr;obtain⟨j,u',hfa,hu'⟩:=L4 hT hK hfit w 0 ADy hfe;have hf:=Do hkd hfa;have key:(xr t (.map (some p.blk)) (ix e) ok).run P w=.ok (if ok then .tuple #[u',.bool true]else u') w:=by
     simp only[xr,vE,run_underlying hu,IS,vF,AFa,hK.check hT hfit,hf]
    rw[key];exact .same H (Du hu')
   ·rename_i hfe
    obtain⟨rfl,rfl⟩:=EX hr;have hfa:=L4 hT hK hfit w 0 ADy hfe;have hf:=Do hkd hfa;have key:(xr t (.map (some p.blk)) (ix e) ok).run P w=.ok (if ok then .tuple #[z,.bool false]else z) w:=by
     simp only[xr,vE,run_underlying hu,IS,vF,AFa,hK.check hT hfit,hf,hzr]
    rw[key];exact .same H (Du AFQ)
   ·cases hr
 ·cases hr
theorem Sx(H:ADX ty φ E h w){t xt:Nat}{ti:TI}(T:ADt P t ti)(hk:ti.k≠.iface)(hz:ti.zero.length=ti.size){z:BY}(hzv:zeroV ti=some z){ok:Bool}{x:O}{x':BY}(hx:ADU φ (x e) x')(hr:LN t ok z x F e h=.ok v h'):
  BM ty φ E h w v h' ((xJ x' xt t ok).run P w):=by
 obtain⟨z0,hz0,hzr,_,hzp⟩:=T.AEY hz;rw[hzv]at hz0;cases hz0;have AFQ:ADU φ z z:=by
  unfold zeroV at hzv;split at hzv
  ·cases hzv;exact .agg (.plain hzp)
  ·split at hzv
   ·rename_i u hu
    cases hzv;rw[hu]at hzp;simp only[zF,ACZ,AAq]at hzp;exact .plain hzp
   ·cases hzv
 obtain⟨d,hd,hkd⟩:=T.und;unfold LN at hr;split at hr
 ·rename_i hxe
  rw[hxe]at hx;cases hx with
  |nilIface=>
   cases ok with
   |false=>cases hr
   |true=>
    obtain⟨rfl,rfl⟩:=EX hr;have key:(xJ .nilIface xt t true).run P w=.ok (if true then .tuple #[z,.bool false]else z) w:=by
     simp only[xJ,vE,run_underlying hd,IS];cases d<;>first|(simp only[if_true,vE,hzr,IS,vF];done)|exact absurd rfl (hkd.AEt hk _)
    rw[key];exact .same H (Du AFQ)
 ·rename_i u q hxe
  rw[hxe]at hx;cases hx with
  |@iface _ _ q' hq=>
   split at hr
   ·rename_i hb
    have hb:=Am.1 hb;subst hb;obtain⟨rfl,rfl⟩:=EX hr;have key:(xJ (.iface u q') xt u ok).run P w=.ok (if ok then .tuple #[q',.bool true]else q') w:=by
     simp only[xJ,vE,run_underlying hd,IS];cases d<;>first|(simp only[if_true,vF];done)|exact absurd rfl (hkd.AEt hk _)
    rw[key];exact .same H (Du hq)
   ·rename_i hb
    have hne:¬ u=t:=fun he=>by rw[Am.2 he]at hb;cases hb
    cases ok with
    |false=>cases hr
    |true=>
     obtain⟨rfl,rfl⟩:=EX hr;have key:(xJ (.iface u q') xt t true).run P w=.ok (if true then .tuple #[z,.bool false]else z) w:=by
      simp only[xJ,vE,run_underlying hd,IS];cases d<;>first|(simp only[if_neg hne,if_true,vE,hzr,IS,vF];done)|exact absurd rfl (hkd.AEt hk _)
     rw[key];exact .same H (Du AFQ)
 ·cases hr
theorem Mf(hT:Ck P ty)(H:ADX ty φ E h w)(hE:∀ b,¬ E b){t kt el:Nat}{ti:TI}(T:ADt P t ti)(hk:ti.k=.map kt el){K:KS}(hK:AEU P ty kt K)
  {m key x:O}{m' key' x':BY}(hm:ADU φ (m e) m')(hkey:ADU φ (key e) key')(hx:ADU φ (x e) x')(hr:E8 K m key x F e h=.ok v h'):
  XG ty φ E h w v h' ((AAE t m' key' x').run P w):=by
 obtain⟨kd,hkd⟩:=hK.und hT;have hu:=Ot T hk;unfold E8 at hr;simp only[BC]at hr;unfold La at hr;split at hr
 case h_2=>cases hr
 rename_i hfit;obtain⟨he,hkk⟩:=L8 hfit hkey;subst he;split at hr
 case h_2=>cases hr
 rename_i r hme;rw[hme]at hm;cases hm with
 |@map _ p hp=>
  split at hr
  case h_2=>cases hr
  rename_i es c hes;obtain⟨es',hw,ADy⟩:=H.AEZ hp (hE r) hes;have AFa:=Bu (P:=P) hw rfl;split at hr
  ·rename_i es2 hse
   obtain⟨j,u',en,hfa,hen,hek,AFw⟩:=LW hT hK hfit hx hkk w 0 ADy hse;have hf:=Do hkd hfa;obtain⟨h1,hk1,H1,ev⟩:=FE (ob:=.map ⟨es'.modify (0+j) fun en=>{en with key:=key e,val:=x'}⟩ c) H (hE _) hp (GG hes) hr (by rw[Fm hes];exact .inr trivial) (.map (by rw[sh];exact AFw));cases hk1;refine⟨rfl,_,?_,H1,ev⟩;have AHD:(ABT (((⟨es'⟩:Array wJ)[0+j]?.map (·.key)).getD (key e)) (key e)).run P w=.ok (key e) w:=by
    have:(⟨es'⟩:Array wJ)[0+j]? =some en:=by rw[sh];simpa using hen
    rw[this];simp only[we,Option.getD_some,hek];unfold ABT;rw[Vy hfit 9999];simp
   have ADx:=Dr (P:=P) (ob':=.map ⟨es'.modify (0+j) fun en=>{en with key:=key e,val:=x'}⟩ c) hw rfl;simp only[AAE,vE,run_underlying hu,IS,AFa,hK.check hT hfit,hf,AHD];rw[← ADx];congr 3;apply wO;simp
  ·rename_i hse
   have hfa:=LW hT hK hfit hx hkk w 0 ADy hse;have hf:=Do hkd hfa;obtain⟨h1,hk1,H1,ev⟩:=FE (ob:=.map ⟨es'++[{key:=key e,val:=x',born:=c}]⟩ (c+1)) H (hE _) hp (GG hes) hr (by rw[Fm hes];exact .inr trivial) (.map (by rw[Tb];exact AEO.append (.cons hkk hx .nil) ADy));cases hk1;refine⟨rfl,_,?_,H1,ev⟩;have ADx:=Dr (P:=P) (ob':=.map ⟨es'++[{key:=key e,val:=x',born:=c}]⟩ (c+1)) hw rfl;simp only[AAE,vE,run_underlying hu,IS,AFa,hK.check hT hfit,hf];rw[← ADx];congr 2;simp
  ·cases hr
theorem S6(hT:Ck P ty)(H:ADX ty φ E h w)(hE:∀ b,¬ E b){ats:Array vx}{t' t kt el:Nat}{ti:TI}(h0:ats[0]? =some t)(T:ADt P t ti)(hk:ti.k=.map kt el){K:KS}(hK:AEU P ty kt K)
  {m key:O}{m' key':BY}(hm:ADU φ (m e) m')(hkey:ADU φ (key e) key')(hr:LO K m key F e h=.ok v h'):
  BM ty φ E h w v h' ((yH ats t' #[m',key']).run P w):=by
 obtain⟨kd,hkd⟩:=hK.und hT;have hu:=Ot T hk;unfold LO Tx at hr;split at hr
 case h_2=>cases hr
 rename_i hfit;obtain⟨he,hkk⟩:=L8 hfit hkey;subst he;split at hr
 case h_2=>cases hr
 rename_i r hme;rw[hme]at hm;cases hm with
 |@map _ p hp=>
  split at hr
  case h_2=>cases hr
  rename_i es c hes;obtain⟨es',hw,ADy⟩:=H.AEZ hp (hE r) hes;have AFa:=Bu (P:=P) hw rfl;split at hr
  case h_2=>cases hr
  rename_i es2 hde;rcases Tw hT hK hfit w 0 ADy hde with ⟨hfa,rfl⟩|⟨j,u',hfa,AFw⟩
  ·have hf:=Do hkd hfa
   obtain⟨h1,hk1,H1,ev⟩:=FE (ob:=.map ⟨es'⟩ c) H (hE _) hp (GG hes) hr (by rw[Fm hes];exact .inr trivial) (.map ADy);cases hk1;have key:(yH ats t' #[.map (some p.blk),key e]).run P w=.ok ADV {w with heap:=w.heap.setIfInBounds p.blk (.map ⟨es'⟩ c)}:=by
    simp only[yH,h0,vb,vf,wE,vE,run_underlying hu,IS,vF,AFa,hK.check hT hfit,hf,Dr hw rfl];rfl
   rw[key];exact⟨_,_,φ,rfl,.tuple .nil,H1,ev⟩
  ·have hf:=Do hkd hfa
   obtain⟨h1,hk1,H1,ev⟩:=FE (ob:=.map ⟨es'.eraseIdx j⟩ c) H (hE _) hp (GG hes) hr (by rw[Fm hes];exact .inr trivial) (.map AFw);cases hk1;have AGS:(⟨es'⟩:Array wJ).eraseIdxIfInBounds (0+j)=⟨es'.eraseIdx j⟩:=by
    apply wO;rw[sh];unfold Array.eraseIdxIfInBounds;split
    ·simp
    ·rename_i hj
     simp only;rw[List.eraseIdx_of_length_le (by simpa using hj)]
   have key:(yH ats t' #[.map (some p.blk),key e]).run P w=.ok ADV {w with heap:=w.heap.setIfInBounds p.blk (.map ⟨es'.eraseIdx j⟩ c)}:=by
    simp only[yH,h0,vb,vf,wE,vE,run_underlying hu,IS,vF,AFa,hK.check hT hfit,hf,AGS,Dr hw rfl];rfl
   rw[key];exact⟨_,_,φ,rfl,.tuple .nil,H1,ev⟩
end
end
end Go.Proofs.YtedbmmfebjfibaaGreat

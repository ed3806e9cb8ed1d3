/-
  Part ZD of what Lawke stands on: printed by program, names and spaces cut.
-/
import Derived.Test.YtedbmmfebjfibaaGreatZC
import Derived.Laws.BytesString
import Derived.DeepKeys3
open Go renaming Value→IN,IntKind→wH,Operand→wV,World→wb,TypeId→we,MapEntry→xA,Program→xD,newRow→AAe,TypeDesc→ABH,BinOp→ACo
open Nat renaming le_refl→IT,zero_add→vk,succ→vo,ble→vx,beq→wB,lt_or_ge→wN,mul→wY,add→xc,beq_refl→xu,div→yN,mul_one→yk,mod→zQ,succ_mul→zW,one_ne_zero→AA5,le_add_right→ACj,mul_le_mul→AC3
open Go.Result renaming andThen_ok→If
open List renaming length_append→No,getD_eq_getElem?_getD→vm,mem_cons→wA,getElem?_append_left→wD,getElem?_toArray→wO,getElem?_cons_zero→wR,range→wm,getElem?_cons_succ→wy,map_cons→xV,map_map→zb,filter_cons→zl,length_eq_zero_iff→zt,all_cons→zu,drop_drop→ABC,cons→ACL,map_flatten→ACW,all_nil→ADH
open Go.Sem renaming run_bind→vq,run_pure→vt,run_ite→zz
open Bool renaming and_eq_true→wJ,false_eq_true→wW,not_true→xJ,not_false→yA,and_true→ABZ
open Go.Op renaming operands→wL,equalIn→zN,equal→AAE
open Go.Instr renaming findAsking→wS,next→yH,typeAssert→yM,lookup→yw,sameBits→AAD,range→AAG,mapUpdate→AAs,entry→AAt,sameNow→ABJ,findNow→ABK,findKey→ABL,keyThatStays→AB9
open Go.Builtin renaming firstCells→w9,len_→xQ,clear_→xU,append_→yf,nextslicecap→zA,delete_→zI,zeroCells→AAQ,cap_→ABO
open Array renaming ext'→xG,all_eq_true_iff_forall_mem→yC,mem_toList_iff→yF,getElem?_setIfInBounds→yT,getElem?_modify→zE,toList_filter→AAV,getElem?_push→AB3,replicate→ACa
open Go.Value renaming int→xY,iface→ABw,formed→AC0
open Option renaming map_some→xa
open Go.IntKind renaming i64→yK,signed→ACM,bits→ACl,min→ACu,max→ACv
open Go.Program renaming keyTypeAt→yj,keyLits→zG,eqGuardType→zx
open UInt8 renaming ofNat→zF
open Go.Question renaming forced→zg
open Go.World renaming shape?→ABa,freeze→ABb
open Go.Deferred renaming ofValue→AB0
open ByteArray renaming empty→AB1
open Go.Oper renaming wp→ADU
open Ne renaming symm→ADw
set_option linter.unusedSimpArgs false
set_option linter.unusedVariables false
namespace Go.Proofs.YtedbmmfebjfibaaGreat
noncomputable section
open Go
section
variable {P:xD}{U:TTy}{φ:Phi}{E:Nat->Prop}{h h':Hp}{w:wb}{F:AEB}{e:Env}{v:IN}
theorem aZ{AEM en:Nat}{base:Option Addr}{sc need:Nat}{cs:List IN}(hr:Jf AEM en base sc need cs h=.ok v h'):
  ∃ (t:VT) (m:Nat),(∀ j,j<cs.length->t.get j=cs.getD j undef)/\m=cs.length/\E5 AEM en base sc need t m h=.ok v h':=by
 unfold Jf at hr;split at hr
 case h_2=>cases hr
 rename_i c AEg;exact⟨c,_,JE AEg,BL _,hr⟩
open Classical in
theorem RI{AEM en:Nat}{base:Option Addr}{sl sc need:Nat}{news:List IN}
  (hr:HJ AEM en base sl sc need news h (BJ h AEM (.slice base sl sc) sl fun olds=>Jf AEM en base sc need (olds++news) h)=.ok v h'):
  ∃ AKy:List IN->R,BJ h AEM (.slice base sl sc) sl AKy=.ok v h'/\∀ olds,AKy olds=.ok v h'->∃ (t:VT) (m:Nat),(∀ j,j<(olds++news).length->t.get j=(olds++news).getD j undef)/\
   m=(olds++news).length/\E5 AEM en base sc need t m h=.ok v h':=by
 have AGN:BJ h AEM (.slice base sl sc) sl (fun olds=>Jf AEM en base sc need (olds++news) h)=.ok v h'->
   ∃ AKy:List IN->R,BJ h AEM (.slice base sl sc) sl AKy=.ok v h'/\∀ olds,AKy olds=.ok v h'->∃ (t:VT) (m:Nat),(∀ j,j<(olds++news).length->t.get j=(olds++news).getD j undef)/\
    m=(olds++news).length/\E5 AEM en base sc need t m h=.ok v h':=fun hr=>⟨_,hr,fun olds h=>aZ h⟩
 unfold HJ at hr;split at hr
 ·exact AGN hr
 ·rename_i _ a
  split at hr
  ·rename_i hoff
   split at hr
   ·rename_i c sz ec hrow
    split at hr
    ·rename_i hb
     have hsz:sz=sl * AEM:=Am.1 hb;split at hr
     case h_2=>cases hr
     rename_i t AEg;refine⟨fun olds=>if olds=AFZ c 0 sz then E5 AEM en (some a) sc need t (xc sz (BA news)) h else .no,?_,fun olds ho=>?_⟩
     ·unfold BJ
      simp only[hrow,hoff];have hle:vx (xc 0 (wY sl AEM)) sz=true:=Ac.2 (by show 0+sl*AEM<=sz;omega);rw[hle,F6,List.append_nil];have:wY sl AEM=sz:=hsz.symm;rw[this];simp only[cond_true,if_true];exact hr
     ·by_cases he:olds=AFZ c 0 sz
      ·simp only[he,if_true]at ho
       subst he;refine⟨t,_,fun j hj=>?_,?_,ho⟩
       ·have hl:(AFZ c 0 sz).length=sz:=GC c 0 sz
        rw[G7 _ _ _ _ AEg j,vm (l:=AFZ c 0 sz++news)];rw[No,hl]at hj;rcases wN j sz with hjs|hjs
        ·rw[if_neg (by omega),wD (by omega)]
         simp[AFZ,hjs]
        ·rw[if_pos (by omega),List.getElem?_append_right (by omega),hl,<- vm]
       ·rw[No,GC,BL];rfl
      ·simp only[he,if_false]at ho;cases ho
    ·exact AGN hr
   ·exact AGN hr
  ·exact AGN hr
def CN(elem:we)(size:Nat)(base:Option Addr)(s:IN)(sLen sCap n:Nat)(AFo:Bool)(x:IN)(AEu:Sem (Array IN)):Sem IN:=do
 let need:=sLen+n
 if need<=sCap then
  let new <- AEu
  if let some a:=base then storeCells (a.add (sLen*size)) new.toList
  pure (.slice base need sCap)
 else
  if(need:Int) > yK.max/\(AFo\/(<- typeInfo elem).bytes=0)then runtimePanic (.error "growslice: len out of range")
  if zA need sCap*(<- typeInfo elem).bytes > 2 ^ 48 then(if AFo then runtimePanic (.error "growslice: len out of range")else do
   if !(<- Builtin.mayShare size sLen n base x)then mark .noRoom
   unsupported (.resourceLimit "append: a slice or a string whose bytes no memory bears"))
  let AGB <- choose (.appendCap need sCap elem)
  askRoom (AGB*(<- typeInfo elem).bytes)
  let old <- w9 size sLen s
  let new <- AEu
  let rest:=AAQ (<- zeroValue elem).cells (AGB - need)
  pure (.slice (some (<- AAe elem (old++new++rest))) need AGB)
theorem In(H:AEG U φ E h w)(hE:∀ b,¬ E b){en:Nat}{ei:TI}(hty:U.get en=some ei)(TE:AEd P en ei)(hes:0<ei.size)(hz:ei.zero.length=ei.size)
  {base base':Option Addr}{sl sc sc' n:Nat}(hs:AED φ (.slice base sl sc) (.slice base' sl sc')){AFo:Bool}{x':IN}{AEu:Sem (Array IN)}{news news':List IN}
  (hn:AEX φ news news')(hnl:news.length=n*ei.size)(AHX:∀ w':wb,w'.heap=w.heap->AEu.run P w'=.ok ⟨news'⟩ w')
  (hr:(∃ k,sl+n<=sc/\k=(match base with
    |none=>(.ok (.slice none (sl+n) sc) h:R)
    |some a=>Co (FD a (sl*ei.size)) news h fun h=>.ok (.slice (some a) (sl+n) sc) h)/\k=.ok v h')\/
   (sc<sl+n/\vx (wY (vo (sl+n)) (vo ei.bytes)) Jm=true/\Bc news=true/\
    ∃ AKy:List IN->R,BJ h ei.size (.slice base sl sc) sl AKy=.ok v h'/\∀ olds,AKy olds=.ok v h'->∃ (t:VT) (m:Nat),(∀ j,j<(olds++news).length->t.get j=(olds++news).getD j undef)/\
     m=(olds++news).length/\E5 ei.size en base sc (sl+n) t m h=.ok v h')):
  BR U φ E h w v h' ((CN en ei.size base' (.slice base' sl sc') sl sc' n AFo x' AEu).run P w):=by
 obtain⟨inf,AGK,hsz,hbt,_⟩:=TE.info;obtain⟨z,_,hzr,hzc,hzp⟩:=TE.AFG hz;have hzs:z.cells.size=ei.size:=by rw[<- hz,<- hzc];simp
 rcases hr with ⟨k,hle,rfl,hr⟩|⟨hlt,AHt,hone,AKy,hr,hG⟩
 ·cases hs with
  |AEz=>
   cases hr;have:n=0:=by omega
   subst this;have key:(CN en ei.size none (.slice none 0 0) 0 0 0 AFo x' AEu).run P w=.ok (.slice none 0 0) w:=by
    simp only[CN,IT,if_true,vq,AHX w rfl,If,vt]
   rw[key];exact .same H .AEz
  |@slice a a' _ _ _ hlc hs=>
   simp only at hr;have h0:sc=0->news=[]:=fun h0=>zt.1 (by
    have:n=0:=by omega
    rw[hnl,this,Nat.zero_mul])
   obtain⟨h1,w1,hk,hrun,H1,ev⟩:=Ym (P:=P) H hE hs h0 hr hn;cases hk;have hcc:sl+n<=sc':=Nat.le_trans hle hs.le;have key:(CN en ei.size (some a') (.slice (some a') sl sc') sl sc' n AFo x' AEu).run P w=.ok (.slice (some a') (sl+n) sc') w1:=by
    simp only[CN,hcc,if_true,vq,AHX w rfl,If,hrun,vt]
   rw[key];exact⟨_,_,φ,rfl,.slice hle hs,H1,ev⟩
 ·have hs0:=hs
  obtain⟨olds,AFq,hr,ho,hrun,hl1,hl2,hcell⟩:=GE (P:=P) H (fun _ _ _ _=>hE _) hs hr (fun m hm=>by cases hm;exact IT _);obtain⟨tr,tn,hT,hN,hr⟩:=hG olds hr;have AHu:=Iu hn hone;obtain⟨hm1,hm2⟩:=WX AHt;have hol:olds.length=sl*ei.size:=by
   rw[<- ho.length];cases base' with
   |none=>cases hs;have:=hrun w rfl;simp only[w9,vt]at this;cases this;simp
   |some a'=>exact hl1 a' sl sc' rfl
  have AJZ:(olds++news).length=(sl+n)*ei.size:=by rw[No,hol,hnl,Nat.add_mul]
  obtain⟨AJa,AHv⟩:=aa (P:=P) H hE hty hes hs hlt ho hn hol AJZ AHu (fun a a' ha ha' hpos=>hcell a sl sc (by rw[ha]) hpos) hT hN hr;rcases wN sc' (sl+n)with hroom|hroom
  ·
   let q:Question:=.appendCap (sl+n) sc' en
   let c:Nat:=q.cut (w.tape w.drawn q)
   let w1:wb:={w with drawn:=w.drawn+1}
   have hc:sl+n<=c:=ACj _ _;have hrl:(BQ z.cells.toList (c - (sl+n))).length=(c - (sl+n))*ei.size:=by rw[GB];simp[hzs]
   obtain⟨ψ,hv,H2,ev⟩:=AJa c (BQ z.cells.toList (c - (sl+n))) hc hrl {w1 with heap:=w.heap.push (.cells ⟨(AFq++news')++BQ z.cells.toList (c - (sl+n))⟩ en)} hroom rfl rfl rfl rfl;have AGQ:¬ ((sl+n:Nat):Int) > yK.max:=by
    have:yK.max=9223372036854775807:=by decide
    rw[this];omega
   have hnx:¬ (zA (sl+n) sc'*ei.bytes > 2 ^ 48):=by
    have h1:=iK hroom;have h2:zA (sl+n) sc'*ei.bytes<=(2*(sl+n))*ei.bytes:=Nat.mul_le_mul_right _ h1;have h3:(2*(sl+n))*ei.bytes<=(2*(sl+n+1))*(ei.bytes+1):=AC3 (by omega) (by omega);have h4:(2*(sl+n+1))*(ei.bytes+1)=2*((sl+n+1)*(ei.bytes+1)):=by rw[Nat.mul_assoc]
    omega
   have AJb:¬ (sl+n<=sc'):=by omega
   have key:(CN en ei.size base' (.slice base' sl sc') sl sc' n AFo x' AEu).run P w=.ok (.slice (some ⟨w.heap.size,0,none⟩) (sl+n) c)
     {w1 with heap:=w.heap.push (.cells ⟨(AFq++news')++BQ z.cells.toList (c - (sl+n))⟩ en)}:=by
    have ho1:=hrun w1 rfl;have hn1:=AHX w1 rfl;have AFr:q.forced=false:=rfl;simp only[CN,AJb,if_false,vq,run_typeInfo _ AGK,If,AGQ,false_and,vt,hbt,hnx,zz,run_choose,AFr,wW,run_askRoom];show((w9 ei.size sl (.slice base' sl sc')).run P w1).andThen _=_;rw[ho1];simp only[If];show(AEu.run P w1).andThen _=_;rw[hn1];have AHw:∀ a b:List IN,(⟨a⟩:Array IN)++(⟨b⟩:Array IN)=⟨a++b⟩:=fun a b=>by apply xG;simp
    simp only[If,hzr,HD,AAe,vq,run_newObj,vt,AHw];rfl
   rw[key];exact⟨_,_,ψ,rfl,hv,H2,ev⟩
  ·
   cases base' with
   |none=>cases hs;omega
   |some a'=>
    obtain⟨w',ψ,hst,hv,H2,ev⟩:=AHv a' rfl hroom;have key:(CN en ei.size (some a') (.slice (some a') sl sc') sl sc' n AFo x' AEu).run P w=.ok (.slice (some a') (sl+n) sc') w':=by
     simp only[CN,hroom,if_true,vq,AHX w rfl,If,hst,vt]
    rw[key];exact⟨_,_,ψ,rfl,hv,H2,ev⟩
theorem KF{ats:Array we}{dt st t el:we}(h0:ats[0]? =some dt)(h1:ats[1]? =some st){ti xi:TI}(T:AEd P dt ti)(hk:ti.k=.slice el)(TX:AEd P st xi)(hx:(∃ q,xi.k=.slice q)\/xi.k=.string){ei:TI}(TE:AEd P el ei){base:Option Addr}{sl sc n:Nat}{x:IN}
  (hn:(Builtin.lenOf x).run P w=.ok n w):
  (yf ats t #[.slice base sl sc,x]).run P w=(CN el ei.size base (.slice base sl sc) sl sc n false x (w9 ei.size n x)).run P w:=by
 obtain⟨d,hd,hkd⟩:=T.desc;rw[hk]at hkd;cases hkd;obtain⟨dx,hdx,hkx⟩:=TX.desc;rcases hx with ⟨q,hx⟩|hx<;>rw[hx]at hkx<;>cases hkx<;>
 ·unfold yf CN
  simp only[vq,hd,If,TE.size,vt,h0,h1,wO,wR,wy,hdx,wW,if_false,hn,yA,if_true];rfl
theorem NK(H:AEG U φ E h w)(hE:∀ b,¬ E b){s x:O}{s' x':IN}{ats:Array we}{dt st t el:we}(h0:ats[0]? =some dt)(h1:ats[1]? =some st){ti xi ei:TI}(T:AEd P dt ti)(hk:ti.k=.slice el)(TX:AEd P st xi)(hxk:(∃ q,xi.k=.slice q)\/xi.k=.string)
  (hty:U.get el=some ei)(TE:AEd P el ei)(hes:0<ei.size)(hz:ei.zero.length=ei.size)
  (hs:AED φ (s e) s')(hx:AED φ (x e) x')(hr:Bk ei.size ei.bytes el s x F e h=.ok v h'):BR U φ E h w v h' ((yf ats t #[s',x']).run P w):=by
 unfold Bk Dj at hr;split at hr
 case h_2=>cases hr
 rename_i base sl sc hse;rw[hse]at hs;split at hr
 case h_2=>cases hr
 rename_i n hn;obtain⟨news,news',hr,hnr,hrun,hl1,hl2,_⟩:=GE (P:=P) H (fun _ _ _ _=>hE _) hx hr (fun m hm=>by rw[hn]at hm;cases hm;exact IT _);rw[AZ]at hr;have hlen:=Ri (P:=P) (w:=w) hx hn;have hb:∃ base' sc',s'=.slice base' sl sc':=by
  cases hs
  ·exact⟨_,_,rfl⟩
  ·exact⟨_,_,rfl⟩
 obtain⟨base',sc',rfl⟩:=hb;rw[KF h0 h1 T hk TX hxk TE hlen];have hnl:news.length=n*ei.size:=by
  rw[<- hnr.length];cases x' with
  |string s=>obtain⟨q1,q2⟩:=hl2 s rfl;rw[q1,q2,yk]
  |slice a l c=>
   cases a with
   |some a=>exact hl1 a l c rfl
   |none=>
    have:=hrun w rfl;simp only[w9,vt]at this;cases this;have hn0:n=0:=by
     generalize x e=xv at hx hn;cases hx
     ·unfold lenV at hn;cases hn;rfl
     ·unfold lenV at hn;cases hn
    rw[hn0];simp
  |_=>have:=hrun w rfl;simp only[w9]at this;cases this
 refine In (P:=P) H hE hty TE hes hz hs hnr hnl hrun ?_;split at hr
 ·rename_i hb
  refine .inl ⟨_,Ac.1 hb,rfl,?_⟩;exact hr
 ·rename_i hb
  obtain⟨hm,hr⟩:=Bp hr;obtain⟨hone,hr⟩:=Bp hr;refine .inr ⟨?_,hm,hone,RI hr⟩;rcases wN sc (sl+n)with h|h
  ·exact h
  ·exact absurd (Ac.2 (show xc sl n<=sc from h)) (by rw[hb];simp)
theorem Lf{ats:Array we}{dt st t el:we}(h0:ats[0]? =some dt)(h1:ats[1]? =some st){ti xi:TI}(T:AEd P dt ti)(hk:ti.k=.slice el)(TX:AEd P st xi){q:wH}(hx:xi.k=.int q){ei:TI}(TE:AEd P el ei){base:Option Addr}{sl sc n:Nat}{q':wH}
  (hn1:n<=70368744177664)(hn2:n*ei.bytes<=70368744177664):
  (yf ats t #[.slice base sl sc,.int q' (n:Nat)]).run P w=(CN el ei.size base (.slice base sl sc) sl sc n true (.int q' (n:Nat))
   (if n*ei.size=0 then pure #[]else do pure (AAQ (<- zeroValue el).cells n))).run P w:=by
 obtain⟨d,hd,hkd⟩:=T.desc;rw[hk]at hkd;cases hkd;obtain⟨dx,hdx,hkx⟩:=TX.desc;rw[hx]at hkx;cases hkx;obtain⟨inf,AGK,hsz,hbt,_⟩:=TE.info;have w1:yK.wrap (n:Int)=n:=IA (by omega);have q0:¬ ((n:Int)<0):=by omega
 have q1:¬ ((n:Int)*(ei.bytes:Int) > 2 ^ 48):=by rw[<- Int.natCast_mul];omega
 unfold yf CN;simp only[vq,hd,If,TE.size,vt,wO,wR,wy,h0,h1,hdx,if_true,asInt,asIntOf,w1,q0,if_false,run_typeInfo _ AGK,hbt,q1,Int.toNat_natCast,xJ,wW];rfl
theorem SC(H:AEG U φ E h w)(hE:∀ b,¬ E b){s x:O}{s' x':IN}{ats:Array we}{dt st t el:we}(h0:ats[0]? =some dt)(h1:ats[1]? =some st){ti xi ei:TI}(T:AEd P dt ti)(hk:ti.k=.slice el)(TX:AEd P st xi){q:wH}(hxk:xi.k=.int q)
  (hty:U.get el=some ei)(TE:AEd P el ei)(hes:0<ei.size)(hz:ei.zero.length=ei.size)
  (hs:AED φ (s e) s')(hx:AED φ (x e) x')(hr:Fd ei.size ei.bytes el ei.zero s x F e h=.ok v h'):BR U φ E h w v h' ((yf ats t #[s',x']).run P w):=by
 unfold Fd IC at hr;split at hr
 case h_2=>cases hr
 rename_i base sl sc hse;rw[hse]at hs;split at hr
 case h_2=>cases hr
 rename_i n hn;obtain⟨q',rfl⟩:=EP hx hn;rw[AZ]at hr;have hb:∃ base' sc',s'=.slice base' sl sc':=by
  cases hs
  ·exact⟨_,_,rfl⟩
  ·exact⟨_,_,rfl⟩
 obtain⟨base',sc',rfl⟩:=hb;obtain⟨hm,hr⟩:=Bp hr;obtain⟨hone,hr⟩:=Bp hr;obtain⟨hm1,hm2⟩:=WX hm;have AKn:sl+n<=70368744177664:=hm1;have AKo:(sl+n+1)*(ei.bytes+1)<=70368744177664:=hm2;have hnb:n*ei.bytes<=(sl+n+1)*(ei.bytes+1):=AC3 (by omega) (by omega);rw[Lf h0 h1 T hk TX hxk TE (by omega) (by omega)];obtain⟨z,_,hzr,hzc,hzp⟩:=TE.AFG hz;have hzs:z.cells.size=ei.size:=by rw[<- hz,<- hzc];simp
 have AEh:AEX φ (BQ ei.zero n) (BQ ei.zero n):=H3 (.plain hzp) n;have hnl:(BQ ei.zero n).length=n*ei.size:=by rw[GB,hz]
 have AHx:Bc (BQ ei.zero n)=true:=by
  have app:∀ a b:List IN,Bc a=true->Bc b=true->Bc (a++b)=true:=by
   intro a
   induction a with
   |nil=>intro b _ h;exact h
   |cons u a ih=>
    intro b h1 h2;unfold Bc at h1;cases hu:oneCell u with
    |false=>rw[hu]at h1;cases h1
    |true=>
     rw[hu]at h1;show(bif oneCell u then Bc (a++b)else false)=true;rw[hu];exact ih b h1 h2
  have:∀ n,Bc (BQ ei.zero n)=true:=by
   intro n
   induction n with
   |zero=>rfl
   |succ n ih=>exact app _ _ hone ih
  exact this n
 refine In (P:=P) H hE hty TE hes hz hs AEh hnl (fun w' _=>?_) ?_
 ·by_cases h0:n*ei.size=0
  ·rw[if_pos h0]
   have:BQ ei.zero n=[]:=zt.1 (by rw[hnl,h0]);rw[this];rfl
  ·rw[if_neg h0]
   simp only[vq,hzr,If,HD,hzc,vt]
 ·split at hr
  ·rename_i hb
   exact .inl ⟨_,Ac.1 hb,rfl,hr⟩
  ·rename_i hb
   refine .inr ⟨?_,hm,AHx,RI hr⟩;rcases wN sc (sl+n)with h|h
   ·exact h
   ·exact absurd (Ac.2 (show xc sl n<=sc from h)) (by rw[hb];simp)
end
end
noncomputable section
open Go
section
variable {P:xD}{U:TTy}{φ:Phi}{E:Nat->Prop}{h h':Hp}{w:wb}{F:AEB}{e:Env}{v:IN}
theorem MW:∀ {cs cs':List IN} {bs:List UInt8},AEX φ cs cs'->Et cs=some bs->
  ∃ ns:List Int,cs'=ns.map (xY .u8)/\∀ s:ByteArray,(ns.foldl (fun r n=>r.push (zF n.toNat)) s).data.toList=s.data.toList++bs
 |_,_,bs,.nil,hb=>by
  cases hb;exact⟨[],rfl,fun s=>by simp⟩
 |_,_,bs,.cons (v:=u) (v':=u') (l:=l) (l':=l') hu t,hb=>by
  unfold Et at hb;split at hb
  ·cases ‹_::_=[]›
  ·rename_i n l2 heq
   injection heq with h1 h2
   subst h1;subst h2;split at hb
   ·rename_i bs' hbs
    rw[AZ]at hb;cases hb;obtain⟨ns,hns,hf⟩:=MW t hbs;have:=hu.AEj;subst this;refine⟨(n:Int)::ns,by rw[hns];rfl,fun s=>?_⟩;rw[List.foldl_cons,hf];simp
   ·cases hb
  ·cases hb
theorem YY(H:AEG U φ E h w){x:O}(hE:∀ a l c,x e=.slice (some a) l c->¬ E a.block){x':IN}{src dst el:we}{si di ei:TI}(TS:AEd P src si)(hs:si.k=.slice el)(TD:AEd P dst di)(hd:di.k=.string)(TE:AEd P el ei)(he:ei.k=.int .u8)
  (hx:AED φ (x e) x')(hr:Fe x F e h=.ok v h'):BR U φ E h w v h' ((convert src dst x').run P w):=by
 obtain⟨d1,h1,k1⟩:=TS.und;obtain⟨d2,h2,k2⟩:=TD.und;obtain⟨d3,h3,k3⟩:=TE.und;rw[hs]at k1;cases k1;rw[hd]at k2;cases k2;rw[he]at k3;cases k3;unfold Fe at hr;split at hr
 case h_2=>cases hr
 rename_i a n c hxe;rw[hxe]at hx;have hx0:=hx;obtain⟨cs,cs',hr,hcs,hrun,hl1,hl2,_⟩:=GE (P:=P) H (fun a l c heq=>by cases heq;exact hE _ _ _ hxe) hx hr (fun m hm=>by cases hm;exact IT _);split at hr
 case h_2=>cases hr
 rename_i bs hbs;cases hr;obtain⟨ns,hns,hf⟩:=MW hcs hbs;have AHE:=hf AB1;have AIi:=Hc (a:=ns.foldl (fun r n=>r.push (zF n.toNat)) AB1) (l:=bs) (by rw[AHE];rfl);cases hx with
 |AEz=>
  rw[run_convert_bytes_string w src dst el none 0 0 h1 h3 h2];have:=hrun w rfl;simp only[w9,vt]at this;have AG0:cs'=[]:=by cases this;rfl
  have AJc:ns=[]:=by
   rw[AG0]at hns;cases ns with
   |nil=>rfl
   |cons _ _=>cases hns
  subst AJc;rw[<- AIi];exact .same H (.string _)
 |@slice _ a' _ _ c' hlc hsl=>
  rw[run_convert_bytes_string w src dst el (some a') n c' h1 h3 h2];have hld:(loadCells a' n).run P w=.ok (ns.map (xY .u8)).toArray w:=by
   have:=hrun w rfl;rw[hns]at this;simp only[w9,yk]at this;exact this
  rw[run_bytesToString w a' n c' ns hld,AIi];exact .same H (.string _)
theorem Rx(A:Array Obj)(x:Obj)(f:Obj->Obj):(A.push x).modify A.size f=A.push (f x):=by
 apply Array.ext_getElem?;intro i;rw[zE,AB3,AB3];by_cases hi:i=A.size
 ·subst hi;simp
 ·rw[if_neg (ADw hi),if_neg hi,if_neg hi]
theorem bU(w:wb)(A:Array IN)(el:we):(markStringish ⟨w.heap.size,0,none⟩).run P {w with heap:=w.heap.push (.cells A el)}=
  .ok () {w with heap:=w.heap.push (.cells A el (A.size,A.size+1))}:=by
 have hs:ABa {w with heap:=w.heap.push (.cells A el)} w.heap.size=some (el,A.size):=by simp[ABa]
 simp only[markStringish,vq,run_shape,If,hs,run_freeze,ABb,AA5,if_false,Rx];rfl
theorem SO(H:AEG U φ E h w){x:O}{x':IN}{src dst el:we}{si di ei:TI}(TS:AEd P src si)(hs:si.k=.string)(TD:AEd P dst di)(hd:di.k=.slice el)(TE:AEd P el ei)(he:ei.k=.int .u8)
  (hty:U.get el=some ei)(hz:ei.size=1)(hx:AED φ (x e) x')(hr:NR el x F e h=.ok v h'):BR U φ E h w v h' ((convert src dst x').run P w):=by
 obtain⟨d1,h1,k1⟩:=TS.und;obtain⟨d2,h2,k2⟩:=TD.und;obtain⟨d3,h3,k3⟩:=TE.und;rw[hs]at k1;cases k1;rw[hd]at k2;cases k2;rw[he]at k3;cases k3;unfold NR at hr;split at hr
 case h_2=>cases hr
 rename_i s hxe;rw[hxe]at hx;obtain rfl:=hx.AEZ;rw[AZ,BL]at hr;obtain⟨hb,hr⟩:=Bp hr
 let q:Question:=.appendCap s.size 0 el
 let c:Nat:=q.cut (w.tape w.drawn q)
 have hc:s.size<=c:=ACj _ _
 let cells:List IN:=s.data.toList.map fun b=>.int .u8 (b.toNat:Int)
 let rest:List IN:=List.replicate (c - s.size) (.int .u8 0)
 have hcl:cells.length=s.size:=by simp[cells]
 let w':wb:={w with drawn:=w.drawn+1,heap:=w.heap.push (.cells ⟨cells++rest⟩ el (c,c+1))}
 have hsz:(⟨cells++rest⟩:Array IN).size=c:=by simp[rest,hcl];omega
 have AEh:AEX φ (Ch s.data.toList) cells:=LL _;have hlen:(Ch s.data.toList).length=s.size:=by rw[<- AEh.length,hcl]
 obtain⟨hh1,hk,H1,ev⟩:=Oi (cs':=⟨cells++rest⟩) (t:=el) (fr:=(c,c+1)) (w':=w')
  (p:={blk:=w.heap.size,off:=0,sz:=(Ch s.data.toList).length,room:=(⟨cells++rest⟩:Array IN).size,es:=1}) H hr rfl ⟨rfl,.inr ⟨el,ei,rfl,hty,hz.symm⟩⟩ (by rw[hlen,hsz];exact hc) (.inr (by rw[hsz];exact IT _))
  (fun j u hj=>by
   obtain⟨u',hu,hru⟩:=AEh.get j u hj;refine⟨u',?_,hru⟩;have hj':j<cells.length:=by
    rcases wN j cells.length with h|h
    ·exact h
    ·rw[List.getElem?_eq_none h]at hu;cases hu
   simp only[wO];rw[wD hj'];exact hu) rfl rfl rfl rfl
 cases hk;have key:(convert src dst (.string s)).run P w=.ok (.slice (some ⟨w.heap.size,0,none⟩) s.size c) w':=by
  have AFr:(Question.appendCap s.size 0 el).forced=false:=rfl;have AJd:(s.data.map fun b=>(xY .u8 (b.toNat:Int)))++ACa (c - s.size) (xY .u8 0)=⟨cells++rest⟩:=by
   apply xG;simp[cells,rest]
  have hm:=bU (P:=P) {w with drawn:=w.drawn+1} ⟨cells++rest⟩ el;rw[hsz]at hm;simp only[convert,vq,run_underlying h1,run_underlying h2,run_underlying h3,If,Conv.stringToBytes,run_choose,AFr,wW,if_false,AAe,run_newObj,vt];show(((markStringish ⟨w.heap.size,0,none⟩).run P {w with drawn:=w.drawn+1,heap:=w.heap.push (.cells ((s.data.map fun b=>(xY .u8 (b.toNat:Int)))++ACa (c - s.size) (xY .u8 0)) el)}).andThen
   fun _ w''=>Result.ok (Value.slice (some ⟨w.heap.size,0,none⟩) s.size c) w'')=_
  rw[AJd];have hm':(markStringish ⟨w.heap.size,0,none⟩).run P {w with drawn:=w.drawn+1,heap:=w.heap.push (.cells ⟨cells++rest⟩ el)}=.ok () w':=hm;rw[hm'];rfl
 rw[key];refine⟨_,_,_,rfl,?_,H1,ev⟩;have e1:s.data.toList.length=s.size:=rfl;rw[e1];refine .slice (IT _) ⟨rfl,rfl,_,Phi.AEx _ _ _,rfl,?_⟩;rcases Nat.eq_zero_or_pos s.size with h0|h0
 ·refine .inr ⟨h0,.inr ⟨?_,?_⟩⟩
  ·simp only[hlen,h0]
  ·simp only[hlen,hsz,h0];omega
 ·refine .inl ⟨h0,rfl,.inr ⟨?_,hc,?_⟩⟩
  ·simp only[hlen];omega
  ·simp only[hsz];omega
end
end
noncomputable section
open Go
section
variable {P:xD}{U:TTy}{φ:Phi}{h:Hp}{w:wb}{e:Env}{v:IN}{f:Fr}
def Fl:IN->Lit
 |.bool b=>.bool b
 |.int q n=>.int q n
 |.string s=>.string s.data.toList
 |_=>.bool false
theorem qE{k:wH}{n:Int}(h:inK k n=true):(Lit.int k n).wf=true:=by
 unfold Lit.wf;simp only[wJ,decide_eq_true_eq];cases n with
 |ofNat m=>
  have h:vx m (BC k)=true:=h;have:=Ac.1 h;cases k<;>simp[ACu,ACv,ACM,ACl,BC]at this ⊢<;>omega
 |negSucc m=>
  cases k<;>simp only[inK]at h<;>first|(cases h;done)|skip
  all_goals
   have:=Ac.1 h;simp[ACu,ACv,ACM,ACl,BC]at this ⊢;omega
theorem He{k:wH}{v:IN}(h:Lh (.i k) v=true):∃ n,v=.int k n/\(Lit.int k n).wf=true:=by
 unfold Lh at h;simp only at h;split at h
 ·split at h
  ·rename_i hq
   exact⟨_,by rw[H5 hq],qE h⟩
  ·cases h
 ·cases h
theorem GS{v:IN}(h:Lh .b v=true):∃ b,v=.bool b:=by
 unfold Lh at h;simp only at h;split at h
 ·exact⟨_,rfl⟩
 ·cases h
theorem Hf{v:IN}(h:Lh .s v=true):∃ s,v=.string s/\s.size<=maxLen:=by
 unfold Lh at h;simp only at h;split at h
 ·rename_i s
  refine⟨s,rfl,?_⟩;have:=Ac.1 h;rw[BL]at this;have e:s.data.toList.length=s.size:=by simp
  have hm:most<=maxLen:=by unfold most maxLen;omega
  omega
 ·cases h
theorem DO{l:List IN}(h:Ed [] l=true):l=[]:=by
 cases l with
 |nil=>rfl
 |cons=>cases h
theorem Cj{c:CK}{ks:List CK}{l:List IN}(h:Ed (c::ks) l=true):∃ v r,l=v::r/\Lh c v=true/\Ed ks r=true:=by
 cases l with
 |nil=>cases h
 |cons v r=>
  unfold Ed at h;split at h
  ·rename_i hc;exact⟨v,r,rfl,hc,h⟩
  ·cases h
theorem Jb:∀ {ks:List CK} {l:List IN},Ed ks l=true->l.length=ks.length
 |[],l,h=>by rw[DO h];rfl
 |c::ks,l,h=>by
  obtain⟨v,r,rfl,_,hr⟩:=Cj h;simp[Jb hr]
theorem Hg:∀ {a b:List CK} {l:List IN},Ed (a++b) l=true->Ed a (l.take a.length)=true/\Ed b (l.drop a.length)=true
 |[],b,l,h=>⟨rfl,h⟩
 |c::a,b,l,h=>by
  obtain⟨v,r,rfl,hc,hr⟩:=Cj h;obtain⟨h1,h2⟩:=Hg hr;refine⟨?_,by simpa using h2⟩;show Ed (c::a) (v::r.take a.length)=true;unfold Ed;rw[hc];exact h1
theorem I3{c:CK}{v:IN}(h:Lh c v=true):∃ l:Lit,Fl v=l/\v=l.toCell/\l.keyWf:=by
 cases c with
 |i k=>obtain⟨n,rfl,hw⟩:=He h;exact⟨.int k n,rfl,rfl,hw⟩
 |b=>obtain⟨b,rfl⟩:=GS h;exact⟨.bool b,rfl,rfl,trivial⟩
 |s=>obtain⟨s,rfl,hs⟩:=Hf h;exact⟨.string s.data.toList,rfl,rfl,by show s.data.toList.length<=maxLen;simpa using hs⟩
theorem Q9{ks:List CK}:∀ {l l':List IN},Ed ks l=true->AEX φ l l'->l'=l:=by
 induction ks with
 |nil=>intro l l' h hr;rw[DO h]at hr ⊢;cases hr;rfl
 |cons c ks ih=>
  intro l l' h hr;obtain⟨v,r,rfl,hc,hr'⟩:=Cj h;cases hr with
  |cons hv ht=>
   rw[ih hr' ht]
   congr 1
   cases c with
   |i k=>obtain⟨n,rfl,_⟩:=He hc;exact hv.AEj
   |b=>obtain⟨n,rfl⟩:=GS hc;exact hv.AE7
   |s=>obtain⟨n,rfl,_⟩:=Hf hc;exact hv.AEZ
theorem F2{x:IN}(hne:∀ l,x≠.agg l):cellsOf x=[x]:=by
 unfold cellsOf;split
 ·rename_i l;exact absurd rfl (hne l)
 ·rfl
theorem DJ{K:KS}{x:IN}(h:Fu K x=true):Ed K.ks (cellsOf x)=true/\cellsOf x=x.cells.toList/\((K.agg=true/\∃ l,x=.agg ⟨l⟩)\/(K.agg=false/\(∀ l,x≠.agg l)/\∀ l,x≠.tuple l)):=by
 unfold Fu at h;split at h
 ·rename_i cs
  split at h
  ·rename_i ha
   exact⟨h,rfl,.inl ⟨ha,cs.toList,rfl⟩⟩
  ·cases h
 ·rename_i hne
  split at h
  ·cases h
  ·rename_i ha
   have AGi:∀ l,x≠.agg l:=fun l e=>hne l e
   have hc:cellsOf x=[x]:=by
    unfold cellsOf;split
    ·rename_i l;exact absurd rfl (AGi l)
    ·rfl
   have hnt:∀ l,x≠.tuple l:=by
    intro l e;subst e;cases hk:K.ks with
    |nil=>rw[hk]at h;cases h
    |cons c ks=>
     rw[hk]at h;obtain⟨v,r,e,hc,_⟩:=Cj h;cases e;cases c<;>cases hc
   refine⟨by rw[hc];exact h,?_,.inr ⟨ha,AGi,hnt⟩⟩;rw[hc];cases x<;>first|rfl|exact absurd rfl (AGi _)|exact absurd rfl (hnt _)
theorem Ja{K:KS}{x x':IN}(h:Fu K x=true)(hr:AED φ x x'):x'=x:=by
 obtain⟨h1,h2,h3⟩:=DJ h;rcases h3 with ⟨_,l,rfl⟩|⟨_,hne,hnt⟩
 ·cases hr with
  |agg hr=>rw[Q9 h1 hr];rfl
 ·have hc:cellsOf x=[x]:=F2 hne
  rw[hc]at h1;have:=Q9 h1 (.cons hr .nil);exact ACL.inj this |>.1
theorem NE{α β:Type}{f:α->Option β}{g:α->β}:∀ {L:List α},(∀ x∈L,f x=some (g x))->L.mapM f=some (L.map g)
 |[],_=>rfl
 |x::L,h=>by
  rw[List.mapM_cons,h x (by simp),NE fun y hy=>h y (by simp[hy])];rfl
theorem RA{ks:List CK}:∀ {m:Nat} {cs:List IN},Ed (BQ ks m) cs=true->cs.length=m*ks.length/\∀ i,i<m->Ed ks ((cs.drop (i*ks.length)).take ks.length)=true
 |0,cs,h=>by
  refine⟨?_,fun i hi=>absurd hi (Nat.not_lt_zero _)⟩;rw[DO h];simp
 |m+1,cs,h=>by
  have h:Ed (ks++BQ ks m) cs=true:=h;obtain⟨h1,h2⟩:=Hg h;obtain⟨h3,h4⟩:=RA h2;have hl:=Jb h1;refine⟨?_,fun i hi=>?_⟩
  ·simp only[List.length_take,List.length_drop]at hl h3
   rw[zW];omega
  ·cases i with
   |zero=>simpa using h1
   |succ i=>
    have:=h4 i (by omega);rw[ABC]at this;rw[zW,Nat.add_comm];exact this
theorem RD{P:xD}{rec:Nat->Option (List CK)}:∀ {L:List Field} {off:Nat} {ks:List CK},flatK.flatF rec off (L.map fun f=>(f.offset,P.cellsOf f.type,f.type))=some ks->
  (∀ f∈L,∃ kf,rec f.type=some kf)/\
  ∀ cs:List IN,Ed ks (cs.drop off)=true->(∀ f∈L,∀ kf,rec f.type=some kf->Ed kf ((cs.drop f.offset).take (P.cellsOf f.type))=true)/\
   ((L.map fun f=>(cs.drop f.offset).take (P.cellsOf f.type)).flatten=cs.drop off)
 |[],off,ks,hk=>by
  cases hk;refine⟨(fun f hf=>by cases hf),fun cs h=>⟨(fun f hf=>by cases hf),?_⟩⟩;rw[DO h];rfl
 |f::L,off,ks,hk=>by
  rw[xV]at hk;unfold flatK.flatF at hk;split at hk
  case h_2=>cases hk
  rename_i ho;split at hk
  case h_2=>cases hk
  rename_i kf hkf;split at hk
  case h_2=>cases hk
  rename_i hl;split at hk
  case h_2=>cases hk
  rename_i r hr;cases hk;have ho:f.offset=off:=Am.1 ho;have hl:kf.length=P.cellsOf f.type:=by rw[<- Am.1 hl,BL]
  obtain⟨i1,i2⟩:=RD hr;refine⟨fun g hg=>?_,fun cs h=>?_⟩
  ·rcases wA.1 hg with rfl|hg
   ·exact⟨kf,hkf⟩
   ·exact i1 g hg
  ·obtain⟨h1,h2⟩:=Hg h
   rw[hl]at h1 h2;rw[ABC]at h2;obtain⟨i3,i4⟩:=i2 cs h2;refine⟨fun g hg kg hkg=>?_,?_⟩
   ·rcases wA.1 hg with rfl|hg
    ·rw[hkf]at hkg;cases hkg
     rw[ho];exact h1
    ·exact i3 g hg kg hkg
   ·rw[xV,List.flatten_cons,i4,ho]
    have:cs.drop (xc off (P.cellsOf f.type))=(cs.drop off).drop (P.cellsOf f.type):=by rw[ABC];rfl
    rw[this,List.take_append_drop]
theorem PZ{t:Nat}{fs:Array Field}(hu:P.underlying t=some (.struct fs))(hf:AGO P t=true):
  (∀ f∈fs.toList,(f.name != "_")=true)/\(!(P.cutTypes.any (·.2 == t)) && !P.stoodInHeld t)=true:=by
 unfold AGO at hf;rw[hu]at hf;simp only[wJ,yC]at hf;obtain⟨⟨h1,h2⟩,h3⟩:=hf;exact⟨fun f hm=>h1 f (yF.1 hm),by rw[h2,h3];rfl⟩
theorem E4(hT:Cs P U):∀ (n t:Nat) (ks:List CK),flatK U n t=some ks->
  P.keyTypeAt n t=true/\(∀ d,n<=d->P.eqGuardType d t=false)/\(∀ ti,U.get t=some ti->ti.k.agg=true->ks.length=ti.size)/\
  ∀ cs,Ed ks cs=true->P.keyLits n t cs=some (cs.map Fl)
 |0,t,ks,h=>by cases h
 |n+1,t,ks,h=>by
  unfold flatK at h;cases hg:U.get t with
  |none=>rw[hg]at h;cases h
  |some ti=>
   simp only[hg]at h;have T:=hT t ti hg;obtain⟨d,hd,hk⟩:=T.und;have hcell:=T.cells;have plain:∀ {d:ABH},(match d with|.interface _=>true|.struct _=>true|.array _ _=>true|_=>false)=false->P.underlying t=some d->∀ q,n+1<=q->P.eqGuardType q t=false:=by
    intro d h1 hd q hq;cases q with
    |zero=>omega
    |succ q=>unfold zx;rw[hd];cases d<;>first|rfl|cases h1
   cases hkk:ti.k with
   |int k=>
    simp only[hkk]at h;rw[hkk]at hk;cases hk;cases h;refine⟨by unfold yj;rw[hd],plain rfl hd,(fun ti' ht' ha=>by cases ht';rw[hkk]at ha;cases ha),fun cs hf=>?_⟩;obtain⟨v,r,rfl,hc,hr⟩:=Cj hf;obtain rfl:=DO hr;obtain⟨m,rfl,hw⟩:=He hc;unfold zG;rw[hd];simp[hw,Fl]
   |bool=>
    simp only[hkk]at h;rw[hkk]at hk;cases hk;cases h;refine⟨by unfold yj;rw[hd],plain rfl hd,(fun ti' ht' ha=>by cases ht';rw[hkk]at ha;cases ha),fun cs hf=>?_⟩;obtain⟨v,r,rfl,hc,hr⟩:=Cj hf;obtain rfl:=DO hr;obtain⟨m,rfl⟩:=GS hc;unfold zG;rw[hd];simp[Fl]
   |string=>
    simp only[hkk]at h;rw[hkk]at hk;cases hk;cases h;refine⟨by unfold yj;rw[hd],plain rfl hd,(fun ti' ht' ha=>by cases ht';rw[hkk]at ha;cases ha),fun cs hf=>?_⟩;obtain⟨v,r,rfl,hc,hr⟩:=Cj hf;obtain rfl:=DO hr;obtain⟨m,rfl,hw⟩:=Hf hc;unfold zG;rw[hd];simp[hw,Fl]
   |arr m el=>
    simp only[hkk]at h;rw[hkk]at hk;cases hk;split at h
    case h_2=>cases h
    rename_i ei hei;split at h
    case h_2=>cases h
    rename_i ke hke;split at h
    case h_2=>cases h
    rename_i hl;split at h
    case h_2=>cases h
    rename_i hm;cases h;obtain⟨i1,i2,_,i3⟩:=E4 hT n el ke hke;have hce:=(hT el ei hei).cells;have hl:ke.length=ei.size:=by rw[<- Am.1 hl,BL]
    have hm:m*ei.size=ti.size:=Am.1 hm;have AJe:∀ m,(BQ ke m).length=m*ke.length:=by
     intro m
     induction m with
     |zero=>simp[BQ]
     |succ m ih=>rw[BQ,No,ih,zW];omega
    refine⟨by unfold yj;rw[hd];exact i1,fun q hq=>?_,(fun ti' ht' ha=>by cases ht';rw[AJe,hl,hm]),fun cs hf=>?_⟩
    ·cases q with
     |zero=>omega
     |succ q=>unfold zx;rw[hd];exact i2 q (by omega)
    ·obtain⟨f1,f2⟩:=RA hf
     have hlen:cs.length=P.cellsOf t:=by rw[hcell,<- hm,f1,hl]
     have hmap:(wm m).mapM (fun i=>P.keyLits n el ((cs.drop (i*P.cellsOf el)).take (P.cellsOf el)))=some ((wm m).map fun i=>((cs.drop (i*P.cellsOf el)).take (P.cellsOf el)).map Fl):=
      NE fun i hi=>by
       rw[hce,<- hl];exact i3 _ (f2 i (List.mem_range.1 hi))
     unfold zG;rw[hd];simp only[hlen,if_true,hmap,xa]
     congr 1
     have:=chunks_flatten (P.cellsOf el) m cs (by rw[hce,<- hl];exact f1)
     conv=>rhs;rw[<- this]
     rw[ACW,zb];rfl
   |struct fs=>
    simp only[hkk]at h;rw[hkk]at hk;cases hk with
    |@struct _ fields hfs _=>
     split at h
     case h_2=>cases h
     rename_i ks' hks;split at h
     case h_2=>cases h
     rename_i hl;cases h;have hl:ks.length=ti.size:=by rw[<- Am.1 hl,BL]
     rw[<- hfs]at hks;obtain⟨j1,j2⟩:=RD hks;obtain⟨n1,n2⟩:=PZ hd T.AJU;refine⟨?_,fun q hq=>?_,(fun ti' ht' ha=>by cases ht';exact hl),fun cs hf=>?_⟩
     ·unfold yj
      rw[hd];simp only[Bool.and_assoc,n2,ABZ];rw[yC];intro f hm;obtain⟨kf,hkf⟩:=j1 f (yF.2 hm);rw[n1 f (yF.2 hm),(E4 hT n f.type kf hkf).1];rfl
     ·cases q with
      |zero=>omega
      |succ q=>
       unfold zx;rw[hd];simp only;rw[Array.any_eq_false];intro i hi;obtain⟨kf,hkf⟩:=j1 fields[i] (yF.2 (Array.getElem_mem hi));rw[(E4 hT n _ kf hkf).2.1 q (by omega)];simp
     ·have hf0:Ed ks (cs.drop 0)=true:=hf
      obtain⟨k1,k2⟩:=j2 cs hf0;have hlen:cs.length=P.cellsOf t:=by rw[hcell,<- hl,Jb hf]
      have hmap:fields.toList.mapM (fun f=>P.keyLits n f.type ((cs.drop f.offset).take (P.cellsOf f.type)))=some (fields.toList.map fun f=>((cs.drop f.offset).take (P.cellsOf f.type)).map Fl):=
       NE fun f hm=>by
        obtain⟨kf,hkf⟩:=j1 f hm;exact(E4 hT n f.type kf hkf).2.2.2 _ (k1 f hm kf hkf)
      have hall:fields.all (·.name != "_")=true:=by
       rw[yC];intro f hm;exact n1 f (yF.2 hm)
      unfold zG;rw[hd];simp only[hlen,hall,and_self,if_true,hmap,xa]
      congr 1
      have:cs=cs.drop 0:=rfl
      conv=>rhs;rw[this,<- k2]
      rw[ACW,zb];rfl
   |_=>simp only[hkk]at h;cases h
theorem KU{c:CK}{a b:IN}(ha:Lh c a=true)(hb:Lh c b=true){r:Bool}(hr:Ma a b=some r):r=true↔Fl a=Fl b:=by
 cases c with
 |i k=>
  obtain⟨m,rfl,_⟩:=He ha;obtain⟨n,rfl,_⟩:=He hb;unfold Ma at hr;simp only at hr;split at hr
  ·cases hr;rw[EM];simp[Fl]
  ·cases hr
 |b=>
  obtain⟨m,rfl⟩:=GS ha;obtain⟨n,rfl⟩:=GS hb;unfold Ma at hr;cases hr;simp[Fl]
 |s=>
  obtain⟨m,rfl,_⟩:=Hf ha;obtain⟨n,rfl,_⟩:=Hf hb;unfold Ma at hr;cases hr;rw[MS];simp[Fl]
theorem Mc:∀ {ks:List CK} {a b:List IN},Ed ks a=true->Ed ks b=true->∀ {r:Bool},Gm a b=some r->(r=true↔a.map Fl=b.map Fl)
 |[],a,b,ha,hb,r,hr=>by
  rw[DO ha,DO hb]at *;cases hr;simp
 |c::ks,a,b,ha,hb,r,hr=>by
  obtain⟨x,a,rfl,hx,ha⟩:=Cj ha;obtain⟨y,b,rfl,hy,hb⟩:=Cj hb;unfold Gm at hr;split at hr
  ·rename_i h1
   have i1:=(KU hx hy h1).1 rfl;rw[Mc ha hb hr];simp[i1]
  ·rename_i h1
   cases hr;have i1:=KU hx hy h1;simp only[xV,ACL.injEq];constructor
   ·intro h;cases h
   ·intro h;exact i1.2 h.1
  ·cases hr
structure AFC (P:xD)(U:TTy)(t:Nat)(K:KS):Prop where
 ti:∃ ti,U.get t=some ti/\K.agg=ti.k.agg
 flat:flatK U 8 t=some K.ks
theorem AFC.formed(hT:Cs P U){t:Nat}{K:KS}(hK:AFC P U t K){x:IN}(hx:Fu K x=true):x.formed P t=true/\P.keyLits 8 t x.cells.toList=some ((cellsOf x).map Fl):=by
 obtain⟨ti,hti,ha⟩:=hK.ti;obtain⟨_,_,f3,f4⟩:=E4 hT 8 t K.ks hK.flat;obtain⟨h1,h2,h3⟩:=DJ hx;have T:=hT t ti hti;obtain⟨d,hd,hk⟩:=T.und;refine⟨?_,by rw[<- h2];exact f4 _ h1⟩;rcases h3 with ⟨hag,l,rfl⟩|⟨hag,hne,hnt⟩
 ·rw[ha]at hag
  have hs:=f3 ti hti hag;have hl:=Jb h1;unfold AC0;rw[hd];have hsz:(Array.mk l).size=P.cellsOf t:=by
   have:l.length=K.ks.length:=hl;rw[T.cells,<- hs,<- this];rfl
  generalize ti.k=kk at hk hag;cases hk<;>first|(cases hag;done)|(simp only[hsz];exact beq_self_eq_true _)
 ·rw[ha]at hag
  have:(match P.underlying t with|some (.struct _)=>false|some (.array _ _)=>false|_=>true)=true:=by
   rw[hd];generalize ti.k=kk at hk hag;cases hk<;>first|rfl|(cases hag;done)|skip
   rename_i ho;cases d<;>first|rfl|cases ho
  unfold AC0;cases x<;>first|exact absurd rfl (hne _)|exact absurd rfl (hnt _)|exact this
theorem AFC.equal(hT:Cs P U){t:Nat}{K:KS}(hK:AFC P U t K){x y:IN}(hx:Fu K x=true)(hy:Fu K y=true){r:Bool}(hr:Gm (cellsOf x) (cellsOf y)=some r)(w:wb):
  (AAE t x y).run P w=.ok r w:=by
 obtain⟨f1,f2⟩:=hK.formed hT hx;obtain⟨g1,g2⟩:=hK.formed hT hy;obtain⟨k1,_⟩:=E4 hT 8 t K.ks hK.flat;obtain⟨r',hr',hiff⟩:=run_equalIn_deep (P:=P) 9992 8 t k1 w _ _ x y _ _ f1 g1 f2 g2;have:=Mc (DJ hx).1 (DJ hy).1 hr;have e:r'=r:=by
  rw[Bool.eq_iff_iff,hiff,this]
 rw[<- e];exact hr'
theorem AFC.check(hT:Cs P U){t:Nat}{K:KS}(hK:AFC P U t K){x:IN}(hx:Fu K x=true)(em:Bool)(w:wb):(Instr.checkKey em 10000 t x).run P w=.ok () w:=by
 obtain⟨f1,f2⟩:=hK.formed hT hx;obtain⟨k1,_⟩:=E4 hT 8 t K.ks hK.flat;exact run_checkKey_deep (P:=P) em 9992 8 t k1 w _ x _ f1 f2
theorem PY{t:Nat}{d:ABH}(hd:P.underlying t=some d)(n:Nat){a b:IN}{c:Bool}(hs:ABJ d a b=some c)(w:wb):(zN (n+1) t a b).run P w=.ok c w:=by
 unfold ABJ at hs;split at hs
 ·split at hs
  ·rename_i hkk
   cases hs;simp[zN,run_underlying hd,hkk]
  ·cases hs
 ·cases hs;simp[zN,run_underlying hd]
 ·cases hs;simp[zN,run_underlying hd]
 ·cases hs
theorem JZ{t:Nat}{d:ABH}(hd:P.underlying t=some d){k:IN}:∀ {es:List xA} {i:Nat} {r:Option (Nat×IN)},ABK d k es i=some r->∀ w:wb,(wS t k es i).run P w=.ok r w
 |[],i,r,h,w=>by cases h;simp[wS]
 |e::es,i,r,h,w=>by
  have same:∀ {a b:IN} {c:Bool},ABJ d a b=some c->(AAE t a b).run P w=.ok c w:=fun hs=>PY hd 9999 hs w
  unfold ABK at h;split at h
  ·rename_i hs
   cases h;simp[wS,same hs]
  ·rename_i hs
   have:=JZ hd h w;simp[wS,same hs,this]
  ·cases h
theorem D4{t:Nat}{d:ABH}(hd:P.underlying t=some d){k:IN}{es:List xA}{r:Option (Nat×IN)}(hr:(wS t k es 0).run P w=.ok r w):(ABL t k es).run P w=.ok r w:=by
 unfold ABL;simp only[vq,run_underlying hd,If];cases hn:ABK d k es 0 with
 |none=>exact hr
 |some r'=>
  have:=JZ hd hn w;rw[hr]at this;cases this;simp
theorem Fb(hT:Cs P U){t:Nat}{K:KS}(hK:AFC P U t K){x y y':IN}(hx:Fu K x=true)(hy:AED φ y y'){r:Bool}(hr:HM K x y=some r)(w:wb):(AAE t x y').run P w=.ok r w/\Fu K y=true/\y'=y:=by
 unfold HM at hr;split at hr
 ·rename_i hf
  have:=Ja hf hy;subst this;exact⟨hK.equal hT hx hf hr w,hf,rfl⟩
 ·cases hr
theorem Mo(hT:Cs P U){t:Nat}{K:KS}(hK:AFC P U t K){x:IN}(hx:Fu K x=true)(w:wb):∀ {es:List Ent} {es':List xA} (i:Nat),AE8 φ es es'->∀ {r:Option Ent},Ip K x es=some r->
  match r with
  |none=>(wS t x es' i).run P w=.ok none w
  |some e=>∃ j v',(wS t x es' i).run P w=.ok (some (j,v')) w/\AED φ e.val v'
 |_,_,i,.nil,r,h=>by cases h;simp[wS]
 |_,_,i,.cons (k:=k) (k':=k') (v:=v) (v':=v') (b:=b) (l:=l) (l':=l') hk hv ht,r,h=>by
  unfold Ip at h;split at h
  ·rename_i he
   cases h;obtain⟨h1,_⟩:=Fb hT hK hx hk he w;exact⟨i,v',by simp[wS,h1],hv⟩
  ·rename_i he
   obtain⟨h1,_⟩:=Fb hT hK hx hk he w;have ih:=Mo hT hK hx w (i+1) ht h;cases r with
   |none=>simpa [wS,h1] using ih
   |some e=>
    obtain⟨j,u,hj,hu⟩:=ih;exact⟨j,u,by simp[wS,h1,hj],hu⟩
  ·cases h
theorem RB{c:CK}{x:IN}(h:Lh c x=true)(n:Nat):AAD n x x=true:=by
 obtain⟨l,_,rfl,hw⟩:=I3 h;exact sameBits_toCell hw n
theorem Xu{ks:List CK}(n:Nat):∀ {l:List IN},Ed ks l=true->(l.zip l).all (fun (x,y)=>AAD n x y)=true:=by
 induction ks with
 |nil=>intro l h;rw[DO h];rfl
 |cons c ks ih=>
  intro l h;obtain⟨v,r,rfl,hc,hr⟩:=Cj h;simp only[List.zip_cons_cons,zu,RB hc,ih hr,Bool.and_self]
theorem Xt{K:KS}{x:IN}(h:Fu K x=true)(n:Nat):AAD (n+1) x x=true:=by
 obtain⟨h1,_,h3⟩:=DJ h;rcases h3 with ⟨_,l,rfl⟩|⟨_,hne,hnt⟩
 ·unfold AAD
  simp only[beq_self_eq_true,Bool.true_and];exact Xu n h1
 ·have hc:cellsOf x=[x]:=F2 hne
  rw[hc]at h1;cases hk:K.ks with
  |nil=>rw[hk]at h1;cases h1
  |cons c ks=>
   rw[hk]at h1;obtain⟨v,r,e,hcc,_⟩:=Cj h1;cases e;exact RB hcc _
theorem Mb:∀ {ks:List CK} {a b:List IN},Ed ks a=true->Ed ks b=true->Gm a b=some true->a=b
 |[],a,b,ha,hb,_=>by rw[DO ha,DO hb]
 |c::ks,a,b,ha,hb,hr=>by
  obtain⟨x,a,rfl,hx,ha⟩:=Cj ha;obtain⟨y,b,rfl,hy,hb⟩:=Cj hb;unfold Gm at hr;split at hr
  ·rename_i h1
   have i1:=(KU hx hy h1).1 rfl;rw[Mb ha hb hr];obtain⟨l,e1,e2,_⟩:=I3 hx;obtain⟨m,e3,e4,_⟩:=I3 hy;rw[e2,e4,<- e1,<- e3,i1]
  ·cases hr
  ·cases hr
theorem UR{K:KS}{x y:IN}(hx:Fu K x=true)(hr:HM K x y=some true):x=y:=by
 unfold HM at hr;split at hr
 ·rename_i hf
  obtain⟨h1,h2,h3⟩:=DJ hx;obtain⟨g1,g2,g3⟩:=DJ hf;have:=Mb h1 g1 hr;rcases h3 with ⟨ha,l,rfl⟩|⟨ha,hne,hnt⟩
  ·rcases g3 with ⟨_,m,rfl⟩|⟨hb,_⟩
   ·have:l=m:=this
    rw[this]
   ·rw[ha]at hb;cases hb
  ·rcases g3 with ⟨hb,_⟩|⟨_,gne,gnt⟩
   ·rw[ha]at hb;cases hb
   ·have c1:cellsOf x=[x]:=F2 hne
    have c2:cellsOf y=[y]:=F2 gne;rw[c1,c2]at this;exact ACL.inj this |>.1
 ·cases hr
theorem MF(hT:Cs P U){t:Nat}{K:KS}(hK:AFC P U t K){x:IN}(hx:Fu K x=true){u u':IN}(hu:AED φ u u')(hxx:AED φ x x)(w:wb):∀ {es:List Ent} {es':List xA} (i:Nat),AE8 φ es es'->∀ {r:Option (List Ent)},N4 K x u es=some r->
  match r with
  |none=>(wS t x es' i).run P w=.ok none w
  |some es2=>∃ j v' en,(wS t x es' i).run P w=.ok (some (i+j,v')) w/\es'[j]? =some en/\en.key=x/\AE8 φ es2 (es'.modify j fun e=>{e with key:=x,val:=u'})
 |_,_,i,.nil,r,h=>by cases h;simp[wS]
 |_,_,i,.cons (k:=k) (k':=k') (v:=v) (v':=v') (b:=b) (l:=l) (l':=l') hk hv ht,r,h=>by
  unfold N4 at h;split at h
  ·rename_i he
   cases h;obtain⟨h1,_,h2⟩:=Fb hT hK hx hk he w;have h3:=UR hx he;exact⟨0,v',⟨k',v',b⟩,by simp[wS,h1],rfl,by simp only;rw[h2];exact h3.symm,by simpa using AE8.cons hxx hu ht⟩
  ·rename_i he
   obtain⟨h1,_⟩:=Fb hT hK hx hk he w;split at h
   ·rename_i es2 hs
    cases h;obtain⟨j,v2,en,e1,e2,e3,e4⟩:=MF hT hK hx hu hxx w (i+1) ht hs;refine⟨j+1,v2,en,?_,by simpa using e2,e3,by simpa using AE8.cons hk hv e4⟩;simp only[wS,vq,h1,If,wW,if_false];rw[e1];congr 3;omega
   ·rename_i hs
    cases h;have:=MF hT hK hx hu hxx w (i+1) ht hs
    simpa [wS,h1] using this
   ·cases h
  ·cases h
theorem Vk(hT:Cs P U){t:Nat}{K:KS}(hK:AFC P U t K){x:IN}(hx:Fu K x=true)(w:wb):∀ {es:List Ent} {es':List xA} (i:Nat),AE8 φ es es'->∀ {es2:List Ent},gN K x es=some es2->
  ((wS t x es' i).run P w=.ok none w/\es2=es)\/∃ j v',(wS t x es' i).run P w=.ok (some (i+j,v')) w/\AE8 φ es2 (es'.eraseIdx j)
 |_,_,i,.nil,es2,h=>by cases h;exact .inl ⟨by simp[wS],rfl⟩
 |_,_,i,.cons (k:=k) (k':=k') (v:=v) (v':=v') (b:=b) (l:=l) (l':=l') hk hv ht,es2,h=>by
  unfold gN at h;split at h
  ·rename_i he
   cases h;obtain⟨h1,_⟩:=Fb hT hK hx hk he w;exact .inr ⟨0,v',by simp[wS,h1],by simpa using ht⟩
  ·rename_i he
   obtain⟨h1,_⟩:=Fb hT hK hx hk he w;split at h
   ·rename_i l2 hs
    cases h;rcases Vk hT hK hx w (i+1) ht hs with ⟨e1,e2⟩|⟨j,v2,e1,e2⟩
    ·exact .inl ⟨by simp[wS,h1,e1],by rw[e2]⟩
    ·refine .inr ⟨j+1,v2,?_,by simpa using AE8.cons hk hv e2⟩
     simp only[wS,vq,h1,If,wW,if_false];rw[e1];congr 3;omega
   ·cases h
  ·cases h
theorem VK{x:Ent}:∀ {es:List Ent},XR x es=es++[x]
 |[]=>rfl
 |e::es=>by unfold XR;rw[VK];rfl
theorem AE8.append{x:Ent}{x':xA}(hx:AE8 φ [x] [x']):∀ {es:List Ent} {es':List xA},AE8 φ es es'->AE8 φ (es++[x]) (es'++[x'])
 |_,_,.nil=>hx
 |_,_,.cons hk hv t=>.cons hk hv (AE8.append hx t)
theorem Mq{K:KS}{x x':IN}(h:Fu K x=true)(hr:AED φ x x'):x'=x/\AED φ x x:=by
 have:=Ja h hr;subst this;exact⟨rfl,hr⟩
end
end
noncomputable section
open Go
section
variable {P:xD}{U:TTy}{φ:Phi}{E:Nat->Prop}{h h':Hp}{w:wb}{F:AEB}{e:Env}{v:IN}
def WC:IN->Bool
 |.bool _|.pointer _|.slice _ _ _|.map _|.func _ _ _|.nilFunc=>true
 |_=>false
theorem ZD{op:ACo}{neg:Bool}(hop:(op=.eql/\neg=false)\/(op=.neq/\neg=true)){t:we}{X Y:wV}{a b:IN}(ha:WC a=true\/∃ l,a=.agg l)(hg:(eqGuard op t X Y a b).run P w=.ok () w)
  {r:Bool}(hr:(AAE t a b).run P w=.ok r w):(Br op t X Y a b).run P w=.ok (.bool (neg != r)) w:=by
 unfold Br;rw[vq,hg,If];have:binOp op t a b=(do pure (.bool (neg != (<- AAE t a b)))):=by
  rcases hop with ⟨rfl,rfl⟩|⟨rfl,rfl⟩
  ·rcases ha with ha|⟨l,rfl⟩
   ·cases a<;>first|(cases ha;done)|skip
    all_goals (simp[binOp];try rfl)
   ·simp[binOp]
  ·rcases ha with ha|⟨l,rfl⟩
   ·cases a<;>first|(cases ha;done)|skip
    all_goals (simp[binOp];try rfl)
   ·simp[binOp]
 rw[this,vq,hr,If,vt]
theorem UI{op:ACo}{t:we}{X Y:wV}{a b:IN}(ha:WC a=true):(eqGuard op t X Y a b).run P w=.ok () w:=by
 cases op<;>first|rfl|skip
 all_goals (cases a<;>first|(cases ha;done)|rfl)
theorem Xy{op:ACo}{t:we}{X Y:wV}{a b:Array IN}(hg:P.eqGuardType P.depth t=false):(eqGuard op t X Y (.agg a) (.agg b)).run P w=.ok () w:=by
 cases op<;>first|rfl|skip
 all_goals (simp[eqGuard,hg])
theorem pV(n:Nat){k:TK}{x y x' y':IN}{r:Bool}(hr:eqV k x y=some r)(hx:AED φ x x')(hy:AED φ y y'){t:Nat}{d:ABH}(hd:P.underlying t=some d)(hk:KOk P k d)(w:wb):
  WC x'=true/\(zN (n+1) t x' y').run P w=.ok r w:=by
 unfold eqV at hr;split at hr
 case h_12=>cases hr
 all_goals (cases hr;cases hk;first|skip|(rename_i ho;cases ho))
 all_goals (cases hx;cases hy)
 all_goals (refine⟨rfl,?_⟩;simp[zN,run_underlying hd])
theorem pW{k:TK}{x y x' y':IN}{r:Bool}(hr:eqV k x y=some r)(hx:AED φ x x')(hy:AED φ y y'){t:Nat}{d:ABH}(hd:P.underlying t=some d)(hk:KOk P k d)(w:wb):
 WC x'=true/\(AAE t x' y').run P w=.ok r w:=pV 9999 hr hx hy hd hk w
theorem cA(H:AEG U φ E h w){k:TK}{op:ACo}{neg:Bool}(hop:(op=.eql/\neg=false)\/(op=.neq/\neg=true)){t:Nat}{ti:TI}(T:AEd P t ti)(hk:ti.k=k){X Y:wV}{x y:O}{x' y':IN}
  (hx:AED φ (x e) x')(hy:AED φ (y e) y')(hr:oEq k neg x y F e h=.ok v h'):BR U φ E h w v h' ((Br op t X Y x' y').run P w):=by
 obtain⟨d,hd,hkd⟩:=T.und;rw[hk]at hkd;unfold oEq at hr;split at hr
 case h_2=>cases hr
 rename_i r hq;obtain⟨rfl,rfl⟩:=I9 hr;obtain⟨h1,h2⟩:=pW hq hx hy hd hkd w;rw[ZD hop (.inl h1) (UI h1) h2];exact .same H (.bool _)
theorem SL(H:AEG U φ E h w){op:ACo}{neg:Bool}(hop:(op=.eql/\neg=false)\/(op=.neq/\neg=true)){t:Nat}{ti:TI}(T:AEd P t ti)(hk:ti.k=.iface){X:wV}{x:O}{x':IN}
  (hx:AED φ (x e) x')(hr:Ol neg x F e h=.ok v h'):BR U φ E h w v h' ((Br op t X (.const .nilIface) x' .nilIface).run P w):=by
 obtain⟨d,hd,hkd⟩:=T.und;rw[hk]at hkd;have main:∀ (a:IN) (r:Bool),((a=.nilIface/\r=true)\/((∃ t v,a=.iface t v)/\r=false))->(Br op t X (.const .nilIface) a .nilIface).run P w=.ok (.bool (neg != r)) w:=by
  intro a r ha;cases hkd with
  |iface ms=>
  unfold Br;have hg:(eqGuard op t X (.const .nilIface) a .nilIface).run P w=.ok () w:=by
   cases op<;>first|rfl|skip
   all_goals (rcases ha with ⟨rfl,_⟩|⟨⟨t,v,rfl⟩,_⟩<;>simp[eqGuard])
  have he1:∀ n,(zN (n+1) t a .nilIface).run P w=.ok r w:=fun n=>by
   rcases ha with ⟨rfl,rfl⟩|⟨⟨t,v,rfl⟩,rfl⟩<;>simp[zN,run_underlying hd]
  have he:(AAE t a .nilIface).run P w=.ok r w:=he1 9999;have hb:binOp op t a .nilIface=(do pure (.bool (neg != (<- AAE t a .nilIface)))):=by
   rcases hop with ⟨rfl,rfl⟩|⟨rfl,rfl⟩<;>rcases ha with ⟨rfl,rfl⟩|⟨⟨t,v,rfl⟩,rfl⟩<;>(simp[binOp];try rfl)
  rw[vq,hg,If,hb,vq,he,If,vt]
 have hr:be neg (x e) h=.ok v h':=hr;generalize x e=u at hx hr;unfold be at hr;split at hr
 ·obtain⟨rfl,rfl⟩:=I9 hr
  cases hx;rw[main _ true (.inl ⟨rfl,rfl⟩)];exact .same H (.bool _)
 ·obtain⟨rfl,rfl⟩:=I9 hr
  cases hx with
  |iface t h=>rw[main _ false (.inr ⟨⟨_,_,rfl⟩,rfl⟩)];exact .same H (.bool _)
 ·cases hr
theorem L7(hT:Cs P U)(H:AEG U φ E h w){K:KS}{op:ACo}{neg:Bool}(hop:(op=.eql/\neg=false)\/(op=.neq/\neg=true)){t:Nat}{ti:TI}(hti:U.get t=some ti)(hk:ti.k.agg=true)(hf:flatK U 8 t=some K.ks)(ha:K.agg=true)
  {X Y:wV}{x y:O}{x' y':IN}(hx:AED φ (x e) x')(hy:AED φ (y e) y')(hr:SE K neg x y F e h=.ok v h'):BR U φ E h w v h' ((Br op t X Y x' y').run P w):=by
 have T:=hT t ti hti;have hK:AFC P U t K:=⟨⟨ti,hti,by rw[ha,hk]⟩,hf⟩;unfold SE eqC at hr;split at hr
 case h_2=>cases hr
 rename_i r hq;split at hq
 case h_2=>cases hq
 rename_i hfx;obtain⟨rfl,rfl⟩:=I9 hr;have e1:=Ja hfx hx;obtain⟨h1,hfy,e2⟩:=Fb hT hK hfx hy hq w;rw[<- e1]at hfx;have hgt:=(E4 hT 8 t K.ks hf).2.1 P.depth T.deep;obtain⟨_,_,g1⟩:=DJ hfx;obtain⟨_,_,g2⟩:=DJ hfy;rw[<- e2]at g2;rcases g1 with ⟨_,l,hl⟩|⟨hb,_⟩
 ·rcases g2 with ⟨_,m,hm⟩|⟨hb,_⟩
  ·rw[<- e1]at h1
   have hg:(eqGuard op t X Y x' y').run P w=.ok () w:=by rw[hl,hm];exact Xy hgt
   rw[ZD hop (.inr ⟨_,hl⟩) hg h1];exact .same H (.bool _)
  ·rw[ha]at hb;cases hb
 ·rw[ha]at hb;cases hb
end
end
noncomputable section
open Go
section
variable {P:xD}{U:TTy}{φ:Phi}{E:Nat->Prop}{h h':Hp}{w:wb}{F:AEB}{e:Env}{v:IN}{f:Fr}
theorem Be{t:Nat}{k:TI->OpF}(hr:wTy U t k F e h=.ok v h'):∃ ti,U.get t=some ti/\k ti F e h=.ok v h':=by
 unfold wTy at hr;cases hg:U.get t with
 |none=>rw[hg]at hr;cases hr
 |some ti=>rw[hg]at hr;exact⟨ti,rfl,hr⟩
theorem DG{x:wV}{k:O->OpF}(hr:w1 f x k F e h=.ok v h'):∃ y,cO f x=some y/\k y F e h=.ok v h':=by
 unfold w1 at hr;cases hg:cO f x with
 |none=>rw[hg]at hr;cases hr
 |some y=>rw[hg]at hr;exact⟨y,rfl,hr⟩
theorem KD{x y:wV}{k:O->O->OpF}(hr:w2 f x y k F e h=.ok v h'):∃ x' y',cO f x=some x'/\cO f y=some y'/\k x' y' F e h=.ok v h':=by
 unfold w2 at hr;obtain⟨x',hx,hr⟩:=DG hr;obtain⟨y',hy,hr⟩:=DG hr;exact⟨x',y',hx,hy,hr⟩
theorem Ir{ti:TI}{k:OpF}(hr:wZ ti k F e h=.ok v h'):ti.zero.length=ti.size/\k F e h=.ok v h':=by
 unfold wZ at hr;cases hg:wB (BA ti.zero) ti.size with
 |false=>rw[hg]at hr;cases hr
 |true=>rw[hg]at hr;exact⟨by rw[<- Am.1 hg,BL],hr⟩
def DH(P:xD)(U:TTy)(F:AEB):Prop:=∀ g args h v h',F g args h=.ok v h'->
 (∃ fn,P.funcs[g]? =some fn/\fn.name≠"runtime.NumGoroutine" /\fn.body.isNone=false)/\
 ∀ φ w args',AEX φ args args'->AEG U φ (fun _=>False) h w->
  Calls P g ⟨args'⟩ w fun en w'=>∃ v' ψ,en=.returned v'/\AED ψ v v'/\AEG U ψ (fun _=>False) h' w'/\Evo φ h w ψ h' w'
def EZ(P:xD)(U:TTy)(φ:Phi)(E:Nat->Prop)(h:Hp)(v:IN)(h':Hp)(o:Oper)(a:Act)(w:wb):Prop:=
 ∀ (next:Act->wb->Prop) (Q:Exit->Act->wb->Prop),
  (∀ ψ v' w',AED ψ v v'->AEG U ψ E h' w'->Evo φ h w ψ h' w'->next (a.put o.dst v') w')->o.wp P a w next Q
theorem EZ.AEC{o:Oper}{a:Act}{s:Sem IN}(hx:execOp a.eval o=(do pure (.value (<- s))))(hg:BR U φ E h w v h' (s.run P w)):EZ P U φ E h v h' o a w:=by
 intro next Q hn
 obtain⟨v',w',ψ,hs,hv,H,ev⟩:=hg;unfold ADU;rw[hx,vq,hs,If,vt,Oper.upon_value];exact hn ψ v' w' hv H ev
theorem EZ.AFg{o:Oper}{a:Act}{s:Sem Unit}(hx:execOp a.eval o=(do s;pure .skip))(hg:Y3 U φ E h w v h' (s.run P w)):EZ P U φ E h v h' o a w:=by
 intro next Q hn
 obtain⟨rfl,w',hs,H,ev⟩:=hg;unfold ADU;rw[hx,vq,hs,If,vt,Oper.upon_skip];exact hn φ undef w' (.tuple .nil) H ev
theorem Jw{place:Nat->Option (Nat×Nat)}{ρ:wV->IN}:∀ {l:List (Nat×wV)} {ps:List (Nat×Nat×O)},G0 f place l=some ps->
  (∀ p∈l,∀ y,cO f p.2=some y->AED φ (y e) (ρ p.2))->AGW φ e place ps (l.map fun (i,x)=>(i,ρ x))
 |[],ps,hp,_=>by cases hp;exact .nil
 |(i,x)::l,ps,hp,hst=>by
  unfold G0 at hp;split at hp
  ·rename_i off size hpl
   split at hp
   ·rename_i y hy
    split at hp
    ·rename_i r hr
     cases hp;exact .cons hpl (hst (i,x) (by simp) y hy) (Jw hr fun p hp=>hst p (by simp[hp]))
    ·cases hp
   ·cases hp
  ·cases hp
theorem PO{ρ:wV->IN}:∀ {l:List wV} {ys:List O},cOs f l=some ys->(∀ x∈l,∀ y,cO f x=some y->AED φ (y e) (ρ x))->AEX φ (vals e ys) (l.map ρ)
 |[],ys,h,_=>by cases h;exact .nil
 |x::l,ys,h,hst=>by
  unfold cOs at h;split at h
  ·rename_i y hy
   split at h
   ·rename_i r hr
    cases h;exact .cons (hst x (by simp) y hy) (PO hr fun x hx=>hst x (by simp[hx]))
   ·cases h
  ·cases h
theorem Tj{ρ:wV->IN}{x:Option wV}{y:Option O}(h:cOo f x=some y)(hst:∀ z,x=some z->∀ y,cO f z=some y->AED φ (y e) (ρ z)):AFl φ e y (x.map ρ):=by
 unfold cOo at h;split at h
 ·cases h;exact .none
 ·rename_i x
  split at h
  ·rename_i y hy;cases h;exact .some (hst x rfl y hy)
  ·cases h
def kC(φ:Phi)(f:Fr)(e:Env)(ρ:wV->IN)(op:Op):Prop:=∀ x∈op.operands.toList,∀ y,cO f x=some y->AED φ (y e) (ρ x)
def HS(U:TTy)(f:Fr)(e:Env)(E:Nat->Prop)(op:Op):Prop:=match kd U op with
 |.p=>True
 |.a=>True
 |.r x=>∀ y,cO f x=some y->∀ b,AEn (y e)=.ok b->¬ E b
 |.w _=>∀ b,¬ E b
 |.q=>∀ b,¬ E b
theorem nM(hT:Cs P U)(H:AEG U φ E h w){op:ACo}{t yt:we}{x y:wV}{o:Oper}{a:Act}(ho:o.op=.binOp op t x y yt)(hst:kC φ f e a.eval o.op)(hr:ZC U f op t x y F e h=.ok v h'):EZ P U φ E h v h' o a w:=by
 have hx:execOp a.eval o=(do pure (.value (<- Br op t x y (a.eval x) (a.eval y)))):=by unfold execOp;rw[ho];rfl
 unfold ZC at hr;obtain⟨ti,hti,hr⟩:=Be hr;obtain⟨x',y',hx',hy',hr⟩:=KD hr;have r1:=hst x (by rw[ho];simp[wL]) x' hx';have r2:=hst y (by rw[ho];simp[wL]) y' hy';cases hk:ti.k with
 |int k=>
  rw[hk]at hr;cases op with
  |add=>exact .AEC hx (iO H r1 r2 hr)
  |sub=>exact .AEC hx (WZ H (.inl ⟨rfl,rfl⟩) r1 r2 hr)
  |mul=>exact .AEC hx (WZ H (.inr ⟨rfl,rfl⟩) r1 r2 hr)
  |quo=>exact .AEC hx (ii H r1 r2 hr)
  |rem=>exact .AEC hx (jB H r1 r2 hr)
  |and=>exact .AEC hx (P5 H (.inl ⟨rfl,rfl⟩) r1 r2 hr)
  |or=>exact .AEC hx (P5 H (.inr (.inl ⟨rfl,rfl⟩)) r1 r2 hr)
  |xor=>exact .AEC hx (P5 H (.inr (.inr ⟨rfl,rfl⟩)) r1 r2 hr)
  |shl=>exact .AEC hx (jD H r1 r2 hr)
  |shr=>exact .AEC hx (jF H r1 r2 hr)
  |andNot=>cases hr
  |eql=>exact .AEC hx (IW H (.inl ⟨rfl,rfl⟩) r1 r2 hr)
  |neq=>exact .AEC hx (IW H (.inr (.inl ⟨rfl,rfl⟩)) r1 r2 hr)
  |lss=>exact .AEC hx (IW H (.inr (.inr (.inl ⟨rfl,rfl⟩))) r1 r2 hr)
  |leq=>exact .AEC hx (IW H (.inr (.inr (.inr (.inl ⟨rfl,rfl⟩)))) r1 r2 hr)
  |gtr=>exact .AEC hx (IW H (.inr (.inr (.inr (.inr (.inl ⟨rfl,rfl⟩))))) r1 r2 hr)
  |geq=>exact .AEC hx (IW H (.inr (.inr (.inr (.inr (.inr ⟨rfl,rfl⟩))))) r1 r2 hr)
 |string=>
  rw[hk]at hr;cases op with
  |add=>exact .AEC hx (iY H r1 r2 hr)
  |eql=>exact .AEC hx (IY H (.inl ⟨rfl,rfl⟩) r1 r2 hr)
  |neq=>exact .AEC hx (IY H (.inr (.inl ⟨rfl,rfl⟩)) r1 r2 hr)
  |lss=>exact .AEC hx (IY H (.inr (.inr (.inl ⟨rfl,rfl⟩))) r1 r2 hr)
  |gtr=>exact .AEC hx (IY H (.inr (.inr (.inr (.inl ⟨rfl,rfl⟩)))) r1 r2 hr)
  |leq=>exact .AEC hx (IY H (.inr (.inr (.inr (.inr (.inl ⟨rfl,rfl⟩))))) r1 r2 hr)
  |geq=>exact .AEC hx (IY H (.inr (.inr (.inr (.inr (.inr ⟨rfl,rfl⟩))))) r1 r2 hr)
  |_=>cases hr
 |struct fs=>
  rw[hk]at hr;simp only at hr;cases hf:flatK U 8 t with
  |none=>rw[hf]at hr;cases hr
  |some ks=>
   rw[hf]at hr;have hag:ti.k.agg=true:=by rw[hk];rfl
   cases op with
   |eql=>exact .AEC hx (L7 hT H (K:=⟨true,ks⟩) (.inl ⟨rfl,rfl⟩) hti hag hf rfl r1 r2 hr)
   |neq=>exact .AEC hx (L7 hT H (K:=⟨true,ks⟩) (.inr ⟨rfl,rfl⟩) hti hag hf rfl r1 r2 hr)
   |_=>cases hr
 |arr n el=>
  rw[hk]at hr;simp only at hr;cases hf:flatK U 8 t with
  |none=>rw[hf]at hr;cases hr
  |some ks=>
   rw[hf]at hr;have hag:ti.k.agg=true:=by rw[hk];rfl
   cases op with
   |eql=>exact .AEC hx (L7 hT H (K:=⟨true,ks⟩) (.inl ⟨rfl,rfl⟩) hti hag hf rfl r1 r2 hr)
   |neq=>exact .AEC hx (L7 hT H (K:=⟨true,ks⟩) (.inr ⟨rfl,rfl⟩) hti hag hf rfl r1 r2 hr)
   |_=>cases hr
 |iface=>
  rw[hk]at hr;have hr:(match Pn y with|true=>(match op with|.eql=>Ol false x'|.neq=>Ol true x'|_=>oNo)|false=>oNo) F e h=.ok v h':=hr;cases hn:Pn y with
  |false=>rw[hn]at hr;cases hr
  |true=>
   rw[hn]at hr;have hy:y=.const .nilIface:=by
    unfold Pn at hn;split at hn
    ·split at hn
     ·rfl
     ·cases hn
    ·cases hn
   subst hy;cases op with
   |eql=>exact .AEC hx (SL H (.inl ⟨rfl,rfl⟩) (hT t ti hti) hk r1 hr)
   |neq=>exact .AEC hx (SL H (.inr ⟨rfl,rfl⟩) (hT t ti hti) hk r1 hr)
   |_=>cases hr
 |_=>
  rw[hk]at hr;cases op with
  |eql=>exact .AEC hx (cA H (.inl ⟨rfl,rfl⟩) (hT t ti hti) hk r1 r2 hr)
  |neq=>exact .AEC hx (cA H (.inr ⟨rfl,rfl⟩) (hT t ti hti) hk r1 r2 hr)
  |_=>cases hr
end
end
noncomputable section
open Go
section
variable {P:xD}{U:TTy}{φ:Phi}{E:Nat->Prop}{h h':Hp}{w:wb}{F:AEB}{e:Env}{v:IN}{f:Fr}
theorem AEG.less(H:AEG U φ E h w)(hE:∀ b,¬ E b){E':Nat->Prop}:AEG U φ E' h w where
 dom:=H.dom
 inj:=fun i j p q ei ej _ _=>H.inj i j p q ei ej (hE i) (hE j)
 row:=fun i p hp _=>H.row i p hp (hE i)
 fresh:=H.fresh
 kind:=H.kind
 inp:=H.inp
theorem PR(hF:DH P U F)(H:AEG U φ E h w)(hE:∀ b,¬ E b){g:Nat}{args args':List IN}(ha:AEX φ args args')(hr:F g args h=.ok v h'){o:Oper}{a:Act}
  (hx:(execOp a.eval o).run P w=(callFunc g ⟨args'⟩).run P w):EZ P U φ E h v h' o a w:=by
 intro next Q hn
 obtain⟨⟨fn,hfn,hnm,hb⟩,hc⟩:=hF g args h v h' hr;have AHy:(callFunc g ⟨args'⟩).run P w=.ok (.enter g ⟨args'⟩) w:=by
  have AJf:(fn.name == "runtime.NumGoroutine")=false:=by simpa using hnm
  simp only[callFunc,vq,run_program,If,hfn,AJf,wW,if_false,hb,vt,zz]
 unfold ADU;rw[hx,AHy,Oper.upon_enter];refine(hc φ w args' ha (H.less hE)).mono fun en w' ⟨v',ψ,he,hv,H',ev⟩=>?_
 subst he;exact hn ψ v' w' hv (H'.less (fun _ h=>h)) ev
theorem bn(hF:DH P U F)(H:AEG U φ E h w)(hE:∀ b,¬ E b){g:Nat}{c:Call}(hc:c.callee=.value (.func g)){o:Oper}{a:Act}(ho:o.op=.call c){args:List O}
  (ha:AEX φ (vals e args) (c.args.toList.map a.eval))(hr:AS g args F e h=.ok v h'):EZ P U φ E h v h' o a w:=by
 unfold AS at hr;rw[CX]at hr;refine PR hF H hE ha hr ?_;have e1:c.args.map a.eval=⟨c.args.toList.map a.eval⟩:=by apply xG;simp
 unfold execOp;rw[ho];simp only[resolve,hc,e1,Act.eval,AB0,vq,vt,If,invoke]
 congr 2
 apply xG;simp
theorem K3(hF:DH P U F)(H:AEG U φ E h w)(hE:∀ b,¬ E b){x:wV}{g:O}{c:Call}(hc:c.callee=.value x){o:Oper}{a:Act}(ho:o.op=.call c){args:List O}
  (hg:AED φ (g e) (a.eval x))(ha:AEX φ (vals e args) (c.args.toList.map a.eval))(hr:Ei g args F e h=.ok v h'):EZ P U φ E h v h' o a w:=by
 unfold Ei at hr;split at hr
 case h_2=>cases hr
 rename_i k first cap hge
 rw[hge]at hg;rw[CX]at hr;generalize hxe:a.eval x=xv at hg;cases hg with
 |func _ h1 h2=>
  refine PR hF H hE (h1.append (ha.append h2)) hr ?_;have e1:c.args.map a.eval=⟨c.args.toList.map a.eval⟩:=by apply xG;simp
  unfold execOp;rw[ho];simp only[resolve,hc,e1,hxe,AB0,vq,vt,If,invoke]
  congr 2
  apply xG;simp
theorem NG{name:String}:∀ {t:TTy} {ix:Nat->Nat} {u f:Nat},(u,f)∈t.meths name ix->∃ k ti,u=ix k/\t.get k=some ti/\findM name ti.ms=some f
 |.mt,ix,u,f,h=>by cases h
 |.nd t l r,ix,u,f,h=>by
  have sub:(u,f)∈l.meths name (fun k=>ix (vo (wY 2 k)))++r.meths name (fun k=>ix (vo (vo (wY 2 k))))->∃ k ti,u=ix k/\(TTy.nd t l r).get k=some ti/\findM name ti.ms=some f:=fun h=>by
   rcases List.mem_append.1 h with h|h
   ·obtain⟨k,ti,h1,h2,h3⟩:=NG h
    refine⟨vo (wY 2 k),ti,h1,?_,h3⟩;show(match zQ (wY 2 k) 2 with| 0=>l.get (yN (wY 2 k) 2)|vo _=>r.get (yN (wY 2 k) 2))=_;have e1:zQ (wY 2 k) 2=0:=by show(2*k) % 2=0;omega
    have e2:yN (wY 2 k) 2=k:=by show(2*k)/2=k;omega
    rw[e1,e2];exact h2
   ·obtain⟨k,ti,h1,h2,h3⟩:=NG h
    refine⟨vo (vo (wY 2 k)),ti,h1,?_,h3⟩;show(match zQ (vo (wY 2 k)) 2 with| 0=>l.get (yN (vo (wY 2 k)) 2)|vo _=>r.get (yN (vo (wY 2 k)) 2))=_;have e1:zQ (vo (wY 2 k)) 2=1:=by show(2*k+1) % 2=1;omega
    have e2:yN (vo (wY 2 k)) 2=k:=by show(2*k+1)/2=k;omega
    rw[e1,e2];exact h2
  unfold TTy.meths at h;split at h
  ·rename_i g hg
   rcases wA.1 h with h|h
   ·cases h
    cases t with
    |none=>cases hg
    |some ti=>exact⟨0,ti,rfl,rfl,hg⟩
   ·exact sub h
  ·exact sub h
theorem Q6{t f:Nat}:∀ {l:List (Nat×Nat)},Vs t l=some f->(t,f)∈l
 |[],h=>by cases h
 |(u,g)::l,h=>by
  have h:(bif wB u t then some g else Vs t l)=some f:=h;cases hb:wB u t with
  |true=>
   rw[hb]at h;cases h;rw[Am.1 hb];exact List.mem_cons_self
  |false=>
   rw[hb]at h;exact List.mem_cons_of_mem _ (Q6 h)
theorem Uo(hT:Cs P U)(hF:DH P U F)(H:AEG U φ E h w)(hE:∀ b,¬ E b){recv:wV}{name:String}{x:O}{c:Call}(hc:c.callee=.invoke recv name){o:Oper}{a:Act}(ho:o.op=.call c){args:List O}
  (hg:AED φ (x e) (a.eval recv))(ha:AEX φ (vals e args) (c.args.toList.map a.eval))(hr:L8 (U.meths name fun k=>k) x args F e h=.ok v h'):EZ P U φ E h v h' o a w:=by
 unfold L8 at hr;split at hr
 case h_2=>cases hr
 rename_i t u hxe;split at hr
 case h_2=>cases hr
 rename_i f hf;rw[BH,CX]at hr;rw[hxe]at hg;generalize AJg:a.eval recv=xv at hg;cases hg with
 |@iface _ _ u' hu=>
  obtain⟨k,ti,hk,h2,h3⟩:=NG (Q6 hf);have hk:t=k:=hk;subst hk;have hm:=(hT t ti h2).ms name f h3 u' w;refine PR hF H hE (.cons hu ha) hr ?_;have e1:c.args.map a.eval=⟨c.args.toList.map a.eval⟩:=by apply xG;simp
  unfold execOp;rw[ho];have e2:(#[ABw t u']++(⟨c.args.toList.map a.eval⟩:Array IN))[0]? =some (.iface t u'):=by simp
  have e3:(#[ABw t u']++(⟨c.args.toList.map a.eval⟩:Array IN)).extract 1 (#[ABw t u']++(⟨c.args.toList.map a.eval⟩:Array IN)).size=⟨c.args.toList.map a.eval⟩:=by apply xG;simp;exact List.take_of_length_le (by simp)
  have e4: #[u']++(⟨c.args.toList.map a.eval⟩:Array IN)=⟨u'::c.args.toList.map a.eval⟩:=by apply xG;simp
  simp only[resolve,hc,e1,AJg,vq,vt,If,invoke,e2,e3,callMethod,run_program,hm,e4]
theorem B0{b:Nat}{ob:Obj}(h1:w.heap[b]? =some ob)(h2:(match ob with|.cells .. =>true|_=>false)=false):(getObj b).run P w=.ok ob w:=by
 unfold getObj;simp only[Sem.run,h1];cases ob<;>first|rfl|cases h2
theorem AE8.length:∀ {l:List Ent} {l':List xA},AE8 φ l l'->l'.length=l.length
 |_,_,.nil=>rfl
 |_,_,.cons _ _ t=>congrArg (· +1) t.length
theorem F5{r:Nat}{es:List Ent}{c:Nat}(hr:BV h r=.ok es c):h.bl.get r=.map es c:=by
 unfold BV gS at hr;split at hr
 ·cases hr;assumption
 ·cases hr
theorem AEG.AFH(H:AEG U φ E h w){r:Nat}{p:Pl}(hp:φ r=some p)(hE:¬ E r){es:List Ent}{c:Nat}(hr:BV h r=.ok es c):
  ∃ es',w.heap[p.blk]? =some (.map ⟨es'⟩ c)/\AE8 φ es es':=by
 have:=H.row r p hp hE;rw[F5 hr]at this;generalize w.heap[p.blk]? =o at this;cases this with
 |map h=>exact⟨_,rfl,h⟩
theorem cH(H:AEG U φ E h w){x:O}{x':IN}{ats:Array we}{t t' el:we}(h0:ats[0]? =some t){ti:TI}(T:AEd P t ti)(hk:ti.k=.slice el)(hx:AED φ (x e) x')(hr:Bf x F e h=.ok v h'):
  BR U φ E h w v h' ((xQ ats t' #[x']).run P w):=by
 unfold Bf at hr;split at hr
 case h_3=>cases hr
 case h_2=>
  rename_i r hxe;rw[hxe]at hx;cases hr;obtain⟨d,hd,hkd⟩:=T.desc;rw[hk]at hkd;cases hkd;have key:(xQ ats t' #[x']).run P w=.ok (goInt ((0:Nat):Int)) w:=by
   cases hx<;>simp only[xQ,h0,vq,hd,If,vt,wO,wR]
  rw[key];exact .same H (.int _ _)
 rename_i a n c hxe;rw[hxe]at hx;cases hr;obtain⟨d,hd,hkd⟩:=T.desc;rw[hk]at hkd;cases hkd;have key:(xQ ats t' #[x']).run P w=.ok (goInt n) w:=by
  cases hx<;>simp only[xQ,h0,vq,hd,If,vt,wO,wR]
 rw[key];exact .same H (.int _ _)
theorem bp(H:AEG U φ E h w){x:O}{x':IN}{ats:Array we}{t t' el:we}(h0:ats[0]? =some t){ti:TI}(T:AEd P t ti)(hk:ti.k=.slice el)(hx:AED φ (x e) x')(hr:bo x F e h=.ok v h'):
  BR U φ E h w v h' ((ABO ats t' #[x']).run P w):=by
 unfold bo at hr;split at hr
 case h_2=>cases hr
 rename_i hxe;rw[hxe]at hx;cases hr;obtain⟨d,hd,hkd⟩:=T.desc;rw[hk]at hkd;cases hkd;have key:(ABO ats t' #[x']).run P w=.ok (goInt 0) w:=by
  cases hx<;>simp only[ABO,h0,vq,hd,If,vt,wO,wR]<;>rfl
 rw[key];exact .same H (.int _ _)
theorem cJ(H:AEG U φ E h w){x:O}{x':IN}{ats:Array we}{t t':we}(h0:ats[0]? =some t){ti:TI}(T:AEd P t ti)(hk:ti.k=.string)(hx:AED φ (x e) x')(hr:SJ x F e h=.ok v h'):
  BR U φ E h w v h' ((xQ ats t' #[x']).run P w):=by
 unfold SJ at hr;split at hr
 case h_2=>cases hr
 rename_i s hxe;rw[hxe]at hx;rw[AZ,BL]at hr;cases hr;obtain⟨d,hd,hkd⟩:=T.desc;rw[hk]at hkd;cases hkd;obtain rfl:=hx.AEZ;have key:(xQ ats t' #[.string s]).run P w=.ok (goInt s.size) w:=by
  simp only[xQ,h0,vq,hd,If,vt,wO,wR]
 rw[key];exact .same H (.int _ _)
theorem cE(H:AEG U φ E h w){x:O}{x':IN}{ats:Array we}{t t' kt el:we}(h0:ats[0]? =some t){ti:TI}(T:AEd P t ti)(hk:ti.k=.map kt el)(hx:AED φ (x e) x')
  (hE:∀ r,x e=.map (some r)->¬ E r)(hr:SI x F e h=.ok v h'):BR U φ E h w v h' ((xQ ats t' #[x']).run P w):=by
 obtain⟨d,hd,hkd⟩:=T.desc;rw[hk]at hkd;cases hkd;unfold SI at hr;split at hr
 ·rename_i hxe
  rw[hxe]at hx;cases hr;cases hx;have key:(xQ ats t' #[.map none]).run P w=.ok (goInt 0) w:=by
   simp only[xQ,h0,vq,hd,If,vt,wO,wR]
  rw[key];exact .same H (.int _ _)
 ·rename_i r hxe
  rw[hxe]at hx;cases hx with
  |@map _ p hp=>
   split at hr
   case h_2=>cases hr
   rename_i es c hes;rw[AZ,BL]at hr;cases hr;obtain⟨es',hw,AEh⟩:=H.AFH hp (hE r hxe) hes;have key:(xQ ats t' #[.map (some p.blk)]).run P w=.ok (goInt es.length) w:=by
    simp only[xQ,h0,vq,hd,If,vt,wO,wR,B0 hw rfl];rw[<- AEh.length];rfl
   rw[key];exact .same H (.int _ _)
 ·cases hr
theorem hJ{x':IN}{ats:Array we}{t t' el:we}{n:Nat}(h0:ats[0]? =some t){ti:TI}(T:AEd P t ti)(hk:ti.k=.arr n el):(xQ ats t' #[x']).run P w=.ok (goInt n) w:=by
 obtain⟨d,hd,hkd⟩:=T.desc;rw[hk]at hkd;cases hkd;simp only[xQ,h0,vq,hd,If,vt,wO,wR]
theorem D6{b:Nat}{ob ob':Obj}(h1:w.heap[b]? =some ob)(h2:(match ob with|.cells .. =>true|_=>false)=false):
  (setObj b ob').run P w=.ok () {w with heap:=w.heap.setIfInBounds b ob'}:=by
 unfold setObj;simp only[Sem.run,h1];cases ob<;>first|rfl|cases h2
theorem FS(H:AEG U φ E h w){r:Nat}{p:Pl}(hEr:¬ E r)(hp:φ r=some p)(hl:Live h r){o:Blk}{ob:Obj}{k:Hp->R}(hr:EQ h r o k=.ok v h')(hsh:AEW (h.bl.get r) o)(hB:AFA U φ p o (some ob)):
  ∃ h1,k h1=.ok v h'/\AEG U φ E h1 {w with heap:=w.heap.setIfInBounds p.blk ob}/\Evo φ h w φ h1 {w with heap:=w.heap.setIfInBounds p.blk ob}:=by
 obtain⟨bl,AEO,hbl,hk⟩:=FR hr;have hlt:=(H.dom r p hp).2;have e1:(w.heap.setIfInBounds p.blk ob).size=w.heap.size:=by simp
 have e2:∀ k,k≠p.blk->(w.heap.setIfInBounds p.blk ob)[k]? =w.heap[k]?:=fun k hk=>by
  rw[yT,if_neg (ADw hk)]
 have e3:(w.heap.setIfInBounds p.blk ob)[p.blk]? =some ob:=by rw[yT,if_pos rfl,if_pos hlt]
 exact⟨_,hk,H.put hEr AEO hp hl hbl e1 e2 (by show AFA U φ p o ((w.heap.setIfInBounds p.blk ob)[p.blk]?);rw[e3];exact hB),.put (H.AFE hp AEO) hp hl hbl hsh e1 e2 rfl rfl rfl⟩
theorem GW{r:Nat}{es:List Ent}{c:Nat}(hr:BV h r=.ok es c):Live h r:=by
 unfold Live;rw[F5 hr];intro hd;cases hd
theorem P6(H:AEG U φ E h w)(hE:∀ b,¬ E b){x:O}{x':IN}{ats:Array we}{t t':we}{ti:TI}(h0:ats[0]? =some t)(T:AEd P t ti)(hx:AED φ (x e) x')(hr:Dn x F e h=.ok v h'):
  BR U φ E h w v h' ((xU ats t' #[x']).run P w):=by
 obtain⟨d,hd,_⟩:=T.desc;unfold Dn at hr;split at hr
 ·rename_i hxe
  rw[hxe]at hx;cases hr;cases hx;have key:(xU ats t' #[.map none]).run P w=.ok AEE w:=by
   simp only[xU,h0,vq,hd,If,vt,wO,wR];rfl
  rw[key];exact .same H (.tuple .nil)
 ·rename_i r hxe
  rw[hxe]at hx;cases hx with
  |@map _ p hp=>
   split at hr
   case h_2=>cases hr
   rename_i es c hes;obtain⟨es',hw,AEh⟩:=H.AFH hp (hE r) hes;obtain⟨h1,hk,H1,ev⟩:=FS (ob:=.map #[] c) H (hE _) hp (GW hes) hr (by rw[F5 hes];exact .inr trivial) (.map .nil);cases hk;have key:(xU ats t' #[.map (some p.blk)]).run P w=.ok AEE {w with heap:=w.heap.setIfInBounds p.blk (.map #[] c)}:=by
    simp only[xU,h0,vq,hd,If,vt,wO,wR,B0 hw rfl,D6 hw rfl];rfl
   rw[key];exact⟨_,_,φ,rfl,.tuple .nil,H1,ev⟩
 ·cases hr
theorem YJ(H:AEG U φ E h w)(hE:∀ b,¬ E b){x:O}{x':IN}{ats:Array we}{t t' el:we}{ti ei:TI}(h0:ats[0]? =some t)(T:AEd P t ti)(hk:ti.k=.slice el)(TE:AEd P el ei)(hz:ei.zero.length=ei.size)
  (hx:AED φ (x e) x')(hr:NM ei.zero x F e h=.ok v h'):BR U φ E h w v h' ((xU ats t' #[x']).run P w):=by
 obtain⟨d,hd,hkd⟩:=T.desc;rw[hk]at hkd;cases hkd;obtain⟨z,_,hzr,hzc,hzp⟩:=TE.AFG hz;unfold NM at hr;split at hr
 ·rename_i hxe
  rw[hxe]at hx;cases hr;cases hx;have key:(xU ats t' #[.slice none 0 0]).run P w=.ok AEE w:=by
   simp only[xU,h0,vq,hd,If,vt,wO,wR];rfl
  rw[key];exact .same H (.tuple .nil)
 ·rename_i a n c hxe
  rw[hxe]at hx;cases hx with
  |@slice _ a' _ _ c' hlc hs=>
   cases n with
   |zero=>
    cases hr;have key:(xU ats t' #[.slice (some a') 0 c']).run P w=.ok AEE w:=by
     simp only[xU,h0,vq,hd,If,vt,wO,wR];rfl
    rw[key];exact .same H (.tuple .nil)
   |succ n=>
    have AEh:AEX φ (BQ ei.zero (n+1)) (BQ ei.zero (n+1)):=H3 (.plain hzp) (n+1);obtain⟨h1,w1,hk2,hrun,H1,ev⟩:=Ig (P:=P) H hr (LD hlc hs (Nat.succ_pos n)) AEh (hE _);cases hk2;have hc:(AAQ z.cells (n+1)).toList=BQ ei.zero (n+1):=by rw[HD,hzc]
    have key:(xU ats t' #[.slice (some a') (n+1) c']).run P w=.ok AEE w1:=by
     simp only[xU,h0,vq,hd,If,vt,wO,wR,hzr,hc,hrun];rfl
    rw[key];exact⟨_,_,φ,rfl,.tuple .nil,H1,ev⟩
 ·cases hr
theorem YI(H:AEG U φ E h w)(hE:∀ b,¬ E b){x:O}{x':IN}{t el:we}{ti ei:TI}(T:AEd P t ti)(hk:ti.k=.slice el)(TE:AEd P el ei)(he:ei.k=.int .u8)(hx:AED φ (x e) x')(hr:K5 x F e h=.ok v h'):
  BR U φ E h w v h' ((convert t t x').run P w):=by
 obtain⟨d,hd,hkd⟩:=T.und;rw[hk]at hkd;cases hkd;obtain⟨d3,h3,k3⟩:=TE.und;rw[he]at k3;cases k3;unfold K5 at hr;split at hr
 case h_2=>cases hr
 rename_i a n c hxe;rw[hxe]at hx;have hx0:=hx;cases hx with
 |@slice _ a' _ _ c' hlc hs=>
  split at hr
  case h_2=>cases hr
  rename_i ct s en hrow;obtain⟨s1,s2,p,hp,hbl,hor⟩:=hs;obtain⟨cs,tt,fr,hw,R⟩:=H.rowAt hp (hE _) hrow;have AEy:Live h a.block:=by unfold Live;rw[DC hrow];intro hd;cases hd
  obtain⟨bl,AEO,AGP,hk2⟩:=FR hr;cases hk2
  let fr':Nat×Nat:=if fr.1 == fr.2 then(cs.size,cs.size+1)else(min fr.1 cs.size,max fr.2 (cs.size+1))
  let w':wb:=w.freeze ⟨a'.block,cs.size,none⟩ 1
  have hf:∃ g:Obj->Obj,w'.heap=w.heap.modify p.blk g/\g (.cells cs tt fr)=.cells cs tt fr':=by
   obtain⟨lo,hi⟩:=fr;refine⟨_,by show(w.freeze ⟨a'.block,cs.size,none⟩ 1).heap=_;unfold ABb;rw[if_neg AA5,hbl],rfl⟩
  obtain⟨g,hheap,hg⟩:=hf;have e1:w'.heap.size=w.heap.size:=by rw[hheap];simp
  have e2:∀ k,k≠p.blk->w'.heap[k]? =w.heap[k]?:=fun k hk=>by
   rw[hheap,zE,if_neg (ADw hk)]
  have e3:w'.heap[p.blk]? =some (.cells cs tt fr'):=by
   rw[hheap,zE,if_pos rfl,hw,xa,hg]
  have e4:w'.tape=w.tape/\w'.os=w.os/\w'.output=w.output:=by
   show(w.freeze ⟨a'.block,cs.size,none⟩ 1).tape=_/\(w.freeze ⟨a'.block,cs.size,none⟩ 1).os=_/\(w.freeze ⟨a'.block,cs.size,none⟩ 1).output=_;unfold ABb;rw[if_neg AA5];exact⟨rfl,rfl,rfl⟩
  have hB:AFA U φ p (.cells ct s en) w'.heap[p.blk]?:=by
   rw[e3];refine .cells {R with loose:=.inl ?_};have:=R.AJV (H.AFE hp AEO);show fr'.1=fr'.2\/cs.size<=fr'.1;refine .inr ?_;simp only[fr'];split
   ·exact IT _
   ·rename_i hne
    have AGi:fr.1≠fr.2:=by simpa using hne
    rcases this with h|h
    ·exact absurd h AGi
    ·show cs.size<=min fr.1 cs.size
     omega
  have key:(convert t t (.slice (some a') n c')).run P w=.ok (.slice (some a') n c') w':=by
   have hsh:w.shape? a'.block=some (tt,cs.size):=by rw[hbl];simp[ABa,hw]
   simp only[convert,vq,run_underlying hd,run_underlying h3,If,beq_self_eq_true,markStringish,run_shape,hsh,run_freeze,vt];rfl
  rw[key];exact⟨_,w',φ,rfl,hx0,H.put (hE _) AEO hp AEy AGP e1 e2 hB,.put (H.AFE hp AEO) hp AEy AGP (by rw[DC hrow];exact .inr ⟨rfl,rfl⟩) e1 e2 e4.1 e4.2.1 e4.2.2⟩
end
end
noncomputable section
open Go
section
variable {P:xD}{U:TTy}{φ:Phi}{E:Nat->Prop}{h h':Hp}{w:wb}{F:AEB}{e:Env}{v:IN}
theorem Oh(H:AEG U φ E h w){o:Blk}{ob:Obj}(hr:GL h o JB=.ok v h')
  (hB:AFA U (φ.put h.next {blk:=w.heap.size,off:=0,sz:=0,room:=0,es:=1}) {blk:=w.heap.size,off:=0,sz:=0,room:=0,es:=1} o (some ob)):
  BR U φ E h w v h' (.ok (.pointer (some ⟨w.heap.size,0,none⟩)) {w with heap:=w.heap.push ob}):=by
 obtain⟨bl,hbl,hk⟩:=GX hr;cases hk
 let w':wb:={w with heap:=w.heap.push ob}
 have hs:w'.heap.size=w.heap.size+1:=by simp[w']
 have hsame:∀ k,k<w.heap.size->w'.heap[k]? =w.heap[k]?:=fun k hk=>by
  show(w.heap.push _)[k]? =_;rw[Array.getElem?_push_lt hk,Array.getElem?_eq_getElem hk]
 refine⟨_,w',φ.put h.next {blk:=w.heap.size,off:=0,sz:=0,room:=0,es:=1},rfl,QG (Phi.AEx _ _ _) rfl,
  H.new hbl (by omega) (by show w.heap.size<_;omega) (fun j q e _=>by have:=(H.dom j q e).2;show _≠w.heap.size;omega) (fun k hk _=>hsame k hk) ?_,
  .made H hbl (IT _) (by omega) hsame rfl rfl rfl⟩
 have:w'.heap[w.heap.size]? =some ob:=by show(w.heap.push _)[w.heap.size]? =_;simp
 rw[this];exact hB
theorem YV(H:AEG U φ E h w)(hE:∀ b,¬ E b){x:O}{x':IN}{t kt el:we}{ti:TI}(T:AEd P t ti)(hk:ti.k=.map kt el)(hx:AED φ (x e) x')(hr:K6 x F e h=.ok v h'):
  BR U φ E h w v h' ((AAG t x').run P w):=by
 obtain⟨d,hd,hkd⟩:=T.desc;rw[hk]at hkd;cases hkd;unfold K6 at hr;split at hr
 ·rename_i hxe
  rw[hxe]at hx;cases hx;have key:(AAG t (.map none)).run P w=.ok (.pointer (some ⟨w.heap.size,0,none⟩)) {w with heap:=w.heap.push (.mapIter none 0 #[] 0)}:=by
   simp only[AAG,vq,hd,If,vt,run_newObj]
  rw[key];exact Oh H hr (.AF2 rfl)
 ·rename_i r hxe
  rw[hxe]at hx;cases hx with
  |@map _ p hp=>
   split at hr
   case h_2=>cases hr
   rename_i es c hes;obtain⟨es',hw,AEh⟩:=H.AFH hp (hE r) hes;have key:(AAG t (.map (some p.blk))).run P w=.ok (.pointer (some ⟨w.heap.size,0,none⟩)) {w with heap:=w.heap.push (.mapIter (some p.blk) c #[] c)}:=by
    simp only[AAG,vq,hd,If,B0 hw rfl,vt,run_newObj]
   rw[key];exact Oh H hr (.iter rfl (Phi.AFb H.AE4 _ _ hp))
 ·cases hr
theorem L1(n:Nat):∀ l:List Nat,Fv n l=l.contains n
 |[]=>rfl
 |x::l=>by
  unfold Fv;rw[L1 n l,List.contains_cons];cases hb:wB x n with
  |true=>
   have:x=n:=Am.1 hb;subst this;simp
  |false=>
   have:¬ n=x:=fun h=>by rw[h,xu]at hb;cases hb
   simp[this]
theorem Nd(n:Nat):∀ l:List Nat,Jy n l=l++[n]
 |[]=>rfl
 |x::l=>congrArg (x:: ·) (Nd n l)
theorem Rh{since:Nat}{seen:List Nat}:∀ {es:List Ent} {es':List xA} {l:List Ent},AE8 φ es es'->LU since seen es=some l->
  ∃ l',AE8 φ l l'/\es'.filter (fun e=> !seen.contains e.born)=l'/\l'.filter (fun e=>decide (e.born<since))=l'/\l'.filter (fun e=>decide (e.born>=since))=[]
 |_,_,l,.nil,h=>by cases h;exact⟨[],.nil,rfl,rfl,rfl⟩
 |_,_,l,.cons (b:=b) hk hv t,h=>by
  unfold LU at h;split at h
  ·rename_i r hr
   obtain⟨l',h1,h2,h3,h4⟩:=Rh t hr;rw[L1]at h;cases hm:seen.contains b with
   |true=>
    simp only[hm,cond_true]at h;cases h;exact⟨l',h1,by rw[zl];simp only[hm,xJ,wW,if_false];exact h2,h3,h4⟩
   |false=>
    simp only[hm,cond_false]at h;obtain⟨hb,h⟩:Nat.blt b since=true/\_=some l:=by
     cases hb:Nat.blt b since with
     |true=>rw[hb]at h;exact⟨rfl,h⟩
     |false=>rw[hb]at h;cases h
    cases h;have hlt:=BD.1 hb;refine⟨_,.cons hk hv h1,by rw[zl];simp only[hm,yA,if_true];rw[h2],?_,?_⟩
    ·rw[zl];simp[hlt,h3]
    ·rw[zl];simp[Nat.not_le.2 hlt,h4]
  ·cases h
theorem LH{last:Nat}:∀ {es:List Ent} {es':List xA},AE8 φ es es'->es'.all (fun e=>decide (e.born>=last))=FV last es
 |_,_,.nil=>rfl
 |_,_,.cons (b:=b) hk hv t=>by
  unfold FV;rw[zu,LH t];cases hb:vx last b with
  |true=>simp[Ac.1 hb]
  |false=>
   have:¬ last<=b:=fun h=>by rw[Ac.2 h]at hb;cases hb
   simp[this]
theorem IP{b:Nat}{m:Option Nat}{s:Nat}{l:List Nat}{t:Nat}(hr:EN (h.bl.get b)=.ok m s l t):h.bl.get b=.iter m s l t:=by
 unfold EN at hr;split at hr<;>first|(cases hr;assumption)|cases hr
theorem pF{b m s t:Nat}(hr:EN (h.bl.get b)=.cur m s t):h.bl.get b=.cur m s t:=by
 unfold EN at hr;split at hr<;>first|(cases hr;assumption)|cases hr
theorem jU{b m s t:Nat}{sn:Option (List Nat)}(hr:EN (h.bl.get b)=.pick m s t sn):h.bl.get b=.pick m s t sn:=by
 unfold EN at hr;split at hr<;>first|(cases hr;assumption)|cases hr
theorem SY:AED φ (.tuple ⟨[.bool false]⟩) (.tuple #[.bool false]):=.tuple (.cons (.bool _) .nil)
theorem cM(H:AEG U φ E h w)(hE:∀ b,¬ E b){x:O}{x':IN}{t:we}(hx:AED φ (x e) x')(hr:HO x F e h=.ok v h'):BR U φ E h w v h' ((yH x' false t).run P w):=by
 unfold HO at hr;split at hr
 case h_2=>cases hr
 rename_i a ha;obtain⟨hb,hr⟩:=Bp hr;obtain⟨a',rfl,hra⟩:=F0 hx ha;obtain⟨p,hp,rfl⟩:=hra.eq;have hoff:a.off=0:=Am.1 hb;unfold GY at hr;split at hr
 ·rename_i s l tl hit
  cases hr;have hrow:=H.row a.block p hp (hE _);rw[IP hit]at hrow;generalize hw:w.heap[p.blk]? =ob at hrow;cases hrow with
  |AF2 hp0=>
   have key:(yH (.pointer (some ⟨p.blk,p.off+a.off,none⟩)) false t).run P w=.ok (.tuple #[.bool false]) w:=by
    rw[hp0,hoff];simp only[yH,vq,B0 hw rfl,If,vt]
   rw[key];exact .same H SY
 ·rename_i m since seen last hit
  have hrow:=H.row a.block p hp (hE _);rw[IP hit]at hrow;generalize hw:w.heap[p.blk]? =ob at hrow;cases hrow with
  |@iter _ q _ _ _ hp0 hq=>
   split at hr
   case h_2=>cases hr
   rename_i es c hes;obtain⟨es',hwm,AEh⟩:=H.AFH hq (hE m) hes;rw[hp0,hoff];have AHF:∃ k:R,k=.ok v h'/\(!(⟨seen⟩:Array Nat).isEmpty && !(⟨es'⟩:Array xA).isEmpty && (⟨es'⟩:Array xA).all (fun e=>decide (e.born>=last)))=false/\
     k=(match LU since seen es with
      |some []=>ci h
      |some [x]=>EQ h a.block (.iter (some m) since (Jy x.born seen) c) fun h=>.ok (.tuple ⟨[.bool true,x.key,x.val]⟩) h
      |_=>.no):=by
    have hall:(⟨es'⟩:Array xA).all (fun e=>decide (e.born>=last))=FV last es:=by
     rw[<- LH AEh];simp
    cases seen with
    |nil=>exact⟨_,hr,by simp,rfl⟩
    |cons s0 sl=>
     cases AEh with
     |nil=>exact⟨_,hr,by simp,rfl⟩
     |cons hk hv tl=>
      simp only at hr;rw[hall];generalize hy:FV last _=y at hr ⊢;cases y with
      |true=>cases hr
      |false=>exact⟨_,hr,by simp,rfl⟩
   obtain⟨k,hk,hstop,rfl⟩:=AHF;cases hl:LU since seen es with
   |none=>rw[hl]at hk;cases hk
   |some l=>
    rw[hl]at hk;obtain⟨l',q1,q2,q3,q4⟩:=Rh AEh hl;have f1:(⟨es'⟩:Array xA).filter (fun e=> !(⟨seen⟩:Array Nat).contains e.born)=⟨l'⟩:=by
     rw[<- q2];apply xG;simp
    have f2:(⟨l'⟩:Array xA).filter (fun e=>decide (e.born<since))=⟨l'⟩:=by
     apply xG;rw[AAV];exact q3
    have f3:(⟨l'⟩:Array xA).filter (fun e=>decide (e.born>=since))= #[]:=by
     apply xG;rw[AAV];exact q4
    cases q1 with
    |nil=>
     cases hk;have key:(yH (.pointer (some ⟨p.blk,0,none⟩)) false t).run P w=.ok (.tuple #[.bool false]) w:=by
      simp only[yH,vq,B0 hw rfl,If,B0 hwm rfl,hstop,wW,if_false,f1,f2,f3];simp[run_choose,zg]
     have:p.off+a.off=0:=by omega
     rw[show(0:Nat)+0=0 from rfl,key];exact .same H SY
    |cons hkk hvv tl=>
     cases tl with
     |cons _ _ _=>cases hk
     |nil=>
      rename_i k0 k1 v0 v1 b0;have AEy:Live h a.block:=by unfold Live;rw[IP hit];intro hd;cases hd
      simp only at hk;obtain⟨h1,hk2,H1,ev⟩:=FS (ob:=.mapIter (some q.blk) since ⟨seen++[b0]⟩ c) H (hE _) hp AEy hk (by rw[IP hit];exact .inr trivial) (by rw[Nd];exact .iter hp0 hq);cases hk2;have key:(yH (.pointer (some ⟨p.blk,0,none⟩)) false t).run P w=.ok (.tuple #[.bool true,k1,v1]) {w with heap:=w.heap.setIfInBounds p.blk (.mapIter (some q.blk) since ⟨seen++[b0]⟩ c)}:=by
       have AEg:=D6 (P:=P) (ob':=.mapIter (some q.blk) since ⟨seen++[b0]⟩ c) hw rfl;simp only[yH,vq,B0 hw rfl,If,B0 hwm rfl,hstop,wW,if_false,f1,f2,f3];simp[run_choose,zg,AEg]
      rw[key];exact⟨_,_,φ,rfl,.tuple (.cons (.bool _) (.cons hkk (.cons hvv .nil))),H1,ev⟩
 ·cases hr
 ·cases hr
 ·rename_i m s last hit
  have hrow:=H.row a.block p hp (hE _);rw[jU hit]at hrow;cases hrow
theorem Re:∀ l:List Nat,RZ l=l.getLast?
 |[]=>rfl
 |[x]=>rfl
 |x::y::l=>by
  show RZ (y::l)=_;rw[Re (y::l)];rfl
theorem Q5{n:Nat}:∀ {es:List Ent} {es':List xA} {x:Ent},AE8 φ es es'->GR n es=some x->∃ x',es'.find? (fun e=>e.born == n)=some x'/\AED φ x.key x'.key/\AED φ x.val x'.val
 |_,_,x,.nil,h=>by cases h
 |_,_,x,.cons (k':=k') (v':=v') (b:=b) hk hv t,h=>by
  unfold GR at h;rw[List.find?_cons];cases hb:wB b n with
  |true=>
   simp only[hb,cond_true]at h;cases h;have:b=n:=Am.1 hb;subst this;refine⟨⟨k',v',b⟩,?_,hk,hv⟩;simp only[beq_self_eq_true]
  |false=>
   simp only[hb,cond_false]at h;have hne:(b == n)=false:=by
    rw[beq_eq_false_iff_ne];intro he;rw[he,xu]at hb;cases hb
   obtain⟨x',q1,q2⟩:=Q5 t h;exact⟨x',by simp only[hne];exact q1,q2⟩
theorem UD(H:AEG U φ E h w)(hE:∀ b,¬ E b){m s last:Nat}{q:Pl}(hq:φ m=some q)(hr:II m s last h=.ok v h'):
  h'=h/\∃ (es':List xA) (c:Nat) (en':xA) (k0 v0:IN),w.heap[q.blk]? =some (.map ⟨es'⟩ c)/\c=last/\(⟨es'⟩:Array xA).find? (fun e=>e.born == s)=some en'/\v=.tuple ⟨[k0,v0]⟩/\AED φ k0 en'.key/\AED φ v0 en'.val:=by
 unfold II at hr;split at hr
 case h_2=>cases hr
 rename_i es c hes;obtain⟨hc,hr⟩:=Bp hr;split at hr
 case h_2=>cases hr
 rename_i en hen;cases hr;obtain⟨es',hwm,AEh⟩:=H.AFH hq (hE m) hes;obtain⟨en',q1,q2,q3⟩:=Q5 AEh hen;exact⟨rfl,es',c,en',_,_,hwm,Am.1 hc,by rw[<- q1];simp,rfl,q2,q3⟩
theorem YK(H:AEG U φ E h w)(hE:∀ b,¬ E b){x:O}{x':IN}(hx:AED φ (x e) x')(hr:I8 x F e h=.ok v h'):BR U φ E h w v h' ((AAt x').run P w):=by
 unfold I8 at hr;split at hr
 case h_2=>cases hr
 rename_i a ha;obtain⟨hb,hr⟩:=Bp hr;obtain⟨a',rfl,hra⟩:=F0 hx ha;obtain⟨p,hp,rfl⟩:=hra.eq;have hoff:a.off=0:=Am.1 hb;have main:∀ {m s last:Nat} {q:Pl} {sn:Nat} {seen:List Nat},φ m=some q->p.off=0->w.heap[p.blk]? =some (.mapIter (some q.blk) sn ⟨seen⟩ last)->seen.getLast? =some s->II m s last h=.ok v h'->
   BR U φ E h w v h' ((AAt (.pointer (some ⟨p.blk,p.off+a.off,none⟩))).run P w):=by
  intro m s last q sn seen hq hp0 hw hl hr;obtain⟨rfl,es',c,en',k0,v0,hwm,rfl,hfind,rfl,q2,q3⟩:=UD H hE hq hr;have AFs:(⟨seen⟩:Array Nat).back? =some s:=by
   rw[<- hl];simp[Array.back?_eq_getElem?,List.getLast?_eq_getElem?]
  rw[hp0,hoff];have key:(AAt (.pointer (some ⟨p.blk,0,none⟩))).run P w=.ok (.tuple #[en'.key,en'.val]) w:=by
   simp only[AAt,vq,B0 hw rfl,If,AFs,B0 hwm rfl,bne_self_eq_false,wW,if_false,hfind,vt]
  rw[key];exact .same H (.tuple (.cons q2 (.cons q3 .nil)))
 unfold Kg at hr;split at hr
 ·rename_i m since seen last hit
  have hrow:=H.row a.block p hp (hE _);rw[IP hit]at hrow;generalize hw:w.heap[p.blk]? =ob at hrow;cases hrow with
  |@iter _ q _ _ _ hp0 hq=>
   split at hr
   case h_2=>cases hr
   rename_i st hst;exact main hq hp0 hw (by rw[<- Re];exact hst) hr
 ·rename_i m st last hit
  have hrow:=H.row a.block p hp (hE _);rw[pF hit]at hrow;generalize hw:w.heap[p.blk]? =ob at hrow;cases hrow with
  |cur hp0 hq hl=>exact main hq hp0 hw hl hr
 ·cases hr
end
end
noncomputable section
open Go
section
variable {P:xD}{U:TTy}{φ:Phi}{E:Nat->Prop}{h h':Hp}{w:wb}{F:AEB}{e:Env}{v:IN}
theorem ML{t:Nat}{k:KS->OpF}(hr:wKey U t k F e h=.ok v h'):∃ ti kt el K,U.get t=some ti/\ti.k=.map kt el/\AFC P U kt K/\k K F e h=.ok v h':=by
 unfold wKey at hr;obtain⟨ti,hti,hr⟩:=Be hr;cases hk:ti.k with
 |map kt el=>
  simp only[hk]at hr;obtain⟨ki,hki,hr⟩:=Be hr;cases hf:flatK U 8 kt with
  |none=>rw[hf]at hr;cases hr
  |some ks=>
   rw[hf]at hr;exact⟨ti,kt,el,⟨ki.k.agg,ks⟩,hti,hk,⟨⟨ki,hki,rfl⟩,hf⟩,hr⟩
 |_=>simp only[hk]at hr;cases hr
theorem AFC.und(hT:Cs P U){t:Nat}{K:KS}(hK:AFC P U t K):∃ d,P.underlying t=some d:=by
 obtain⟨ti,hti,_⟩:=hK.ti;obtain⟨d,hd,_⟩:=(hT t ti hti).und;exact⟨d,hd⟩
theorem Pw{t:Nat}{ti:TI}(T:AEd P t ti){kt el:Nat}(hk:ti.k=.map kt el):P.underlying t=some (.map kt el):=by
 obtain⟨d,hd,hkd⟩:=T.und;rw[hk]at hkd;cases hkd;exact hd
theorem Eh{ok:Bool}{u:IN}{b:Bool}(hr:DV ok u b h=.ok v h'):h'=h/\v=(if ok then .tuple ⟨[u,.bool b]⟩else u):=by
 unfold DV at hr;cases ok<;>simp only[BH]at hr<;>cases hr<;>exact⟨rfl,rfl⟩
theorem EB{ok:Bool}{u u':IN}{b:Bool}(hu:AED φ u u'):AED φ (if ok then .tuple ⟨[u,.bool b]⟩else u) (if ok then .tuple #[u',.bool b]else u'):=by
 cases ok
 ·exact hu
 ·exact .tuple (.cons hu (.cons (.bool b) .nil))
theorem Uq(hT:Cs P U)(H:AEG U φ E h w){t kt el:Nat}{ti ei:TI}(T:AEd P t ti)(hk:ti.k=.map kt el)(TE:AEd P el ei)(hz:ei.zero.length=ei.size){z:IN}(hzv:zeroV ei=some z){K:KS}(hK:AFC P U kt K)
  {ok:Bool}{x ix:O}{x' ix':IN}(hx:AED φ (x e) x')(hix:AED φ (ix e) ix')(hE:∀ r,x e=.map (some r)->¬ E r)(hr:FL K z ok x ix F e h=.ok v h'):
  BR U φ E h w v h' ((yw t x' ix' ok).run P w):=by
 obtain⟨z0,hz0,hzr,_,hzp⟩:=TE.AFG hz;rw[hzv]at hz0;cases hz0;have AGC:AED φ z z:=by
  unfold zeroV at hzv;split at hzv
  ·cases hzv;exact .agg (.plain hzp)
  ·split at hzv
   ·rename_i u hu
    cases hzv;rw[hu]at hzp;simp only[zu,ADH,ABZ]at hzp;exact .plain hzp
   ·cases hzv
 obtain⟨kd,hkd⟩:=hK.und hT;have hu:=Pw T hk;unfold FL F7 at hr;split at hr
 case h_2=>cases hr
 rename_i hfit;have he:=Ja hfit hix;subst he;split at hr
 ·rename_i hxe
  rw[hxe]at hx;cases hx;obtain⟨rfl,rfl⟩:=Eh hr;have hf:(ABL kt (ix e) []).run P w=.ok none w:=D4 hkd (by simp[wS]);have key:(yw t (.map none) (ix e) ok).run P w=.ok (if ok then .tuple #[z,.bool false]else z) w:=by
   simp only[yw,vq,run_underlying hu,If,vt,hK.check hT hfit,hf,hzr]
  rw[key];exact .same H (EB AGC)
 ·rename_i r hxe
  rw[hxe]at hx;cases hx with
  |@map _ p hp=>
   split at hr
   case h_2=>cases hr
   rename_i es c hes;obtain⟨es',hw,AEh⟩:=H.AFH hp (hE r hxe) hes;have AGL:=B0 (P:=P) hw rfl;split at hr
   ·rename_i en hfe
    obtain⟨rfl,rfl⟩:=Eh hr;obtain⟨j,u',hfa,hu'⟩:=Mo hT hK hfit w 0 AEh hfe;have hf:=D4 hkd hfa;have key:(yw t (.map (some p.blk)) (ix e) ok).run P w=.ok (if ok then .tuple #[u',.bool true]else u') w:=by
     simp only[yw,vq,run_underlying hu,If,vt,AGL,hK.check hT hfit,hf]
    rw[key];exact .same H (EB hu')
   ·rename_i hfe
    obtain⟨rfl,rfl⟩:=Eh hr;have hfa:=Mo hT hK hfit w 0 AEh hfe;have hf:=D4 hkd hfa;have key:(yw t (.map (some p.blk)) (ix e) ok).run P w=.ok (if ok then .tuple #[z,.bool false]else z) w:=by
     simp only[yw,vq,run_underlying hu,If,vt,AGL,hK.check hT hfit,hf,hzr]
    rw[key];exact .same H (EB AGC)
   ·cases hr
 ·cases hr
theorem Ud(H:AEG U φ E h w){t xt:Nat}{ti:TI}(T:AEd P t ti)(hk:ti.k≠.iface)(hz:ti.zero.length=ti.size){z:IN}(hzv:zeroV ti=some z){ok:Bool}{x:O}{x':IN}(hx:AED φ (x e) x')(hr:L3 t ok z x F e h=.ok v h'):
  BR U φ E h w v h' ((yM x' xt t ok).run P w):=by
 obtain⟨z0,hz0,hzr,_,hzp⟩:=T.AFG hz;rw[hzv]at hz0;cases hz0;have AGC:AED φ z z:=by
  unfold zeroV at hzv;split at hzv
  ·cases hzv;exact .agg (.plain hzp)
  ·split at hzv
   ·rename_i u hu
    cases hzv;rw[hu]at hzp;simp only[zu,ADH,ABZ]at hzp;exact .plain hzp
   ·cases hzv
 obtain⟨d,hd,hkd⟩:=T.und;unfold L3 at hr;split at hr
 ·rename_i hxe
  rw[hxe]at hx;cases hx with
  |nilIface=>
   cases ok with
   |false=>cases hr
   |true=>
    obtain⟨rfl,rfl⟩:=Eh hr;have key:(yM .nilIface xt t true).run P w=.ok (if true then .tuple #[z,.bool false]else z) w:=by
     simp only[yM,vq,run_underlying hd,If];cases d<;>first|(simp only[if_true,vq,hzr,If,vt];done)|exact absurd rfl (hkd.AFf hk _)
    rw[key];exact .same H (EB AGC)
 ·rename_i u q hxe
  rw[hxe]at hx;cases hx with
  |@iface _ _ q' hq=>
   split at hr
   ·rename_i hb
    have hb:=Am.1 hb;subst hb;obtain⟨rfl,rfl⟩:=Eh hr;have key:(yM (.iface u q') xt u ok).run P w=.ok (if ok then .tuple #[q',.bool true]else q') w:=by
     simp only[yM,vq,run_underlying hd,If];cases d<;>first|(simp only[if_true,vt];done)|exact absurd rfl (hkd.AFf hk _)
    rw[key];exact .same H (EB hq)
   ·rename_i hb
    have hne:¬ u=t:=fun he=>by rw[Am.2 he]at hb;cases hb
    cases ok with
    |false=>cases hr
    |true=>
     obtain⟨rfl,rfl⟩:=Eh hr;have key:(yM (.iface u q') xt t true).run P w=.ok (if true then .tuple #[z,.bool false]else z) w:=by
      simp only[yM,vq,run_underlying hd,If];cases d<;>first|(simp only[if_neg hne,if_true,vq,hzr,If,vt];done)|exact absurd rfl (hkd.AFf hk _)
     rw[key];exact .same H (EB AGC)
 ·cases hr
theorem NS(hT:Cs P U)(H:AEG U φ E h w)(hE:∀ b,¬ E b){t kt el:Nat}{ti:TI}(T:AEd P t ti)(hk:ti.k=.map kt el){K:KS}(hK:AFC P U kt K)
  {m key x:O}{m' key' x':IN}(hm:AED φ (m e) m')(hkey:AED φ (key e) key')(hx:AED φ (x e) x')(hr:FM K m key x F e h=.ok v h'):
  Y3 U φ E h w v h' ((AAs t m' key' x').run P w):=by
 obtain⟨kd,hkd⟩:=hK.und hT;have hu:=Pw T hk;unfold FM at hr;simp only[BH]at hr;unfold MK at hr;split at hr
 case h_2=>cases hr
 rename_i hfit;obtain⟨he,hkk⟩:=Mq hfit hkey;subst he;split at hr
 case h_2=>cases hr
 rename_i r hme;rw[hme]at hm;cases hm with
 |@map _ p hp=>
  split at hr
  case h_2=>cases hr
  rename_i es c hes;obtain⟨es',hw,AEh⟩:=H.AFH hp (hE r) hes;have AGL:=B0 (P:=P) hw rfl;split at hr
  ·rename_i es2 hse
   obtain⟨j,u',en,hfa,hen,hek,AGj⟩:=MF hT hK hfit hx hkk w 0 AEh hse;have hf:=D4 hkd hfa;obtain⟨h1,hk1,H1,ev⟩:=FS (ob:=.map ⟨es'.modify (0+j) fun en=>{en with key:=key e,val:=x'}⟩ c) H (hE _) hp (GW hes) hr (by rw[F5 hes];exact .inr trivial) (.map (by rw[vk];exact AGj));cases hk1;refine⟨rfl,_,?_,H1,ev⟩;have AHz:(AB9 (((⟨es'⟩:Array xA)[0+j]?.map (·.key)).getD (key e)) (key e)).run P w=.ok (key e) w:=by
    have:(⟨es'⟩:Array xA)[0+j]? =some en:=by rw[vk];simpa using hen
    rw[this];simp only[xa,Option.getD_some,hek];unfold AB9;rw[Xt hfit 9999];simp
   have AEg:=D6 (P:=P) (ob':=.map ⟨es'.modify (0+j) fun en=>{en with key:=key e,val:=x'}⟩ c) hw rfl;simp only[AAs,vq,run_underlying hu,If,AGL,hK.check hT hfit,hf,AHz];rw[<- AEg];congr 3;apply xG;simp
  ·rename_i hse
   have hfa:=MF hT hK hfit hx hkk w 0 AEh hse;have hf:=D4 hkd hfa;obtain⟨h1,hk1,H1,ev⟩:=FS (ob:=.map ⟨es'++[{key:=key e,val:=x',born:=c}]⟩ (c+1)) H (hE _) hp (GW hes) hr (by rw[F5 hes];exact .inr trivial) (.map (by rw[VK];exact AE8.append (.cons hkk hx .nil) AEh));cases hk1;refine⟨rfl,_,?_,H1,ev⟩;have AEg:=D6 (P:=P) (ob':=.map ⟨es'++[{key:=key e,val:=x',born:=c}]⟩ (c+1)) hw rfl;simp only[AAs,vq,run_underlying hu,If,AGL,hK.check hT hfit,hf];rw[<- AEg];congr 2;simp
  ·cases hr
theorem Uk(hT:Cs P U)(H:AEG U φ E h w)(hE:∀ b,¬ E b){ats:Array we}{t' t kt el:Nat}{ti:TI}(h0:ats[0]? =some t)(T:AEd P t ti)(hk:ti.k=.map kt el){K:KS}(hK:AFC P U kt K)
  {m key:O}{m' key':IN}(hm:AED φ (m e) m')(hkey:AED φ (key e) key')(hr:L4 K m key F e h=.ok v h'):
  BR U φ E h w v h' ((zI ats t' #[m',key']).run P w):=by
 obtain⟨kd,hkd⟩:=hK.und hT;have hu:=Pw T hk;unfold L4 Vm at hr;split at hr
 case h_2=>cases hr
 rename_i hfit;obtain⟨he,hkk⟩:=Mq hfit hkey;subst he;split at hr
 case h_2=>cases hr
 rename_i r hme;rw[hme]at hm;cases hm with
 |@map _ p hp=>
  split at hr
  case h_2=>cases hr
  rename_i es c hes;obtain⟨es',hw,AEh⟩:=H.AFH hp (hE r) hes;have AGL:=B0 (P:=P) hw rfl;split at hr
  case h_2=>cases hr
  rename_i es2 hde;rcases Vk hT hK hfit w 0 AEh hde with ⟨hfa,rfl⟩|⟨j,u',hfa,AGj⟩
  ·have hf:=D4 hkd hfa
   obtain⟨h1,hk1,H1,ev⟩:=FS (ob:=.map ⟨es'⟩ c) H (hE _) hp (GW hes) hr (by rw[F5 hes];exact .inr trivial) (.map AEh);cases hk1;have key:(zI ats t' #[.map (some p.blk),key e]).run P w=.ok AEE {w with heap:=w.heap.setIfInBounds p.blk (.map ⟨es'⟩ c)}:=by
    simp only[zI,h0,wO,wR,wy,vq,run_underlying hu,If,vt,AGL,hK.check hT hfit,hf,D6 hw rfl];rfl
   rw[key];exact⟨_,_,φ,rfl,.tuple .nil,H1,ev⟩
  ·have hf:=D4 hkd hfa
   obtain⟨h1,hk1,H1,ev⟩:=FS (ob:=.map ⟨es'.eraseIdx j⟩ c) H (hE _) hp (GW hes) hr (by rw[F5 hes];exact .inr trivial) (.map AGj);cases hk1;have AHG:(⟨es'⟩:Array xA).eraseIdxIfInBounds (0+j)=⟨es'.eraseIdx j⟩:=by
    apply xG;rw[vk];unfold Array.eraseIdxIfInBounds;split
    ·simp
    ·rename_i hj
     simp only;rw[List.eraseIdx_of_length_le (by simpa using hj)]
   have key:(zI ats t' #[.map (some p.blk),key e]).run P w=.ok AEE {w with heap:=w.heap.setIfInBounds p.blk (.map ⟨es'.eraseIdx j⟩ c)}:=by
    simp only[zI,h0,wO,wR,wy,vq,run_underlying hu,If,vt,AGL,hK.check hT hfit,hf,AHG,D6 hw rfl];rfl
   rw[key];exact⟨_,_,φ,rfl,.tuple .nil,H1,ev⟩
end
end
end Go.Proofs.YtedbmmfebjfibaaGreat

/-
  Part ZD of what Lawnl stands on: printed by program, names and spaces cut.
-/
import Derived.Test.YtbjadbhkogcfeaaGreatZC
import Derived.Laws.BytesString
import Derived.DeepKeys3
open Go renaming Value→IN,IntKind→xc,Operand→yF,World→yJ,TypeId→yL,MapEntry→yc,Program→yg,newRow→ABU,TypeDesc→AB0,BinOp→ADG
open Nat renaming le_refl→IT,zero_add→OF,succ→xM,ble→xU,beq→xW,lt_or_ge→xx,mul→yK,add→zA,beq_refl→zG,div→zX,mul_one→AAN,mod→AAV,succ_mul→AAd,one_ne_zero→ABn,le_add_right→ADB,mul_le_mul→ADR
open Go.Result renaming andThen_ok→If
open List renaming length_append→No,getD_eq_getElem?_getD→xN,getElem?_append_left→xa,mem_cons→xe,getElem?_toArray→xu,getElem?_cons_zero→yA,getElem?_cons_succ→yW,range→ym,filter_cons→AAp,map_cons→AAs,length_eq_zero_iff→AAv,all_cons→AAx,drop_drop→ABv,map_map→ACt,map_flatten→AC2,cons→ADC,all_nil→ADW
open Go.Sem renaming run_bind→xO,run_pure→xQ,run_ite→AA0
open Go.Op renaming operands→xh,equalIn→AAR,equal→AA4
open Bool renaming and_eq_true→xk,false_eq_true→yG,not_true→yT,not_false→yZ,and_true→ACB
open Go.Instr renaming findAsking→yD,next→zR,typeAssert→zV,lookup→zw,sameBits→AA3,range→AA7,mapUpdate→ABf,entry→ABg,sameNow→AB1,findNow→AB2,findKey→AB3,keyThatStays→ACj
open Go.Value renaming int→yX,iface→ACT,formed→ADP
open Go.Builtin renaming firstCells→yY,len_→yp,clear_→yu,append_→zj,nextslicecap→AAA,delete_→AAK,zeroCells→ABH,cap_→AB6
open Array renaming ext'→yj,all_eq_true_iff_forall_mem→zL,mem_toList_iff→zP,getElem?_setIfInBounds→zb,getElem?_modify→AAG,toList_filter→ABN,getElem?_push→ACc,replicate→AC7
open Option renaming map_some→yx
open Go.IntKind renaming i64→zU,signed→ACv,bits→ADD,min→ADK,max→ADL
open Go.Program renaming keyTypeAt→zp,keyLits→AAI,eqGuardType→AAy
open UInt8 renaming ofNat→AAH
open Go.Question renaming forced→AAl
open Go.World renaming shape?→ACC,freeze→ACD
open Go.Deferred renaming ofValue→ACZ
open ByteArray renaming empty→ACa
open Go.Oper renaming wp→ADf
open Ne renaming symm→ADz
set_option linter.unusedSimpArgs false
set_option linter.unusedVariables false
namespace Go.Proofs.YtbjadbhkogcfeaaGreat
noncomputable section
open Go
section
variable {P:yg}{ty:TTy}{φ:Phi}{E:Nat->Prop}{h h':Hp}{w:yJ}{F:AEB}{e:Env}{v:IN}
theorem Zr{AEO en:Nat}{base:Option Addr}{sc need:Nat}{cs:List IN}(hr:JS AEO en base sc need cs h=.ok v h'):
  ∃ (t:VT) (m:Nat),(∀ j,j<cs.length->t.get j=cs.getD j undef)/\m=cs.length/\E4 AEO en base sc need t m h=.ok v h':=by
 unfold JS at hr;split at hr
 case h_2=>cases hr
 rename_i c AEp;exact⟨c,_,M8 AEp,Bf _,hr⟩
open Classical in
theorem QR{AEO en:Nat}{base:Option Addr}{sl sc need:Nat}{news:List IN}
  (hr:G9 AEO en base sl sc need news h (BO h AEO (.slice base sl sc) sl fun olds=>JS AEO en base sc need (olds++news) h)=.ok v h'):
  ∃ AKo:List IN->R,BO h AEO (.slice base sl sc) sl AKo=.ok v h'/\∀ olds,AKo olds=.ok v h'->∃ (t:VT) (m:Nat),(∀ j,j<(olds++news).length->t.get j=(olds++news).getD j undef)/\
   m=(olds++news).length/\E4 AEO en base sc need t m h=.ok v h':=by
 have AGK:BO h AEO (.slice base sl sc) sl (fun olds=>JS AEO en base sc need (olds++news) h)=.ok v h'->
   ∃ AKo:List IN->R,BO h AEO (.slice base sl sc) sl AKo=.ok v h'/\∀ olds,AKo olds=.ok v h'->∃ (t:VT) (m:Nat),(∀ j,j<(olds++news).length->t.get j=(olds++news).getD j undef)/\
    m=(olds++news).length/\E4 AEO en base sc need t m h=.ok v h':=fun hr=>⟨_,hr,fun olds h=>Zr h⟩
 unfold G9 at hr;split at hr
 ·exact AGK hr
 ·rename_i _ a
  split at hr
  ·rename_i hoff
   split at hr
   ·rename_i c sz ec hrow
    split at hr
    ·rename_i hb
     have hsz:sz=sl * AEO:=Ax.1 hb;split at hr
     case h_2=>cases hr
     rename_i t AEp;refine⟨fun olds=>if olds=AFU c 0 sz then E4 AEO en (some a) sc need t (zA sz (BB news)) h else .no,?_,fun olds ho=>?_⟩
     ·unfold BO
      simp only[hrow,hoff];have hle:xU (zA 0 (yK sl AEO)) sz=true:=Au.2 (by show 0+sl*AEO<=sz;omega);rw[hle,F2,List.append_nil];have:yK sl AEO=sz:=hsz.symm;rw[this];simp only[cond_true,if_true];exact hr
     ·by_cases he:olds=AFU c 0 sz
      ·simp only[he,if_true]at ho
       subst he;refine⟨t,_,fun j hj=>?_,?_,ho⟩
       ·have hl:(AFU c 0 sz).length=sz:=GB c 0 sz
        rw[Gv _ _ _ _ AEp j,xN (l:=AFU c 0 sz++news)];rw[No,hl]at hj;rcases xx j sz with hjs|hjs
        ·rw[if_neg (by omega),xa (by omega)]
         simp[AFU,hjs]
        ·rw[if_pos (by omega),List.getElem?_append_right (by omega),hl,<- xN]
       ·rw[No,GB,Bf];rfl
      ·simp only[he,if_false]at ho;cases ho
    ·exact AGK hr
   ·exact AGK hr
  ·exact AGK hr
def CQ(elem:yL)(size:Nat)(base:Option Addr)(s:IN)(sLen sCap n:Nat)(AFj:Bool)(x:IN)(AEu:Sem (Array IN)):Sem IN:=do
 let need:=sLen+n
 if need<=sCap then
  let new <- AEu
  if let some a:=base then storeCells (a.add (sLen*size)) new.toList
  pure (.slice base need sCap)
 else
  if(need:Int) > zU.max/\(AFj\/(<- typeInfo elem).bytes=0)then runtimePanic (.error "growslice: len out of range")
  if AAA need sCap*(<- typeInfo elem).bytes > 2 ^ 48 then(if AFj then runtimePanic (.error "growslice: len out of range")else do
   if !(<- Builtin.mayShare size sLen n base x)then mark .noRoom
   unsupported (.resourceLimit "append: a slice or a string whose bytes no memory bears"))
  let AF6 <- choose (.appendCap need sCap elem)
  askRoom (AF6*(<- typeInfo elem).bytes)
  let old <- yY size sLen s
  let new <- AEu
  let rest:=ABH (<- zeroValue elem).cells (AF6 - need)
  pure (.slice (some (<- ABU elem (old++new++rest))) need AF6)
theorem IQ(H:AEI ty φ E h w)(hE:∀ b,¬ E b){en:Nat}{ei:TI}(hty:ty.get en=some ei)(TE:AEd P en ei)(hes:0<ei.size)(hz:ei.zero.length=ei.size)
  {base base':Option Addr}{sl sc sc' n:Nat}(hs:AED φ (.slice base sl sc) (.slice base' sl sc')){AFj:Bool}{x':IN}{AEu:Sem (Array IN)}{news news':List IN}
  (hn:AEX φ news news')(hnl:news.length=n*ei.size)(AHU:∀ w':yJ,w'.heap=w.heap->AEu.run P w'=.ok ⟨news'⟩ w')
  (hr:(∃ k,sl+n<=sc/\k=(match base with
    |none=>(.ok (.slice none (sl+n) sc) h:R)
    |some a=>Cw (FB a (sl*ei.size)) news h fun h=>.ok (.slice (some a) (sl+n) sc) h)/\k=.ok v h')\/
   (sc<sl+n/\xU (yK (xM (sl+n)) (xM ei.bytes)) JX=true/\Bb news=true/\
    ∃ AKo:List IN->R,BO h ei.size (.slice base sl sc) sl AKo=.ok v h'/\∀ olds,AKo olds=.ok v h'->∃ (t:VT) (m:Nat),(∀ j,j<(olds++news).length->t.get j=(olds++news).getD j undef)/\
     m=(olds++news).length/\E4 ei.size en base sc (sl+n) t m h=.ok v h')):
  Bd ty φ E h w v h' ((CQ en ei.size base' (.slice base' sl sc') sl sc' n AFj x' AEu).run P w):=by
 obtain⟨inf,AGF,hsz,hbt,_⟩:=TE.info;obtain⟨z,_,hzr,hzc,hzp⟩:=TE.AFF hz;have hzs:z.cells.size=ei.size:=by rw[<- hz,<- hzc];simp
 rcases hr with ⟨k,hle,rfl,hr⟩|⟨hlt,AHp,hone,AKo,hr,hG⟩
 ·cases hs with
  |AE2=>
   cases hr;have:n=0:=by omega
   subst this;have key:(CQ en ei.size none (.slice none 0 0) 0 0 0 AFj x' AEu).run P w=.ok (.slice none 0 0) w:=by
    simp only[CQ,IT,if_true,xO,AHU w rfl,If,xQ]
   rw[key];exact .same H .AE2
  |@slice a a' _ _ _ hlc hs=>
   simp only at hr;have h0:sc=0->news=[]:=fun h0=>AAv.1 (by
    have:n=0:=by omega
    rw[hnl,this,Nat.zero_mul])
   obtain⟨h1,w1,hk,hrun,H1,ev⟩:=YQ (P:=P) H hE hs h0 hr hn;cases hk;have hcc:sl+n<=sc':=Nat.le_trans hle hs.le;have key:(CQ en ei.size (some a') (.slice (some a') sl sc') sl sc' n AFj x' AEu).run P w=.ok (.slice (some a') (sl+n) sc') w1:=by
    simp only[CQ,hcc,if_true,xO,AHU w rfl,If,hrun,xQ]
   rw[key];exact⟨_,_,φ,rfl,.slice hle hs,H1,ev⟩
 ·have hs0:=hs
  obtain⟨olds,AFn,hr,ho,hrun,hl1,hl2,hcell⟩:=GC (P:=P) H (fun _ _ _ _=>hE _) hs hr (fun m hm=>by cases hm;exact IT _);obtain⟨tr,tn,hT,hN,hr⟩:=hG olds hr;have AHq:=IY hn hone;obtain⟨hm1,hm2⟩:=Vj AHp;have hol:olds.length=sl*ei.size:=by
   rw[<- ho.length];cases base' with
   |none=>cases hs;have:=hrun w rfl;simp only[yY,xQ]at this;cases this;simp
   |some a'=>exact hl1 a' sl sc' rfl
  have AJP:(olds++news).length=(sl+n)*ei.size:=by rw[No,hol,hnl,Nat.add_mul]
  obtain⟨AJQ,AHr⟩:=Zt (P:=P) H hE hty hes hs hlt ho hn hol AJP AHq (fun a a' ha ha' hpos=>hcell a sl sc (by rw[ha]) hpos) hT hN hr;rcases xx sc' (sl+n)with hroom|hroom
  ·
   let q:Question:=.appendCap (sl+n) sc' en
   let c:Nat:=q.cut (w.tape w.drawn q)
   let w1:yJ:={w with drawn:=w.drawn+1}
   have hc:sl+n<=c:=ADB _ _;have hrl:(Ba z.cells.toList (c - (sl+n))).length=(c - (sl+n))*ei.size:=by rw[GA];simp[hzs]
   obtain⟨ψ,hv,H2,ev⟩:=AJQ c (Ba z.cells.toList (c - (sl+n))) hc hrl {w1 with heap:=w.heap.push (.cells ⟨(AFn++news')++Ba z.cells.toList (c - (sl+n))⟩ en)} hroom rfl rfl rfl rfl;have AGN:¬ ((sl+n:Nat):Int) > zU.max:=by
    have:zU.max=9223372036854775807:=by decide
    rw[this];omega
   have hnx:¬ (AAA (sl+n) sc'*ei.bytes > 2 ^ 48):=by
    have h1:=iX hroom;have h2:AAA (sl+n) sc'*ei.bytes<=(2*(sl+n))*ei.bytes:=Nat.mul_le_mul_right _ h1;have h3:(2*(sl+n))*ei.bytes<=(2*(sl+n+1))*(ei.bytes+1):=ADR (by omega) (by omega);have h4:(2*(sl+n+1))*(ei.bytes+1)=2*((sl+n+1)*(ei.bytes+1)):=by rw[Nat.mul_assoc]
    omega
   have AJR:¬ (sl+n<=sc'):=by omega
   have key:(CQ en ei.size base' (.slice base' sl sc') sl sc' n AFj x' AEu).run P w=.ok (.slice (some ⟨w.heap.size,0,none⟩) (sl+n) c)
     {w1 with heap:=w.heap.push (.cells ⟨(AFn++news')++Ba z.cells.toList (c - (sl+n))⟩ en)}:=by
    have ho1:=hrun w1 rfl;have hn1:=AHU w1 rfl;have AFo:q.forced=false:=rfl;simp only[CQ,AJR,if_false,xO,run_typeInfo _ AGF,If,AGN,false_and,xQ,hbt,hnx,AA0,run_choose,AFo,yG,run_askRoom];show((yY ei.size sl (.slice base' sl sc')).run P w1).andThen _=_;rw[ho1];simp only[If];show(AEu.run P w1).andThen _=_;rw[hn1];have AHs:∀ a b:List IN,(⟨a⟩:Array IN)++(⟨b⟩:Array IN)=⟨a++b⟩:=fun a b=>by apply yj;simp
    simp only[If,hzr,G3,ABU,xO,run_newObj,xQ,AHs];rfl
   rw[key];exact⟨_,_,ψ,rfl,hv,H2,ev⟩
  ·
   cases base' with
   |none=>cases hs;omega
   |some a'=>
    obtain⟨w',ψ,hst,hv,H2,ev⟩:=AHr a' rfl hroom;have key:(CQ en ei.size (some a') (.slice (some a') sl sc') sl sc' n AFj x' AEu).run P w=.ok (.slice (some a') (sl+n) sc') w':=by
     simp only[CQ,hroom,if_true,xO,AHU w rfl,If,hst,xQ]
    rw[key];exact⟨_,_,ψ,rfl,hv,H2,ev⟩
theorem J2{ats:Array yL}{dt st t el:yL}(h0:ats[0]? =some dt)(h1:ats[1]? =some st){ti xi:TI}(T:AEd P dt ti)(hk:ti.k=.slice el)(TX:AEd P st xi)(hx:(∃ q,xi.k=.slice q)\/xi.k=.string){ei:TI}(TE:AEd P el ei){base:Option Addr}{sl sc n:Nat}{x:IN}
  (hn:(Builtin.lenOf x).run P w=.ok n w):
  (zj ats t #[.slice base sl sc,x]).run P w=(CQ el ei.size base (.slice base sl sc) sl sc n false x (yY ei.size n x)).run P w:=by
 obtain⟨d,hd,hkd⟩:=T.desc;rw[hk]at hkd;cases hkd;obtain⟨dx,hdx,hkx⟩:=TX.desc;rcases hx with ⟨q,hx⟩|hx<;>rw[hx]at hkx<;>cases hkx<;>
 ·unfold zj CQ
  simp only[xO,hd,If,TE.size,xQ,h0,h1,xu,yA,yW,hdx,yG,if_false,hn,yZ,if_true];rfl
theorem Mm(H:AEI ty φ E h w)(hE:∀ b,¬ E b){s x:O}{s' x':IN}{ats:Array yL}{dt st t el:yL}(h0:ats[0]? =some dt)(h1:ats[1]? =some st){ti xi ei:TI}(T:AEd P dt ti)(hk:ti.k=.slice el)(TX:AEd P st xi)(hxk:(∃ q,xi.k=.slice q)\/xi.k=.string)
  (hty:ty.get el=some ei)(TE:AEd P el ei)(hes:0<ei.size)(hz:ei.zero.length=ei.size)
  (hs:AED φ (s e) s')(hx:AED φ (x e) x')(hr:Bo ei.size ei.bytes el s x F e h=.ok v h'):Bd ty φ E h w v h' ((zj ats t #[s',x']).run P w):=by
 unfold Bo Dl at hr;split at hr
 case h_2=>cases hr
 rename_i base sl sc hse;rw[hse]at hs;split at hr
 case h_2=>cases hr
 rename_i n hn;obtain⟨news,news',hr,hnr,hrun,hl1,hl2,_⟩:=GC (P:=P) H (fun _ _ _ _=>hE _) hx hr (fun m hm=>by rw[hn]at hm;cases hm;exact IT _);rw[Ao]at hr;have hlen:=Qj (P:=P) (w:=w) hx hn;have hb:∃ base' sc',s'=.slice base' sl sc':=by
  cases hs
  ·exact⟨_,_,rfl⟩
  ·exact⟨_,_,rfl⟩
 obtain⟨base',sc',rfl⟩:=hb;rw[J2 h0 h1 T hk TX hxk TE hlen];have hnl:news.length=n*ei.size:=by
  rw[<- hnr.length];cases x' with
  |string s=>obtain⟨q1,q2⟩:=hl2 s rfl;rw[q1,q2,AAN]
  |slice a l c=>
   cases a with
   |some a=>exact hl1 a l c rfl
   |none=>
    have:=hrun w rfl;simp only[yY,xQ]at this;cases this;have hn0:n=0:=by
     generalize x e=xv at hx hn;cases hx
     ·unfold lenV at hn;cases hn;rfl
     ·unfold lenV at hn;cases hn
    rw[hn0];simp
  |_=>have:=hrun w rfl;simp only[yY]at this;cases this
 refine IQ (P:=P) H hE hty TE hes hz hs hnr hnl hrun ?_;split at hr
 ·rename_i hb
  refine .inl ⟨_,Au.1 hb,rfl,?_⟩;exact hr
 ·rename_i hb
  obtain⟨hm,hr⟩:=Br hr;obtain⟨hone,hr⟩:=Br hr;refine .inr ⟨?_,hm,hone,QR hr⟩;rcases xx sc (sl+n)with h|h
  ·exact h
  ·exact absurd (Au.2 (show zA sl n<=sc from h)) (by rw[hb];simp)
theorem LG{ats:Array yL}{dt st t el:yL}(h0:ats[0]? =some dt)(h1:ats[1]? =some st){ti xi:TI}(T:AEd P dt ti)(hk:ti.k=.slice el)(TX:AEd P st xi){q:xc}(hx:xi.k=.int q){ei:TI}(TE:AEd P el ei){base:Option Addr}{sl sc n:Nat}{q':xc}
  (hn1:n<=70368744177664)(hn2:n*ei.bytes<=70368744177664):
  (zj ats t #[.slice base sl sc,.int q' (n:Nat)]).run P w=(CQ el ei.size base (.slice base sl sc) sl sc n true (.int q' (n:Nat))
   (if n*ei.size=0 then pure #[]else do pure (ABH (<- zeroValue el).cells n))).run P w:=by
 obtain⟨d,hd,hkd⟩:=T.desc;rw[hk]at hkd;cases hkd;obtain⟨dx,hdx,hkx⟩:=TX.desc;rw[hx]at hkx;cases hkx;obtain⟨inf,AGF,hsz,hbt,_⟩:=TE.info;have w1:zU.wrap (n:Int)=n:=Ht (by omega);have q0:¬ ((n:Int)<0):=by omega
 have q1:¬ ((n:Int)*(ei.bytes:Int) > 2 ^ 48):=by rw[<- Int.natCast_mul];omega
 unfold zj CQ;simp only[xO,hd,If,TE.size,xQ,xu,yA,yW,h0,h1,hdx,if_true,asInt,asIntOf,w1,q0,if_false,run_typeInfo _ AGF,hbt,q1,Int.toNat_natCast,yT,yG];rfl
theorem Qx(H:AEI ty φ E h w)(hE:∀ b,¬ E b){s x:O}{s' x':IN}{ats:Array yL}{dt st t el:yL}(h0:ats[0]? =some dt)(h1:ats[1]? =some st){ti xi ei:TI}(T:AEd P dt ti)(hk:ti.k=.slice el)(TX:AEd P st xi){q:xc}(hxk:xi.k=.int q)
  (hty:ty.get el=some ei)(TE:AEd P el ei)(hes:0<ei.size)(hz:ei.zero.length=ei.size)
  (hs:AED φ (s e) s')(hx:AED φ (x e) x')(hr:Fd ei.size ei.bytes el ei.zero s x F e h=.ok v h'):Bd ty φ E h w v h' ((zj ats t #[s',x']).run P w):=by
 unfold Fd Hv at hr;split at hr
 case h_2=>cases hr
 rename_i base sl sc hse;rw[hse]at hs;split at hr
 case h_2=>cases hr
 rename_i n hn;obtain⟨q',rfl⟩:=ES hx hn;rw[Ao]at hr;have hb:∃ base' sc',s'=.slice base' sl sc':=by
  cases hs
  ·exact⟨_,_,rfl⟩
  ·exact⟨_,_,rfl⟩
 obtain⟨base',sc',rfl⟩:=hb;obtain⟨hm,hr⟩:=Br hr;obtain⟨hone,hr⟩:=Br hr;obtain⟨hm1,hm2⟩:=Vj hm;have AKb:sl+n<=70368744177664:=hm1;have AKc:(sl+n+1)*(ei.bytes+1)<=70368744177664:=hm2;have hnb:n*ei.bytes<=(sl+n+1)*(ei.bytes+1):=ADR (by omega) (by omega);rw[LG h0 h1 T hk TX hxk TE (by omega) (by omega)];obtain⟨z,_,hzr,hzc,hzp⟩:=TE.AFF hz;have hzs:z.cells.size=ei.size:=by rw[<- hz,<- hzc];simp
 have AEj:AEX φ (Ba ei.zero n) (Ba ei.zero n):=Hn (.plain hzp) n;have hnl:(Ba ei.zero n).length=n*ei.size:=by rw[GA,hz]
 have AHt:Bb (Ba ei.zero n)=true:=by
  have app:∀ a b:List IN,Bb a=true->Bb b=true->Bb (a++b)=true:=by
   intro a
   induction a with
   |nil=>intro b _ h;exact h
   |cons u a ih=>
    intro b h1 h2;unfold Bb at h1;cases hu:oneCell u with
    |false=>rw[hu]at h1;cases h1
    |true=>
     rw[hu]at h1;show(bif oneCell u then Bb (a++b)else false)=true;rw[hu];exact ih b h1 h2
  have:∀ n,Bb (Ba ei.zero n)=true:=by
   intro n
   induction n with
   |zero=>rfl
   |succ n ih=>exact app _ _ hone ih
  exact this n
 refine IQ (P:=P) H hE hty TE hes hz hs AEj hnl (fun w' _=>?_) ?_
 ·by_cases h0:n*ei.size=0
  ·rw[if_pos h0]
   have:Ba ei.zero n=[]:=AAv.1 (by rw[hnl,h0]);rw[this];rfl
  ·rw[if_neg h0]
   simp only[xO,hzr,If,G3,hzc,xQ]
 ·split at hr
  ·rename_i hb
   exact .inl ⟨_,Au.1 hb,rfl,hr⟩
  ·rename_i hb
   refine .inr ⟨?_,hm,AHt,QR hr⟩;rcases xx sc (sl+n)with h|h
   ·exact h
   ·exact absurd (Au.2 (show zA sl n<=sc from h)) (by rw[hb];simp)
end
end
noncomputable section
open Go
section
variable {P:yg}{ty:TTy}{φ:Phi}{E:Nat->Prop}{h h':Hp}{w:yJ}{F:AEB}{e:Env}{v:IN}
theorem Lx:∀ {cs cs':List IN} {bs:List UInt8},AEX φ cs cs'->Eu cs=some bs->
  ∃ ns:List Int,cs'=ns.map (yX .u8)/\∀ s:ByteArray,(ns.foldl (fun r n=>r.push (AAH n.toNat)) s).data.toList=s.data.toList++bs
 |_,_,bs,.nil,hb=>by
  cases hb;exact⟨[],rfl,fun s=>by simp⟩
 |_,_,bs,.cons (v:=u) (v':=u') (l:=l) (l':=l') hu t,hb=>by
  unfold Eu at hb;split at hb
  ·cases ‹_::_=[]›
  ·rename_i n l2 heq
   injection heq with h1 h2
   subst h1;subst h2;split at hb
   ·rename_i bs' hbs
    rw[Ao]at hb;cases hb;obtain⟨ns,hns,hf⟩:=Lx t hbs;have:=hu.AEk;subst this;refine⟨(n:Int)::ns,by rw[hns];rfl,fun s=>?_⟩;rw[List.foldl_cons,hf];simp
   ·cases hb
  ·cases hb
theorem YD(H:AEI ty φ E h w){x:O}(hE:∀ a l c,x e=.slice (some a) l c->¬ E a.block){x':IN}{src dst el:yL}{si di ei:TI}(TS:AEd P src si)(hs:si.k=.slice el)(TD:AEd P dst di)(hd:di.k=.string)(TE:AEd P el ei)(he:ei.k=.int .u8)
  (hx:AED φ (x e) x')(hr:Fe x F e h=.ok v h'):Bd ty φ E h w v h' ((convert src dst x').run P w):=by
 obtain⟨d1,h1,k1⟩:=TS.und;obtain⟨d2,h2,k2⟩:=TD.und;obtain⟨d3,h3,k3⟩:=TE.und;rw[hs]at k1;cases k1;rw[hd]at k2;cases k2;rw[he]at k3;cases k3;unfold Fe at hr;split at hr
 case h_2=>cases hr
 rename_i a n c hxe;rw[hxe]at hx;have hx0:=hx;obtain⟨cs,cs',hr,hcs,hrun,hl1,hl2,_⟩:=GC (P:=P) H (fun a l c heq=>by cases heq;exact hE _ _ _ hxe) hx hr (fun m hm=>by cases hm;exact IT _);split at hr
 case h_2=>cases hr
 rename_i bs hbs;cases hr;obtain⟨ns,hns,hf⟩:=Lx hcs hbs;have AHA:=hf ACa;have AIf:=HM (a:=ns.foldl (fun r n=>r.push (AAH n.toNat)) ACa) (l:=bs) (by rw[AHA];rfl);cases hx with
 |AE2=>
  rw[run_convert_bytes_string w src dst el none 0 0 h1 h3 h2];have:=hrun w rfl;simp only[yY,xQ]at this;have AGw:cs'=[]:=by cases this;rfl
  have AJS:ns=[]:=by
   rw[AGw]at hns;cases ns with
   |nil=>rfl
   |cons _ _=>cases hns
  subst AJS;rw[<- AIf];exact .same H (.string _)
 |@slice _ a' _ _ c' hlc hsl=>
  rw[run_convert_bytes_string w src dst el (some a') n c' h1 h3 h2];have hld:(loadCells a' n).run P w=.ok (ns.map (yX .u8)).toArray w:=by
   have:=hrun w rfl;rw[hns]at this;simp only[yY,AAN]at this;exact this
  rw[run_bytesToString w a' n c' ns hld,AIf];exact .same H (.string _)
theorem Qs(A:Array Obj)(x:Obj)(f:Obj->Obj):(A.push x).modify A.size f=A.push (f x):=by
 apply Array.ext_getElem?;intro i;rw[AAG,ACc,ACc];by_cases hi:i=A.size
 ·subst hi;simp
 ·rw[if_neg (ADz hi),if_neg hi,if_neg hi]
theorem aG(w:yJ)(A:Array IN)(el:yL):(markStringish ⟨w.heap.size,0,none⟩).run P {w with heap:=w.heap.push (.cells A el)}=
  .ok () {w with heap:=w.heap.push (.cells A el (A.size,A.size+1))}:=by
 have hs:ACC {w with heap:=w.heap.push (.cells A el)} w.heap.size=some (el,A.size):=by simp[ACC]
 simp only[markStringish,xO,run_shape,If,hs,run_freeze,ACD,ABn,if_false,Qs];rfl
theorem Q7(H:AEI ty φ E h w){x:O}{x':IN}{src dst el:yL}{si di ei:TI}(TS:AEd P src si)(hs:si.k=.string)(TD:AEd P dst di)(hd:di.k=.slice el)(TE:AEd P el ei)(he:ei.k=.int .u8)
  (hty:ty.get el=some ei)(hz:ei.size=1)(hx:AED φ (x e) x')(hr:Jh el x F e h=.ok v h'):Bd ty φ E h w v h' ((convert src dst x').run P w):=by
 obtain⟨d1,h1,k1⟩:=TS.und;obtain⟨d2,h2,k2⟩:=TD.und;obtain⟨d3,h3,k3⟩:=TE.und;rw[hs]at k1;cases k1;rw[hd]at k2;cases k2;rw[he]at k3;cases k3;unfold Jh at hr;split at hr
 case h_2=>cases hr
 rename_i s hxe;rw[hxe]at hx;obtain rfl:=hx.AEa;rw[Ao,Bf]at hr;obtain⟨hb,hr⟩:=Br hr
 let q:Question:=.appendCap s.size 0 el
 let c:Nat:=q.cut (w.tape w.drawn q)
 have hc:s.size<=c:=ADB _ _
 let cells:List IN:=s.data.toList.map fun b=>.int .u8 (b.toNat:Int)
 let rest:List IN:=List.replicate (c - s.size) (.int .u8 0)
 have hcl:cells.length=s.size:=by simp[cells]
 let w':yJ:={w with drawn:=w.drawn+1,heap:=w.heap.push (.cells ⟨cells++rest⟩ el (c,c+1))}
 have hsz:(⟨cells++rest⟩:Array IN).size=c:=by simp[rest,hcl];omega
 have AEj:AEX φ (Cm s.data.toList) cells:=Ku _;have hlen:(Cm s.data.toList).length=s.size:=by rw[<- AEj.length,hcl]
 obtain⟨hh1,hk,H1,ev⟩:=N6 (cs':=⟨cells++rest⟩) (t:=el) (fr:=(c,c+1)) (w':=w')
  (p:={blk:=w.heap.size,off:=0,sz:=(Cm s.data.toList).length,room:=(⟨cells++rest⟩:Array IN).size,es:=1}) H hr rfl ⟨rfl,.inr ⟨el,ei,rfl,hty,hz.symm⟩⟩ (by rw[hlen,hsz];exact hc) (.inr (by rw[hsz];exact IT _))
  (fun j u hj=>by
   obtain⟨u',hu,hru⟩:=AEj.get j u hj;refine⟨u',?_,hru⟩;have hj':j<cells.length:=by
    rcases xx j cells.length with h|h
    ·exact h
    ·rw[List.getElem?_eq_none h]at hu;cases hu
   simp only[xu];rw[xa hj'];exact hu) rfl rfl rfl rfl
 cases hk;have key:(convert src dst (.string s)).run P w=.ok (.slice (some ⟨w.heap.size,0,none⟩) s.size c) w':=by
  have AFo:(Question.appendCap s.size 0 el).forced=false:=rfl;have AJT:(s.data.map fun b=>(yX .u8 (b.toNat:Int)))++AC7 (c - s.size) (yX .u8 0)=⟨cells++rest⟩:=by
   apply yj;simp[cells,rest]
  have hm:=aG (P:=P) {w with drawn:=w.drawn+1} ⟨cells++rest⟩ el;rw[hsz]at hm;simp only[convert,xO,run_underlying h1,run_underlying h2,run_underlying h3,If,Conv.stringToBytes,run_choose,AFo,yG,if_false,ABU,run_newObj,xQ];show(((markStringish ⟨w.heap.size,0,none⟩).run P {w with drawn:=w.drawn+1,heap:=w.heap.push (.cells ((s.data.map fun b=>(yX .u8 (b.toNat:Int)))++AC7 (c - s.size) (yX .u8 0)) el)}).andThen
   fun _ w''=>Result.ok (Value.slice (some ⟨w.heap.size,0,none⟩) s.size c) w'')=_
  rw[AJT];have hm':(markStringish ⟨w.heap.size,0,none⟩).run P {w with drawn:=w.drawn+1,heap:=w.heap.push (.cells ⟨cells++rest⟩ el)}=.ok () w':=hm;rw[hm'];rfl
 rw[key];refine⟨_,_,_,rfl,?_,H1,ev⟩;have e1:s.data.toList.length=s.size:=rfl;rw[e1];refine .slice (IT _) ⟨rfl,rfl,_,Phi.AE0 _ _ _,rfl,?_⟩;rcases Nat.eq_zero_or_pos s.size with h0|h0
 ·refine .inr ⟨h0,.inr ⟨?_,?_⟩⟩
  ·simp only[hlen,h0]
  ·simp only[hlen,hsz,h0];omega
 ·refine .inl ⟨h0,rfl,.inr ⟨?_,hc,?_⟩⟩
  ·simp only[hlen];omega
  ·simp only[hsz];omega
end
end
noncomputable section
open Go
section
variable {P:yg}{ty:TTy}{φ:Phi}{h:Hp}{w:yJ}{e:Env}{v:IN}{f:Fr}
def Fl:IN->Lit
 |.bool b=>.bool b
 |.int q n=>.int q n
 |.string s=>.string s.data.toList
 |_=>.bool false
theorem rB{k:xc}{n:Int}(h:inK k n=true):(Lit.int k n).wf=true:=by
 unfold Lit.wf;simp only[xk,decide_eq_true_eq];cases n with
 |ofNat m=>
  have h:xU m (BG k)=true:=h;have:=Au.1 h;cases k<;>simp[ADK,ADL,ACv,ADD,BG]at this ⊢<;>omega
 |negSucc m=>
  cases k<;>simp only[inK]at h<;>first|(cases h;done)|skip
  all_goals
   have:=Au.1 h;simp[ADK,ADL,ACv,ADD,BG]at this ⊢;omega
theorem HN{k:xc}{v:IN}(h:LH (.i k) v=true):∃ n,v=.int k n/\(Lit.int k n).wf=true:=by
 unfold LH at h;simp only at h;split at h
 ·split at h
  ·rename_i hq
   exact⟨_,by rw[Ho hq],rB h⟩
  ·cases h
 ·cases h
theorem GQ{v:IN}(h:LH .b v=true):∃ b,v=.bool b:=by
 unfold LH at h;simp only at h;split at h
 ·exact⟨_,rfl⟩
 ·cases h
theorem HO{v:IN}(h:LH .s v=true):∃ s,v=.string s/\s.size<=maxLen:=by
 unfold LH at h;simp only at h;split at h
 ·rename_i s
  refine⟨s,rfl,?_⟩;have:=Au.1 h;rw[Bf]at this;have e:s.data.toList.length=s.size:=by simp
  have hm:most<=maxLen:=by unfold most maxLen;omega
  omega
 ·cases h
theorem DS{l:List IN}(h:Ej [] l=true):l=[]:=by
 cases l with
 |nil=>rfl
 |cons=>cases h
theorem Cq{c:CK}{ks:List CK}{l:List IN}(h:Ej (c::ks) l=true):∃ v r,l=v::r/\LH c v=true/\Ej ks r=true:=by
 cases l with
 |nil=>cases h
 |cons v r=>
  unfold Ej at h;split at h
  ·rename_i hc;exact⟨v,r,rfl,hc,h⟩
  ·cases h
theorem JO:∀ {ks:List CK} {l:List IN},Ej ks l=true->l.length=ks.length
 |[],l,h=>by rw[DS h];rfl
 |c::ks,l,h=>by
  obtain⟨v,r,rfl,_,hr⟩:=Cq h;simp[JO hr]
theorem HP:∀ {a b:List CK} {l:List IN},Ej (a++b) l=true->Ej a (l.take a.length)=true/\Ej b (l.drop a.length)=true
 |[],b,l,h=>⟨rfl,h⟩
 |c::a,b,l,h=>by
  obtain⟨v,r,rfl,hc,hr⟩:=Cq h;obtain⟨h1,h2⟩:=HP hr;refine⟨?_,by simpa using h2⟩;show Ej (c::a) (v::r.take a.length)=true;unfold Ej;rw[hc];exact h1
theorem Ii{c:CK}{v:IN}(h:LH c v=true):∃ l:Lit,Fl v=l/\v=l.toCell/\l.keyWf:=by
 cases c with
 |i k=>obtain⟨n,rfl,hw⟩:=HN h;exact⟨.int k n,rfl,rfl,hw⟩
 |b=>obtain⟨b,rfl⟩:=GQ h;exact⟨.bool b,rfl,rfl,trivial⟩
 |s=>obtain⟨s,rfl,hs⟩:=HO h;exact⟨.string s.data.toList,rfl,rfl,by show s.data.toList.length<=maxLen;simpa using hs⟩
theorem QI{ks:List CK}:∀ {l l':List IN},Ej ks l=true->AEX φ l l'->l'=l:=by
 induction ks with
 |nil=>intro l l' h hr;rw[DS h]at hr ⊢;cases hr;rfl
 |cons c ks ih=>
  intro l l' h hr;obtain⟨v,r,rfl,hc,hr'⟩:=Cq h;cases hr with
  |cons hv ht=>
   rw[ih hr' ht]
   congr 1
   cases c with
   |i k=>obtain⟨n,rfl,_⟩:=HN hc;exact hv.AEk
   |b=>obtain⟨n,rfl⟩:=GQ hc;exact hv.AE4
   |s=>obtain⟨n,rfl,_⟩:=HO hc;exact hv.AEa
theorem Fv{x:IN}(hne:∀ l,x≠.agg l):cellsOf x=[x]:=by
 unfold cellsOf;split
 ·rename_i l;exact absurd rfl (hne l)
 ·rfl
theorem DL{K:KS}{x:IN}(h:Fo K x=true):Ej K.ks (cellsOf x)=true/\cellsOf x=x.cells.toList/\((K.agg=true/\∃ l,x=.agg ⟨l⟩)\/(K.agg=false/\(∀ l,x≠.agg l)/\∀ l,x≠.tuple l)):=by
 unfold Fo at h;split at h
 ·rename_i cs
  split at h
  ·rename_i ha
   exact⟨h,rfl,.inl ⟨ha,cs.toList,rfl⟩⟩
  ·cases h
 ·rename_i hne
  split at h
  ·cases h
  ·rename_i ha
   have AGf:∀ l,x≠.agg l:=fun l e=>hne l e
   have hc:cellsOf x=[x]:=by
    unfold cellsOf;split
    ·rename_i l;exact absurd rfl (AGf l)
    ·rfl
   have hnt:∀ l,x≠.tuple l:=by
    intro l e;subst e;cases hk:K.ks with
    |nil=>rw[hk]at h;cases h
    |cons c ks=>
     rw[hk]at h;obtain⟨v,r,e,hc,_⟩:=Cq h;cases e;cases c<;>cases hc
   refine⟨by rw[hc];exact h,?_,.inr ⟨ha,AGf,hnt⟩⟩;rw[hc];cases x<;>first|rfl|exact absurd rfl (AGf _)|exact absurd rfl (hnt _)
theorem JN{K:KS}{x x':IN}(h:Fo K x=true)(hr:AED φ x x'):x'=x:=by
 obtain⟨h1,h2,h3⟩:=DL h;rcases h3 with ⟨_,l,rfl⟩|⟨_,hne,hnt⟩
 ·cases hr with
  |agg hr=>rw[QI h1 hr];rfl
 ·have hc:cellsOf x=[x]:=Fv hne
  rw[hc]at h1;have:=QI h1 (.cons hr .nil);exact ADC.inj this |>.1
theorem Me{α β:Type}{f:α->Option β}{g:α->β}:∀ {L:List α},(∀ x∈L,f x=some (g x))->L.mapM f=some (L.map g)
 |[],_=>rfl
 |x::L,h=>by
  rw[List.mapM_cons,h x (by simp),Me fun y hy=>h y (by simp[hy])];rfl
theorem QJ{ks:List CK}:∀ {m:Nat} {cs:List IN},Ej (Ba ks m) cs=true->cs.length=m*ks.length/\∀ i,i<m->Ej ks ((cs.drop (i*ks.length)).take ks.length)=true
 |0,cs,h=>by
  refine⟨?_,fun i hi=>absurd hi (Nat.not_lt_zero _)⟩;rw[DS h];simp
 |m+1,cs,h=>by
  have h:Ej (ks++Ba ks m) cs=true:=h;obtain⟨h1,h2⟩:=HP h;obtain⟨h3,h4⟩:=QJ h2;have hl:=JO h1;refine⟨?_,fun i hi=>?_⟩
  ·simp only[List.length_take,List.length_drop]at hl h3
   rw[AAd];omega
  ·cases i with
   |zero=>simpa using h1
   |succ i=>
    have:=h4 i (by omega);rw[ABv]at this;rw[AAd,Nat.add_comm];exact this
theorem QM{P:yg}{rec:Nat->Option (List CK)}:∀ {L:List Field} {off:Nat} {ks:List CK},flatK.flatF rec off (L.map fun f=>(f.offset,P.cellsOf f.type,f.type))=some ks->
  (∀ f∈L,∃ kf,rec f.type=some kf)/\
  ∀ cs:List IN,Ej ks (cs.drop off)=true->(∀ f∈L,∀ kf,rec f.type=some kf->Ej kf ((cs.drop f.offset).take (P.cellsOf f.type))=true)/\
   ((L.map fun f=>(cs.drop f.offset).take (P.cellsOf f.type)).flatten=cs.drop off)
 |[],off,ks,hk=>by
  cases hk;refine⟨(fun f hf=>by cases hf),fun cs h=>⟨(fun f hf=>by cases hf),?_⟩⟩;rw[DS h];rfl
 |f::L,off,ks,hk=>by
  rw[AAs]at hk;unfold flatK.flatF at hk;split at hk
  case h_2=>cases hk
  rename_i ho;split at hk
  case h_2=>cases hk
  rename_i kf hkf;split at hk
  case h_2=>cases hk
  rename_i hl;split at hk
  case h_2=>cases hk
  rename_i r hr;cases hk;have ho:f.offset=off:=Ax.1 ho;have hl:kf.length=P.cellsOf f.type:=by rw[<- Ax.1 hl,Bf]
  obtain⟨i1,i2⟩:=QM hr;refine⟨fun g hg=>?_,fun cs h=>?_⟩
  ·rcases xe.1 hg with rfl|hg
   ·exact⟨kf,hkf⟩
   ·exact i1 g hg
  ·obtain⟨h1,h2⟩:=HP h
   rw[hl]at h1 h2;rw[ABv]at h2;obtain⟨i3,i4⟩:=i2 cs h2;refine⟨fun g hg kg hkg=>?_,?_⟩
   ·rcases xe.1 hg with rfl|hg
    ·rw[hkf]at hkg;cases hkg
     rw[ho];exact h1
    ·exact i3 g hg kg hkg
   ·rw[AAs,List.flatten_cons,i4,ho]
    have:cs.drop (zA off (P.cellsOf f.type))=(cs.drop off).drop (P.cellsOf f.type):=by rw[ABv];rfl
    rw[this,List.take_append_drop]
theorem Og{t:Nat}{fs:Array Field}(hu:P.underlying t=some (.struct fs))(hf:AGL P t=true):
  (∀ f∈fs.toList,(f.name != "_")=true)/\(!(P.cutTypes.any (·.2 == t)) && !P.stoodInHeld t)=true:=by
 unfold AGL at hf;rw[hu]at hf;simp only[xk,zL]at hf;obtain⟨⟨h1,h2⟩,h3⟩:=hf;exact⟨fun f hm=>h1 f (zP.1 hm),by rw[h2,h3];rfl⟩
theorem E3(hT:Cx P ty):∀ (n t:Nat) (ks:List CK),flatK ty n t=some ks->
  P.keyTypeAt n t=true/\(∀ d,n<=d->P.eqGuardType d t=false)/\(∀ ti,ty.get t=some ti->ti.k.agg=true->ks.length=ti.size)/\
  ∀ cs,Ej ks cs=true->P.keyLits n t cs=some (cs.map Fl)
 |0,t,ks,h=>by cases h
 |n+1,t,ks,h=>by
  unfold flatK at h;cases hg:ty.get t with
  |none=>rw[hg]at h;cases h
  |some ti=>
   simp only[hg]at h;have T:=hT t ti hg;obtain⟨d,hd,hk⟩:=T.und;have hcell:=T.cells;have plain:∀ {d:AB0},(match d with|.interface _=>true|.struct _=>true|.array _ _=>true|_=>false)=false->P.underlying t=some d->∀ q,n+1<=q->P.eqGuardType q t=false:=by
    intro d h1 hd q hq;cases q with
    |zero=>omega
    |succ q=>unfold AAy;rw[hd];cases d<;>first|rfl|cases h1
   cases hkk:ti.k with
   |int k=>
    simp only[hkk]at h;rw[hkk]at hk;cases hk;cases h;refine⟨by unfold zp;rw[hd],plain rfl hd,(fun ti' ht' ha=>by cases ht';rw[hkk]at ha;cases ha),fun cs hf=>?_⟩;obtain⟨v,r,rfl,hc,hr⟩:=Cq hf;obtain rfl:=DS hr;obtain⟨m,rfl,hw⟩:=HN hc;unfold AAI;rw[hd];simp[hw,Fl]
   |bool=>
    simp only[hkk]at h;rw[hkk]at hk;cases hk;cases h;refine⟨by unfold zp;rw[hd],plain rfl hd,(fun ti' ht' ha=>by cases ht';rw[hkk]at ha;cases ha),fun cs hf=>?_⟩;obtain⟨v,r,rfl,hc,hr⟩:=Cq hf;obtain rfl:=DS hr;obtain⟨m,rfl⟩:=GQ hc;unfold AAI;rw[hd];simp[Fl]
   |string=>
    simp only[hkk]at h;rw[hkk]at hk;cases hk;cases h;refine⟨by unfold zp;rw[hd],plain rfl hd,(fun ti' ht' ha=>by cases ht';rw[hkk]at ha;cases ha),fun cs hf=>?_⟩;obtain⟨v,r,rfl,hc,hr⟩:=Cq hf;obtain rfl:=DS hr;obtain⟨m,rfl,hw⟩:=HO hc;unfold AAI;rw[hd];simp[hw,Fl]
   |arr m el=>
    simp only[hkk]at h;rw[hkk]at hk;cases hk;split at h
    case h_2=>cases h
    rename_i ei hei;split at h
    case h_2=>cases h
    rename_i ke hke;split at h
    case h_2=>cases h
    rename_i hl;split at h
    case h_2=>cases h
    rename_i hm;cases h;obtain⟨i1,i2,_,i3⟩:=E3 hT n el ke hke;have hce:=(hT el ei hei).cells;have hl:ke.length=ei.size:=by rw[<- Ax.1 hl,Bf]
    have hm:m*ei.size=ti.size:=Ax.1 hm;have AJU:∀ m,(Ba ke m).length=m*ke.length:=by
     intro m
     induction m with
     |zero=>simp[Ba]
     |succ m ih=>rw[Ba,No,ih,AAd];omega
    refine⟨by unfold zp;rw[hd];exact i1,fun q hq=>?_,(fun ti' ht' ha=>by cases ht';rw[AJU,hl,hm]),fun cs hf=>?_⟩
    ·cases q with
     |zero=>omega
     |succ q=>unfold AAy;rw[hd];exact i2 q (by omega)
    ·obtain⟨f1,f2⟩:=QJ hf
     have hlen:cs.length=P.cellsOf t:=by rw[hcell,<- hm,f1,hl]
     have hmap:(ym m).mapM (fun i=>P.keyLits n el ((cs.drop (i*P.cellsOf el)).take (P.cellsOf el)))=some ((ym m).map fun i=>((cs.drop (i*P.cellsOf el)).take (P.cellsOf el)).map Fl):=
      Me fun i hi=>by
       rw[hce,<- hl];exact i3 _ (f2 i (List.mem_range.1 hi))
     unfold AAI;rw[hd];simp only[hlen,if_true,hmap,yx]
     congr 1
     have:=chunks_flatten (P.cellsOf el) m cs (by rw[hce,<- hl];exact f1)
     conv=>rhs;rw[<- this]
     rw[AC2,ACt];rfl
   |struct fs=>
    simp only[hkk]at h;rw[hkk]at hk;cases hk with
    |@struct _ fields hfs _=>
     split at h
     case h_2=>cases h
     rename_i ks' hks;split at h
     case h_2=>cases h
     rename_i hl;cases h;have hl:ks.length=ti.size:=by rw[<- Ax.1 hl,Bf]
     rw[<- hfs]at hks;obtain⟨j1,j2⟩:=QM hks;obtain⟨n1,n2⟩:=Og hd T.AJJ;refine⟨?_,fun q hq=>?_,(fun ti' ht' ha=>by cases ht';exact hl),fun cs hf=>?_⟩
     ·unfold zp
      rw[hd];simp only[Bool.and_assoc,n2,ACB];rw[zL];intro f hm;obtain⟨kf,hkf⟩:=j1 f (zP.2 hm);rw[n1 f (zP.2 hm),(E3 hT n f.type kf hkf).1];rfl
     ·cases q with
      |zero=>omega
      |succ q=>
       unfold AAy;rw[hd];simp only;rw[Array.any_eq_false];intro i hi;obtain⟨kf,hkf⟩:=j1 fields[i] (zP.2 (Array.getElem_mem hi));rw[(E3 hT n _ kf hkf).2.1 q (by omega)];simp
     ·have hf0:Ej ks (cs.drop 0)=true:=hf
      obtain⟨k1,k2⟩:=j2 cs hf0;have hlen:cs.length=P.cellsOf t:=by rw[hcell,<- hl,JO hf]
      have hmap:fields.toList.mapM (fun f=>P.keyLits n f.type ((cs.drop f.offset).take (P.cellsOf f.type)))=some (fields.toList.map fun f=>((cs.drop f.offset).take (P.cellsOf f.type)).map Fl):=
       Me fun f hm=>by
        obtain⟨kf,hkf⟩:=j1 f hm;exact(E3 hT n f.type kf hkf).2.2.2 _ (k1 f hm kf hkf)
      have hall:fields.all (·.name != "_")=true:=by
       rw[zL];intro f hm;exact n1 f (zP.2 hm)
      unfold AAI;rw[hd];simp only[hlen,hall,and_self,if_true,hmap,yx]
      congr 1
      have:cs=cs.drop 0:=rfl
      conv=>rhs;rw[this,<- k2]
      rw[AC2,ACt];rfl
   |_=>simp only[hkk]at h;cases h
theorem KC{c:CK}{a b:IN}(ha:LH c a=true)(hb:LH c b=true){r:Bool}(hr:L3 a b=some r):r=true↔Fl a=Fl b:=by
 cases c with
 |i k=>
  obtain⟨m,rfl,_⟩:=HN ha;obtain⟨n,rfl,_⟩:=HN hb;unfold L3 at hr;simp only at hr;split at hr
  ·cases hr;rw[DZ];simp[Fl]
  ·cases hr
 |b=>
  obtain⟨m,rfl⟩:=GQ ha;obtain⟨n,rfl⟩:=GQ hb;unfold L3 at hr;cases hr;simp[Fl]
 |s=>
  obtain⟨m,rfl,_⟩:=HO ha;obtain⟨n,rfl,_⟩:=HO hb;unfold L3 at hr;cases hr;rw[Lt];simp[Fl]
theorem L7:∀ {ks:List CK} {a b:List IN},Ej ks a=true->Ej ks b=true->∀ {r:Bool},Gh a b=some r->(r=true↔a.map Fl=b.map Fl)
 |[],a,b,ha,hb,r,hr=>by
  rw[DS ha,DS hb]at *;cases hr;simp
 |c::ks,a,b,ha,hb,r,hr=>by
  obtain⟨x,a,rfl,hx,ha⟩:=Cq ha;obtain⟨y,b,rfl,hy,hb⟩:=Cq hb;unfold Gh at hr;split at hr
  ·rename_i h1
   have i1:=(KC hx hy h1).1 rfl;rw[L7 ha hb hr];simp[i1]
  ·rename_i h1
   cases hr;have i1:=KC hx hy h1;simp only[AAs,ADC.injEq];constructor
   ·intro h;cases h
   ·intro h;exact i1.2 h.1
  ·cases hr
structure AFA (P:yg)(ty:TTy)(t:Nat)(K:KS):Prop where
 ti:∃ ti,ty.get t=some ti/\K.agg=ti.k.agg
 flat:flatK ty 8 t=some K.ks
theorem AFA.formed(hT:Cx P ty){t:Nat}{K:KS}(hK:AFA P ty t K){x:IN}(hx:Fo K x=true):x.formed P t=true/\P.keyLits 8 t x.cells.toList=some ((cellsOf x).map Fl):=by
 obtain⟨ti,hti,ha⟩:=hK.ti;obtain⟨_,_,f3,f4⟩:=E3 hT 8 t K.ks hK.flat;obtain⟨h1,h2,h3⟩:=DL hx;have T:=hT t ti hti;obtain⟨d,hd,hk⟩:=T.und;refine⟨?_,by rw[<- h2];exact f4 _ h1⟩;rcases h3 with ⟨hag,l,rfl⟩|⟨hag,hne,hnt⟩
 ·rw[ha]at hag
  have hs:=f3 ti hti hag;have hl:=JO h1;unfold ADP;rw[hd];have hsz:(Array.mk l).size=P.cellsOf t:=by
   have:l.length=K.ks.length:=hl;rw[T.cells,<- hs,<- this];rfl
  generalize ti.k=kk at hk hag;cases hk<;>first|(cases hag;done)|(simp only[hsz];exact beq_self_eq_true _)
 ·rw[ha]at hag
  have:(match P.underlying t with|some (.struct _)=>false|some (.array _ _)=>false|_=>true)=true:=by
   rw[hd];generalize ti.k=kk at hk hag;cases hk<;>first|rfl|(cases hag;done)|skip
   rename_i ho;cases d<;>first|rfl|cases ho
  unfold ADP;cases x<;>first|exact absurd rfl (hne _)|exact absurd rfl (hnt _)|exact this
theorem AFA.equal(hT:Cx P ty){t:Nat}{K:KS}(hK:AFA P ty t K){x y:IN}(hx:Fo K x=true)(hy:Fo K y=true){r:Bool}(hr:Gh (cellsOf x) (cellsOf y)=some r)(w:yJ):
  (AA4 t x y).run P w=.ok r w:=by
 obtain⟨f1,f2⟩:=hK.formed hT hx;obtain⟨g1,g2⟩:=hK.formed hT hy;obtain⟨k1,_⟩:=E3 hT 8 t K.ks hK.flat;obtain⟨r',hr',hiff⟩:=run_equalIn_deep (P:=P) 9992 8 t k1 w _ _ x y _ _ f1 g1 f2 g2;have:=L7 (DL hx).1 (DL hy).1 hr;have e:r'=r:=by
  rw[Bool.eq_iff_iff,hiff,this]
 rw[<- e];exact hr'
theorem AFA.check(hT:Cx P ty){t:Nat}{K:KS}(hK:AFA P ty t K){x:IN}(hx:Fo K x=true)(em:Bool)(w:yJ):(Instr.checkKey em 10000 t x).run P w=.ok () w:=by
 obtain⟨f1,f2⟩:=hK.formed hT hx;obtain⟨k1,_⟩:=E3 hT 8 t K.ks hK.flat;exact run_checkKey_deep (P:=P) em 9992 8 t k1 w _ x _ f1 f2
theorem Of{t:Nat}{d:AB0}(hd:P.underlying t=some d)(n:Nat){a b:IN}{c:Bool}(hs:AB1 d a b=some c)(w:yJ):(AAR (n+1) t a b).run P w=.ok c w:=by
 unfold AB1 at hs;split at hs
 ·split at hs
  ·rename_i hkk
   cases hs;simp[AAR,run_underlying hd,hkk]
  ·cases hs
 ·cases hs;simp[AAR,run_underlying hd]
 ·cases hs;simp[AAR,run_underlying hd]
 ·cases hs
theorem JL{t:Nat}{d:AB0}(hd:P.underlying t=some d){k:IN}:∀ {es:List yc} {i:Nat} {r:Option (Nat×IN)},AB2 d k es i=some r->∀ w:yJ,(yD t k es i).run P w=.ok r w
 |[],i,r,h,w=>by cases h;simp[yD]
 |e::es,i,r,h,w=>by
  have same:∀ {a b:IN} {c:Bool},AB1 d a b=some c->(AA4 t a b).run P w=.ok c w:=fun hs=>Of hd 9999 hs w
  unfold AB2 at h;split at h
  ·rename_i hs
   cases h;simp[yD,same hs]
  ·rename_i hs
   have:=JL hd h w;simp[yD,same hs,this]
  ·cases h
theorem D6{t:Nat}{d:AB0}(hd:P.underlying t=some d){k:IN}{es:List yc}{r:Option (Nat×IN)}(hr:(yD t k es 0).run P w=.ok r w):(AB3 t k es).run P w=.ok r w:=by
 unfold AB3;simp only[xO,run_underlying hd,If];cases hn:AB2 d k es 0 with
 |none=>exact hr
 |some r'=>
  have:=JL hd hn w;rw[hr]at this;cases this;simp
theorem Fb(hT:Cx P ty){t:Nat}{K:KS}(hK:AFA P ty t K){x y y':IN}(hx:Fo K x=true)(hy:AED φ y y'){r:Bool}(hr:Hb K x y=some r)(w:yJ):(AA4 t x y').run P w=.ok r w/\Fo K y=true/\y'=y:=by
 unfold Hb at hr;split at hr
 ·rename_i hf
  have:=JN hf hy;subst this;exact⟨hK.equal hT hx hf hr w,hf,rfl⟩
 ·cases hr
theorem ML(hT:Cx P ty){t:Nat}{K:KS}(hK:AFA P ty t K){x:IN}(hx:Fo K x=true)(w:yJ):∀ {es:List Ent} {es':List yc} (i:Nat),AE7 φ es es'->∀ {r:Option Ent},MK K x es=some r->
  match r with
  |none=>(yD t x es' i).run P w=.ok none w
  |some e=>∃ j v',(yD t x es' i).run P w=.ok (some (j,v')) w/\AED φ e.val v'
 |_,_,i,.nil,r,h=>by cases h;simp[yD]
 |_,_,i,.cons (k:=k) (k':=k') (v:=v) (v':=v') (b:=b) (l:=l) (l':=l') hk hv ht,r,h=>by
  unfold MK at h;split at h
  ·rename_i he
   cases h;obtain⟨h1,_⟩:=Fb hT hK hx hk he w;exact⟨i,v',by simp[yD,h1],hv⟩
  ·rename_i he
   obtain⟨h1,_⟩:=Fb hT hK hx hk he w;have ih:=ML hT hK hx w (i+1) ht h;cases r with
   |none=>simpa [yD,h1] using ih
   |some e=>
    obtain⟨j,u,hj,hu⟩:=ih;exact⟨j,u,by simp[yD,h1,hj],hu⟩
  ·cases h
theorem QK{c:CK}{x:IN}(h:LH c x=true)(n:Nat):AA3 n x x=true:=by
 obtain⟨l,_,rfl,hw⟩:=Ii h;exact sameBits_toCell hw n
theorem Xe{ks:List CK}(n:Nat):∀ {l:List IN},Ej ks l=true->(l.zip l).all (fun (x,y)=>AA3 n x y)=true:=by
 induction ks with
 |nil=>intro l h;rw[DS h];rfl
 |cons c ks ih=>
  intro l h;obtain⟨v,r,rfl,hc,hr⟩:=Cq h;simp only[List.zip_cons_cons,AAx,QK hc,ih hr,Bool.and_self]
theorem Xd{K:KS}{x:IN}(h:Fo K x=true)(n:Nat):AA3 (n+1) x x=true:=by
 obtain⟨h1,_,h3⟩:=DL h;rcases h3 with ⟨_,l,rfl⟩|⟨_,hne,hnt⟩
 ·unfold AA3
  simp only[beq_self_eq_true,Bool.true_and];exact Xe n h1
 ·have hc:cellsOf x=[x]:=Fv hne
  rw[hc]at h1;cases hk:K.ks with
  |nil=>rw[hk]at h1;cases h1
  |cons c ks=>
   rw[hk]at h1;obtain⟨v,r,e,hcc,_⟩:=Cq h1;cases e;exact QK hcc _
theorem L4:∀ {ks:List CK} {a b:List IN},Ej ks a=true->Ej ks b=true->Gh a b=some true->a=b
 |[],a,b,ha,hb,_=>by rw[DS ha,DS hb]
 |c::ks,a,b,ha,hb,hr=>by
  obtain⟨x,a,rfl,hx,ha⟩:=Cq ha;obtain⟨y,b,rfl,hy,hb⟩:=Cq hb;unfold Gh at hr;split at hr
  ·rename_i h1
   have i1:=(KC hx hy h1).1 rfl;rw[L4 ha hb hr];obtain⟨l,e1,e2,_⟩:=Ii hx;obtain⟨m,e3,e4,_⟩:=Ii hy;rw[e2,e4,<- e1,<- e3,i1]
  ·cases hr
  ·cases hr
theorem S8{K:KS}{x y:IN}(hx:Fo K x=true)(hr:Hb K x y=some true):x=y:=by
 unfold Hb at hr;split at hr
 ·rename_i hf
  obtain⟨h1,h2,h3⟩:=DL hx;obtain⟨g1,g2,g3⟩:=DL hf;have:=L4 h1 g1 hr;rcases h3 with ⟨ha,l,rfl⟩|⟨ha,hne,hnt⟩
  ·rcases g3 with ⟨_,m,rfl⟩|⟨hb,_⟩
   ·have:l=m:=this
    rw[this]
   ·rw[ha]at hb;cases hb
  ·rcases g3 with ⟨hb,_⟩|⟨_,gne,gnt⟩
   ·rw[ha]at hb;cases hb
   ·have c1:cellsOf x=[x]:=Fv hne
    have c2:cellsOf y=[y]:=Fv gne;rw[c1,c2]at this;exact ADC.inj this |>.1
 ·cases hr
theorem Lk(hT:Cx P ty){t:Nat}{K:KS}(hK:AFA P ty t K){x:IN}(hx:Fo K x=true){u u':IN}(hu:AED φ u u')(hxx:AED φ x x)(w:yJ):∀ {es:List Ent} {es':List yc} (i:Nat),AE7 φ es es'->∀ {r:Option (List Ent)},NU K x u es=some r->
  match r with
  |none=>(yD t x es' i).run P w=.ok none w
  |some es2=>∃ j v' en,(yD t x es' i).run P w=.ok (some (i+j,v')) w/\es'[j]? =some en/\en.key=x/\AE7 φ es2 (es'.modify j fun e=>{e with key:=x,val:=u'})
 |_,_,i,.nil,r,h=>by cases h;simp[yD]
 |_,_,i,.cons (k:=k) (k':=k') (v:=v) (v':=v') (b:=b) (l:=l) (l':=l') hk hv ht,r,h=>by
  unfold NU at h;split at h
  ·rename_i he
   cases h;obtain⟨h1,_,h2⟩:=Fb hT hK hx hk he w;have h3:=S8 hx he;exact⟨0,v',⟨k',v',b⟩,by simp[yD,h1],rfl,by simp only;rw[h2];exact h3.symm,by simpa using AE7.cons hxx hu ht⟩
  ·rename_i he
   obtain⟨h1,_⟩:=Fb hT hK hx hk he w;split at h
   ·rename_i es2 hs
    cases h;obtain⟨j,v2,en,e1,e2,e3,e4⟩:=Lk hT hK hx hu hxx w (i+1) ht hs;refine⟨j+1,v2,en,?_,by simpa using e2,e3,by simpa using AE7.cons hk hv e4⟩;simp only[yD,xO,h1,If,yG,if_false];rw[e1];congr 3;omega
   ·rename_i hs
    cases h;have:=Lk hT hK hx hu hxx w (i+1) ht hs
    simpa [yD,h1] using this
   ·cases h
  ·cases h
theorem Un(hT:Cx P ty){t:Nat}{K:KS}(hK:AFA P ty t K){x:IN}(hx:Fo K x=true)(w:yJ):∀ {es:List Ent} {es':List yc} (i:Nat),AE7 φ es es'->∀ {es2:List Ent},gZ K x es=some es2->
  ((yD t x es' i).run P w=.ok none w/\es2=es)\/∃ j v',(yD t x es' i).run P w=.ok (some (i+j,v')) w/\AE7 φ es2 (es'.eraseIdx j)
 |_,_,i,.nil,es2,h=>by cases h;exact .inl ⟨by simp[yD],rfl⟩
 |_,_,i,.cons (k:=k) (k':=k') (v:=v) (v':=v') (b:=b) (l:=l) (l':=l') hk hv ht,es2,h=>by
  unfold gZ at h;split at h
  ·rename_i he
   cases h;obtain⟨h1,_⟩:=Fb hT hK hx hk he w;exact .inr ⟨0,v',by simp[yD,h1],by simpa using ht⟩
  ·rename_i he
   obtain⟨h1,_⟩:=Fb hT hK hx hk he w;split at h
   ·rename_i l2 hs
    cases h;rcases Un hT hK hx w (i+1) ht hs with ⟨e1,e2⟩|⟨j,v2,e1,e2⟩
    ·exact .inl ⟨by simp[yD,h1,e1],by rw[e2]⟩
    ·refine .inr ⟨j+1,v2,?_,by simpa using AE7.cons hk hv e2⟩
     simp only[yD,xO,h1,If,yG,if_false];rw[e1];congr 3;omega
   ·cases h
  ·cases h
theorem UC{x:Ent}:∀ {es:List Ent},WY x es=es++[x]
 |[]=>rfl
 |e::es=>by unfold WY;rw[UC];rfl
theorem AE7.append{x:Ent}{x':yc}(hx:AE7 φ [x] [x']):∀ {es:List Ent} {es':List yc},AE7 φ es es'->AE7 φ (es++[x]) (es'++[x'])
 |_,_,.nil=>hx
 |_,_,.cons hk hv t=>.cons hk hv (AE7.append hx t)
theorem MN{K:KS}{x x':IN}(h:Fo K x=true)(hr:AED φ x x'):x'=x/\AED φ x x:=by
 have:=JN h hr;subst this;exact⟨rfl,hr⟩
end
end
noncomputable section
open Go
section
variable {P:yg}{ty:TTy}{φ:Phi}{E:Nat->Prop}{h h':Hp}{w:yJ}{F:AEB}{e:Env}{v:IN}
def VI:IN->Bool
 |.bool _|.pointer _|.slice _ _ _|.map _|.func _ _ _|.nilFunc=>true
 |_=>false
theorem Yp{op:ADG}{neg:Bool}(hop:(op=.eql/\neg=false)\/(op=.neq/\neg=true)){t:yL}{X Y:yF}{a b:IN}(ha:VI a=true\/∃ l,a=.agg l)(hg:(eqGuard op t X Y a b).run P w=.ok () w)
  {r:Bool}(hr:(AA4 t a b).run P w=.ok r w):(Bu op t X Y a b).run P w=.ok (.bool (neg != r)) w:=by
 unfold Bu;rw[xO,hg,If];have:binOp op t a b=(do pure (.bool (neg != (<- AA4 t a b)))):=by
  rcases hop with ⟨rfl,rfl⟩|⟨rfl,rfl⟩
  ·rcases ha with ha|⟨l,rfl⟩
   ·cases a<;>first|(cases ha;done)|skip
    all_goals (simp[binOp];try rfl)
   ·simp[binOp]
  ·rcases ha with ha|⟨l,rfl⟩
   ·cases a<;>first|(cases ha;done)|skip
    all_goals (simp[binOp];try rfl)
   ·simp[binOp]
 rw[this,xO,hr,If,xQ]
theorem Sz{op:ADG}{t:yL}{X Y:yF}{a b:IN}(ha:VI a=true):(eqGuard op t X Y a b).run P w=.ok () w:=by
 cases op<;>first|rfl|skip
 all_goals (cases a<;>first|(cases ha;done)|rfl)
theorem Xg{op:ADG}{t:yL}{X Y:yF}{a b:Array IN}(hg:P.eqGuardType P.depth t=false):(eqGuard op t X Y (.agg a) (.agg b)).run P w=.ok () w:=by
 cases op<;>first|rfl|skip
 all_goals (simp[eqGuard,hg])
theorem qR(n:Nat){k:TK}{x y x' y':IN}{r:Bool}(hr:eqV k x y=some r)(hx:AED φ x x')(hy:AED φ y y'){t:Nat}{d:AB0}(hd:P.underlying t=some d)(hk:KOk P k d)(w:yJ):
  VI x'=true/\(AAR (n+1) t x' y').run P w=.ok r w:=by
 unfold eqV at hr;split at hr
 case h_12=>cases hr
 all_goals (cases hr;cases hk;first|skip|(rename_i ho;cases ho))
 all_goals (cases hx;cases hy)
 all_goals (refine⟨rfl,?_⟩;simp[AAR,run_underlying hd])
theorem qS{k:TK}{x y x' y':IN}{r:Bool}(hr:eqV k x y=some r)(hx:AED φ x x')(hy:AED φ y y'){t:Nat}{d:AB0}(hd:P.underlying t=some d)(hk:KOk P k d)(w:yJ):
 VI x'=true/\(AA4 t x' y').run P w=.ok r w:=qR 9999 hr hx hy hd hk w
theorem aX(H:AEI ty φ E h w){k:TK}{op:ADG}{neg:Bool}(hop:(op=.eql/\neg=false)\/(op=.neq/\neg=true)){t:Nat}{ti:TI}(T:AEd P t ti)(hk:ti.k=k){X Y:yF}{x y:O}{x' y':IN}
  (hx:AED φ (x e) x')(hy:AED φ (y e) y')(hr:oEq k neg x y F e h=.ok v h'):Bd ty φ E h w v h' ((Bu op t X Y x' y').run P w):=by
 obtain⟨d,hd,hkd⟩:=T.und;rw[hk]at hkd;unfold oEq at hr;split at hr
 case h_2=>cases hr
 rename_i r hq;obtain⟨rfl,rfl⟩:=Iq hr;obtain⟨h1,h2⟩:=qS hq hx hy hd hkd w;rw[Yp hop (.inl h1) (Sz h1) h2];exact .same H (.bool _)
theorem Q4(H:AEI ty φ E h w){op:ADG}{neg:Bool}(hop:(op=.eql/\neg=false)\/(op=.neq/\neg=true)){t:Nat}{ti:TI}(T:AEd P t ti)(hk:ti.k=.iface){X:yF}{x:O}{x':IN}
  (hx:AED φ (x e) x')(hr:OA neg x F e h=.ok v h'):Bd ty φ E h w v h' ((Bu op t X (.const .nilIface) x' .nilIface).run P w):=by
 obtain⟨d,hd,hkd⟩:=T.und;rw[hk]at hkd;have main:∀ (a:IN) (r:Bool),((a=.nilIface/\r=true)\/((∃ t v,a=.iface t v)/\r=false))->(Bu op t X (.const .nilIface) a .nilIface).run P w=.ok (.bool (neg != r)) w:=by
  intro a r ha;cases hkd with
  |iface ms=>
  unfold Bu;have hg:(eqGuard op t X (.const .nilIface) a .nilIface).run P w=.ok () w:=by
   cases op<;>first|rfl|skip
   all_goals (rcases ha with ⟨rfl,_⟩|⟨⟨t,v,rfl⟩,_⟩<;>simp[eqGuard])
  have he1:∀ n,(AAR (n+1) t a .nilIface).run P w=.ok r w:=fun n=>by
   rcases ha with ⟨rfl,rfl⟩|⟨⟨t,v,rfl⟩,rfl⟩<;>simp[AAR,run_underlying hd]
  have he:(AA4 t a .nilIface).run P w=.ok r w:=he1 9999;have hb:binOp op t a .nilIface=(do pure (.bool (neg != (<- AA4 t a .nilIface)))):=by
   rcases hop with ⟨rfl,rfl⟩|⟨rfl,rfl⟩<;>rcases ha with ⟨rfl,rfl⟩|⟨⟨t,v,rfl⟩,rfl⟩<;>(simp[binOp];try rfl)
  rw[xO,hg,If,hb,xO,he,If,xQ]
 have hr:aK neg (x e) h=.ok v h':=hr;generalize x e=u at hx hr;unfold aK at hr;split at hr
 ·obtain⟨rfl,rfl⟩:=Iq hr
  cases hx;rw[main _ true (.inl ⟨rfl,rfl⟩)];exact .same H (.bool _)
 ·obtain⟨rfl,rfl⟩:=Iq hr
  cases hx with
  |iface t h=>rw[main _ false (.inr ⟨⟨_,_,rfl⟩,rfl⟩)];exact .same H (.bool _)
 ·cases hr
theorem Ld(hT:Cx P ty)(H:AEI ty φ E h w){K:KS}{op:ADG}{neg:Bool}(hop:(op=.eql/\neg=false)\/(op=.neq/\neg=true)){t:Nat}{ti:TI}(hti:ty.get t=some ti)(hk:ti.k.agg=true)(hf:flatK ty 8 t=some K.ks)(ha:K.agg=true)
  {X Y:yF}{x y:O}{x' y':IN}(hx:AED φ (x e) x')(hy:AED φ (y e) y')(hr:PD K neg x y F e h=.ok v h'):Bd ty φ E h w v h' ((Bu op t X Y x' y').run P w):=by
 have T:=hT t ti hti;have hK:AFA P ty t K:=⟨⟨ti,hti,by rw[ha,hk]⟩,hf⟩;unfold PD eqC at hr;split at hr
 case h_2=>cases hr
 rename_i r hq;split at hq
 case h_2=>cases hq
 rename_i hfx;obtain⟨rfl,rfl⟩:=Iq hr;have e1:=JN hfx hx;obtain⟨h1,hfy,e2⟩:=Fb hT hK hfx hy hq w;rw[<- e1]at hfx;have hgt:=(E3 hT 8 t K.ks hf).2.1 P.depth T.deep;obtain⟨_,_,g1⟩:=DL hfx;obtain⟨_,_,g2⟩:=DL hfy;rw[<- e2]at g2;rcases g1 with ⟨_,l,hl⟩|⟨hb,_⟩
 ·rcases g2 with ⟨_,m,hm⟩|⟨hb,_⟩
  ·rw[<- e1]at h1
   have hg:(eqGuard op t X Y x' y').run P w=.ok () w:=by rw[hl,hm];exact Xg hgt
   rw[Yp hop (.inr ⟨_,hl⟩) hg h1];exact .same H (.bool _)
  ·rw[ha]at hb;cases hb
 ·rw[ha]at hb;cases hb
end
end
noncomputable section
open Go
section
variable {P:yg}{ty:TTy}{φ:Phi}{E:Nat->Prop}{h h':Hp}{w:yJ}{F:AEB}{e:Env}{v:IN}{f:Fr}
theorem Bl{t:Nat}{k:TI->OpF}(hr:wTy ty t k F e h=.ok v h'):∃ ti,ty.get t=some ti/\k ti F e h=.ok v h':=by
 unfold wTy at hr;cases hg:ty.get t with
 |none=>rw[hg]at hr;cases hr
 |some ti=>rw[hg]at hr;exact⟨ti,rfl,hr⟩
theorem DI{x:yF}{k:O->OpF}(hr:w1 f x k F e h=.ok v h'):∃ y,cO f x=some y/\k y F e h=.ok v h':=by
 unfold w1 at hr;cases hg:cO f x with
 |none=>rw[hg]at hr;cases hr
 |some y=>rw[hg]at hr;exact⟨y,rfl,hr⟩
theorem Jx{x y:yF}{k:O->O->OpF}(hr:w2 f x y k F e h=.ok v h'):∃ x' y',cO f x=some x'/\cO f y=some y'/\k x' y' F e h=.ok v h':=by
 unfold w2 at hr;obtain⟨x',hx,hr⟩:=DI hr;obtain⟨y',hy,hr⟩:=DI hr;exact⟨x',y',hx,hy,hr⟩
theorem IX{ti:TI}{k:OpF}(hr:wZ ti k F e h=.ok v h'):ti.zero.length=ti.size/\k F e h=.ok v h':=by
 unfold wZ at hr;cases hg:xW (BB ti.zero) ti.size with
 |false=>rw[hg]at hr;cases hr
 |true=>rw[hg]at hr;exact⟨by rw[<- Ax.1 hg,Bf],hr⟩
def DJ(P:yg)(ty:TTy)(F:AEB):Prop:=∀ g args h v h',F g args h=.ok v h'->
 (∃ fn,P.funcs[g]? =some fn/\fn.name≠"runtime.NumGoroutine" /\fn.body.isNone=false)/\
 ∀ φ w args',AEX φ args args'->AEI ty φ (fun _=>False) h w->
  Calls P g ⟨args'⟩ w fun en w'=>∃ v' ψ,en=.returned v'/\AED ψ v v'/\AEI ty ψ (fun _=>False) h' w'/\Evo φ h w ψ h' w'
def Ee(P:yg)(ty:TTy)(φ:Phi)(E:Nat->Prop)(h:Hp)(v:IN)(h':Hp)(o:Oper)(a:Act)(w:yJ):Prop:=
 ∀ (next:Act->yJ->Prop) (Q:Exit->Act->yJ->Prop),
  (∀ ψ v' w',AED ψ v v'->AEI ty ψ E h' w'->Evo φ h w ψ h' w'->next (a.put o.dst v') w')->o.wp P a w next Q
theorem Ee.AEC{o:Oper}{a:Act}{s:Sem IN}(hx:execOp a.eval o=(do pure (.value (<- s))))(hg:Bd ty φ E h w v h' (s.run P w)):Ee P ty φ E h v h' o a w:=by
 intro next Q hn
 obtain⟨v',w',ψ,hs,hv,H,ev⟩:=hg;unfold ADf;rw[hx,xO,hs,If,xQ,Oper.upon_value];exact hn ψ v' w' hv H ev
theorem Ee.AFc{o:Oper}{a:Act}{s:Sem Unit}(hx:execOp a.eval o=(do s;pure .skip))(hg:Yd ty φ E h w v h' (s.run P w)):Ee P ty φ E h v h' o a w:=by
 intro next Q hn
 obtain⟨rfl,w',hs,H,ev⟩:=hg;unfold ADf;rw[hx,xO,hs,If,xQ,Oper.upon_skip];exact hn φ undef w' (.tuple .nil) H ev
theorem Jj{place:Nat->Option (Nat×Nat)}{ρ:yF->IN}:∀ {l:List (Nat×yF)} {ps:List (Nat×Nat×O)},Gs f place l=some ps->
  (∀ p∈l,∀ y,cO f p.2=some y->AED φ (y e) (ρ p.2))->AGS φ e place ps (l.map fun (i,x)=>(i,ρ x))
 |[],ps,hp,_=>by cases hp;exact .nil
 |(i,x)::l,ps,hp,hst=>by
  unfold Gs at hp;split at hp
  ·rename_i off size hpl
   split at hp
   ·rename_i y hy
    split at hp
    ·rename_i r hr
     cases hp;exact .cons hpl (hst (i,x) (by simp) y hy) (Jj hr fun p hp=>hst p (by simp[hp]))
    ·cases hp
   ·cases hp
  ·cases hp
theorem OY{ρ:yF->IN}:∀ {l:List yF} {ys:List O},cOs f l=some ys->(∀ x∈l,∀ y,cO f x=some y->AED φ (y e) (ρ x))->AEX φ (vals e ys) (l.map ρ)
 |[],ys,h,_=>by cases h;exact .nil
 |x::l,ys,h,hst=>by
  unfold cOs at h;split at h
  ·rename_i y hy
   split at h
   ·rename_i r hr
    cases h;exact .cons (hst x (by simp) y hy) (OY hr fun x hx=>hst x (by simp[hx]))
   ·cases h
  ·cases h
theorem Sb{ρ:yF->IN}{x:Option yF}{y:Option O}(h:cOo f x=some y)(hst:∀ z,x=some z->∀ y,cO f z=some y->AED φ (y e) (ρ z)):AFg φ e y (x.map ρ):=by
 unfold cOo at h;split at h
 ·cases h;exact .none
 ·rename_i x
  split at h
  ·rename_i y hy;cases h;exact .some (hst x rfl y hy)
  ·cases h
def kS(φ:Phi)(f:Fr)(e:Env)(ρ:yF->IN)(op:Op):Prop:=∀ x∈op.operands.toList,∀ y,cO f x=some y->AED φ (y e) (ρ x)
def HF(ty:TTy)(f:Fr)(e:Env)(E:Nat->Prop)(op:Op):Prop:=match kd ty op with
 |.p=>True
 |.a=>True
 |.r x=>∀ y,cO f x=some y->∀ b,AEl (y e)=.ok b->¬ E b
 |.w _=>∀ b,¬ E b
 |.q=>∀ b,¬ E b
theorem oD(hT:Cx P ty)(H:AEI ty φ E h w){op:ADG}{t yt:yL}{x y:yF}{o:Oper}{a:Act}(ho:o.op=.binOp op t x y yt)(hst:kS φ f e a.eval o.op)(hr:Yo ty f op t x y F e h=.ok v h'):Ee P ty φ E h v h' o a w:=by
 have hx:execOp a.eval o=(do pure (.value (<- Bu op t x y (a.eval x) (a.eval y)))):=by unfold execOp;rw[ho];rfl
 unfold Yo at hr;obtain⟨ti,hti,hr⟩:=Bl hr;obtain⟨x',y',hx',hy',hr⟩:=Jx hr;have r1:=hst x (by rw[ho];simp[xh]) x' hx';have r2:=hst y (by rw[ho];simp[xh]) y' hy';cases hk:ti.k with
 |int k=>
  rw[hk]at hr;cases op with
  |add=>exact .AEC hx (ia H r1 r2 hr)
  |sub=>exact .AEC hx (Vn H (.inl ⟨rfl,rfl⟩) r1 r2 hr)
  |mul=>exact .AEC hx (Vn H (.inr ⟨rfl,rfl⟩) r1 r2 hr)
  |quo=>exact .AEC hx (i7 H r1 r2 hr)
  |rem=>exact .AEC hx (jN H r1 r2 hr)
  |and=>exact .AEC hx (PB H (.inl ⟨rfl,rfl⟩) r1 r2 hr)
  |or=>exact .AEC hx (PB H (.inr (.inl ⟨rfl,rfl⟩)) r1 r2 hr)
  |xor=>exact .AEC hx (PB H (.inr (.inr ⟨rfl,rfl⟩)) r1 r2 hr)
  |shl=>exact .AEC hx (jP H r1 r2 hr)
  |shr=>exact .AEC hx (jR H r1 r2 hr)
  |andNot=>cases hr
  |eql=>exact .AEC hx (IC H (.inl ⟨rfl,rfl⟩) r1 r2 hr)
  |neq=>exact .AEC hx (IC H (.inr (.inl ⟨rfl,rfl⟩)) r1 r2 hr)
  |lss=>exact .AEC hx (IC H (.inr (.inr (.inl ⟨rfl,rfl⟩))) r1 r2 hr)
  |leq=>exact .AEC hx (IC H (.inr (.inr (.inr (.inl ⟨rfl,rfl⟩)))) r1 r2 hr)
  |gtr=>exact .AEC hx (IC H (.inr (.inr (.inr (.inr (.inl ⟨rfl,rfl⟩))))) r1 r2 hr)
  |geq=>exact .AEC hx (IC H (.inr (.inr (.inr (.inr (.inr ⟨rfl,rfl⟩))))) r1 r2 hr)
 |string=>
  rw[hk]at hr;cases op with
  |add=>exact .AEC hx (ip H r1 r2 hr)
  |eql=>exact .AEC hx (IE H (.inl ⟨rfl,rfl⟩) r1 r2 hr)
  |neq=>exact .AEC hx (IE H (.inr (.inl ⟨rfl,rfl⟩)) r1 r2 hr)
  |lss=>exact .AEC hx (IE H (.inr (.inr (.inl ⟨rfl,rfl⟩))) r1 r2 hr)
  |gtr=>exact .AEC hx (IE H (.inr (.inr (.inr (.inl ⟨rfl,rfl⟩)))) r1 r2 hr)
  |leq=>exact .AEC hx (IE H (.inr (.inr (.inr (.inr (.inl ⟨rfl,rfl⟩))))) r1 r2 hr)
  |geq=>exact .AEC hx (IE H (.inr (.inr (.inr (.inr (.inr ⟨rfl,rfl⟩))))) r1 r2 hr)
  |_=>cases hr
 |struct fs=>
  rw[hk]at hr;simp only at hr;cases hf:flatK ty 8 t with
  |none=>rw[hf]at hr;cases hr
  |some ks=>
   rw[hf]at hr;have hag:ti.k.agg=true:=by rw[hk];rfl
   cases op with
   |eql=>exact .AEC hx (Ld hT H (K:=⟨true,ks⟩) (.inl ⟨rfl,rfl⟩) hti hag hf rfl r1 r2 hr)
   |neq=>exact .AEC hx (Ld hT H (K:=⟨true,ks⟩) (.inr ⟨rfl,rfl⟩) hti hag hf rfl r1 r2 hr)
   |_=>cases hr
 |arr n el=>
  rw[hk]at hr;simp only at hr;cases hf:flatK ty 8 t with
  |none=>rw[hf]at hr;cases hr
  |some ks=>
   rw[hf]at hr;have hag:ti.k.agg=true:=by rw[hk];rfl
   cases op with
   |eql=>exact .AEC hx (Ld hT H (K:=⟨true,ks⟩) (.inl ⟨rfl,rfl⟩) hti hag hf rfl r1 r2 hr)
   |neq=>exact .AEC hx (Ld hT H (K:=⟨true,ks⟩) (.inr ⟨rfl,rfl⟩) hti hag hf rfl r1 r2 hr)
   |_=>cases hr
 |iface=>
  rw[hk]at hr;have hr:(match Ox y with|true=>(match op with|.eql=>OA false x'|.neq=>OA true x'|_=>oNo)|false=>oNo) F e h=.ok v h':=hr;cases hn:Ox y with
  |false=>rw[hn]at hr;cases hr
  |true=>
   rw[hn]at hr;have hy:y=.const .nilIface:=by
    unfold Ox at hn;split at hn
    ·split at hn
     ·rfl
     ·cases hn
    ·cases hn
   subst hy;cases op with
   |eql=>exact .AEC hx (Q4 H (.inl ⟨rfl,rfl⟩) (hT t ti hti) hk r1 hr)
   |neq=>exact .AEC hx (Q4 H (.inr ⟨rfl,rfl⟩) (hT t ti hti) hk r1 hr)
   |_=>cases hr
 |_=>
  rw[hk]at hr;cases op with
  |eql=>exact .AEC hx (aX H (.inl ⟨rfl,rfl⟩) (hT t ti hti) hk r1 r2 hr)
  |neq=>exact .AEC hx (aX H (.inr ⟨rfl,rfl⟩) (hT t ti hti) hk r1 r2 hr)
  |_=>cases hr
end
end
noncomputable section
open Go
section
variable {P:yg}{ty:TTy}{φ:Phi}{E:Nat->Prop}{h h':Hp}{w:yJ}{F:AEB}{e:Env}{v:IN}{f:Fr}
theorem AEI.less(H:AEI ty φ E h w)(hE:∀ b,¬ E b){E':Nat->Prop}:AEI ty φ E' h w where
 dom:=H.dom
 inj:=fun i j p q ei ej _ _=>H.inj i j p q ei ej (hE i) (hE j)
 row:=fun i p hp _=>H.row i p hp (hE i)
 fresh:=H.fresh
 kind:=H.kind
 inp:=H.inp
theorem Oa(hF:DJ P ty F)(H:AEI ty φ E h w)(hE:∀ b,¬ E b){g:Nat}{args args':List IN}(ha:AEX φ args args')(hr:F g args h=.ok v h'){o:Oper}{a:Act}
  (hx:(execOp a.eval o).run P w=(callFunc g ⟨args'⟩).run P w):Ee P ty φ E h v h' o a w:=by
 intro next Q hn
 obtain⟨⟨fn,hfn,hnm,hb⟩,hc⟩:=hF g args h v h' hr;have AHu:(callFunc g ⟨args'⟩).run P w=.ok (.enter g ⟨args'⟩) w:=by
  have AJV:(fn.name == "runtime.NumGoroutine")=false:=by simpa using hnm
  simp only[callFunc,xO,run_program,If,hfn,AJV,yG,if_false,hb,xQ,AA0]
 unfold ADf;rw[hx,AHu,Oper.upon_enter];refine(hc φ w args' ha (H.less hE)).mono fun en w' ⟨v',ψ,he,hv,H',ev⟩=>?_
 subst he;exact hn ψ v' w' hv (H'.less (fun _ h=>h)) ev
theorem aQ(hF:DJ P ty F)(H:AEI ty φ E h w)(hE:∀ b,¬ E b){g:Nat}{c:Call}(hc:c.callee=.value (.func g)){o:Oper}{a:Act}(ho:o.op=.call c){args:List O}
  (ha:AEX φ (vals e args) (c.args.toList.map a.eval))(hr:AU g args F e h=.ok v h'):Ee P ty φ E h v h' o a w:=by
 unfold AU at hr;rw[Cb]at hr;refine Oa hF H hE ha hr ?_;have e1:c.args.map a.eval=⟨c.args.toList.map a.eval⟩:=by apply yj;simp
 unfold execOp;rw[ho];simp only[resolve,hc,e1,Act.eval,ACZ,xO,xQ,If,invoke]
 congr 2
 apply yj;simp
theorem KZ(hF:DJ P ty F)(H:AEI ty φ E h w)(hE:∀ b,¬ E b){x:yF}{g:O}{c:Call}(hc:c.callee=.value x){o:Oper}{a:Act}(ho:o.op=.call c){args:List O}
  (hg:AED φ (g e) (a.eval x))(ha:AEX φ (vals e args) (c.args.toList.map a.eval))(hr:D7 g args F e h=.ok v h'):Ee P ty φ E h v h' o a w:=by
 unfold D7 at hr;split at hr
 case h_2=>cases hr
 rename_i k first cap hge
 rw[hge]at hg;rw[Cb]at hr;generalize hxe:a.eval x=xv at hg;cases hg with
 |func _ h1 h2=>
  refine Oa hF H hE (h1.append (ha.append h2)) hr ?_;have e1:c.args.map a.eval=⟨c.args.toList.map a.eval⟩:=by apply yj;simp
  unfold execOp;rw[ho];simp only[resolve,hc,e1,hxe,ACZ,xO,xQ,If,invoke]
  congr 2
  apply yj;simp
theorem Mh{name:String}:∀ {t:TTy} {ix:Nat->Nat} {u f:Nat},(u,f)∈t.meths name ix->∃ k ti,u=ix k/\t.get k=some ti/\findM name ti.ms=some f
 |.mt,ix,u,f,h=>by cases h
 |.nd t l r,ix,u,f,h=>by
  have sub:(u,f)∈l.meths name (fun k=>ix (xM (yK 2 k)))++r.meths name (fun k=>ix (xM (xM (yK 2 k))))->∃ k ti,u=ix k/\(TTy.nd t l r).get k=some ti/\findM name ti.ms=some f:=fun h=>by
   rcases List.mem_append.1 h with h|h
   ·obtain⟨k,ti,h1,h2,h3⟩:=Mh h
    refine⟨xM (yK 2 k),ti,h1,?_,h3⟩;show(match AAV (yK 2 k) 2 with| 0=>l.get (zX (yK 2 k) 2)|xM _=>r.get (zX (yK 2 k) 2))=_;have e1:AAV (yK 2 k) 2=0:=by show(2*k) % 2=0;omega
    have e2:zX (yK 2 k) 2=k:=by show(2*k)/2=k;omega
    rw[e1,e2];exact h2
   ·obtain⟨k,ti,h1,h2,h3⟩:=Mh h
    refine⟨xM (xM (yK 2 k)),ti,h1,?_,h3⟩;show(match AAV (xM (yK 2 k)) 2 with| 0=>l.get (zX (xM (yK 2 k)) 2)|xM _=>r.get (zX (xM (yK 2 k)) 2))=_;have e1:AAV (xM (yK 2 k)) 2=1:=by show(2*k+1) % 2=1;omega
    have e2:zX (xM (yK 2 k)) 2=k:=by show(2*k+1)/2=k;omega
    rw[e1,e2];exact h2
  unfold TTy.meths at h;split at h
  ·rename_i g hg
   rcases xe.1 h with h|h
   ·cases h
    cases t with
    |none=>cases hg
    |some ti=>exact⟨0,ti,rfl,rfl,hg⟩
   ·exact sub h
  ·exact sub h
theorem QE{t f:Nat}:∀ {l:List (Nat×Nat)},Uv t l=some f->(t,f)∈l
 |[],h=>by cases h
 |(u,g)::l,h=>by
  have h:(bif xW u t then some g else Uv t l)=some f:=h;cases hb:xW u t with
  |true=>
   rw[hb]at h;cases h;rw[Ax.1 hb];exact List.mem_cons_self
  |false=>
   rw[hb]at h;exact List.mem_cons_of_mem _ (QE h)
theorem TY(hT:Cx P ty)(hF:DJ P ty F)(H:AEI ty φ E h w)(hE:∀ b,¬ E b){recv:yF}{name:String}{x:O}{c:Call}(hc:c.callee=.invoke recv name){o:Oper}{a:Act}(ho:o.op=.call c){args:List O}
  (hg:AED φ (x e) (a.eval recv))(ha:AEX φ (vals e args) (c.args.toList.map a.eval))(hr:Lf (ty.meths name fun k=>k) x args F e h=.ok v h'):Ee P ty φ E h v h' o a w:=by
 unfold Lf at hr;split at hr
 case h_2=>cases hr
 rename_i t u hxe;split at hr
 case h_2=>cases hr
 rename_i f hf;rw[BK,Cb]at hr;rw[hxe]at hg;generalize AJW:a.eval recv=xv at hg;cases hg with
 |@iface _ _ u' hu=>
  obtain⟨k,ti,hk,h2,h3⟩:=Mh (QE hf);have hk:t=k:=hk;subst hk;have hm:=(hT t ti h2).ms name f h3 u' w;refine Oa hF H hE (.cons hu ha) hr ?_;have e1:c.args.map a.eval=⟨c.args.toList.map a.eval⟩:=by apply yj;simp
  unfold execOp;rw[ho];have e2:(#[ACT t u']++(⟨c.args.toList.map a.eval⟩:Array IN))[0]? =some (.iface t u'):=by simp
  have e3:(#[ACT t u']++(⟨c.args.toList.map a.eval⟩:Array IN)).extract 1 (#[ACT t u']++(⟨c.args.toList.map a.eval⟩:Array IN)).size=⟨c.args.toList.map a.eval⟩:=by apply yj;simp;exact List.take_of_length_le (by simp)
  have e4: #[u']++(⟨c.args.toList.map a.eval⟩:Array IN)=⟨u'::c.args.toList.map a.eval⟩:=by apply yj;simp
  simp only[resolve,hc,e1,AJW,xO,xQ,If,invoke,e2,e3,callMethod,run_program,hm,e4]
theorem B7{b:Nat}{ob:Obj}(h1:w.heap[b]? =some ob)(h2:(match ob with|.cells .. =>true|_=>false)=false):(getObj b).run P w=.ok ob w:=by
 unfold getObj;simp only[Sem.run,h1];cases ob<;>first|rfl|cases h2
theorem AE7.length:∀ {l:List Ent} {l':List yc},AE7 φ l l'->l'.length=l.length
 |_,_,.nil=>rfl
 |_,_,.cons _ _ t=>congrArg (· +1) t.length
theorem Fz{r:Nat}{es:List Ent}{c:Nat}(hr:Bk h r=.ok es c):h.bl.get r=.map es c:=by
 unfold Bk qQ at hr;split at hr
 ·cases hr;assumption
 ·cases hr
theorem AEI.AFJ(H:AEI ty φ E h w){r:Nat}{p:Pl}(hp:φ r=some p)(hE:¬ E r){es:List Ent}{c:Nat}(hr:Bk h r=.ok es c):
  ∃ es',w.heap[p.blk]? =some (.map ⟨es'⟩ c)/\AE7 φ es es':=by
 have:=H.row r p hp hE;rw[Fz hr]at this;generalize w.heap[p.blk]? =o at this;cases this with
 |map h=>exact⟨_,rfl,h⟩
theorem ag(H:AEI ty φ E h w){x:O}{x':IN}{ats:Array yL}{t t' el:yL}(h0:ats[0]? =some t){ti:TI}(T:AEd P t ti)(hk:ti.k=.slice el)(hx:AED φ (x e) x')(hr:Bg x F e h=.ok v h'):
  Bd ty φ E h w v h' ((yp ats t' #[x']).run P w):=by
 unfold Bg at hr;split at hr
 case h_3=>cases hr
 case h_2=>
  rename_i r hxe;rw[hxe]at hx;cases hr;obtain⟨d,hd,hkd⟩:=T.desc;rw[hk]at hkd;cases hkd;have key:(yp ats t' #[x']).run P w=.ok (goInt ((0:Nat):Int)) w:=by
   cases hx<;>simp only[yp,h0,xO,hd,If,xQ,xu,yA]
  rw[key];exact .same H (.int _ _)
 rename_i a n c hxe;rw[hxe]at hx;cases hr;obtain⟨d,hd,hkd⟩:=T.desc;rw[hk]at hkd;cases hkd;have key:(yp ats t' #[x']).run P w=.ok (goInt n) w:=by
  cases hx<;>simp only[yp,h0,xO,hd,If,xQ,xu,yA]
 rw[key];exact .same H (.int _ _)
theorem aS(H:AEI ty φ E h w){x:O}{x':IN}{ats:Array yL}{t t' el:yL}(h0:ats[0]? =some t){ti:TI}(T:AEd P t ti)(hk:ti.k=.slice el)(hx:AED φ (x e) x')(hr:aR x F e h=.ok v h'):
  Bd ty φ E h w v h' ((AB6 ats t' #[x']).run P w):=by
 unfold aR at hr;split at hr
 case h_2=>cases hr
 rename_i hxe;rw[hxe]at hx;cases hr;obtain⟨d,hd,hkd⟩:=T.desc;rw[hk]at hkd;cases hkd;have key:(AB6 ats t' #[x']).run P w=.ok (goInt 0) w:=by
  cases hx<;>simp only[AB6,h0,xO,hd,If,xQ,xu,yA]<;>rfl
 rw[key];exact .same H (.int _ _)
theorem aj(H:AEI ty φ E h w){x:O}{x':IN}{ats:Array yL}{t t':yL}(h0:ats[0]? =some t){ti:TI}(T:AEd P t ti)(hk:ti.k=.string)(hx:AED φ (x e) x')(hr:N9 x F e h=.ok v h'):
  Bd ty φ E h w v h' ((yp ats t' #[x']).run P w):=by
 unfold N9 at hr;split at hr
 case h_2=>cases hr
 rename_i s hxe;rw[hxe]at hx;rw[Ao,Bf]at hr;cases hr;obtain⟨d,hd,hkd⟩:=T.desc;rw[hk]at hkd;cases hkd;obtain rfl:=hx.AEa;have key:(yp ats t' #[.string s]).run P w=.ok (goInt s.size) w:=by
  simp only[yp,h0,xO,hd,If,xQ,xu,yA]
 rw[key];exact .same H (.int _ _)
theorem ac(H:AEI ty φ E h w){x:O}{x':IN}{ats:Array yL}{t t' kt el:yL}(h0:ats[0]? =some t){ti:TI}(T:AEd P t ti)(hk:ti.k=.map kt el)(hx:AED φ (x e) x')
  (hE:∀ r,x e=.map (some r)->¬ E r)(hr:Q1 x F e h=.ok v h'):Bd ty φ E h w v h' ((yp ats t' #[x']).run P w):=by
 obtain⟨d,hd,hkd⟩:=T.desc;rw[hk]at hkd;cases hkd;unfold Q1 at hr;split at hr
 ·rename_i hxe
  rw[hxe]at hx;cases hr;cases hx;have key:(yp ats t' #[.map none]).run P w=.ok (goInt 0) w:=by
   simp only[yp,h0,xO,hd,If,xQ,xu,yA]
  rw[key];exact .same H (.int _ _)
 ·rename_i r hxe
  rw[hxe]at hx;cases hx with
  |@map _ p hp=>
   split at hr
   case h_2=>cases hr
   rename_i es c hes;rw[Ao,Bf]at hr;cases hr;obtain⟨es',hw,AEj⟩:=H.AFJ hp (hE r hxe) hes;have key:(yp ats t' #[.map (some p.blk)]).run P w=.ok (goInt es.length) w:=by
    simp only[yp,h0,xO,hd,If,xQ,xu,yA,B7 hw rfl];rw[<- AEj.length];rfl
   rw[key];exact .same H (.int _ _)
 ·cases hr
theorem iG{x':IN}{ats:Array yL}{t t' el:yL}{n:Nat}(h0:ats[0]? =some t){ti:TI}(T:AEd P t ti)(hk:ti.k=.arr n el):(yp ats t' #[x']).run P w=.ok (goInt n) w:=by
 obtain⟨d,hd,hkd⟩:=T.desc;rw[hk]at hkd;cases hkd;simp only[yp,h0,xO,hd,If,xQ,xu,yA]
theorem EB{b:Nat}{ob ob':Obj}(h1:w.heap[b]? =some ob)(h2:(match ob with|.cells .. =>true|_=>false)=false):
  (setObj b ob').run P w=.ok () {w with heap:=w.heap.setIfInBounds b ob'}:=by
 unfold setObj;simp only[Sem.run,h1];cases ob<;>first|rfl|cases h2
theorem FV(H:AEI ty φ E h w){r:Nat}{p:Pl}(hEr:¬ E r)(hp:φ r=some p)(hl:Live h r){o:Blk}{ob:Obj}{k:Hp->R}(hr:ET h r o k=.ok v h')(hsh:AEW (h.bl.get r) o)(hB:AFC ty φ p o (some ob)):
  ∃ h1,k h1=.ok v h'/\AEI ty φ E h1 {w with heap:=w.heap.setIfInBounds p.blk ob}/\Evo φ h w φ h1 {w with heap:=w.heap.setIfInBounds p.blk ob}:=by
 obtain⟨bl,AEM,hbl,hk⟩:=FU hr;have hlt:=(H.dom r p hp).2;have e1:(w.heap.setIfInBounds p.blk ob).size=w.heap.size:=by simp
 have e2:∀ k,k≠p.blk->(w.heap.setIfInBounds p.blk ob)[k]? =w.heap[k]?:=fun k hk=>by
  rw[zb,if_neg (ADz hk)]
 have e3:(w.heap.setIfInBounds p.blk ob)[p.blk]? =some ob:=by rw[zb,if_pos rfl,if_pos hlt]
 exact⟨_,hk,H.put hEr AEM hp hl hbl e1 e2 (by show AFC ty φ p o ((w.heap.setIfInBounds p.blk ob)[p.blk]?);rw[e3];exact hB),.put (H.AFD hp AEM) hp hl hbl hsh e1 e2 rfl rfl rfl⟩
theorem GV{r:Nat}{es:List Ent}{c:Nat}(hr:Bk h r=.ok es c):Live h r:=by
 unfold Live;rw[Fz hr];intro hd;cases hd
theorem PC(H:AEI ty φ E h w)(hE:∀ b,¬ E b){x:O}{x':IN}{ats:Array yL}{t t':yL}{ti:TI}(h0:ats[0]? =some t)(T:AEd P t ti)(hx:AED φ (x e) x')(hr:FS x F e h=.ok v h'):
  Bd ty φ E h w v h' ((yu ats t' #[x']).run P w):=by
 obtain⟨d,hd,_⟩:=T.desc;unfold FS at hr;split at hr
 ·rename_i hxe
  rw[hxe]at hx;cases hr;cases hx;have key:(yu ats t' #[.map none]).run P w=.ok AEE w:=by
   simp only[yu,h0,xO,hd,If,xQ,xu,yA];rfl
  rw[key];exact .same H (.tuple .nil)
 ·rename_i r hxe
  rw[hxe]at hx;cases hx with
  |@map _ p hp=>
   split at hr
   case h_2=>cases hr
   rename_i es c hes;obtain⟨es',hw,AEj⟩:=H.AFJ hp (hE r) hes;obtain⟨h1,hk,H1,ev⟩:=FV (ob:=.map #[] c) H (hE _) hp (GV hes) hr (by rw[Fz hes];exact .inr trivial) (.map .nil);cases hk;have key:(yu ats t' #[.map (some p.blk)]).run P w=.ok AEE {w with heap:=w.heap.setIfInBounds p.blk (.map #[] c)}:=by
    simp only[yu,h0,xO,hd,If,xQ,xu,yA,B7 hw rfl,EB hw rfl];rfl
   rw[key];exact⟨_,_,φ,rfl,.tuple .nil,H1,ev⟩
 ·cases hr
theorem Xx(H:AEI ty φ E h w)(hE:∀ b,¬ E b){x:O}{x':IN}{ats:Array yL}{t t' el:yL}{ti ei:TI}(h0:ats[0]? =some t)(T:AEd P t ti)(hk:ti.k=.slice el)(TE:AEd P el ei)(hz:ei.zero.length=ei.size)
  (hx:AED φ (x e) x')(hr:Mo ei.zero x F e h=.ok v h'):Bd ty φ E h w v h' ((yu ats t' #[x']).run P w):=by
 obtain⟨d,hd,hkd⟩:=T.desc;rw[hk]at hkd;cases hkd;obtain⟨z,_,hzr,hzc,hzp⟩:=TE.AFF hz;unfold Mo at hr;split at hr
 ·rename_i hxe
  rw[hxe]at hx;cases hr;cases hx;have key:(yu ats t' #[.slice none 0 0]).run P w=.ok AEE w:=by
   simp only[yu,h0,xO,hd,If,xQ,xu,yA];rfl
  rw[key];exact .same H (.tuple .nil)
 ·rename_i a n c hxe
  rw[hxe]at hx;cases hx with
  |@slice _ a' _ _ c' hlc hs=>
   cases n with
   |zero=>
    cases hr;have key:(yu ats t' #[.slice (some a') 0 c']).run P w=.ok AEE w:=by
     simp only[yu,h0,xO,hd,If,xQ,xu,yA];rfl
    rw[key];exact .same H (.tuple .nil)
   |succ n=>
    have AEj:AEX φ (Ba ei.zero (n+1)) (Ba ei.zero (n+1)):=Hn (.plain hzp) (n+1);obtain⟨h1,w1,hk2,hrun,H1,ev⟩:=II (P:=P) H hr (Kj hlc hs (Nat.succ_pos n)) AEj (hE _);cases hk2;have hc:(ABH z.cells (n+1)).toList=Ba ei.zero (n+1):=by rw[G3,hzc]
    have key:(yu ats t' #[.slice (some a') (n+1) c']).run P w=.ok AEE w1:=by
     simp only[yu,h0,xO,hd,If,xQ,xu,yA,hzr,hc,hrun];rfl
    rw[key];exact⟨_,_,φ,rfl,.tuple .nil,H1,ev⟩
 ·cases hr
theorem Xw(H:AEI ty φ E h w)(hE:∀ b,¬ E b){x:O}{x':IN}{t el:yL}{ti ei:TI}(T:AEd P t ti)(hk:ti.k=.slice el)(TE:AEd P el ei)(he:ei.k=.int .u8)(hx:AED φ (x e) x')(hr:TO x F e h=.ok v h'):
  Bd ty φ E h w v h' ((convert t t x').run P w):=by
 obtain⟨d,hd,hkd⟩:=T.und;rw[hk]at hkd;cases hkd;obtain⟨d3,h3,k3⟩:=TE.und;rw[he]at k3;cases k3;unfold TO at hr;split at hr
 case h_2=>cases hr
 rename_i a n c hxe;rw[hxe]at hx;have hx0:=hx;cases hx with
 |@slice _ a' _ _ c' hlc hs=>
  split at hr
  case h_2=>cases hr
  rename_i ct s en hrow;obtain⟨s1,s2,p,hp,hbl,hor⟩:=hs;obtain⟨cs,tt,fr,hw,R⟩:=H.rowAt hp (hE _) hrow;have AEx:Live h a.block:=by unfold Live;rw[DV hrow];intro hd;cases hd
  obtain⟨bl,AEM,AGM,hk2⟩:=FU hr;cases hk2
  let fr':Nat×Nat:=if fr.1 == fr.2 then(cs.size,cs.size+1)else(min fr.1 cs.size,max fr.2 (cs.size+1))
  let w':yJ:=w.freeze ⟨a'.block,cs.size,none⟩ 1
  have hf:∃ g:Obj->Obj,w'.heap=w.heap.modify p.blk g/\g (.cells cs tt fr)=.cells cs tt fr':=by
   obtain⟨lo,hi⟩:=fr;refine⟨_,by show(w.freeze ⟨a'.block,cs.size,none⟩ 1).heap=_;unfold ACD;rw[if_neg ABn,hbl],rfl⟩
  obtain⟨g,AGg,hg⟩:=hf;have e1:w'.heap.size=w.heap.size:=by rw[AGg];simp
  have e2:∀ k,k≠p.blk->w'.heap[k]? =w.heap[k]?:=fun k hk=>by
   rw[AGg,AAG,if_neg (ADz hk)]
  have e3:w'.heap[p.blk]? =some (.cells cs tt fr'):=by
   rw[AGg,AAG,if_pos rfl,hw,yx,hg]
  have e4:w'.tape=w.tape/\w'.os=w.os/\w'.output=w.output:=by
   show(w.freeze ⟨a'.block,cs.size,none⟩ 1).tape=_/\(w.freeze ⟨a'.block,cs.size,none⟩ 1).os=_/\(w.freeze ⟨a'.block,cs.size,none⟩ 1).output=_;unfold ACD;rw[if_neg ABn];exact⟨rfl,rfl,rfl⟩
  have hB:AFC ty φ p (.cells ct s en) w'.heap[p.blk]?:=by
   rw[e3];refine .cells {R with loose:=.inl ?_};have:=R.AJK (H.AFD hp AEM);show fr'.1=fr'.2\/cs.size<=fr'.1;refine .inr ?_;simp only[fr'];split
   ·exact IT _
   ·rename_i hne
    have AGf:fr.1≠fr.2:=by simpa using hne
    rcases this with h|h
    ·exact absurd h AGf
    ·show cs.size<=min fr.1 cs.size
     omega
  have key:(convert t t (.slice (some a') n c')).run P w=.ok (.slice (some a') n c') w':=by
   have hsh:w.shape? a'.block=some (tt,cs.size):=by rw[hbl];simp[ACC,hw]
   simp only[convert,xO,run_underlying hd,run_underlying h3,If,beq_self_eq_true,markStringish,run_shape,hsh,run_freeze,xQ];rfl
  rw[key];exact⟨_,w',φ,rfl,hx0,H.put (hE _) AEM hp AEx AGM e1 e2 hB,.put (H.AFD hp AEM) hp AEx AGM (by rw[DV hrow];exact .inr ⟨rfl,rfl⟩) e1 e2 e4.1 e4.2.1 e4.2.2⟩
end
end
noncomputable section
open Go
section
variable {P:yg}{ty:TTy}{φ:Phi}{E:Nat->Prop}{h h':Hp}{w:yJ}{F:AEB}{e:Env}{v:IN}
theorem N5(H:AEI ty φ E h w){o:Blk}{ob:Obj}(hr:GI h o It=.ok v h')
  (hB:AFC ty (φ.put h.next {blk:=w.heap.size,off:=0,sz:=0,room:=0,es:=1}) {blk:=w.heap.size,off:=0,sz:=0,room:=0,es:=1} o (some ob)):
  Bd ty φ E h w v h' (.ok (.pointer (some ⟨w.heap.size,0,none⟩)) {w with heap:=w.heap.push ob}):=by
 obtain⟨bl,hbl,hk⟩:=IB hr;cases hk
 let w':yJ:={w with heap:=w.heap.push ob}
 have hs:w'.heap.size=w.heap.size+1:=by simp[w']
 have hsame:∀ k,k<w.heap.size->w'.heap[k]? =w.heap[k]?:=fun k hk=>by
  show(w.heap.push _)[k]? =_;rw[Array.getElem?_push_lt hk,Array.getElem?_eq_getElem hk]
 refine⟨_,w',φ.put h.next {blk:=w.heap.size,off:=0,sz:=0,room:=0,es:=1},rfl,PN (Phi.AE0 _ _ _) rfl,
  H.new hbl (by omega) (by show w.heap.size<_;omega) (fun j q e _=>by have:=(H.dom j q e).2;show _≠w.heap.size;omega) (fun k hk _=>hsame k hk) ?_,
  .made H hbl (IT _) (by omega) hsame rfl rfl rfl⟩
 have:w'.heap[w.heap.size]? =some ob:=by show(w.heap.push _)[w.heap.size]? =_;simp
 rw[this];exact hB
theorem YA(H:AEI ty φ E h w)(hE:∀ b,¬ E b){x:O}{x':IN}{t kt el:yL}{ti:TI}(T:AEd P t ti)(hk:ti.k=.map kt el)(hx:AED φ (x e) x')(hr:Kb x F e h=.ok v h'):
  Bd ty φ E h w v h' ((AA7 t x').run P w):=by
 obtain⟨d,hd,hkd⟩:=T.desc;rw[hk]at hkd;cases hkd;unfold Kb at hr;split at hr
 ·rename_i hxe
  rw[hxe]at hx;cases hx;have key:(AA7 t (.map none)).run P w=.ok (.pointer (some ⟨w.heap.size,0,none⟩)) {w with heap:=w.heap.push (.mapIter none 0 #[] 0)}:=by
   simp only[AA7,xO,hd,If,xQ,run_newObj]
  rw[key];exact N5 H hr (.AFw rfl)
 ·rename_i r hxe
  rw[hxe]at hx;cases hx with
  |@map _ p hp=>
   split at hr
   case h_2=>cases hr
   rename_i es c hes;obtain⟨es',hw,AEj⟩:=H.AFJ hp (hE r) hes;have key:(AA7 t (.map (some p.blk))).run P w=.ok (.pointer (some ⟨w.heap.size,0,none⟩)) {w with heap:=w.heap.push (.mapIter (some p.blk) c #[] c)}:=by
    simp only[AA7,xO,hd,If,B7 hw rfl,xQ,run_newObj]
   rw[key];exact N5 H hr (.iter rfl (Phi.AFX H.AE3 _ _ hp))
 ·cases hr
theorem La(n:Nat):∀ l:List Nat,Fp n l=l.contains n
 |[]=>rfl
 |x::l=>by
  unfold Fp;rw[La n l,List.contains_cons];cases hb:xW x n with
  |true=>
   have:x=n:=Ax.1 hb;subst this;simp
  |false=>
   have:¬ n=x:=fun h=>by rw[h,zG]at hb;cases hb
   simp[this]
theorem M0(n:Nat):∀ l:List Nat,Jk n l=l++[n]
 |[]=>rfl
 |x::l=>congrArg (x:: ·) (M0 n l)
theorem Qi{since:Nat}{seen:List Nat}:∀ {es:List Ent} {es':List yc} {l:List Ent},AE7 φ es es'->K4 since seen es=some l->
  ∃ l',AE7 φ l l'/\es'.filter (fun e=> !seen.contains e.born)=l'/\l'.filter (fun e=>decide (e.born<since))=l'/\l'.filter (fun e=>decide (e.born>=since))=[]
 |_,_,l,.nil,h=>by cases h;exact⟨[],.nil,rfl,rfl,rfl⟩
 |_,_,l,.cons (b:=b) hk hv t,h=>by
  unfold K4 at h;split at h
  ·rename_i r hr
   obtain⟨l',h1,h2,h3,h4⟩:=Qi t hr;rw[La]at h;cases hm:seen.contains b with
   |true=>
    simp only[hm,cond_true]at h;cases h;exact⟨l',h1,by rw[AAp];simp only[hm,yT,yG,if_false];exact h2,h3,h4⟩
   |false=>
    simp only[hm,cond_false]at h;obtain⟨hb,h⟩:Nat.blt b since=true/\_=some l:=by
     cases hb:Nat.blt b since with
     |true=>rw[hb]at h;exact⟨rfl,h⟩
     |false=>rw[hb]at h;cases h
    cases h;have hlt:=BW.1 hb;refine⟨_,.cons hk hv h1,by rw[AAp];simp only[hm,yZ,if_true];rw[h2],?_,?_⟩
    ·rw[AAp];simp[hlt,h3]
    ·rw[AAp];simp[Nat.not_le.2 hlt,h4]
  ·cases h
theorem Kq{last:Nat}:∀ {es:List Ent} {es':List yc},AE7 φ es es'->es'.all (fun e=>decide (e.born>=last))=FW last es
 |_,_,.nil=>rfl
 |_,_,.cons (b:=b) hk hv t=>by
  unfold FW;rw[AAx,Kq t];cases hb:xU last b with
  |true=>simp[Au.1 hb]
  |false=>
   have:¬ last<=b:=fun h=>by rw[Au.2 h]at hb;cases hb
   simp[this]
theorem H7{b:Nat}{m:Option Nat}{s:Nat}{l:List Nat}{t:Nat}(hr:EO (h.bl.get b)=.ok m s l t):h.bl.get b=.iter m s l t:=by
 unfold EO at hr;split at hr<;>first|(cases hr;assumption)|cases hr
theorem pr{b m s t:Nat}(hr:EO (h.bl.get b)=.cur m s t):h.bl.get b=.cur m s t:=by
 unfold EO at hr;split at hr<;>first|(cases hr;assumption)|cases hr
theorem jh{b m s t:Nat}{sn:Option (List Nat)}(hr:EO (h.bl.get b)=.pick m s t sn):h.bl.get b=.pick m s t sn:=by
 unfold EO at hr;split at hr<;>first|(cases hr;assumption)|cases hr
theorem RE:AED φ (.tuple ⟨[.bool false]⟩) (.tuple #[.bool false]):=.tuple (.cons (.bool _) .nil)
theorem au(H:AEI ty φ E h w)(hE:∀ b,¬ E b){x:O}{x':IN}{t:yL}(hx:AED φ (x e) x')(hr:HD x F e h=.ok v h'):Bd ty φ E h w v h' ((zR x' false t).run P w):=by
 unfold HD at hr;split at hr
 case h_2=>cases hr
 rename_i a ha;obtain⟨hb,hr⟩:=Br hr;obtain⟨a',rfl,hra⟩:=Ft hx ha;obtain⟨p,hp,rfl⟩:=hra.eq;have hoff:a.off=0:=Ax.1 hb;unfold GW at hr;split at hr
 ·rename_i s l tl hit
  cases hr;have hrow:=H.row a.block p hp (hE _);rw[H7 hit]at hrow;generalize hw:w.heap[p.blk]? =ob at hrow;cases hrow with
  |AFw hp0=>
   have key:(zR (.pointer (some ⟨p.blk,p.off+a.off,none⟩)) false t).run P w=.ok (.tuple #[.bool false]) w:=by
    rw[hp0,hoff];simp only[zR,xO,B7 hw rfl,If,xQ]
   rw[key];exact .same H RE
 ·rename_i m since seen last hit
  have hrow:=H.row a.block p hp (hE _);rw[H7 hit]at hrow;generalize hw:w.heap[p.blk]? =ob at hrow;cases hrow with
  |@iter _ q _ _ _ hp0 hq=>
   split at hr
   case h_2=>cases hr
   rename_i es c hes;obtain⟨es',hwm,AEj⟩:=H.AFJ hq (hE m) hes;rw[hp0,hoff];have AHB:∃ k:R,k=.ok v h'/\(!(⟨seen⟩:Array Nat).isEmpty && !(⟨es'⟩:Array yc).isEmpty && (⟨es'⟩:Array yc).all (fun e=>decide (e.born>=last)))=false/\
     k=(match K4 since seen es with
      |some []=>bP h
      |some [x]=>ET h a.block (.iter (some m) since (Jk x.born seen) c) fun h=>.ok (.tuple ⟨[.bool true,x.key,x.val]⟩) h
      |_=>.no):=by
    have hall:(⟨es'⟩:Array yc).all (fun e=>decide (e.born>=last))=FW last es:=by
     rw[<- Kq AEj];simp
    cases seen with
    |nil=>exact⟨_,hr,by simp,rfl⟩
    |cons s0 sl=>
     cases AEj with
     |nil=>exact⟨_,hr,by simp,rfl⟩
     |cons hk hv tl=>
      simp only at hr;rw[hall];generalize hy:FW last _=y at hr ⊢;cases y with
      |true=>cases hr
      |false=>exact⟨_,hr,by simp,rfl⟩
   obtain⟨k,hk,hstop,rfl⟩:=AHB;cases hl:K4 since seen es with
   |none=>rw[hl]at hk;cases hk
   |some l=>
    rw[hl]at hk;obtain⟨l',q1,q2,q3,q4⟩:=Qi AEj hl;have f1:(⟨es'⟩:Array yc).filter (fun e=> !(⟨seen⟩:Array Nat).contains e.born)=⟨l'⟩:=by
     rw[<- q2];apply yj;simp
    have f2:(⟨l'⟩:Array yc).filter (fun e=>decide (e.born<since))=⟨l'⟩:=by
     apply yj;rw[ABN];exact q3
    have f3:(⟨l'⟩:Array yc).filter (fun e=>decide (e.born>=since))= #[]:=by
     apply yj;rw[ABN];exact q4
    cases q1 with
    |nil=>
     cases hk;have key:(zR (.pointer (some ⟨p.blk,0,none⟩)) false t).run P w=.ok (.tuple #[.bool false]) w:=by
      simp only[zR,xO,B7 hw rfl,If,B7 hwm rfl,hstop,yG,if_false,f1,f2,f3];simp[run_choose,AAl]
     have:p.off+a.off=0:=by omega
     rw[show(0:Nat)+0=0 from rfl,key];exact .same H RE
    |cons hkk hvv tl=>
     cases tl with
     |cons _ _ _=>cases hk
     |nil=>
      rename_i k0 k1 v0 v1 b0;have AEx:Live h a.block:=by unfold Live;rw[H7 hit];intro hd;cases hd
      simp only at hk;obtain⟨h1,hk2,H1,ev⟩:=FV (ob:=.mapIter (some q.blk) since ⟨seen++[b0]⟩ c) H (hE _) hp AEx hk (by rw[H7 hit];exact .inr trivial) (by rw[M0];exact .iter hp0 hq);cases hk2;have key:(zR (.pointer (some ⟨p.blk,0,none⟩)) false t).run P w=.ok (.tuple #[.bool true,k1,v1]) {w with heap:=w.heap.setIfInBounds p.blk (.mapIter (some q.blk) since ⟨seen++[b0]⟩ c)}:=by
       have AEp:=EB (P:=P) (ob':=.mapIter (some q.blk) since ⟨seen++[b0]⟩ c) hw rfl;simp only[zR,xO,B7 hw rfl,If,B7 hwm rfl,hstop,yG,if_false,f1,f2,f3];simp[run_choose,AAl,AEp]
      rw[key];exact⟨_,_,φ,rfl,.tuple (.cons (.bool _) (.cons hkk (.cons hvv .nil))),H1,ev⟩
 ·cases hr
 ·cases hr
 ·rename_i m s last hit
  have hrow:=H.row a.block p hp (hE _);rw[jh hit]at hrow;cases hrow
theorem Qh:∀ l:List Nat,Qg l=l.getLast?
 |[]=>rfl
 |[x]=>rfl
 |x::y::l=>by
  show Qg (y::l)=_;rw[Qh (y::l)];rfl
theorem QD{n:Nat}:∀ {es:List Ent} {es':List yc} {x:Ent},AE7 φ es es'->GP n es=some x->∃ x',es'.find? (fun e=>e.born == n)=some x'/\AED φ x.key x'.key/\AED φ x.val x'.val
 |_,_,x,.nil,h=>by cases h
 |_,_,x,.cons (k':=k') (v':=v') (b:=b) hk hv t,h=>by
  unfold GP at h;rw[List.find?_cons];cases hb:xW b n with
  |true=>
   simp only[hb,cond_true]at h;cases h;have:b=n:=Ax.1 hb;subst this;refine⟨⟨k',v',b⟩,?_,hk,hv⟩;simp only[beq_self_eq_true]
  |false=>
   simp only[hb,cond_false]at h;have hne:(b == n)=false:=by
    rw[beq_eq_false_iff_ne];intro he;rw[he,zG]at hb;cases hb
   obtain⟨x',q1,q2⟩:=QD t h;exact⟨x',by simp only[hne];exact q1,q2⟩
theorem Sv(H:AEI ty φ E h w)(hE:∀ b,¬ E b){m s last:Nat}{q:Pl}(hq:φ m=some q)(hr:H3 m s last h=.ok v h'):
  h'=h/\∃ (es':List yc) (c:Nat) (en':yc) (k0 v0:IN),w.heap[q.blk]? =some (.map ⟨es'⟩ c)/\c=last/\(⟨es'⟩:Array yc).find? (fun e=>e.born == s)=some en'/\v=.tuple ⟨[k0,v0]⟩/\AED φ k0 en'.key/\AED φ v0 en'.val:=by
 unfold H3 at hr;split at hr
 case h_2=>cases hr
 rename_i es c hes;obtain⟨hc,hr⟩:=Br hr;split at hr
 case h_2=>cases hr
 rename_i en hen;cases hr;obtain⟨es',hwm,AEj⟩:=H.AFJ hq (hE m) hes;obtain⟨en',q1,q2,q3⟩:=QD AEj hen;exact⟨rfl,es',c,en',_,_,hwm,Ax.1 hc,by rw[<- q1];simp,rfl,q2,q3⟩
theorem Xy(H:AEI ty φ E h w)(hE:∀ b,¬ E b){x:O}{x':IN}(hx:AED φ (x e) x')(hr:Ip x F e h=.ok v h'):Bd ty φ E h w v h' ((ABg x').run P w):=by
 unfold Ip at hr;split at hr
 case h_2=>cases hr
 rename_i a ha;obtain⟨hb,hr⟩:=Br hr;obtain⟨a',rfl,hra⟩:=Ft hx ha;obtain⟨p,hp,rfl⟩:=hra.eq;have hoff:a.off=0:=Ax.1 hb;have main:∀ {m s last:Nat} {q:Pl} {sn:Nat} {seen:List Nat},φ m=some q->p.off=0->w.heap[p.blk]? =some (.mapIter (some q.blk) sn ⟨seen⟩ last)->seen.getLast? =some s->H3 m s last h=.ok v h'->
   Bd ty φ E h w v h' ((ABg (.pointer (some ⟨p.blk,p.off+a.off,none⟩))).run P w):=by
  intro m s last q sn seen hq hp0 hw hl hr;obtain⟨rfl,es',c,en',k0,v0,hwm,rfl,hfind,rfl,q2,q3⟩:=Sv H hE hq hr;have AFp:(⟨seen⟩:Array Nat).back? =some s:=by
   rw[<- hl];simp[Array.back?_eq_getElem?,List.getLast?_eq_getElem?]
  rw[hp0,hoff];have key:(ABg (.pointer (some ⟨p.blk,0,none⟩))).run P w=.ok (.tuple #[en'.key,en'.val]) w:=by
   simp only[ABg,xO,B7 hw rfl,If,AFp,B7 hwm rfl,bne_self_eq_false,yG,if_false,hfind,xQ]
  rw[key];exact .same H (.tuple (.cons q2 (.cons q3 .nil)))
 unfold KI at hr;split at hr
 ·rename_i m since seen last hit
  have hrow:=H.row a.block p hp (hE _);rw[H7 hit]at hrow;generalize hw:w.heap[p.blk]? =ob at hrow;cases hrow with
  |@iter _ q _ _ _ hp0 hq=>
   split at hr
   case h_2=>cases hr
   rename_i st hst;exact main hq hp0 hw (by rw[<- Qh];exact hst) hr
 ·rename_i m st last hit
  have hrow:=H.row a.block p hp (hE _);rw[pr hit]at hrow;generalize hw:w.heap[p.blk]? =ob at hrow;cases hrow with
  |cur hp0 hq hl=>exact main hq hp0 hw hl hr
 ·cases hr
end
end
noncomputable section
open Go
section
variable {P:yg}{ty:TTy}{φ:Phi}{E:Nat->Prop}{h h':Hp}{w:yJ}{F:AEB}{e:Env}{v:IN}
theorem Ln{t:Nat}{k:KS->OpF}(hr:wKey ty t k F e h=.ok v h'):∃ ti kt el K,ty.get t=some ti/\ti.k=.map kt el/\AFA P ty kt K/\k K F e h=.ok v h':=by
 unfold wKey at hr;obtain⟨ti,hti,hr⟩:=Bl hr;cases hk:ti.k with
 |map kt el=>
  simp only[hk]at hr;obtain⟨ki,hki,hr⟩:=Bl hr;cases hf:flatK ty 8 kt with
  |none=>rw[hf]at hr;cases hr
  |some ks=>
   rw[hf]at hr;exact⟨ti,kt,el,⟨ki.k.agg,ks⟩,hti,hk,⟨⟨ki,hki,rfl⟩,hf⟩,hr⟩
 |_=>simp only[hk]at hr;cases hr
theorem AFA.und(hT:Cx P ty){t:Nat}{K:KS}(hK:AFA P ty t K):∃ d,P.underlying t=some d:=by
 obtain⟨ti,hti,_⟩:=hK.ti;obtain⟨d,hd,_⟩:=(hT t ti hti).und;exact⟨d,hd⟩
theorem O8{t:Nat}{ti:TI}(T:AEd P t ti){kt el:Nat}(hk:ti.k=.map kt el):P.underlying t=some (.map kt el):=by
 obtain⟨d,hd,hkd⟩:=T.und;rw[hk]at hkd;cases hkd;exact hd
theorem Eo{ok:Bool}{u:IN}{b:Bool}(hr:Dp ok u b h=.ok v h'):h'=h/\v=(if ok then .tuple ⟨[u,.bool b]⟩else u):=by
 unfold Dp at hr;cases ok<;>simp only[BK]at hr<;>cases hr<;>exact⟨rfl,rfl⟩
theorem EC{ok:Bool}{u u':IN}{b:Bool}(hu:AED φ u u'):AED φ (if ok then .tuple ⟨[u,.bool b]⟩else u) (if ok then .tuple #[u',.bool b]else u'):=by
 cases ok
 ·exact hu
 ·exact .tuple (.cons hu (.cons (.bool b) .nil))
theorem Ta(hT:Cx P ty)(H:AEI ty φ E h w){t kt el:Nat}{ti ei:TI}(T:AEd P t ti)(hk:ti.k=.map kt el)(TE:AEd P el ei)(hz:ei.zero.length=ei.size){z:IN}(hzv:zeroV ei=some z){K:KS}(hK:AFA P ty kt K)
  {ok:Bool}{x ix:O}{x' ix':IN}(hx:AED φ (x e) x')(hix:AED φ (ix e) ix')(hE:∀ r,x e=.map (some r)->¬ E r)(hr:Gn K z ok x ix F e h=.ok v h'):
  Bd ty φ E h w v h' ((zw t x' ix' ok).run P w):=by
 obtain⟨z0,hz0,hzr,_,hzp⟩:=TE.AFF hz;rw[hzv]at hz0;cases hz0;have AF7:AED φ z z:=by
  unfold zeroV at hzv;split at hzv
  ·cases hzv;exact .agg (.plain hzp)
  ·split at hzv
   ·rename_i u hu
    cases hzv;rw[hu]at hzp;simp only[AAx,ADW,ACB]at hzp;exact .plain hzp
   ·cases hzv
 obtain⟨kd,hkd⟩:=hK.und hT;have hu:=O8 T hk;unfold Gn H8 at hr;split at hr
 case h_2=>cases hr
 rename_i hfit;have he:=JN hfit hix;subst he;split at hr
 ·rename_i hxe
  rw[hxe]at hx;cases hx;obtain⟨rfl,rfl⟩:=Eo hr;have hf:(AB3 kt (ix e) []).run P w=.ok none w:=D6 hkd (by simp[yD]);have key:(zw t (.map none) (ix e) ok).run P w=.ok (if ok then .tuple #[z,.bool false]else z) w:=by
   simp only[zw,xO,run_underlying hu,If,xQ,hK.check hT hfit,hf,hzr]
  rw[key];exact .same H (EC AF7)
 ·rename_i r hxe
  rw[hxe]at hx;cases hx with
  |@map _ p hp=>
   split at hr
   case h_2=>cases hr
   rename_i es c hes;obtain⟨es',hw,AEj⟩:=H.AFJ hp (hE r hxe) hes;have AGG:=B7 (P:=P) hw rfl;split at hr
   ·rename_i en hfe
    obtain⟨rfl,rfl⟩:=Eo hr;obtain⟨j,u',hfa,hu'⟩:=ML hT hK hfit w 0 AEj hfe;have hf:=D6 hkd hfa;have key:(zw t (.map (some p.blk)) (ix e) ok).run P w=.ok (if ok then .tuple #[u',.bool true]else u') w:=by
     simp only[zw,xO,run_underlying hu,If,xQ,AGG,hK.check hT hfit,hf]
    rw[key];exact .same H (EC hu')
   ·rename_i hfe
    obtain⟨rfl,rfl⟩:=Eo hr;have hfa:=ML hT hK hfit w 0 AEj hfe;have hf:=D6 hkd hfa;have key:(zw t (.map (some p.blk)) (ix e) ok).run P w=.ok (if ok then .tuple #[z,.bool false]else z) w:=by
     simp only[zw,xO,run_underlying hu,If,xQ,AGG,hK.check hT hfit,hf,hzr]
    rw[key];exact .same H (EC AF7)
   ·cases hr
 ·cases hr
theorem TL(H:AEI ty φ E h w){t xt:Nat}{ti:TI}(T:AEd P t ti)(hk:ti.k≠.iface)(hz:ti.zero.length=ti.size){z:IN}(hzv:zeroV ti=some z){ok:Bool}{x:O}{x':IN}(hx:AED φ (x e) x')(hr:Lb t ok z x F e h=.ok v h'):
  Bd ty φ E h w v h' ((zV x' xt t ok).run P w):=by
 obtain⟨z0,hz0,hzr,_,hzp⟩:=T.AFF hz;rw[hzv]at hz0;cases hz0;have AF7:AED φ z z:=by
  unfold zeroV at hzv;split at hzv
  ·cases hzv;exact .agg (.plain hzp)
  ·split at hzv
   ·rename_i u hu
    cases hzv;rw[hu]at hzp;simp only[AAx,ADW,ACB]at hzp;exact .plain hzp
   ·cases hzv
 obtain⟨d,hd,hkd⟩:=T.und;unfold Lb at hr;split at hr
 ·rename_i hxe
  rw[hxe]at hx;cases hx with
  |nilIface=>
   cases ok with
   |false=>cases hr
   |true=>
    obtain⟨rfl,rfl⟩:=Eo hr;have key:(zV .nilIface xt t true).run P w=.ok (if true then .tuple #[z,.bool false]else z) w:=by
     simp only[zV,xO,run_underlying hd,If];cases d<;>first|(simp only[if_true,xO,hzr,If,xQ];done)|exact absurd rfl (hkd.AFb hk _)
    rw[key];exact .same H (EC AF7)
 ·rename_i u q hxe
  rw[hxe]at hx;cases hx with
  |@iface _ _ q' hq=>
   split at hr
   ·rename_i hb
    have hb:=Ax.1 hb;subst hb;obtain⟨rfl,rfl⟩:=Eo hr;have key:(zV (.iface u q') xt u ok).run P w=.ok (if ok then .tuple #[q',.bool true]else q') w:=by
     simp only[zV,xO,run_underlying hd,If];cases d<;>first|(simp only[if_true,xQ];done)|exact absurd rfl (hkd.AFb hk _)
    rw[key];exact .same H (EC hq)
   ·rename_i hb
    have hne:¬ u=t:=fun he=>by rw[Ax.2 he]at hb;cases hb
    cases ok with
    |false=>cases hr
    |true=>
     obtain⟨rfl,rfl⟩:=Eo hr;have key:(zV (.iface u q') xt t true).run P w=.ok (if true then .tuple #[z,.bool false]else z) w:=by
      simp only[zV,xO,run_underlying hd,If];cases d<;>first|(simp only[if_neg hne,if_true,xO,hzr,If,xQ];done)|exact absurd rfl (hkd.AFb hk _)
     rw[key];exact .same H (EC AF7)
 ·cases hr
theorem Ms(hT:Cx P ty)(H:AEI ty φ E h w)(hE:∀ b,¬ E b){t kt el:Nat}{ti:TI}(T:AEd P t ti)(hk:ti.k=.map kt el){K:KS}(hK:AFA P ty kt K)
  {m key x:O}{m' key' x':IN}(hm:AED φ (m e) m')(hkey:AED φ (key e) key')(hx:AED φ (x e) x')(hr:FI K m key x F e h=.ok v h'):
  Yd ty φ E h w v h' ((ABf t m' key' x').run P w):=by
 obtain⟨kd,hkd⟩:=hK.und hT;have hu:=O8 T hk;unfold FI at hr;simp only[BK]at hr;unfold Lm at hr;split at hr
 case h_2=>cases hr
 rename_i hfit;obtain⟨he,hkk⟩:=MN hfit hkey;subst he;split at hr
 case h_2=>cases hr
 rename_i r hme;rw[hme]at hm;cases hm with
 |@map _ p hp=>
  split at hr
  case h_2=>cases hr
  rename_i es c hes;obtain⟨es',hw,AEj⟩:=H.AFJ hp (hE r) hes;have AGG:=B7 (P:=P) hw rfl;split at hr
  ·rename_i es2 hse
   obtain⟨j,u',en,hfa,hen,hek,AGh⟩:=Lk hT hK hfit hx hkk w 0 AEj hse;have hf:=D6 hkd hfa;obtain⟨h1,hk1,H1,ev⟩:=FV (ob:=.map ⟨es'.modify (0+j) fun en=>{en with key:=key e,val:=x'}⟩ c) H (hE _) hp (GV hes) hr (by rw[Fz hes];exact .inr trivial) (.map (by rw[OF];exact AGh));cases hk1;refine⟨rfl,_,?_,H1,ev⟩;have AHv:(ACj (((⟨es'⟩:Array yc)[0+j]?.map (·.key)).getD (key e)) (key e)).run P w=.ok (key e) w:=by
    have:(⟨es'⟩:Array yc)[0+j]? =some en:=by rw[OF];simpa using hen
    rw[this];simp only[yx,Option.getD_some,hek];unfold ACj;rw[Xd hfit 9999];simp
   have AEp:=EB (P:=P) (ob':=.map ⟨es'.modify (0+j) fun en=>{en with key:=key e,val:=x'}⟩ c) hw rfl;simp only[ABf,xO,run_underlying hu,If,AGG,hK.check hT hfit,hf,AHv];rw[<- AEp];congr 3;apply yj;simp
  ·rename_i hse
   have hfa:=Lk hT hK hfit hx hkk w 0 AEj hse;have hf:=D6 hkd hfa;obtain⟨h1,hk1,H1,ev⟩:=FV (ob:=.map ⟨es'++[{key:=key e,val:=x',born:=c}]⟩ (c+1)) H (hE _) hp (GV hes) hr (by rw[Fz hes];exact .inr trivial) (.map (by rw[UC];exact AE7.append (.cons hkk hx .nil) AEj));cases hk1;refine⟨rfl,_,?_,H1,ev⟩;have AEp:=EB (P:=P) (ob':=.map ⟨es'++[{key:=key e,val:=x',born:=c}]⟩ (c+1)) hw rfl;simp only[ABf,xO,run_underlying hu,If,AGG,hK.check hT hfit,hf];rw[<- AEp];congr 2;simp
  ·cases hr
theorem TU(hT:Cx P ty)(H:AEI ty φ E h w)(hE:∀ b,¬ E b){ats:Array yL}{t' t kt el:Nat}{ti:TI}(h0:ats[0]? =some t)(T:AEd P t ti)(hk:ti.k=.map kt el){K:KS}(hK:AFA P ty kt K)
  {m key:O}{m' key':IN}(hm:AED φ (m e) m')(hkey:AED φ (key e) key')(hr:Lc K m key F e h=.ok v h'):
  Bd ty φ E h w v h' ((AAK ats t' #[m',key']).run P w):=by
 obtain⟨kd,hkd⟩:=hK.und hT;have hu:=O8 T hk;unfold Lc Uo at hr;split at hr
 case h_2=>cases hr
 rename_i hfit;obtain⟨he,hkk⟩:=MN hfit hkey;subst he;split at hr
 case h_2=>cases hr
 rename_i r hme;rw[hme]at hm;cases hm with
 |@map _ p hp=>
  split at hr
  case h_2=>cases hr
  rename_i es c hes;obtain⟨es',hw,AEj⟩:=H.AFJ hp (hE r) hes;have AGG:=B7 (P:=P) hw rfl;split at hr
  case h_2=>cases hr
  rename_i es2 hde;rcases Un hT hK hfit w 0 AEj hde with ⟨hfa,rfl⟩|⟨j,u',hfa,AGh⟩
  ·have hf:=D6 hkd hfa
   obtain⟨h1,hk1,H1,ev⟩:=FV (ob:=.map ⟨es'⟩ c) H (hE _) hp (GV hes) hr (by rw[Fz hes];exact .inr trivial) (.map AEj);cases hk1;have key:(AAK ats t' #[.map (some p.blk),key e]).run P w=.ok AEE {w with heap:=w.heap.setIfInBounds p.blk (.map ⟨es'⟩ c)}:=by
    simp only[AAK,h0,xu,yA,yW,xO,run_underlying hu,If,xQ,AGG,hK.check hT hfit,hf,EB hw rfl];rfl
   rw[key];exact⟨_,_,φ,rfl,.tuple .nil,H1,ev⟩
  ·have hf:=D6 hkd hfa
   obtain⟨h1,hk1,H1,ev⟩:=FV (ob:=.map ⟨es'.eraseIdx j⟩ c) H (hE _) hp (GV hes) hr (by rw[Fz hes];exact .inr trivial) (.map AGh);cases hk1;have AHC:(⟨es'⟩:Array yc).eraseIdxIfInBounds (0+j)=⟨es'.eraseIdx j⟩:=by
    apply yj;rw[OF];unfold Array.eraseIdxIfInBounds;split
    ·simp
    ·rename_i hj
     simp only;rw[List.eraseIdx_of_length_le (by simpa using hj)]
   have key:(AAK ats t' #[.map (some p.blk),key e]).run P w=.ok AEE {w with heap:=w.heap.setIfInBounds p.blk (.map ⟨es'.eraseIdx j⟩ c)}:=by
    simp only[AAK,h0,xu,yA,yW,xO,run_underlying hu,If,xQ,AGG,hK.check hT hfit,hf,AHC,EB hw rfl];rfl
   rw[key];exact⟨_,_,φ,rfl,.tuple .nil,H1,ev⟩
end
end
end Go.Proofs.YtbjadbhkogcfeaaGreat

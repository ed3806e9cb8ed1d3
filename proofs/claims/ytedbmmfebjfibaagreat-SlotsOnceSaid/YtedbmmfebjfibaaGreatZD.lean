/-
  Part ZD of what Lawsn stands on: printed by program, names and spaces cut.
-/
import Derived.Test.YtedbmmfebjfibaaGreatZC
import Derived.Laws.BytesString
import Derived.DeepKeys3
set_option linter.unusedSimpArgs false
set_option linter.unusedVariables false
namespace Go.Proofs.YtedbmmfebjfibaaGreat
noncomputable section
open Go
section
variable {P:Program}{ty:TTy}{φ:Phi}{E:Nat→Prop}{h h':Hp}{w:World}{F:CallF}{e:Env}{v:Value}
theorem XO{esize en:Nat}{base:Option Addr}{sc need:Nat}{cs:List Value}(hr:IW esize en base sc need cs h=.ok v h'):
  ∃ (t:VT) (m:Nat),(∀ j,j<cs.length→t.get j=cs.getD j undef)∧m=cs.length∧EZ esize en base sc need t m h=.ok v h':=by
 unfold IW at hr
 split at hr
 case h_2=>cases hr
 rename_i c hset
 exact⟨c,_,H9 hset,BQ _,hr⟩
open Classical in
theorem PL{esize en:Nat}{base:Option Addr}{sl sc need:Nat}{news:List Value}
  (hr:GS esize en base sl sc need news h (BN h esize (.slice base sl sc) sl fun olds=>IW esize en base sc need (olds++news) h)=.ok v h'):
  ∃ G:List Value→R,BN h esize (.slice base sl sc) sl G=.ok v h'∧∀ olds,G olds=.ok v h'→∃ (t:VT) (m:Nat),(∀ j,j<(olds++news).length→t.get j=(olds++news).getD j undef)∧
   m=(olds++news).length∧EZ esize en base sc need t m h=.ok v h':=by
 have slow:BN h esize (.slice base sl sc) sl (fun olds=>IW esize en base sc need (olds++news) h)=.ok v h'→
   ∃ G:List Value→R,BN h esize (.slice base sl sc) sl G=.ok v h'∧∀ olds,G olds=.ok v h'→∃ (t:VT) (m:Nat),(∀ j,j<(olds++news).length→t.get j=(olds++news).getD j undef)∧
    m=(olds++news).length∧EZ esize en base sc need t m h=.ok v h':=fun hr=>⟨_,hr,fun olds h=>XO h⟩
 unfold GS at hr
 split at hr
 ·exact slow hr
 ·rename_i _ a
  split at hr
  ·rename_i hoff
   split at hr
   ·rename_i c sz ec hrow
    split at hr
    ·rename_i hb
     have hsz:sz=sl * esize:=Ap.1 hb
     split at hr
     case h_2=>cases hr
     rename_i t hset
     refine⟨fun olds=>if olds=rowL c 0 sz then EZ esize en (some a) sc need t (Nat.add sz (BB news)) h else .no,?_,fun olds ho=>?_⟩
     ·unfold BN
      simp only[hrow,hoff]
      have hle:Nat.ble (Nat.add 0 (Nat.mul sl esize)) sz=true:=Al.2 (by show 0+sl * esize≤sz;omega)
      rw[hle,FP,List.append_nil]
      have:Nat.mul sl esize=sz:=hsz.symm
      rw[this]
      simp only[cond_true,if_true]
      exact hr
     ·by_cases he:olds=rowL c 0 sz
      ·simp only[he,if_true]at ho
       subst he
       refine⟨t,_,fun j hj=>?_,?_,ho⟩
       ·have hl:(rowL c 0 sz).length=sz:=FW c 0 sz
        rw[GJ _ _ _ _ hset j,List.getD_eq_getElem?_getD (l:=rowL c 0 sz++news)]
        rw[List.length_append,hl]at hj
        rcases Nat.lt_or_ge j sz with hjs|hjs
        ·rw[if_neg (by omega),List.getElem?_append_left (by omega)]
         simp[rowL,hjs]
        ·rw[if_pos (by omega),List.getElem?_append_right (by omega),hl,← List.getD_eq_getElem?_getD]
       ·rw[List.length_append,FW,BQ];rfl
      ·simp only[he,if_false]at ho;cases ho
    ·exact slow hr
   ·exact slow hr
  ·exact slow hr
def CF(elem:TypeId)(size:Nat)(base:Option Addr)(s:Value)(sLen sCap n:Nat)(zeros:Bool)(x:Value)(appended:Sem (Array Value)):Sem Value:=do
 let need:=sLen+n
 if need≤sCap then
  let new ← appended
  if let some a:=base then storeCells (a.add (sLen * size)) new.toList
  pure (.slice base need sCap)
 else
  if(need:Int) > IntKind.i64.max∧(zeros∨(← typeInfo elem).bytes=0)then runtimePanic (.error "growslice: len out of range")
  if Builtin.nextslicecap need sCap * (← typeInfo elem).bytes > 2 ^ 48 then(if zeros then runtimePanic (.error "growslice: len out of range")else do
   if !(← Builtin.mayShare size sLen n base x)then mark .noRoom
   unsupported (.resourceLimit "append: a slice or a string whose bytes no memory bears"))
  let newCap ← choose (.appendCap need sCap elem)
  askRoom (newCap * (← typeInfo elem).bytes)
  let old ← Builtin.firstCells size sLen s
  let new ← appended
  let rest:=Builtin.zeroCells (← zeroValue elem).cells (newCap - need)
  pure (.slice (some (← Go.newRow elem (old++new++rest))) need newCap)
theorem Hb(H:RelW ty φ E h w)(hE:∀ b,¬ E b){en:Nat}{ei:TI}(hty:ty.get en=some ei)(TE:TyOk P en ei)(hes:0<ei.size)(hz:ei.zero.length=ei.size)
  {base base':Option Addr}{sl sc sc' n:Nat}(hs:RelV φ (.slice base sl sc) (.slice base' sl sc')){zeros:Bool}{x':Value}{appended:Sem (Array Value)}{news news':List Value}
  (hn:RelL φ news news')(hnl:news.length=n * ei.size)(happ:∀ w':World,w'.heap=w.heap→appended.run P w'=.ok ⟨news'⟩ w')
  (hr:(∃ k,sl+n≤sc∧k=(match base with
    |none=>(.ok (.slice none (sl+n) sc) h:R)
    |some a=>Cb (Eg a (sl * ei.size)) news h fun h=>.ok (.slice (some a) (sl+n) sc) h)∧k=.ok v h')∨
   (sc<sl+n∧Nat.ble (Nat.mul (Nat.succ (sl+n)) (Nat.succ ei.bytes)) Ic=true∧Bh news=true∧
    ∃ G:List Value→R,BN h ei.size (.slice base sl sc) sl G=.ok v h'∧∀ olds,G olds=.ok v h'→∃ (t:VT) (m:Nat),(∀ j,j<(olds++news).length→t.get j=(olds++news).getD j undef)∧
     m=(olds++news).length∧EZ ei.size en base sc (sl+n) t m h=.ok v h')):
  BU ty φ E h w v h' ((CF en ei.size base' (.slice base' sl sc') sl sc' n zeros x' appended).run P w):=by
 obtain⟨inf,hinf,hsz,hbt,_⟩:=TE.info
 obtain⟨z,_,hzr,hzc,hzp⟩:=TE.zeroOk hz
 have hzs:z.cells.size=ei.size:=by rw[← hz,← hzc];simp
 rcases hr with ⟨k,hle,rfl,hr⟩|⟨hlt,hmost,hone,G,hr,hG⟩
 ·cases hs with
  |slice0=>
   cases hr
   have:n=0:=by omega
   subst this
   have key:(CF en ei.size none (.slice none 0 0) 0 0 0 zeros x' appended).run P w=.ok (.slice none 0 0) w:=by
    simp only[CF,Nat.le_refl,if_true,Sem.run_bind,happ w rfl,Result.andThen_ok,Sem.run_pure]
   rw[key];exact .same H .slice0
  |@slice a a' _ _ _ hlc hs=>
   simp only at hr
   have h0:sc=0→news=[]:=fun h0=>List.length_eq_zero_iff.1 (by
    have:n=0:=by omega
    rw[hnl,this,Nat.zero_mul])
   obtain⟨h1,w1,hk,hrun,H1,ev⟩:=Vm (P:=P) H hE hs h0 hr hn
   cases hk
   have hcc:sl+n≤sc':=Nat.le_trans hle hs.le
   have key:(CF en ei.size (some a') (.slice (some a') sl sc') sl sc' n zeros x' appended).run P w=.ok (.slice (some a') (sl+n) sc') w1:=by
    simp only[CF,hcc,if_true,Sem.run_bind,happ w rfl,Result.andThen_ok,hrun,Sem.run_pure]
   rw[key]
   exact⟨_,_,φ,rfl,.slice hle hs,H1,ev⟩
 ·have hs0:=hs
  obtain⟨olds,olds',hr,ho,hrun,hl1,hl2,hcell⟩:=FX (P:=P) H (fun _ _ _ _=>hE _) hs hr (fun m hm=>by cases hm;exact Nat.le_refl _)
  obtain⟨tr,tn,hT,hN,hr⟩:=hG olds hr
  have hone':=Hi hn hone
  obtain⟨hm1,hm2⟩:=Tf hmost
  have hol:olds.length=sl * ei.size:=by
   rw[← ho.length]
   cases base' with
   |none=>cases hs;have:=hrun w rfl;simp only[Builtin.firstCells,Sem.run_pure]at this;cases this;simp
   |some a'=>exact hl1 a' sl sc' rfl
  have hnl2:(olds++news).length=(sl+n) * ei.size:=by rw[List.length_append,hol,hnl,Nat.add_mul]
  obtain⟨hfar,hnear⟩:=XP (P:=P) H hE hty hes hs hlt ho hn hol hnl2 hone' (fun a a' ha ha' hpos=>hcell a sl sc (by rw[ha]) hpos) hT hN hr
  rcases Nat.lt_or_ge sc' (sl+n)with hroom|hroom
  ·
   let q:Question:=.appendCap (sl+n) sc' en
   let c:Nat:=q.cut (w.tape w.drawn q)
   let w1:World:={w with drawn:=w.drawn+1}
   have hc:sl+n≤c:=Nat.le_add_right _ _
   have hrl:(BI z.cells.toList (c - (sl+n))).length=(c - (sl+n)) * ei.size:=by rw[FV];simp[hzs]
   obtain⟨ψ,hv,H2,ev⟩:=hfar c (BI z.cells.toList (c - (sl+n))) hc hrl {w1 with heap:=w.heap.push (.cells ⟨(olds'++news')++BI z.cells.toList (c - (sl+n))⟩ en)} hroom rfl rfl rfl rfl
   have hbig:¬ ((sl+n:Nat):Int) > IntKind.i64.max:=by
    have:IntKind.i64.max=9223372036854775807:=by decide
    rw[this];omega
   have hnx:¬ (Builtin.nextslicecap (sl+n) sc' * ei.bytes > 2 ^ 48):=by
    have h1:=ba hroom
    have h2:Builtin.nextslicecap (sl+n) sc' * ei.bytes≤(2 * (sl+n)) * ei.bytes:=Nat.mul_le_mul_right _ h1
    have h3:(2 * (sl+n)) * ei.bytes≤(2 * (sl+n+1)) * (ei.bytes+1):=Nat.mul_le_mul (by omega) (by omega)
    have h4:(2 * (sl+n+1)) * (ei.bytes+1)=2 * ((sl+n+1) * (ei.bytes+1)):=by rw[Nat.mul_assoc]
    omega
   have hnle:¬ (sl+n≤sc'):=by omega
   have key:(CF en ei.size base' (.slice base' sl sc') sl sc' n zeros x' appended).run P w=.ok (.slice (some ⟨w.heap.size,0,none⟩) (sl+n) c)
     {w1 with heap:=w.heap.push (.cells ⟨(olds'++news')++BI z.cells.toList (c - (sl+n))⟩ en)}:=by
    have ho1:=hrun w1 rfl
    have hn1:=happ w1 rfl
    have hforced:q.forced=false:=rfl
    simp only[CF,hnle,if_false,Sem.run_bind,run_typeInfo _ hinf,Result.andThen_ok,hbig,false_and,Sem.run_pure,hbt,hnx,Sem.run_ite,run_choose,hforced,Bool.false_eq_true,run_askRoom]
    show((Builtin.firstCells ei.size sl (.slice base' sl sc')).run P w1).andThen _=_
    rw[ho1]
    simp only[Result.andThen_ok]
    show(appended.run P w1).andThen _=_
    rw[hn1]
    have earr:∀ a b:List Value,(⟨a⟩:Array Value)++(⟨b⟩:Array Value)=⟨a++b⟩:=fun a b=>by apply Array.ext';simp
    simp only[Result.andThen_ok,hzr,GN,Go.newRow,Sem.run_bind,run_newObj,Sem.run_pure,earr]
    rfl
   rw[key]
   exact⟨_,_,ψ,rfl,hv,H2,ev⟩
  ·
   cases base' with
   |none=>cases hs;omega
   |some a'=>
    obtain⟨w',ψ,hst,hv,H2,ev⟩:=hnear a' rfl hroom
    have key:(CF en ei.size (some a') (.slice (some a') sl sc') sl sc' n zeros x' appended).run P w=.ok (.slice (some a') (sl+n) sc') w':=by
     simp only[CF,hroom,if_true,Sem.run_bind,happ w rfl,Result.andThen_ok,hst,Sem.run_pure]
    rw[key]
    exact⟨_,_,ψ,rfl,hv,H2,ev⟩
theorem I8{ats:Array TypeId}{dt st t el:TypeId}(h0:ats[0]? =some dt)(h1:ats[1]? =some st){ti xi:TI}(T:TyOk P dt ti)(hk:ti.k=.slice el)(TX:TyOk P st xi)(hx:(∃ q,xi.k=.slice q)∨xi.k=.string){ei:TI}(TE:TyOk P el ei){base:Option Addr}{sl sc n:Nat}{x:Value}
  (hn:(Builtin.lenOf x).run P w=.ok n w):
  (Builtin.append_ ats t #[.slice base sl sc,x]).run P w=(CF el ei.size base (.slice base sl sc) sl sc n false x (Builtin.firstCells ei.size n x)).run P w:=by
 obtain⟨d,hd,hkd⟩:=T.desc
 rw[hk]at hkd
 cases hkd
 obtain⟨dx,hdx,hkx⟩:=TX.desc
 rcases hx with ⟨q,hx⟩|hx<;>rw[hx]at hkx<;>cases hkx<;>
 ·unfold Builtin.append_ CF
  simp only[Sem.run_bind,hd,Result.andThen_ok,TE.size,Sem.run_pure,h0,h1,List.getElem?_toArray,List.getElem?_cons_zero,List.getElem?_cons_succ,hdx,Bool.false_eq_true,if_false,hn,Bool.not_false,if_true]
  rfl
theorem Lk(H:RelW ty φ E h w)(hE:∀ b,¬ E b){s x:O}{s' x':Value}{ats:Array TypeId}{dt st t el:TypeId}(h0:ats[0]? =some dt)(h1:ats[1]? =some st){ti xi ei:TI}(T:TyOk P dt ti)(hk:ti.k=.slice el)(TX:TyOk P st xi)(hxk:(∃ q,xi.k=.slice q)∨xi.k=.string)
  (hty:ty.get el=some ei)(TE:TyOk P el ei)(hes:0<ei.size)(hz:ei.zero.length=ei.size)
  (hs:RelV φ (s e) s')(hx:RelV φ (x e) x')(hr:A9 ei.size ei.bytes el s x F e h=.ok v h'):BU ty φ E h w v h' ((Builtin.append_ ats t #[s',x']).run P w):=by
 unfold A9 DM at hr
 split at hr
 case h_2=>cases hr
 rename_i base sl sc hse
 rw[hse]at hs
 split at hr
 case h_2=>cases hr
 rename_i n hn
 obtain⟨news,news',hr,hnr,hrun,hl1,hl2,_⟩:=FX (P:=P) H (fun _ _ _ _=>hE _) hx hr (fun m hm=>by rw[hn]at hm;cases hm;exact Nat.le_refl _)
 rw[Ai]at hr
 have hlen:=Pg (P:=P) (w:=w) hx hn
 have hb:∃ base' sc',s'=.slice base' sl sc':=by
  cases hs
  ·exact⟨_,_,rfl⟩
  ·exact⟨_,_,rfl⟩
 obtain⟨base',sc',rfl⟩:=hb
 rw[I8 h0 h1 T hk TX hxk TE hlen]
 have hnl:news.length=n * ei.size:=by
  rw[← hnr.length]
  cases x' with
  |string s=>obtain⟨q1,q2⟩:=hl2 s rfl;rw[q1,q2,Nat.mul_one]
  |slice a l c=>
   cases a with
   |some a=>exact hl1 a l c rfl
   |none=>
    have:=hrun w rfl
    simp only[Builtin.firstCells,Sem.run_pure]at this
    cases this
    have hn0:n=0:=by
     generalize x e=xv at hx hn
     cases hx
     ·unfold lenV at hn;cases hn;rfl
     ·unfold lenV at hn;cases hn
    rw[hn0];simp
  |_=>have:=hrun w rfl;simp only[Builtin.firstCells]at this;cases this
 refine Hb (P:=P) H hE hty TE hes hz hs hnr hnl hrun ?_
 split at hr
 ·rename_i hb
  refine .inl ⟨_,Al.1 hb,rfl,?_⟩
  exact hr
 ·rename_i hb
  obtain⟨hm,hr⟩:=Bq hr
  obtain⟨hone,hr⟩:=Bq hr
  refine .inr ⟨?_,hm,hone,PL hr⟩
  rcases Nat.lt_or_ge sc (sl+n)with h|h
  ·exact h
  ·exact absurd (Al.2 (show Nat.add sl n≤sc from h)) (by rw[hb];simp)
theorem KA{ats:Array TypeId}{dt st t el:TypeId}(h0:ats[0]? =some dt)(h1:ats[1]? =some st){ti xi:TI}(T:TyOk P dt ti)(hk:ti.k=.slice el)(TX:TyOk P st xi){q:IntKind}(hx:xi.k=.int q){ei:TI}(TE:TyOk P el ei){base:Option Addr}{sl sc n:Nat}{q':IntKind}
  (hn1:n≤70368744177664)(hn2:n * ei.bytes≤70368744177664):
  (Builtin.append_ ats t #[.slice base sl sc,.int q' (n:Nat)]).run P w=(CF el ei.size base (.slice base sl sc) sl sc n true (.int q' (n:Nat))
   (if n * ei.size=0 then pure #[]else do pure (Builtin.zeroCells (← zeroValue el).cells n))).run P w:=by
 obtain⟨d,hd,hkd⟩:=T.desc
 rw[hk]at hkd
 cases hkd
 obtain⟨dx,hdx,hkx⟩:=TX.desc
 rw[hx]at hkx;cases hkx
 obtain⟨inf,hinf,hsz,hbt,_⟩:=TE.info
 have w1:IntKind.i64.wrap (n:Int)=n:=G9 (by omega)
 have q0:¬ ((n:Int)<0):=by omega
 have q1:¬ ((n:Int) * (ei.bytes:Int) > 2 ^ 48):=by rw[← Int.natCast_mul];omega
 unfold Builtin.append_ CF
 simp only[Sem.run_bind,hd,Result.andThen_ok,TE.size,Sem.run_pure,List.getElem?_toArray,List.getElem?_cons_zero,List.getElem?_cons_succ,h0,h1,hdx,if_true,asInt,asIntOf,w1,q0,if_false,run_typeInfo _ hinf,hbt,q1,Int.toNat_natCast,Bool.not_true,Bool.false_eq_true]
 rfl
theorem Pu(H:RelW ty φ E h w)(hE:∀ b,¬ E b){s x:O}{s' x':Value}{ats:Array TypeId}{dt st t el:TypeId}(h0:ats[0]? =some dt)(h1:ats[1]? =some st){ti xi ei:TI}(T:TyOk P dt ti)(hk:ti.k=.slice el)(TX:TyOk P st xi){q:IntKind}(hxk:xi.k=.int q)
  (hty:ty.get el=some ei)(TE:TyOk P el ei)(hes:0<ei.size)(hz:ei.zero.length=ei.size)
  (hs:RelV φ (s e) s')(hx:RelV φ (x e) x')(hr:Ec ei.size ei.bytes el ei.zero s x F e h=.ok v h'):BU ty φ E h w v h' ((Builtin.append_ ats t #[s',x']).run P w):=by
 unfold Ec HC at hr
 split at hr
 case h_2=>cases hr
 rename_i base sl sc hse
 rw[hse]at hs
 split at hr
 case h_2=>cases hr
 rename_i n hn
 obtain⟨q',rfl⟩:=Du hx hn
 rw[Ai]at hr
 have hb:∃ base' sc',s'=.slice base' sl sc':=by
  cases hs
  ·exact⟨_,_,rfl⟩
  ·exact⟨_,_,rfl⟩
 obtain⟨base',sc',rfl⟩:=hb
 obtain⟨hm,hr⟩:=Bq hr
 obtain⟨hone,hr⟩:=Bq hr
 obtain⟨hm1,hm2⟩:=Tf hm
 have hm1':sl+n≤70368744177664:=hm1
 have hm2':(sl+n+1) * (ei.bytes+1)≤70368744177664:=hm2
 have hnb:n * ei.bytes≤(sl+n+1) * (ei.bytes+1):=Nat.mul_le_mul (by omega) (by omega)
 rw[KA h0 h1 T hk TX hxk TE (by omega) (by omega)]
 obtain⟨z,_,hzr,hzc,hzp⟩:=TE.zeroOk hz
 have hzs:z.cells.size=ei.size:=by rw[← hz,← hzc];simp
 have hrel:RelL φ (BI ei.zero n) (BI ei.zero n):=G3 (.plain hzp) n
 have hnl:(BI ei.zero n).length=n * ei.size:=by rw[FV,hz]
 have hones:Bh (BI ei.zero n)=true:=by
  have app:∀ a b:List Value,Bh a=true→Bh b=true→Bh (a++b)=true:=by
   intro a
   induction a with
   |nil=>intro b _ h;exact h
   |cons u a ih=>
    intro b h1 h2
    unfold Bh at h1
    cases hu:A0 u with
    |false=>rw[hu]at h1;cases h1
    |true=>
     rw[hu]at h1
     show(bif A0 u then Bh (a++b)else false)=true
     rw[hu];exact ih b h1 h2
  have:∀ n,Bh (BI ei.zero n)=true:=by
   intro n
   induction n with
   |zero=>rfl
   |succ n ih=>exact app _ _ hone ih
  exact this n
 refine Hb (P:=P) H hE hty TE hes hz hs hrel hnl (fun w' _=>?_) ?_
 ·by_cases h0:n * ei.size=0
  ·rw[if_pos h0]
   have:BI ei.zero n=[]:=List.length_eq_zero_iff.1 (by rw[hnl,h0])
   rw[this];rfl
  ·rw[if_neg h0]
   simp only[Sem.run_bind,hzr,Result.andThen_ok,GN,hzc,Sem.run_pure]
 ·split at hr
  ·rename_i hb
   exact .inl ⟨_,Al.1 hb,rfl,hr⟩
  ·rename_i hb
   refine .inr ⟨?_,hm,hones,PL hr⟩
   rcases Nat.lt_or_ge sc (sl+n)with h|h
   ·exact h
   ·exact absurd (Al.2 (show Nat.add sl n≤sc from h)) (by rw[hb];simp)
end
end
noncomputable section
open Go
section
variable {P:Program}{ty:TTy}{φ:Phi}{E:Nat→Prop}{h h':Hp}{w:World}{F:CallF}{e:Env}{v:Value}
theorem Kw:∀ {cs cs':List Value} {bs:List UInt8},RelL φ cs cs'→EO cs=some bs→
  ∃ ns:List Int,cs'=ns.map (Value.int .u8)∧∀ s:ByteArray,(ns.foldl (fun r n=>r.push (UInt8.ofNat n.toNat)) s).data.toList=s.data.toList++bs
 |_,_,bs,.nil,hb=>by
  cases hb
  exact⟨[],rfl,fun s=>by simp⟩
 |_,_,bs,.cons (v:=u) (v':=u') (l:=l) (l':=l') hu t,hb=>by
  unfold EO at hb
  split at hb
  ·cases ‹_::_=[]›
  ·rename_i n l2 heq
   injection heq with h1 h2
   subst h1;subst h2
   split at hb
   ·rename_i bs' hbs
    rw[Ai]at hb
    cases hb
    obtain⟨ns,hns,hf⟩:=Kw t hbs
    have:=hu.int_inv
    subst this
    refine⟨(n:Int)::ns,by rw[hns];rfl,fun s=>?_⟩
    rw[List.foldl_cons,hf]
    simp
   ·cases hb
  ·cases hb
theorem VV(H:RelW ty φ E h w){x:O}(hE:∀ a l c,x e=.slice (some a) l c→¬ E a.block){x':Value}{src dst el:TypeId}{si di ei:TI}(TS:TyOk P src si)(hs:si.k=.slice el)(TD:TyOk P dst di)(hd:di.k=.string)(TE:TyOk P el ei)(he:ei.k=.int .u8)
  (hx:RelV φ (x e) x')(hr:E4 x F e h=.ok v h'):BU ty φ E h w v h' ((convert src dst x').run P w):=by
 obtain⟨d1,h1,k1⟩:=TS.und
 obtain⟨d2,h2,k2⟩:=TD.und
 obtain⟨d3,h3,k3⟩:=TE.und
 rw[hs]at k1;cases k1
 rw[hd]at k2;cases k2
 rw[he]at k3;cases k3
 unfold E4 at hr
 split at hr
 case h_2=>cases hr
 rename_i a n c hxe
 rw[hxe]at hx
 have hx0:=hx
 obtain⟨cs,cs',hr,hcs,hrun,hl1,hl2,_⟩:=FX (P:=P) H (fun a l c heq=>by cases heq;exact hE _ _ _ hxe) hx hr (fun m hm=>by cases hm;exact Nat.le_refl _)
 split at hr
 case h_2=>cases hr
 rename_i bs hbs
 cases hr
 obtain⟨ns,hns,hf⟩:=Kw hcs hbs
 have hempty:=hf ByteArray.empty
 have hdat:=Gb (a:=ns.foldl (fun r n=>r.push (UInt8.ofNat n.toNat)) ByteArray.empty) (l:=bs) (by rw[hempty];rfl)
 cases hx with
 |slice0=>
  rw[run_convert_bytes_string w src dst el none 0 0 h1 h3 h2]
  have:=hrun w rfl
  simp only[Builtin.firstCells,Sem.run_pure]at this
  have hcs0:cs'=[]:=by cases this;rfl
  have hns0:ns=[]:=by
   rw[hcs0]at hns
   cases ns with
   |nil=>rfl
   |cons _ _=>cases hns
  subst hns0
  rw[← hdat]
  exact .same H (.string _)
 |@slice _ a' _ _ c' hlc hsl=>
  rw[run_convert_bytes_string w src dst el (some a') n c' h1 h3 h2]
  have hld:(loadCells a' n).run P w=.ok (ns.map (Value.int .u8)).toArray w:=by
   have:=hrun w rfl
   rw[hns]at this
   simp only[Builtin.firstCells,Nat.mul_one]at this
   exact this
  rw[run_bytesToString w a' n c' ns hld,hdat]
  exact .same H (.string _)
theorem Po(A:Array Obj)(x:Obj)(f:Obj→Obj):(A.push x).modify A.size f=A.push (f x):=by
 apply Array.ext_getElem?
 intro i
 rw[Array.getElem?_modify,Array.getElem?_push,Array.getElem?_push]
 by_cases hi:i=A.size
 ·subst hi;simp
 ·rw[if_neg (Ne.symm hi),if_neg hi,if_neg hi]
theorem Xl(w:World)(A:Array Value)(el:TypeId):(markStringish ⟨w.heap.size,0,none⟩).run P {w with heap:=w.heap.push (.cells A el)}=
  .ok () {w with heap:=w.heap.push (.cells A el (A.size,A.size+1))}:=by
 have hs:World.shape? {w with heap:=w.heap.push (.cells A el)} w.heap.size=some (el,A.size):=by simp[World.shape?]
 simp only[markStringish,Sem.run_bind,run_shape,Result.andThen_ok,hs,run_freeze,World.freeze,Nat.one_ne_zero,if_false,Po]
 rfl
theorem P9(H:RelW ty φ E h w){x:O}{x':Value}{src dst el:TypeId}{si di ei:TI}(TS:TyOk P src si)(hs:si.k=.string)(TD:TyOk P dst di)(hd:di.k=.slice el)(TE:TyOk P el ei)(he:ei.k=.int .u8)
  (hty:ty.get el=some ei)(hz:ei.size=1)(hx:RelV φ (x e) x')(hr:Lr el x F e h=.ok v h'):BU ty φ E h w v h' ((convert src dst x').run P w):=by
 obtain⟨d1,h1,k1⟩:=TS.und
 obtain⟨d2,h2,k2⟩:=TD.und
 obtain⟨d3,h3,k3⟩:=TE.und
 rw[hs]at k1;cases k1
 rw[hd]at k2;cases k2
 rw[he]at k3;cases k3
 unfold Lr at hr
 split at hr
 case h_2=>cases hr
 rename_i s hxe
 rw[hxe]at hx
 obtain rfl:=hx.string_inv
 rw[Ai,BQ]at hr
 obtain⟨hb,hr⟩:=Bq hr
 let q:Question:=.appendCap s.size 0 el
 let c:Nat:=q.cut (w.tape w.drawn q)
 have hc:s.size≤c:=Nat.le_add_right _ _
 let cells:List Value:=s.data.toList.map fun b=>.int .u8 (b.toNat:Int)
 let rest:List Value:=List.replicate (c - s.size) (.int .u8 0)
 have hcl:cells.length=s.size:=by simp[cells]
 let w':World:={w with drawn:=w.drawn+1,heap:=w.heap.push (.cells ⟨cells++rest⟩ el (c,c+1))}
 have hsz:(⟨cells++rest⟩:Array Value).size=c:=by simp[rest,hcl];omega
 have hrel:RelL φ (CX s.data.toList) cells:=Jr _
 have hlen:(CX s.data.toList).length=s.size:=by rw[← hrel.length,hcl]
 obtain⟨hh1,hk,H1,ev⟩:=M9 (cs':=⟨cells++rest⟩) (t:=el) (fr:=(c,c+1)) (w':=w')
  (p:={blk:=w.heap.size,off:=0,sz:=(CX s.data.toList).length,room:=(⟨cells++rest⟩:Array Value).size,es:=1}) H hr rfl ⟨rfl,.inr ⟨el,ei,rfl,hty,hz.symm⟩⟩ (by rw[hlen,hsz];exact hc) (.inr (by rw[hsz];exact Nat.le_refl _))
  (fun j u hj=>by
   obtain⟨u',hu,hru⟩:=hrel.get j u hj
   refine⟨u',?_,hru⟩
   have hj':j<cells.length:=by
    rcases Nat.lt_or_ge j cells.length with h|h
    ·exact h
    ·rw[List.getElem?_eq_none h]at hu;cases hu
   simp only[List.getElem?_toArray]
   rw[List.getElem?_append_left hj'];exact hu) rfl rfl rfl rfl
 cases hk
 have key:(convert src dst (.string s)).run P w=.ok (.slice (some ⟨w.heap.size,0,none⟩) s.size c) w':=by
  have hforced:(Question.appendCap s.size 0 el).forced=false:=rfl
  have harr:(s.data.map fun b=>(Value.int .u8 (b.toNat:Int)))++Array.replicate (c - s.size) (Value.int .u8 0)=⟨cells++rest⟩:=by
   apply Array.ext';simp[cells,rest]
  have hm:=Xl (P:=P) {w with drawn:=w.drawn+1} ⟨cells++rest⟩ el
  rw[hsz]at hm
  simp only[convert,Sem.run_bind,run_underlying h1,run_underlying h2,run_underlying h3,Result.andThen_ok,Conv.stringToBytes,run_choose,hforced,Bool.false_eq_true,if_false,Go.newRow,run_newObj,Sem.run_pure]
  show(((markStringish ⟨w.heap.size,0,none⟩).run P {w with drawn:=w.drawn+1,heap:=w.heap.push (.cells ((s.data.map fun b=>(Value.int .u8 (b.toNat:Int)))++Array.replicate (c - s.size) (Value.int .u8 0)) el)}).andThen
   fun _ w''=>Result.ok (Value.slice (some ⟨w.heap.size,0,none⟩) s.size c) w'')=_
  rw[harr]
  have hm':(markStringish ⟨w.heap.size,0,none⟩).run P {w with drawn:=w.drawn+1,heap:=w.heap.push (.cells ⟨cells++rest⟩ el)}=.ok () w':=hm
  rw[hm'];rfl
 rw[key]
 refine⟨_,_,_,rfl,?_,H1,ev⟩
 have e1:s.data.toList.length=s.size:=rfl
 rw[e1]
 refine .slice (Nat.le_refl _) ⟨rfl,rfl,_,Phi.put_self _ _ _,rfl,?_⟩
 rcases Nat.eq_zero_or_pos s.size with h0|h0
 ·refine .inr ⟨h0,.inr ⟨?_,?_⟩⟩
  ·simp only[hlen,h0]
  ·simp only[hlen,hsz,h0];omega
 ·refine .inl ⟨h0,rfl,.inr ⟨?_,hc,?_⟩⟩
  ·simp only[hlen];omega
  ·simp only[hsz];omega
end
end
noncomputable section
open Go
section
variable {P:Program}{ty:TTy}{φ:Phi}{h:Hp}{w:World}{e:Env}{v:Value}{f:Fr}
def FB:Value→Lit
 |.bool b=>.bool b
 |.int q n=>.int q n
 |.string s=>.string s.data.toList
 |_=>.bool false
theorem jz{k:IntKind}{n:Int}(h:inK k n=true):(Lit.int k n).wf=true:=by
 unfold Lit.wf
 simp only[Bool.and_eq_true,decide_eq_true_eq]
 cases n with
 |ofNat m=>
  have h:Nat.ble m (Ar k)=true:=h
  have:=Al.1 h
  cases k<;>simp[IntKind.min,IntKind.max,IntKind.signed,IntKind.bits,Ar]at this ⊢<;>omega
 |negSucc m=>
  cases k<;>simp only[inK]at h<;>first|(cases h;done)|skip
  all_goals
   have:=Al.1 h
   simp[IntKind.min,IntKind.max,IntKind.signed,IntKind.bits,Ar]at this ⊢
   omega
theorem Gc{k:IntKind}{v:Value}(h:KC (.i k) v=true):∃ n,v=.int k n∧(Lit.int k n).wf=true:=by
 unfold KC at h
 simp only at h
 split at h
 ·split at h
  ·rename_i hq
   exact⟨_,by rw[G5 hq],jz h⟩
  ·cases h
 ·cases h
theorem Fj{v:Value}(h:KC .b v=true):∃ b,v=.bool b:=by
 unfold KC at h
 simp only at h
 split at h
 ·exact⟨_,rfl⟩
 ·cases h
theorem Gd{v:Value}(h:KC .s v=true):∃ s,v=.string s∧s.size≤maxLen:=by
 unfold KC at h
 simp only at h
 split at h
 ·rename_i s
  refine⟨s,rfl,?_⟩
  have:=Al.1 h
  rw[BQ]at this
  have e:s.data.toList.length=s.size:=by simp
  have hm:most≤maxLen:=by unfold most maxLen;omega
  omega
 ·cases h
theorem C7{l:List Value}(h:EC [] l=true):l=[]:=by
 cases l with
 |nil=>rfl
 |cons=>cases h
theorem CY{c:CK}{ks:List CK}{l:List Value}(h:EC (c::ks) l=true):∃ v r,l=v::r∧KC c v=true∧EC ks r=true:=by
 cases l with
 |nil=>cases h
 |cons v r=>
  unfold EC at h
  split at h
  ·rename_i hc;exact⟨v,r,rfl,hc,h⟩
  ·cases h
theorem IR:∀ {ks:List CK} {l:List Value},EC ks l=true→l.length=ks.length
 |[],l,h=>by rw[C7 h];rfl
 |c::ks,l,h=>by
  obtain⟨v,r,rfl,_,hr⟩:=CY h
  simp[IR hr]
theorem Ge:∀ {a b:List CK} {l:List Value},EC (a++b) l=true→EC a (l.take a.length)=true∧EC b (l.drop a.length)=true
 |[],b,l,h=>⟨rfl,h⟩
 |c::a,b,l,h=>by
  obtain⟨v,r,rfl,hc,hr⟩:=CY h
  obtain⟨h1,h2⟩:=Ge hr
  refine⟨?_,by simpa using h2⟩
  show EC (c::a) (v::r.take a.length)=true
  unfold EC
  rw[hc];exact h1
theorem Hs{c:CK}{v:Value}(h:KC c v=true):∃ l:Lit,FB v=l∧v=l.toCell∧l.keyWf:=by
 cases c with
 |i k=>obtain⟨n,rfl,hw⟩:=Gc h;exact⟨.int k n,rfl,rfl,hw⟩
 |b=>obtain⟨b,rfl⟩:=Fj h;exact⟨.bool b,rfl,rfl,trivial⟩
 |s=>obtain⟨s,rfl,hs⟩:=Gd h;exact⟨.string s.data.toList,rfl,rfl,by show s.data.toList.length≤maxLen;simpa using hs⟩
theorem PE{ks:List CK}:∀ {l l':List Value},EC ks l=true→RelL φ l l'→l'=l:=by
 induction ks with
 |nil=>intro l l' h hr;rw[C7 h]at hr ⊢;cases hr;rfl
 |cons c ks ih=>
  intro l l' h hr
  obtain⟨v,r,rfl,hc,hr'⟩:=CY h
  cases hr with
  |cons hv ht=>
   rw[ih hr' ht]
   congr 1
   cases c with
   |i k=>obtain⟨n,rfl,_⟩:=Gc hc;exact hv.int_inv
   |b=>obtain⟨n,rfl⟩:=Fj hc;exact hv.bool_inv
   |s=>obtain⟨n,rfl,_⟩:=Gd hc;exact hv.string_inv
theorem FL{x:Value}(hne:∀ l,x≠.agg l):cellsOf x=[x]:=by
 unfold cellsOf
 split
 ·rename_i l;exact absurd rfl (hne l)
 ·rfl
theorem C2{K:KS}{x:Value}(h:FF K x=true):EC K.ks (cellsOf x)=true∧cellsOf x=x.cells.toList∧((K.agg=true∧∃ l,x=.agg ⟨l⟩)∨(K.agg=false∧(∀ l,x≠.agg l)∧∀ l,x≠.tuple l)):=by
 unfold FF at h
 split at h
 ·rename_i cs
  split at h
  ·rename_i ha
   exact⟨h,rfl,.inl ⟨ha,cs.toList,rfl⟩⟩
  ·cases h
 ·rename_i hne
  split at h
  ·cases h
  ·rename_i ha
   have hne':∀ l,x≠.agg l:=fun l e=>hne l e
   have hc:cellsOf x=[x]:=by
    unfold cellsOf
    split
    ·rename_i l;exact absurd rfl (hne' l)
    ·rfl
   have hnt:∀ l,x≠.tuple l:=by
    intro l e
    subst e
    cases hk:K.ks with
    |nil=>rw[hk]at h;cases h
    |cons c ks=>
     rw[hk]at h
     obtain⟨v,r,e,hc,_⟩:=CY h
     cases e
     cases c<;>cases hc
   refine⟨by rw[hc];exact h,?_,.inr ⟨ha,hne',hnt⟩⟩
   rw[hc]
   cases x<;>first|rfl|exact absurd rfl (hne' _)|exact absurd rfl (hnt _)
theorem IQ{K:KS}{x x':Value}(h:FF K x=true)(hr:RelV φ x x'):x'=x:=by
 obtain⟨h1,h2,h3⟩:=C2 h
 rcases h3 with ⟨_,l,rfl⟩|⟨_,hne,hnt⟩
 ·cases hr with
  |agg hr=>rw[PE h1 hr];rfl
 ·have hc:cellsOf x=[x]:=FL hne
  rw[hc]at h1
  have:=PE h1 (.cons hr .nil)
  exact List.cons.inj this |>.1
theorem Lf{α β:Type}{f:α→Option β}{g:α→β}:∀ {L:List α},(∀ x∈L,f x=some (g x))→L.mapM f=some (L.map g)
 |[],_=>rfl
 |x::L,h=>by
  rw[List.mapM_cons,h x (by simp),Lf fun y hy=>h y (by simp[hy])];rfl
theorem PF{ks:List CK}:∀ {m:Nat} {cs:List Value},EC (BI ks m) cs=true→cs.length=m * ks.length∧∀ i,i<m→EC ks ((cs.drop (i * ks.length)).take ks.length)=true
 |0,cs,h=>by
  refine⟨?_,fun i hi=>absurd hi (Nat.not_lt_zero _)⟩
  rw[C7 h];simp
 |m+1,cs,h=>by
  have h:EC (ks++BI ks m) cs=true:=h
  obtain⟨h1,h2⟩:=Ge h
  obtain⟨h3,h4⟩:=PF h2
  have hl:=IR h1
  refine⟨?_,fun i hi=>?_⟩
  ·simp only[List.length_take,List.length_drop]at hl h3
   rw[Nat.succ_mul];omega
  ·cases i with
   |zero=>simpa using h1
   |succ i=>
    have:=h4 i (by omega)
    rw[List.drop_drop]at this
    rw[Nat.succ_mul,Nat.add_comm]
    exact this
theorem PI{P:Program}{rec:Nat→Option (List CK)}:∀ {L:List Field} {off:Nat} {ks:List CK},flatK.flatF rec off (L.map fun f=>(f.offset,P.cellsOf f.type,f.type))=some ks→
  (∀ f∈L,∃ kf,rec f.type=some kf)∧
  ∀ cs:List Value,EC ks (cs.drop off)=true→(∀ f∈L,∀ kf,rec f.type=some kf→EC kf ((cs.drop f.offset).take (P.cellsOf f.type))=true)∧
   ((L.map fun f=>(cs.drop f.offset).take (P.cellsOf f.type)).flatten=cs.drop off)
 |[],off,ks,hk=>by
  cases hk
  refine⟨(fun f hf=>by cases hf),fun cs h=>⟨(fun f hf=>by cases hf),?_⟩⟩
  rw[C7 h];rfl
 |f::L,off,ks,hk=>by
  rw[List.map_cons]at hk
  unfold flatK.flatF at hk
  split at hk
  case h_2=>cases hk
  rename_i ho
  split at hk
  case h_2=>cases hk
  rename_i kf hkf
  split at hk
  case h_2=>cases hk
  rename_i hl
  split at hk
  case h_2=>cases hk
  rename_i r hr
  cases hk
  have ho:f.offset=off:=Ap.1 ho
  have hl:kf.length=P.cellsOf f.type:=by rw[← Ap.1 hl,BQ]
  obtain⟨i1,i2⟩:=PI hr
  refine⟨fun g hg=>?_,fun cs h=>?_⟩
  ·rcases List.mem_cons.1 hg with rfl|hg
   ·exact⟨kf,hkf⟩
   ·exact i1 g hg
  ·obtain⟨h1,h2⟩:=Ge h
   rw[hl]at h1 h2
   rw[List.drop_drop]at h2
   obtain⟨i3,i4⟩:=i2 cs h2
   refine⟨fun g hg kg hkg=>?_,?_⟩
   ·rcases List.mem_cons.1 hg with rfl|hg
    ·rw[hkf]at hkg;cases hkg
     rw[ho];exact h1
    ·exact i3 g hg kg hkg
   ·rw[List.map_cons,List.flatten_cons,i4,ho]
    have:cs.drop (Nat.add off (P.cellsOf f.type))=(cs.drop off).drop (P.cellsOf f.type):=by rw[List.drop_drop];rfl
    rw[this,List.take_append_drop]
theorem Nj{t:Nat}{fs:Array Field}(hu:P.underlying t=some (.struct fs))(hf:fineS P t=true):
  (∀ f∈fs.toList,(f.name != "_")=true)∧(!(P.cutTypes.any (·.2 == t)) && !P.stoodInHeld t)=true:=by
 unfold fineS at hf
 rw[hu]at hf
 simp only[Bool.and_eq_true,Array.all_eq_true_iff_forall_mem]at hf
 obtain⟨⟨h1,h2⟩,h3⟩:=hf
 exact⟨fun f hm=>h1 f (Array.mem_toList_iff.1 hm),by rw[h2,h3];rfl⟩
theorem EY(hT:Cc P ty):∀ (n t:Nat) (ks:List CK),flatK ty n t=some ks→
  P.keyTypeAt n t=true∧(∀ d,n≤d→P.eqGuardType d t=false)∧(∀ ti,ty.get t=some ti→ti.k.agg=true→ks.length=ti.size)∧
  ∀ cs,EC ks cs=true→P.keyLits n t cs=some (cs.map FB)
 |0,t,ks,h=>by cases h
 |n+1,t,ks,h=>by
  unfold flatK at h
  cases hg:ty.get t with
  |none=>rw[hg]at h;cases h
  |some ti=>
   simp only[hg]at h
   have T:=hT t ti hg
   obtain⟨d,hd,hk⟩:=T.und
   have hcell:=T.cells
   have plain:∀ {d:TypeDesc},(match d with|.interface _=>true|.struct _=>true|.array _ _=>true|_=>false)=false→P.underlying t=some d→∀ q,n+1≤q→P.eqGuardType q t=false:=by
    intro d h1 hd q hq
    cases q with
    |zero=>omega
    |succ q=>unfold Program.eqGuardType;rw[hd];cases d<;>first|rfl|cases h1
   cases hkk:ti.k with
   |int k=>
    simp only[hkk]at h;rw[hkk]at hk;cases hk;cases h
    refine⟨by unfold Program.keyTypeAt;rw[hd],plain rfl hd,(fun ti' ht' ha=>by cases ht';rw[hkk]at ha;cases ha),fun cs hf=>?_⟩
    obtain⟨v,r,rfl,hc,hr⟩:=CY hf
    obtain rfl:=C7 hr
    obtain⟨m,rfl,hw⟩:=Gc hc
    unfold Program.keyLits;rw[hd]
    simp[hw,FB]
   |bool=>
    simp only[hkk]at h;rw[hkk]at hk;cases hk;cases h
    refine⟨by unfold Program.keyTypeAt;rw[hd],plain rfl hd,(fun ti' ht' ha=>by cases ht';rw[hkk]at ha;cases ha),fun cs hf=>?_⟩
    obtain⟨v,r,rfl,hc,hr⟩:=CY hf
    obtain rfl:=C7 hr
    obtain⟨m,rfl⟩:=Fj hc
    unfold Program.keyLits;rw[hd]
    simp[FB]
   |string=>
    simp only[hkk]at h;rw[hkk]at hk;cases hk;cases h
    refine⟨by unfold Program.keyTypeAt;rw[hd],plain rfl hd,(fun ti' ht' ha=>by cases ht';rw[hkk]at ha;cases ha),fun cs hf=>?_⟩
    obtain⟨v,r,rfl,hc,hr⟩:=CY hf
    obtain rfl:=C7 hr
    obtain⟨m,rfl,hw⟩:=Gd hc
    unfold Program.keyLits;rw[hd]
    simp[hw,FB]
   |arr m el=>
    simp only[hkk]at h;rw[hkk]at hk;cases hk
    split at h
    case h_2=>cases h
    rename_i ei hei
    split at h
    case h_2=>cases h
    rename_i ke hke
    split at h
    case h_2=>cases h
    rename_i hl
    split at h
    case h_2=>cases h
    rename_i hm
    cases h
    obtain⟨i1,i2,_,i3⟩:=EY hT n el ke hke
    have hce:=(hT el ei hei).cells
    have hl:ke.length=ei.size:=by rw[← Ap.1 hl,BQ]
    have hm:m * ei.size=ti.size:=Ap.1 hm
    have hrep:∀ m,(BI ke m).length=m * ke.length:=by
     intro m
     induction m with
     |zero=>simp[BI]
     |succ m ih=>rw[BI,List.length_append,ih,Nat.succ_mul];omega
    refine⟨by unfold Program.keyTypeAt;rw[hd];exact i1,fun q hq=>?_,(fun ti' ht' ha=>by cases ht';rw[hrep,hl,hm]),fun cs hf=>?_⟩
    ·cases q with
     |zero=>omega
     |succ q=>unfold Program.eqGuardType;rw[hd];exact i2 q (by omega)
    ·obtain⟨f1,f2⟩:=PF hf
     have hlen:cs.length=P.cellsOf t:=by rw[hcell,← hm,f1,hl]
     have hmap:(List.range m).mapM (fun i=>P.keyLits n el ((cs.drop (i * P.cellsOf el)).take (P.cellsOf el)))=some ((List.range m).map fun i=>((cs.drop (i * P.cellsOf el)).take (P.cellsOf el)).map FB):=
      Lf fun i hi=>by
       rw[hce,← hl]
       exact i3 _ (f2 i (List.mem_range.1 hi))
     unfold Program.keyLits
     rw[hd]
     simp only[hlen,if_true,hmap,Option.map_some]
     congr 1
     have:=chunks_flatten (P.cellsOf el) m cs (by rw[hce,← hl];exact f1)
     conv=>rhs;rw[← this]
     rw[List.map_flatten,List.map_map];rfl
   |struct fs=>
    simp only[hkk]at h;rw[hkk]at hk
    cases hk with
    |@struct _ fields hfs _=>
     split at h
     case h_2=>cases h
     rename_i ks' hks
     split at h
     case h_2=>cases h
     rename_i hl
     cases h
     have hl:ks.length=ti.size:=by rw[← Ap.1 hl,BQ]
     rw[← hfs]at hks
     obtain⟨j1,j2⟩:=PI hks
     obtain⟨n1,n2⟩:=Nj hd T.fine
     refine⟨?_,fun q hq=>?_,(fun ti' ht' ha=>by cases ht';exact hl),fun cs hf=>?_⟩
     ·unfold Program.keyTypeAt
      rw[hd]
      simp only[Bool.and_assoc,n2,Bool.and_true]
      rw[Array.all_eq_true_iff_forall_mem]
      intro f hm
      obtain⟨kf,hkf⟩:=j1 f (Array.mem_toList_iff.2 hm)
      rw[n1 f (Array.mem_toList_iff.2 hm),(EY hT n f.type kf hkf).1];rfl
     ·cases q with
      |zero=>omega
      |succ q=>
       unfold Program.eqGuardType;rw[hd]
       simp only
       rw[Array.any_eq_false]
       intro i hi
       obtain⟨kf,hkf⟩:=j1 fields[i] (Array.mem_toList_iff.2 (Array.getElem_mem hi))
       rw[(EY hT n _ kf hkf).2.1 q (by omega)];simp
     ·have hf0:EC ks (cs.drop 0)=true:=hf
      obtain⟨k1,k2⟩:=j2 cs hf0
      have hlen:cs.length=P.cellsOf t:=by rw[hcell,← hl,IR hf]
      have hmap:fields.toList.mapM (fun f=>P.keyLits n f.type ((cs.drop f.offset).take (P.cellsOf f.type)))=some (fields.toList.map fun f=>((cs.drop f.offset).take (P.cellsOf f.type)).map FB):=
       Lf fun f hm=>by
        obtain⟨kf,hkf⟩:=j1 f hm
        exact(EY hT n f.type kf hkf).2.2.2 _ (k1 f hm kf hkf)
      have hall:fields.all (·.name != "_")=true:=by
       rw[Array.all_eq_true_iff_forall_mem]
       intro f hm
       exact n1 f (Array.mem_toList_iff.2 hm)
      unfold Program.keyLits
      rw[hd]
      simp only[hlen,hall,and_self,if_true,hmap,Option.map_some]
      congr 1
      have:cs=cs.drop 0:=rfl
      conv=>rhs;rw[this,← k2]
      rw[List.map_flatten,List.map_map];rfl
   |_=>simp only[hkk]at h;cases h
theorem JI{c:CK}{a b:Value}(ha:KC c a=true)(hb:KC c b=true){r:Bool}(hr:K3 a b=some r):r=true↔FB a=FB b:=by
 cases c with
 |i k=>
  obtain⟨m,rfl,_⟩:=Gc ha
  obtain⟨n,rfl,_⟩:=Gc hb
  unfold K3 at hr
  simp only at hr
  split at hr
  ·cases hr;rw[Dr];simp[FB]
  ·cases hr
 |b=>
  obtain⟨m,rfl⟩:=Fj ha
  obtain⟨n,rfl⟩:=Fj hb
  unfold K3 at hr
  cases hr;simp[FB]
 |s=>
  obtain⟨m,rfl,_⟩:=Gd ha
  obtain⟨n,rfl,_⟩:=Gd hb
  unfold K3 at hr
  cases hr;rw[Ko];simp[FB]
theorem K5:∀ {ks:List CK} {a b:List Value},EC ks a=true→EC ks b=true→∀ {r:Bool},F5 a b=some r→(r=true↔a.map FB=b.map FB)
 |[],a,b,ha,hb,r,hr=>by
  rw[C7 ha,C7 hb]at *
  cases hr;simp
 |c::ks,a,b,ha,hb,r,hr=>by
  obtain⟨x,a,rfl,hx,ha⟩:=CY ha
  obtain⟨y,b,rfl,hy,hb⟩:=CY hb
  unfold F5 at hr
  split at hr
  ·rename_i h1
   have i1:=(JI hx hy h1).1 rfl
   rw[K5 ha hb hr]
   simp[i1]
  ·rename_i h1
   cases hr
   have i1:=JI hx hy h1
   simp only[List.map_cons,List.cons.injEq]
   constructor
   ·intro h;cases h
   ·intro h;exact i1.2 h.1
  ·cases hr
structure KeyOf (P:Program)(ty:TTy)(t:Nat)(K:KS):Prop where
 ti:∃ ti,ty.get t=some ti∧K.agg=ti.k.agg
 flat:flatK ty 8 t=some K.ks
theorem KeyOf.formed(hT:Cc P ty){t:Nat}{K:KS}(hK:KeyOf P ty t K){x:Value}(hx:FF K x=true):x.formed P t=true∧P.keyLits 8 t x.cells.toList=some ((cellsOf x).map FB):=by
 obtain⟨ti,hti,ha⟩:=hK.ti
 obtain⟨_,_,f3,f4⟩:=EY hT 8 t K.ks hK.flat
 obtain⟨h1,h2,h3⟩:=C2 hx
 have T:=hT t ti hti
 obtain⟨d,hd,hk⟩:=T.und
 refine⟨?_,by rw[← h2];exact f4 _ h1⟩
 rcases h3 with ⟨hag,l,rfl⟩|⟨hag,hne,hnt⟩
 ·rw[ha]at hag
  have hs:=f3 ti hti hag
  have hl:=IR h1
  unfold Value.formed
  rw[hd]
  have hsz:(Array.mk l).size=P.cellsOf t:=by
   have:l.length=K.ks.length:=hl
   rw[T.cells,← hs,← this];rfl
  generalize ti.k=kk at hk hag
  cases hk<;>first|(cases hag;done)|(simp only[hsz];exact beq_self_eq_true _)
 ·rw[ha]at hag
  have:(match P.underlying t with|some (.struct _)=>false|some (.array _ _)=>false|_=>true)=true:=by
   rw[hd]
   generalize ti.k=kk at hk hag
   cases hk<;>first|rfl|(cases hag;done)|skip
   rename_i ho
   cases d<;>first|rfl|cases ho
  unfold Value.formed
  cases x<;>first|exact absurd rfl (hne _)|exact absurd rfl (hnt _)|exact this
theorem KeyOf.equal(hT:Cc P ty){t:Nat}{K:KS}(hK:KeyOf P ty t K){x y:Value}(hx:FF K x=true)(hy:FF K y=true){r:Bool}(hr:F5 (cellsOf x) (cellsOf y)=some r)(w:World):
  (Op.equal t x y).run P w=.ok r w:=by
 obtain⟨f1,f2⟩:=hK.formed hT hx
 obtain⟨g1,g2⟩:=hK.formed hT hy
 obtain⟨k1,_⟩:=EY hT 8 t K.ks hK.flat
 obtain⟨r',hr',hiff⟩:=run_equalIn_deep (P:=P) 9992 8 t k1 w _ _ x y _ _ f1 g1 f2 g2
 have:=K5 (C2 hx).1 (C2 hy).1 hr
 have e:r'=r:=by
  rw[Bool.eq_iff_iff,hiff,this]
 rw[← e];exact hr'
theorem KeyOf.check(hT:Cc P ty){t:Nat}{K:KS}(hK:KeyOf P ty t K){x:Value}(hx:FF K x=true)(em:Bool)(w:World):(Instr.checkKey em 10000 t x).run P w=.ok () w:=by
 obtain⟨f1,f2⟩:=hK.formed hT hx
 obtain⟨k1,_⟩:=EY hT 8 t K.ks hK.flat
 exact run_checkKey_deep (P:=P) em 9992 8 t k1 w _ x _ f1 f2
theorem Ni{t:Nat}{d:TypeDesc}(hd:P.underlying t=some d)(n:Nat){a b:Value}{c:Bool}(hs:Instr.sameNow d a b=some c)(w:World):(Op.equalIn (n+1) t a b).run P w=.ok c w:=by
 unfold Instr.sameNow at hs
 split at hs
 ·split at hs
  ·rename_i hkk
   cases hs
   simp[Op.equalIn,run_underlying hd,hkk]
  ·cases hs
 ·cases hs;simp[Op.equalIn,run_underlying hd]
 ·cases hs;simp[Op.equalIn,run_underlying hd]
 ·cases hs
theorem IP{t:Nat}{d:TypeDesc}(hd:P.underlying t=some d){k:Value}:∀ {es:List MapEntry} {i:Nat} {r:Option (Nat×Value)},Instr.findNow d k es i=some r→∀ w:World,(Instr.findAsking t k es i).run P w=.ok r w
 |[],i,r,h,w=>by cases h;simp[Instr.findAsking]
 |e::es,i,r,h,w=>by
  have same:∀ {a b:Value} {c:Bool},Instr.sameNow d a b=some c→(Op.equal t a b).run P w=.ok c w:=fun hs=>Ni hd 9999 hs w
  unfold Instr.findNow at h
  split at h
  ·rename_i hs
   cases h
   simp[Instr.findAsking,same hs]
  ·rename_i hs
   have:=IP hd h w
   simp[Instr.findAsking,same hs,this]
  ·cases h
theorem Db{t:Nat}{d:TypeDesc}(hd:P.underlying t=some d){k:Value}{es:List MapEntry}{r:Option (Nat×Value)}(hr:(Instr.findAsking t k es 0).run P w=.ok r w):(Instr.findKey t k es).run P w=.ok r w:=by
 unfold Instr.findKey
 simp only[Sem.run_bind,run_underlying hd,Result.andThen_ok]
 cases hn:Instr.findNow d k es 0 with
 |none=>exact hr
 |some r'=>
  have:=IP hd hn w
  rw[hr]at this
  cases this
  simp
theorem E0(hT:Cc P ty){t:Nat}{K:KS}(hK:KeyOf P ty t K){x y y':Value}(hx:FF K x=true)(hy:RelV φ y y'){r:Bool}(hr:Gn K x y=some r)(w:World):(Op.equal t x y').run P w=.ok r w∧FF K y=true∧y'=y:=by
 unfold Gn at hr
 split at hr
 ·rename_i hf
  have:=IQ hf hy
  subst this
  exact⟨hK.equal hT hx hf hr w,hf,rfl⟩
 ·cases hr
theorem LN(hT:Cc P ty){t:Nat}{K:KS}(hK:KeyOf P ty t K){x:Value}(hx:FF K x=true)(w:World):∀ {es:List Ent} {es':List MapEntry} (i:Nat),RelE φ es es'→∀ {r:Option Ent},LM K x es=some r→
  match r with
  |none=>(Instr.findAsking t x es' i).run P w=.ok none w
  |some e=>∃ j v',(Instr.findAsking t x es' i).run P w=.ok (some (j,v')) w∧RelV φ e.val v'
 |_,_,i,.nil,r,h=>by cases h;simp[Instr.findAsking]
 |_,_,i,.cons (k:=k) (k':=k') (v:=v) (v':=v') (b:=b) (l:=l) (l':=l') hk hv ht,r,h=>by
  unfold LM at h
  split at h
  ·rename_i he
   cases h
   obtain⟨h1,_⟩:=E0 hT hK hx hk he w
   exact⟨i,v',by simp[Instr.findAsking,h1],hv⟩
  ·rename_i he
   obtain⟨h1,_⟩:=E0 hT hK hx hk he w
   have ih:=LN hT hK hx w (i+1) ht h
   cases r with
   |none=>simpa [Instr.findAsking,h1] using ih
   |some e=>
    obtain⟨j,u,hj,hu⟩:=ih
    exact⟨j,u,by simp[Instr.findAsking,h1,hj],hu⟩
  ·cases h
theorem PG{c:CK}{x:Value}(h:KC c x=true)(n:Nat):Instr.sameBits n x x=true:=by
 obtain⟨l,_,rfl,hw⟩:=Hs h
 exact sameBits_toCell hw n
theorem Us{ks:List CK}(n:Nat):∀ {l:List Value},EC ks l=true→(l.zip l).all (fun (x,y)=>Instr.sameBits n x y)=true:=by
 induction ks with
 |nil=>intro l h;rw[C7 h];rfl
 |cons c ks ih=>
  intro l h
  obtain⟨v,r,rfl,hc,hr⟩:=CY h
  simp only[List.zip_cons_cons,List.all_cons,PG hc,ih hr,Bool.and_self]
theorem Ur{K:KS}{x:Value}(h:FF K x=true)(n:Nat):Instr.sameBits (n+1) x x=true:=by
 obtain⟨h1,_,h3⟩:=C2 h
 rcases h3 with ⟨_,l,rfl⟩|⟨_,hne,hnt⟩
 ·unfold Instr.sameBits
  simp only[beq_self_eq_true,Bool.true_and]
  exact Us n h1
 ·have hc:cellsOf x=[x]:=FL hne
  rw[hc]at h1
  cases hk:K.ks with
  |nil=>rw[hk]at h1;cases h1
  |cons c ks=>
   rw[hk]at h1
   obtain⟨v,r,e,hcc,_⟩:=CY h1
   cases e
   exact PG hcc _
theorem K4:∀ {ks:List CK} {a b:List Value},EC ks a=true→EC ks b=true→F5 a b=some true→a=b
 |[],a,b,ha,hb,_=>by rw[C7 ha,C7 hb]
 |c::ks,a,b,ha,hb,hr=>by
  obtain⟨x,a,rfl,hx,ha⟩:=CY ha
  obtain⟨y,b,rfl,hy,hb⟩:=CY hb
  unfold F5 at hr
  split at hr
  ·rename_i h1
   have i1:=(JI hx hy h1).1 rfl
   rw[K4 ha hb hr]
   obtain⟨l,e1,e2,_⟩:=Hs hx
   obtain⟨m,e3,e4,_⟩:=Hs hy
   rw[e2,e4,← e1,← e3,i1]
  ·cases hr
  ·cases hr
theorem RY{K:KS}{x y:Value}(hx:FF K x=true)(hr:Gn K x y=some true):x=y:=by
 unfold Gn at hr
 split at hr
 ·rename_i hf
  obtain⟨h1,h2,h3⟩:=C2 hx
  obtain⟨g1,g2,g3⟩:=C2 hf
  have:=K4 h1 g1 hr
  rcases h3 with ⟨ha,l,rfl⟩|⟨ha,hne,hnt⟩
  ·rcases g3 with ⟨_,m,rfl⟩|⟨hb,_⟩
   ·have:l=m:=this
    rw[this]
   ·rw[ha]at hb;cases hb
  ·rcases g3 with ⟨hb,_⟩|⟨_,gne,gnt⟩
   ·rw[ha]at hb;cases hb
   ·have c1:cellsOf x=[x]:=FL hne
    have c2:cellsOf y=[y]:=FL gne
    rw[c1,c2]at this
    exact List.cons.inj this |>.1
 ·cases hr
theorem Kb(hT:Cc P ty){t:Nat}{K:KS}(hK:KeyOf P ty t K){x:Value}(hx:FF K x=true){u u':Value}(hu:RelV φ u u')(hxx:RelV φ x x)(w:World):∀ {es:List Ent} {es':List MapEntry} (i:Nat),RelE φ es es'→∀ {r:Option (List Ent)},MU K x u es=some r→
  match r with
  |none=>(Instr.findAsking t x es' i).run P w=.ok none w
  |some es2=>∃ j v' en,(Instr.findAsking t x es' i).run P w=.ok (some (i+j,v')) w∧es'[j]? =some en∧en.key=x∧RelE φ es2 (es'.modify j fun e=>{e with key:=x,val:=u'})
 |_,_,i,.nil,r,h=>by cases h;simp[Instr.findAsking]
 |_,_,i,.cons (k:=k) (k':=k') (v:=v) (v':=v') (b:=b) (l:=l) (l':=l') hk hv ht,r,h=>by
  unfold MU at h
  split at h
  ·rename_i he
   cases h
   obtain⟨h1,_,h2⟩:=E0 hT hK hx hk he w
   have h3:=RY hx he
   exact⟨0,v',⟨k',v',b⟩,by simp[Instr.findAsking,h1],rfl,by simp only;rw[h2];exact h3.symm,by simpa using RelE.cons hxx hu ht⟩
  ·rename_i he
   obtain⟨h1,_⟩:=E0 hT hK hx hk he w
   split at h
   ·rename_i es2 hs
    cases h
    obtain⟨j,v2,en,e1,e2,e3,e4⟩:=Kb hT hK hx hu hxx w (i+1) ht hs
    refine⟨j+1,v2,en,?_,by simpa using e2,e3,by simpa using RelE.cons hk hv e4⟩
    simp only[Instr.findAsking,Sem.run_bind,h1,Result.andThen_ok,Bool.false_eq_true,if_false]
    rw[e1];congr 3;omega
   ·rename_i hs
    cases h
    have:=Kb hT hK hx hu hxx w (i+1) ht hs
    simpa [Instr.findAsking,h1] using this
   ·cases h
  ·cases h
theorem Sx(hT:Cc P ty){t:Nat}{K:KS}(hK:KeyOf P ty t K){x:Value}(hx:FF K x=true)(w:World):∀ {es:List Ent} {es':List MapEntry} (i:Nat),RelE φ es es'→∀ {es2:List Ent},aT K x es=some es2→
  ((Instr.findAsking t x es' i).run P w=.ok none w∧es2=es)∨∃ j v',(Instr.findAsking t x es' i).run P w=.ok (some (i+j,v')) w∧RelE φ es2 (es'.eraseIdx j)
 |_,_,i,.nil,es2,h=>by cases h;exact .inl ⟨by simp[Instr.findAsking],rfl⟩
 |_,_,i,.cons (k:=k) (k':=k') (v:=v) (v':=v') (b:=b) (l:=l) (l':=l') hk hv ht,es2,h=>by
  unfold aT at h
  split at h
  ·rename_i he
   cases h
   obtain⟨h1,_⟩:=E0 hT hK hx hk he w
   exact .inr ⟨0,v',by simp[Instr.findAsking,h1],by simpa using ht⟩
  ·rename_i he
   obtain⟨h1,_⟩:=E0 hT hK hx hk he w
   split at h
   ·rename_i l2 hs
    cases h
    rcases Sx hT hK hx w (i+1) ht hs with ⟨e1,e2⟩|⟨j,v2,e1,e2⟩
    ·exact .inl ⟨by simp[Instr.findAsking,h1,e1],by rw[e2]⟩
    ·refine .inr ⟨j+1,v2,?_,by simpa using RelE.cons hk hv e2⟩
     simp only[Instr.findAsking,Sem.run_bind,h1,Result.andThen_ok,Bool.false_eq_true,if_false]
     rw[e1];congr 3;omega
   ·cases h
  ·cases h
theorem Se{x:Ent}:∀ {es:List Ent},UP x es=es++[x]
 |[]=>rfl
 |e::es=>by unfold UP;rw[Se];rfl
theorem RelE.append{x:Ent}{x':MapEntry}(hx:RelE φ [x] [x']):∀ {es:List Ent} {es':List MapEntry},RelE φ es es'→RelE φ (es++[x]) (es'++[x'])
 |_,_,.nil=>hx
 |_,_,.cons hk hv t=>.cons hk hv (RelE.append hx t)
theorem LP{K:KS}{x x':Value}(h:FF K x=true)(hr:RelV φ x x'):x'=x∧RelV φ x x:=by
 have:=IQ h hr
 subst this
 exact⟨rfl,hr⟩
end
end
noncomputable section
open Go
section
variable {P:Program}{ty:TTy}{φ:Phi}{E:Nat→Prop}{h h':Hp}{w:World}{F:CallF}{e:Env}{v:Value}
def TG:Value→Bool
 |.bool _|.pointer _|.slice _ _ _|.map _|.func _ _ _|.nilFunc=>true
 |_=>false
theorem WM{op:BinOp}{neg:Bool}(hop:(op=.eql∧neg=false)∨(op=.neq∧neg=true)){t:TypeId}{X Y:Operand}{a b:Value}(ha:TG a=true∨∃ l,a=.agg l)(hg:(eqGuard op t X Y a b).run P w=.ok () w)
  {r:Bool}(hr:(Op.equal t a b).run P w=.ok r w):(Bv op t X Y a b).run P w=.ok (.bool (neg != r)) w:=by
 unfold Bv
 rw[Sem.run_bind,hg,Result.andThen_ok]
 have:binOp op t a b=(do pure (.bool (neg != (← Op.equal t a b)))):=by
  rcases hop with ⟨rfl,rfl⟩|⟨rfl,rfl⟩
  ·rcases ha with ha|⟨l,rfl⟩
   ·cases a<;>first|(cases ha;done)|skip
    all_goals (simp[binOp];try rfl)
   ·simp[binOp]
  ·rcases ha with ha|⟨l,rfl⟩
   ·cases a<;>first|(cases ha;done)|skip
    all_goals (simp[binOp];try rfl)
   ·simp[binOp]
 rw[this,Sem.run_bind,hr,Result.andThen_ok,Sem.run_pure]
theorem RP{op:BinOp}{t:TypeId}{X Y:Operand}{a b:Value}(ha:TG a=true):(eqGuard op t X Y a b).run P w=.ok () w:=by
 cases op<;>first|rfl|skip
 all_goals (cases a<;>first|(cases ha;done)|rfl)
theorem Ux{op:BinOp}{t:TypeId}{X Y:Operand}{a b:Array Value}(hg:P.eqGuardType P.depth t=false):(eqGuard op t X Y (.agg a) (.agg b)).run P w=.ok () w:=by
 cases op<;>first|rfl|skip
 all_goals (simp[eqGuard,hg])
theorem jd(n:Nat){k:TK}{x y x' y':Value}{r:Bool}(hr:eqV k x y=some r)(hx:RelV φ x x')(hy:RelV φ y y'){t:Nat}{d:TypeDesc}(hd:P.underlying t=some d)(hk:KOk P k d)(w:World):
  TG x'=true∧(Op.equalIn (n+1) t x' y').run P w=.ok r w:=by
 unfold eqV at hr
 split at hr
 case h_12=>cases hr
 all_goals (cases hr;cases hk;first|skip|(rename_i ho;cases ho))
 all_goals (cases hx;cases hy)
 all_goals (refine⟨rfl,?_⟩;simp[Op.equalIn,run_underlying hd])
theorem je{k:TK}{x y x' y':Value}{r:Bool}(hr:eqV k x y=some r)(hx:RelV φ x x')(hy:RelV φ y y'){t:Nat}{d:TypeDesc}(hd:P.underlying t=some d)(hk:KOk P k d)(w:World):
 TG x'=true∧(Op.equal t x' y').run P w=.ok r w:=jd 9999 hr hx hy hd hk w
theorem X3(H:RelW ty φ E h w){k:TK}{op:BinOp}{neg:Bool}(hop:(op=.eql∧neg=false)∨(op=.neq∧neg=true)){t:Nat}{ti:TI}(T:TyOk P t ti)(hk:ti.k=k){X Y:Operand}{x y:O}{x' y':Value}
  (hx:RelV φ (x e) x')(hy:RelV φ (y e) y')(hr:oEq k neg x y F e h=.ok v h'):BU ty φ E h w v h' ((Bv op t X Y x' y').run P w):=by
 obtain⟨d,hd,hkd⟩:=T.und
 rw[hk]at hkd
 unfold oEq at hr
 split at hr
 case h_2=>cases hr
 rename_i r hq
 obtain⟨rfl,rfl⟩:=H4 hr
 obtain⟨h1,h2⟩:=je hq hx hy hd hkd w
 rw[WM hop (.inl h1) (RP h1) h2]
 exact .same H (.bool _)
theorem P6(H:RelW ty φ E h w){op:BinOp}{neg:Bool}(hop:(op=.eql∧neg=false)∨(op=.neq∧neg=true)){t:Nat}{ti:TI}(T:TyOk P t ti)(hk:ti.k=.iface){X:Operand}{x:O}{x':Value}
  (hx:RelV φ (x e) x')(hr:ND neg x F e h=.ok v h'):BU ty φ E h w v h' ((Bv op t X (.const .nilIface) x' .nilIface).run P w):=by
 obtain⟨d,hd,hkd⟩:=T.und
 rw[hk]at hkd
 have main:∀ (a:Value) (r:Bool),((a=.nilIface∧r=true)∨((∃ t v,a=.iface t v)∧r=false))→(Bv op t X (.const .nilIface) a .nilIface).run P w=.ok (.bool (neg != r)) w:=by
  intro a r ha
  cases hkd with
  |iface ms=>
  unfold Bv
  have hg:(eqGuard op t X (.const .nilIface) a .nilIface).run P w=.ok () w:=by
   cases op<;>first|rfl|skip
   all_goals (rcases ha with ⟨rfl,_⟩|⟨⟨t,v,rfl⟩,_⟩<;>simp[eqGuard])
  have he1:∀ n,(Op.equalIn (n+1) t a .nilIface).run P w=.ok r w:=fun n=>by
   rcases ha with ⟨rfl,rfl⟩|⟨⟨t,v,rfl⟩,rfl⟩<;>simp[Op.equalIn,run_underlying hd]
  have he:(Op.equal t a .nilIface).run P w=.ok r w:=he1 9999
  have hb:binOp op t a .nilIface=(do pure (.bool (neg != (← Op.equal t a .nilIface)))):=by
   rcases hop with ⟨rfl,rfl⟩|⟨rfl,rfl⟩<;>rcases ha with ⟨rfl,rfl⟩|⟨⟨t,v,rfl⟩,rfl⟩<;>(simp[binOp];try rfl)
  rw[Sem.run_bind,hg,Result.andThen_ok,hb,Sem.run_bind,he,Result.andThen_ok,Sem.run_pure]
 have hr:Xr neg (x e) h=.ok v h':=hr
 generalize x e=u at hx hr
 unfold Xr at hr
 split at hr
 ·obtain⟨rfl,rfl⟩:=H4 hr
  cases hx
  rw[main _ true (.inl ⟨rfl,rfl⟩)];exact .same H (.bool _)
 ·obtain⟨rfl,rfl⟩:=H4 hr
  cases hx with
  |iface t h=>rw[main _ false (.inr ⟨⟨_,_,rfl⟩,rfl⟩)];exact .same H (.bool _)
 ·cases hr
theorem KU(hT:Cc P ty)(H:RelW ty φ E h w){K:KS}{op:BinOp}{neg:Bool}(hop:(op=.eql∧neg=false)∨(op=.neq∧neg=true)){t:Nat}{ti:TI}(hti:ty.get t=some ti)(hk:ti.k.agg=true)(hf:flatK ty 8 t=some K.ks)(ha:K.agg=true)
  {X Y:Operand}{x y:O}{x' y':Value}(hx:RelV φ (x e) x')(hy:RelV φ (y e) y')(hr:Pw K neg x y F e h=.ok v h'):BU ty φ E h w v h' ((Bv op t X Y x' y').run P w):=by
 have T:=hT t ti hti
 have hK:KeyOf P ty t K:=⟨⟨ti,hti,by rw[ha,hk]⟩,hf⟩
 unfold Pw eqC at hr
 split at hr
 case h_2=>cases hr
 rename_i r hq
 split at hq
 case h_2=>cases hq
 rename_i hfx
 obtain⟨rfl,rfl⟩:=H4 hr
 have e1:=IQ hfx hx
 obtain⟨h1,hfy,e2⟩:=E0 hT hK hfx hy hq w
 rw[← e1]at hfx
 have hgt:=(EY hT 8 t K.ks hf).2.1 P.depth T.deep
 obtain⟨_,_,g1⟩:=C2 hfx
 obtain⟨_,_,g2⟩:=C2 hfy
 rw[← e2]at g2
 rcases g1 with ⟨_,l,hl⟩|⟨hb,_⟩
 ·rcases g2 with ⟨_,m,hm⟩|⟨hb,_⟩
  ·rw[← e1]at h1
   have hg:(eqGuard op t X Y x' y').run P w=.ok () w:=by rw[hl,hm];exact Ux hgt
   rw[WM hop (.inr ⟨_,hl⟩) hg h1]
   exact .same H (.bool _)
  ·rw[ha]at hb;cases hb
 ·rw[ha]at hb;cases hb
end
end
noncomputable section
open Go
section
variable {P:Program}{ty:TTy}{φ:Phi}{E:Nat→Prop}{h h':Hp}{w:World}{F:CallF}{e:Env}{v:Value}{f:Fr}
theorem Bc{t:Nat}{k:TI→OpF}(hr:wTy ty t k F e h=.ok v h'):∃ ti,ty.get t=some ti∧k ti F e h=.ok v h':=by
 unfold wTy at hr
 cases hg:ty.get t with
 |none=>rw[hg]at hr;cases hr
 |some ti=>rw[hg]at hr;exact⟨ti,rfl,hr⟩
theorem Cz{x:Operand}{k:O→OpF}(hr:w1 f x k F e h=.ok v h'):∃ y,cO f x=some y∧k y F e h=.ok v h':=by
 unfold w1 at hr
 cases hg:cO f x with
 |none=>rw[hg]at hr;cases hr
 |some y=>rw[hg]at hr;exact⟨y,rfl,hr⟩
theorem I5{x y:Operand}{k:O→O→OpF}(hr:w2 f x y k F e h=.ok v h'):∃ x' y',cO f x=some x'∧cO f y=some y'∧k x' y' F e h=.ok v h':=by
 unfold w2 at hr
 obtain⟨x',hx,hr⟩:=Cz hr
 obtain⟨y',hy,hr⟩:=Cz hr
 exact⟨x',y',hx,hy,hr⟩
theorem Hf{ti:TI}{k:OpF}(hr:wZ ti k F e h=.ok v h'):ti.zero.length=ti.size∧k F e h=.ok v h':=by
 unfold wZ at hr
 cases hg:Nat.beq (BB ti.zero) ti.size with
 |false=>rw[hg]at hr;cases hr
 |true=>rw[hg]at hr;exact⟨by rw[← Ap.1 hg,BQ],hr⟩
def C0(P:Program)(ty:TTy)(F:CallF):Prop:=∀ g args h v h',F g args h=.ok v h'→
 (∃ fn,P.funcs[g]? =some fn∧fn.name≠"runtime.NumGoroutine" ∧fn.body.isNone=false)∧
 ∀ φ w args',RelL φ args args'→RelW ty φ (fun _=>False) h w→
  Calls P g ⟨args'⟩ w fun en w'=>∃ v' ψ,en=.returned v'∧RelV ψ v v'∧RelW ty ψ (fun _=>False) h' w'∧Evo φ h w ψ h' w'
def D7(P:Program)(ty:TTy)(φ:Phi)(E:Nat→Prop)(h:Hp)(v:Value)(h':Hp)(o:Oper)(a:Act)(w:World):Prop:=
 ∀ (next:Act→World→Prop) (Q:Exit→Act→World→Prop),
  (∀ ψ v' w',RelV ψ v v'→RelW ty ψ E h' w'→Evo φ h w ψ h' w'→next (a.put o.dst v') w')→o.wp P a w next Q
theorem D7.of_gives{o:Oper}{a:Act}{s:Sem Value}(hx:execOp a.eval o=(do pure (.value (← s))))(hg:BU ty φ E h w v h' (s.run P w)):D7 P ty φ E h v h' o a w:=by
 intro next Q hn
 obtain⟨v',w',ψ,hs,hv,H,ev⟩:=hg
 unfold Oper.wp
 rw[hx,Sem.run_bind,hs,Result.andThen_ok,Sem.run_pure,Oper.upon_value]
 exact hn ψ v' w' hv H ev
theorem D7.of_skips{o:Oper}{a:Act}{s:Sem Unit}(hx:execOp a.eval o=(do s;pure .skip))(hg:V7 ty φ E h w v h' (s.run P w)):D7 P ty φ E h v h' o a w:=by
 intro next Q hn
 obtain⟨rfl,w',hs,H,ev⟩:=hg
 unfold Oper.wp
 rw[hx,Sem.run_bind,hs,Result.andThen_ok,Sem.run_pure,Oper.upon_skip]
 exact hn φ undef w' (.tuple .nil) H ev
theorem In{place:Nat→Option (Nat×Nat)}{ρ:Operand→Value}:∀ {l:List (Nat×Operand)} {ps:List (Nat×Nat×O)},GF f place l=some ps→
  (∀ p∈l,∀ y,cO f p.2=some y→RelV φ (y e) (ρ p.2))→RelP φ e place ps (l.map fun (i,x)=>(i,ρ x))
 |[],ps,hp,_=>by cases hp;exact .nil
 |(i,x)::l,ps,hp,hst=>by
  unfold GF at hp
  split at hp
  ·rename_i off size hpl
   split at hp
   ·rename_i y hy
    split at hp
    ·rename_i r hr
     cases hp
     exact .cons hpl (hst (i,x) (by simp) y hy) (In hr fun p hp=>hst p (by simp[hp]))
    ·cases hp
   ·cases hp
  ·cases hp
theorem Na{ρ:Operand→Value}:∀ {l:List Operand} {ys:List O},cOs f l=some ys→(∀ x∈l,∀ y,cO f x=some y→RelV φ (y e) (ρ x))→RelL φ (vals e ys) (l.map ρ)
 |[],ys,h,_=>by cases h;exact .nil
 |x::l,ys,h,hst=>by
  unfold cOs at h
  split at h
  ·rename_i y hy
   split at h
   ·rename_i r hr
    cases h
    exact .cons (hst x (by simp) y hy) (Na hr fun x hx=>hst x (by simp[hx]))
   ·cases h
  ·cases h
theorem Q7{ρ:Operand→Value}{x:Option Operand}{y:Option O}(h:cOo f x=some y)(hst:∀ z,x=some z→∀ y,cO f z=some y→RelV φ (y e) (ρ z)):RelO φ e y (x.map ρ):=by
 unfold cOo at h
 split at h
 ·cases h;exact .none
 ·rename_i x
  split at h
  ·rename_i y hy;cases h;exact .some (hst x rfl y hy)
  ·cases h
def d7(φ:Phi)(f:Fr)(e:Env)(ρ:Operand→Value)(op:Op):Prop:=∀ x∈op.operands.toList,∀ y,cO f x=some y→RelV φ (y e) (ρ x)
def GW(ty:TTy)(f:Fr)(e:Env)(E:Nat→Prop)(op:Op):Prop:=match kd ty op with
 |.p=>True
 |.a=>True
 |.r x=>∀ y,cO f x=some y→∀ b,blkOf (y e)=.ok b→¬ E b
 |.w _=>∀ b,¬ E b
 |.q=>∀ b,¬ E b
theorem gj(hT:Cc P ty)(H:RelW ty φ E h w){op:BinOp}{t yt:TypeId}{x y:Operand}{o:Oper}{a:Act}(ho:o.op=.binOp op t x y yt)(hst:d7 φ f e a.eval o.op)(hr:WL ty f op t x y F e h=.ok v h'):D7 P ty φ E h v h' o a w:=by
 have hx:execOp a.eval o=(do pure (.value (← Bv op t x y (a.eval x) (a.eval y)))):=by unfold execOp;rw[ho];rfl
 unfold WL at hr
 obtain⟨ti,hti,hr⟩:=Bc hr
 obtain⟨x',y',hx',hy',hr⟩:=I5 hr
 have r1:=hst x (by rw[ho];simp[Op.operands]) x' hx'
 have r2:=hst y (by rw[ho];simp[Op.operands]) y' hy'
 cases hk:ti.k with
 |int k=>
  rw[hk]at hr
  cases op with
  |add=>exact .of_gives hx (bg H r1 r2 hr)
  |sub=>exact .of_gives hx (Th H (.inl ⟨rfl,rfl⟩) r1 r2 hr)
  |mul=>exact .of_gives hx (Th H (.inr ⟨rfl,rfl⟩) r1 r2 hr)
  |quo=>exact .of_gives hx (cH H r1 r2 hr)
  |rem=>exact .of_gives hx (cZ H r1 r2 hr)
  |and=>exact .of_gives hx (N8 H (.inl ⟨rfl,rfl⟩) r1 r2 hr)
  |or=>exact .of_gives hx (N8 H (.inr (.inl ⟨rfl,rfl⟩)) r1 r2 hr)
  |xor=>exact .of_gives hx (N8 H (.inr (.inr ⟨rfl,rfl⟩)) r1 r2 hr)
  |shl=>exact .of_gives hx (ce H r1 r2 hr)
  |shr=>exact .of_gives hx (cg H r1 r2 hr)
  |andNot=>cases hr
  |eql=>exact .of_gives hx (HP H (.inl ⟨rfl,rfl⟩) r1 r2 hr)
  |neq=>exact .of_gives hx (HP H (.inr (.inl ⟨rfl,rfl⟩)) r1 r2 hr)
  |lss=>exact .of_gives hx (HP H (.inr (.inr (.inl ⟨rfl,rfl⟩))) r1 r2 hr)
  |leq=>exact .of_gives hx (HP H (.inr (.inr (.inr (.inl ⟨rfl,rfl⟩)))) r1 r2 hr)
  |gtr=>exact .of_gives hx (HP H (.inr (.inr (.inr (.inr (.inl ⟨rfl,rfl⟩))))) r1 r2 hr)
  |geq=>exact .of_gives hx (HP H (.inr (.inr (.inr (.inr (.inr ⟨rfl,rfl⟩))))) r1 r2 hr)
 |string=>
  rw[hk]at hr
  cases op with
  |add=>exact .of_gives hx (bz H r1 r2 hr)
  |eql=>exact .of_gives hx (HS H (.inl ⟨rfl,rfl⟩) r1 r2 hr)
  |neq=>exact .of_gives hx (HS H (.inr (.inl ⟨rfl,rfl⟩)) r1 r2 hr)
  |lss=>exact .of_gives hx (HS H (.inr (.inr (.inl ⟨rfl,rfl⟩))) r1 r2 hr)
  |gtr=>exact .of_gives hx (HS H (.inr (.inr (.inr (.inl ⟨rfl,rfl⟩)))) r1 r2 hr)
  |leq=>exact .of_gives hx (HS H (.inr (.inr (.inr (.inr (.inl ⟨rfl,rfl⟩))))) r1 r2 hr)
  |geq=>exact .of_gives hx (HS H (.inr (.inr (.inr (.inr (.inr ⟨rfl,rfl⟩))))) r1 r2 hr)
  |_=>cases hr
 |struct fs=>
  rw[hk]at hr
  simp only at hr
  cases hf:flatK ty 8 t with
  |none=>rw[hf]at hr;cases hr
  |some ks=>
   rw[hf]at hr
   have hag:ti.k.agg=true:=by rw[hk];rfl
   cases op with
   |eql=>exact .of_gives hx (KU hT H (K:=⟨true,ks⟩) (.inl ⟨rfl,rfl⟩) hti hag hf rfl r1 r2 hr)
   |neq=>exact .of_gives hx (KU hT H (K:=⟨true,ks⟩) (.inr ⟨rfl,rfl⟩) hti hag hf rfl r1 r2 hr)
   |_=>cases hr
 |arr n el=>
  rw[hk]at hr
  simp only at hr
  cases hf:flatK ty 8 t with
  |none=>rw[hf]at hr;cases hr
  |some ks=>
   rw[hf]at hr
   have hag:ti.k.agg=true:=by rw[hk];rfl
   cases op with
   |eql=>exact .of_gives hx (KU hT H (K:=⟨true,ks⟩) (.inl ⟨rfl,rfl⟩) hti hag hf rfl r1 r2 hr)
   |neq=>exact .of_gives hx (KU hT H (K:=⟨true,ks⟩) (.inr ⟨rfl,rfl⟩) hti hag hf rfl r1 r2 hr)
   |_=>cases hr
 |iface=>
  rw[hk]at hr
  have hr:(match Nx y with|true=>(match op with|.eql=>ND false x'|.neq=>ND true x'|_=>oNo)|false=>oNo) F e h=.ok v h':=hr
  cases hn:Nx y with
  |false=>rw[hn]at hr;cases hr
  |true=>
   rw[hn]at hr
   have hy:y=.const .nilIface:=by
    unfold Nx at hn
    split at hn
    ·split at hn
     ·rfl
     ·cases hn
    ·cases hn
   subst hy
   cases op with
   |eql=>exact .of_gives hx (P6 H (.inl ⟨rfl,rfl⟩) (hT t ti hti) hk r1 hr)
   |neq=>exact .of_gives hx (P6 H (.inr ⟨rfl,rfl⟩) (hT t ti hti) hk r1 hr)
   |_=>cases hr
 |_=>
  rw[hk]at hr
  cases op with
  |eql=>exact .of_gives hx (X3 H (.inl ⟨rfl,rfl⟩) (hT t ti hti) hk r1 r2 hr)
  |neq=>exact .of_gives hx (X3 H (.inr ⟨rfl,rfl⟩) (hT t ti hti) hk r1 r2 hr)
  |_=>cases hr
end
end
noncomputable section
open Go
section
variable {P:Program}{ty:TTy}{φ:Phi}{E:Nat→Prop}{h h':Hp}{w:World}{F:CallF}{e:Env}{v:Value}{f:Fr}
theorem RelW.less(H:RelW ty φ E h w)(hE:∀ b,¬ E b){E':Nat→Prop}:RelW ty φ E' h w where
 dom:=H.dom
 inj:=fun i j p q ei ej _ _=>H.inj i j p q ei ej (hE i) (hE j)
 row:=fun i p hp _=>H.row i p hp (hE i)
 fresh:=H.fresh
 kind:=H.kind
 inp:=H.inp
theorem Nd(hF:C0 P ty F)(H:RelW ty φ E h w)(hE:∀ b,¬ E b){g:Nat}{args args':List Value}(ha:RelL φ args args')(hr:F g args h=.ok v h'){o:Oper}{a:Act}
  (hx:(execOp a.eval o).run P w=(callFunc g ⟨args'⟩).run P w):D7 P ty φ E h v h' o a w:=by
 intro next Q hn
 obtain⟨⟨fn,hfn,hnm,hb⟩,hc⟩:=hF g args h v h' hr
 have hcall:(callFunc g ⟨args'⟩).run P w=.ok (.enter g ⟨args'⟩) w:=by
  have hnm':(fn.name == "runtime.NumGoroutine")=false:=by simpa using hnm
  simp only[callFunc,Sem.run_bind,run_program,Result.andThen_ok,hfn,hnm',Bool.false_eq_true,if_false,hb,Sem.run_pure,Sem.run_ite]
 unfold Oper.wp
 rw[hx,hcall,Oper.upon_enter]
 refine(hc φ w args' ha (H.less hE)).mono fun en w' ⟨v',ψ,he,hv,H',ev⟩=>?_
 subst he
 exact hn ψ v' w' hv (H'.less (fun _ h=>h)) ev
theorem Xv(hF:C0 P ty F)(H:RelW ty φ E h w)(hE:∀ b,¬ E b){g:Nat}{c:Call}(hc:c.callee=.value (.func g)){o:Oper}{a:Act}(ho:o.op=.call c){args:List O}
  (ha:RelL φ (vals e args) (c.args.toList.map a.eval))(hr:AM g args F e h=.ok v h'):D7 P ty φ E h v h' o a w:=by
 unfold AM at hr
 rw[CQ]at hr
 refine Nd hF H hE ha hr ?_
 have e1:c.args.map a.eval=⟨c.args.toList.map a.eval⟩:=by apply Array.ext';simp
 unfold execOp
 rw[ho]
 simp only[resolve,hc,e1,Act.eval,Deferred.ofValue,Sem.run_bind,Sem.run_pure,Result.andThen_ok,invoke]
 congr 2
 apply Array.ext';simp
theorem Ja(hF:C0 P ty F)(H:RelW ty φ E h w)(hE:∀ b,¬ E b){x:Operand}{g:O}{c:Call}(hc:c.callee=.value x){o:Oper}{a:Act}(ho:o.op=.call c){args:List O}
  (hg:RelV φ (g e) (a.eval x))(ha:RelL φ (vals e args) (c.args.toList.map a.eval))(hr:Cf g args F e h=.ok v h'):D7 P ty φ E h v h' o a w:=by
 unfold Cf at hr
 split at hr
 case h_2=>cases hr
 rename_i k first cap hge
 rw[hge]at hg
 rw[CQ]at hr
 generalize hxe:a.eval x=xv at hg
 cases hg with
 |func _ h1 h2=>
  refine Nd hF H hE (h1.append (ha.append h2)) hr ?_
  have e1:c.args.map a.eval=⟨c.args.toList.map a.eval⟩:=by apply Array.ext';simp
  unfold execOp
  rw[ho]
  simp only[resolve,hc,e1,hxe,Deferred.ofValue,Sem.run_bind,Sem.run_pure,Result.andThen_ok,invoke]
  congr 2
  apply Array.ext';simp
theorem Lh{name:String}:∀ {t:TTy} {ix:Nat→Nat} {u f:Nat},(u,f)∈t.meths name ix→∃ k ti,u=ix k∧t.get k=some ti∧findM name ti.ms=some f
 |.mt,ix,u,f,h=>by cases h
 |.nd t l r,ix,u,f,h=>by
  have sub:(u,f)∈l.meths name (fun k=>ix (Nat.succ (Nat.mul 2 k)))++r.meths name (fun k=>ix (Nat.succ (Nat.succ (Nat.mul 2 k))))→∃ k ti,u=ix k∧(TTy.nd t l r).get k=some ti∧findM name ti.ms=some f:=fun h=>by
   rcases List.mem_append.1 h with h|h
   ·obtain⟨k,ti,h1,h2,h3⟩:=Lh h
    refine⟨Nat.succ (Nat.mul 2 k),ti,h1,?_,h3⟩
    show(match Nat.mod (Nat.mul 2 k) 2 with| 0=>l.get (Nat.div (Nat.mul 2 k) 2)|Nat.succ _=>r.get (Nat.div (Nat.mul 2 k) 2))=_
    have e1:Nat.mod (Nat.mul 2 k) 2=0:=by show(2 * k) % 2=0;omega
    have e2:Nat.div (Nat.mul 2 k) 2=k:=by show(2 * k) / 2=k;omega
    rw[e1,e2];exact h2
   ·obtain⟨k,ti,h1,h2,h3⟩:=Lh h
    refine⟨Nat.succ (Nat.succ (Nat.mul 2 k)),ti,h1,?_,h3⟩
    show(match Nat.mod (Nat.succ (Nat.mul 2 k)) 2 with| 0=>l.get (Nat.div (Nat.succ (Nat.mul 2 k)) 2)|Nat.succ _=>r.get (Nat.div (Nat.succ (Nat.mul 2 k)) 2))=_
    have e1:Nat.mod (Nat.succ (Nat.mul 2 k)) 2=1:=by show(2 * k+1) % 2=1;omega
    have e2:Nat.div (Nat.succ (Nat.mul 2 k)) 2=k:=by show(2 * k+1) / 2=k;omega
    rw[e1,e2];exact h2
  unfold TTy.meths at h
  split at h
  ·rename_i g hg
   rcases List.mem_cons.1 h with h|h
   ·cases h
    cases t with
    |none=>cases hg
    |some ti=>exact⟨0,ti,rfl,rfl,hg⟩
   ·exact sub h
  ·exact sub h
theorem PA{t f:Nat}:∀ {l:List (Nat×Nat)},S3 t l=some f→(t,f)∈l
 |[],h=>by cases h
 |(u,g)::l,h=>by
  have h:(bif Nat.beq u t then some g else S3 t l)=some f:=h
  cases hb:Nat.beq u t with
  |true=>
   rw[hb]at h
   cases h
   rw[Ap.1 hb];exact List.mem_cons_self
  |false=>
   rw[hb]at h
   exact List.mem_cons_of_mem _ (PA h)
theorem SB(hT:Cc P ty)(hF:C0 P ty F)(H:RelW ty φ E h w)(hE:∀ b,¬ E b){recv:Operand}{name:String}{x:O}{c:Call}(hc:c.callee=.invoke recv name){o:Oper}{a:Act}(ho:o.op=.call c){args:List O}
  (hg:RelV φ (x e) (a.eval recv))(ha:RelL φ (vals e args) (c.args.toList.map a.eval))(hr:KV (ty.meths name fun k=>k) x args F e h=.ok v h'):D7 P ty φ E h v h' o a w:=by
 unfold KV at hr
 split at hr
 case h_2=>cases hr
 rename_i t u hxe
 split at hr
 case h_2=>cases hr
 rename_i f hf
 rw[BG,CQ]at hr
 rw[hxe]at hg
 generalize hxe':a.eval recv=xv at hg
 cases hg with
 |@iface _ _ u' hu=>
  obtain⟨k,ti,hk,h2,h3⟩:=Lh (PA hf)
  have hk:t=k:=hk
  subst hk
  have hm:=(hT t ti h2).ms name f h3 u' w
  refine Nd hF H hE (.cons hu ha) hr ?_
  have e1:c.args.map a.eval=⟨c.args.toList.map a.eval⟩:=by apply Array.ext';simp
  unfold execOp
  rw[ho]
  have e2:(#[Value.iface t u']++(⟨c.args.toList.map a.eval⟩:Array Value))[0]? =some (.iface t u'):=by simp
  have e3:(#[Value.iface t u']++(⟨c.args.toList.map a.eval⟩:Array Value)).extract 1 (#[Value.iface t u']++(⟨c.args.toList.map a.eval⟩:Array Value)).size=⟨c.args.toList.map a.eval⟩:=by apply Array.ext';simp;exact List.take_of_length_le (by simp)
  have e4: #[u']++(⟨c.args.toList.map a.eval⟩:Array Value)=⟨u'::c.args.toList.map a.eval⟩:=by apply Array.ext';simp
  simp only[resolve,hc,e1,hxe',Sem.run_bind,Sem.run_pure,Result.andThen_ok,invoke,e2,e3,callMethod,run_program,hm,e4]
theorem B0{b:Nat}{ob:Obj}(h1:w.heap[b]? =some ob)(h2:(match ob with|.cells .. =>true|_=>false)=false):(getObj b).run P w=.ok ob w:=by
 unfold getObj
 simp only[Sem.run,h1]
 cases ob<;>first|rfl|cases h2
theorem RelE.length:∀ {l:List Ent} {l':List MapEntry},RelE φ l l'→l'.length=l.length
 |_,_,.nil=>rfl
 |_,_,.cons _ _ t=>congrArg (· +1) t.length
theorem FO{r:Nat}{es:List Ent}{c:Nat}(hr:Ba h r=.ok es c):h.bl.get r=.map es c:=by
 unfold Ba aZ at hr
 split at hr
 ·cases hr;assumption
 ·cases hr
theorem RelW.entsAt(H:RelW ty φ E h w){r:Nat}{p:Pl}(hp:φ r=some p)(hE:¬ E r){es:List Ent}{c:Nat}(hr:Ba h r=.ok es c):
  ∃ es',w.heap[p.blk]? =some (.map ⟨es'⟩ c)∧RelE φ es es':=by
 have:=H.row r p hp hE
 rw[FO hr]at this
 generalize w.heap[p.blk]? =o at this
 cases this with
 |map h=>exact⟨_,rfl,h⟩
theorem X9(H:RelW ty φ E h w){x:O}{x':Value}{ats:Array TypeId}{t t' el:TypeId}(h0:ats[0]? =some t){ti:TI}(T:TyOk P t ti)(hk:ti.k=.slice el)(hx:RelV φ (x e) x')(hr:BD x F e h=.ok v h'):
  BU ty φ E h w v h' ((Builtin.len_ ats t' #[x']).run P w):=by
 unfold BD at hr
 split at hr
 case h_3=>cases hr
 case h_2=>
  rename_i r hxe
  rw[hxe]at hx
  cases hr
  obtain⟨d,hd,hkd⟩:=T.desc
  rw[hk]at hkd;cases hkd
  have key:(Builtin.len_ ats t' #[x']).run P w=.ok (goInt ((0:Nat):Int)) w:=by
   cases hx<;>simp only[Builtin.len_,h0,Sem.run_bind,hd,Result.andThen_ok,Sem.run_pure,List.getElem?_toArray,List.getElem?_cons_zero]
  rw[key];exact .same H (.int _ _)
 rename_i a n c hxe
 rw[hxe]at hx
 cases hr
 obtain⟨d,hd,hkd⟩:=T.desc
 rw[hk]at hkd;cases hkd
 have key:(Builtin.len_ ats t' #[x']).run P w=.ok (goInt n) w:=by
  cases hx<;>simp only[Builtin.len_,h0,Sem.run_bind,hd,Result.andThen_ok,Sem.run_pure,List.getElem?_toArray,List.getElem?_cons_zero]
 rw[key];exact .same H (.int _ _)
theorem Xx(H:RelW ty φ E h w){x:O}{x':Value}{ats:Array TypeId}{t t' el:TypeId}(h0:ats[0]? =some t){ti:TI}(T:TyOk P t ti)(hk:ti.k=.slice el)(hx:RelV φ (x e) x')(hr:Xw x F e h=.ok v h'):
  BU ty φ E h w v h' ((Builtin.cap_ ats t' #[x']).run P w):=by
 unfold Xw at hr
 split at hr
 case h_2=>cases hr
 rename_i hxe
 rw[hxe]at hx
 cases hr
 obtain⟨d,hd,hkd⟩:=T.desc
 rw[hk]at hkd;cases hkd
 have key:(Builtin.cap_ ats t' #[x']).run P w=.ok (goInt 0) w:=by
  cases hx<;>simp only[Builtin.cap_,h0,Sem.run_bind,hd,Result.andThen_ok,Sem.run_pure,List.getElem?_toArray,List.getElem?_cons_zero]<;>rfl
 rw[key];exact .same H (.int _ _)
theorem YB(H:RelW ty φ E h w){x:O}{x':Value}{ats:Array TypeId}{t t':TypeId}(h0:ats[0]? =some t){ti:TI}(T:TyOk P t ti)(hk:ti.k=.string)(hx:RelV φ (x e) x')(hr:P3 x F e h=.ok v h'):
  BU ty φ E h w v h' ((Builtin.len_ ats t' #[x']).run P w):=by
 unfold P3 at hr
 split at hr
 case h_2=>cases hr
 rename_i s hxe
 rw[hxe]at hx
 rw[Ai,BQ]at hr
 cases hr
 obtain⟨d,hd,hkd⟩:=T.desc
 rw[hk]at hkd;cases hkd
 obtain rfl:=hx.string_inv
 have key:(Builtin.len_ ats t' #[.string s]).run P w=.ok (goInt s.size) w:=by
  simp only[Builtin.len_,h0,Sem.run_bind,hd,Result.andThen_ok,Sem.run_pure,List.getElem?_toArray,List.getElem?_cons_zero]
 rw[key];exact .same H (.int _ _)
theorem X7(H:RelW ty φ E h w){x:O}{x':Value}{ats:Array TypeId}{t t' kt el:TypeId}(h0:ats[0]? =some t){ti:TI}(T:TyOk P t ti)(hk:ti.k=.map kt el)(hx:RelV φ (x e) x')
  (hE:∀ r,x e=.map (some r)→¬ E r)(hr:Pz x F e h=.ok v h'):BU ty φ E h w v h' ((Builtin.len_ ats t' #[x']).run P w):=by
 obtain⟨d,hd,hkd⟩:=T.desc
 rw[hk]at hkd;cases hkd
 unfold Pz at hr
 split at hr
 ·rename_i hxe
  rw[hxe]at hx
  cases hr;cases hx
  have key:(Builtin.len_ ats t' #[.map none]).run P w=.ok (goInt 0) w:=by
   simp only[Builtin.len_,h0,Sem.run_bind,hd,Result.andThen_ok,Sem.run_pure,List.getElem?_toArray,List.getElem?_cons_zero]
  rw[key];exact .same H (.int _ _)
 ·rename_i r hxe
  rw[hxe]at hx
  cases hx with
  |@map _ p hp=>
   split at hr
   case h_2=>cases hr
   rename_i es c hes
   rw[Ai,BQ]at hr
   cases hr
   obtain⟨es',hw,hrel⟩:=H.entsAt hp (hE r hxe) hes
   have key:(Builtin.len_ ats t' #[.map (some p.blk)]).run P w=.ok (goInt es.length) w:=by
    simp only[Builtin.len_,h0,Sem.run_bind,hd,Result.andThen_ok,Sem.run_pure,List.getElem?_toArray,List.getElem?_cons_zero,B0 hw rfl]
    rw[← hrel.length];rfl
   rw[key];exact .same H (.int _ _)
 ·cases hr
theorem bN{x':Value}{ats:Array TypeId}{t t' el:TypeId}{n:Nat}(h0:ats[0]? =some t){ti:TI}(T:TyOk P t ti)(hk:ti.k=.arr n el):(Builtin.len_ ats t' #[x']).run P w=.ok (goInt n) w:=by
 obtain⟨d,hd,hkd⟩:=T.desc
 rw[hk]at hkd;cases hkd
 simp only[Builtin.len_,h0,Sem.run_bind,hd,Result.andThen_ok,Sem.run_pure,List.getElem?_toArray,List.getElem?_cons_zero]
theorem Dd{b:Nat}{ob ob':Obj}(h1:w.heap[b]? =some ob)(h2:(match ob with|.cells .. =>true|_=>false)=false):
  (setObj b ob').run P w=.ok () {w with heap:=w.heap.setIfInBounds b ob'}:=by
 unfold setObj
 simp only[Sem.run,h1]
 cases ob<;>first|rfl|cases h2
theorem Ev(H:RelW ty φ E h w){r:Nat}{p:Pl}(hEr:¬ E r)(hp:φ r=some p)(hl:Live h r){o:Blk}{ob:Obj}{k:Hp→R}(hr:Dx h r o k=.ok v h')(hsh:ShapeLe (h.bl.get r) o)(hB:RelB ty φ p o (some ob)):
  ∃ h1,k h1=.ok v h'∧RelW ty φ E h1 {w with heap:=w.heap.setIfInBounds p.blk ob}∧Evo φ h w φ h1 {w with heap:=w.heap.setIfInBounds p.blk ob}:=by
 obtain⟨bl,h256,hbl,hk⟩:=Eu hr
 have hlt:=(H.dom r p hp).2
 have e1:(w.heap.setIfInBounds p.blk ob).size=w.heap.size:=by simp
 have e2:∀ k,k≠p.blk→(w.heap.setIfInBounds p.blk ob)[k]? =w.heap[k]?:=fun k hk=>by
  rw[Array.getElem?_setIfInBounds,if_neg (Ne.symm hk)]
 have e3:(w.heap.setIfInBounds p.blk ob)[p.blk]? =some ob:=by rw[Array.getElem?_setIfInBounds,if_pos rfl,if_pos hlt]
 exact⟨_,hk,H.put hEr h256 hp hl hbl e1 e2 (by show RelB ty φ p o ((w.heap.setIfInBounds p.blk ob)[p.blk]?);rw[e3];exact hB),.put (H.notInp hp h256) hp hl hbl hsh e1 e2 rfl rfl rfl⟩
theorem Fo{r:Nat}{es:List Ent}{c:Nat}(hr:Ba h r=.ok es c):Live h r:=by
 unfold Live;rw[FO hr];intro hd;cases hd
theorem N9(H:RelW ty φ E h w)(hE:∀ b,¬ E b){x:O}{x':Value}{ats:Array TypeId}{t t':TypeId}{ti:TI}(h0:ats[0]? =some t)(T:TyOk P t ti)(hx:RelV φ (x e) x')(hr:EI x F e h=.ok v h'):
  BU ty φ E h w v h' ((Builtin.clear_ ats t' #[x']).run P w):=by
 obtain⟨d,hd,_⟩:=T.desc
 unfold EI at hr
 split at hr
 ·rename_i hxe
  rw[hxe]at hx
  cases hr;cases hx
  have key:(Builtin.clear_ ats t' #[.map none]).run P w=.ok noRes w:=by
   simp only[Builtin.clear_,h0,Sem.run_bind,hd,Result.andThen_ok,Sem.run_pure,List.getElem?_toArray,List.getElem?_cons_zero];rfl
  rw[key];exact .same H (.tuple .nil)
 ·rename_i r hxe
  rw[hxe]at hx
  cases hx with
  |@map _ p hp=>
   split at hr
   case h_2=>cases hr
   rename_i es c hes
   obtain⟨es',hw,hrel⟩:=H.entsAt hp (hE r) hes
   obtain⟨h1,hk,H1,ev⟩:=Ev (ob:=.map #[] c) H (hE _) hp (Fo hes) hr (by rw[FO hes];exact .inr trivial) (.map .nil)
   cases hk
   have key:(Builtin.clear_ ats t' #[.map (some p.blk)]).run P w=.ok noRes {w with heap:=w.heap.setIfInBounds p.blk (.map #[] c)}:=by
    simp only[Builtin.clear_,h0,Sem.run_bind,hd,Result.andThen_ok,Sem.run_pure,List.getElem?_toArray,List.getElem?_cons_zero,B0 hw rfl,Dd hw rfl];rfl
   rw[key];exact⟨_,_,φ,rfl,.tuple .nil,H1,ev⟩
 ·cases hr
theorem VF(H:RelW ty φ E h w)(hE:∀ b,¬ E b){x:O}{x':Value}{ats:Array TypeId}{t t' el:TypeId}{ti ei:TI}(h0:ats[0]? =some t)(T:TyOk P t ti)(hk:ti.k=.slice el)(TE:TyOk P el ei)(hz:ei.zero.length=ei.size)
  (hx:RelV φ (x e) x')(hr:Lm ei.zero x F e h=.ok v h'):BU ty φ E h w v h' ((Builtin.clear_ ats t' #[x']).run P w):=by
 obtain⟨d,hd,hkd⟩:=T.desc
 rw[hk]at hkd;cases hkd
 obtain⟨z,_,hzr,hzc,hzp⟩:=TE.zeroOk hz
 unfold Lm at hr
 split at hr
 ·rename_i hxe
  rw[hxe]at hx
  cases hr;cases hx
  have key:(Builtin.clear_ ats t' #[.slice none 0 0]).run P w=.ok noRes w:=by
   simp only[Builtin.clear_,h0,Sem.run_bind,hd,Result.andThen_ok,Sem.run_pure,List.getElem?_toArray,List.getElem?_cons_zero];rfl
  rw[key];exact .same H (.tuple .nil)
 ·rename_i a n c hxe
  rw[hxe]at hx
  cases hx with
  |@slice _ a' _ _ c' hlc hs=>
   cases n with
   |zero=>
    cases hr
    have key:(Builtin.clear_ ats t' #[.slice (some a') 0 c']).run P w=.ok noRes w:=by
     simp only[Builtin.clear_,h0,Sem.run_bind,hd,Result.andThen_ok,Sem.run_pure,List.getElem?_toArray,List.getElem?_cons_zero];rfl
    rw[key];exact .same H (.tuple .nil)
   |succ n=>
    have hrel:RelL φ (BI ei.zero (n+1)) (BI ei.zero (n+1)):=G3 (.plain hzp) (n+1)
    obtain⟨h1,w1,hk2,hrun,H1,ev⟩:=HX (P:=P) H hr (Ji hlc hs (Nat.succ_pos n)) hrel (hE _)
    cases hk2
    have hc:(Builtin.zeroCells z.cells (n+1)).toList=BI ei.zero (n+1):=by rw[GN,hzc]
    have key:(Builtin.clear_ ats t' #[.slice (some a') (n+1) c']).run P w=.ok noRes w1:=by
     simp only[Builtin.clear_,h0,Sem.run_bind,hd,Result.andThen_ok,Sem.run_pure,List.getElem?_toArray,List.getElem?_cons_zero,hzr,hc,hrun];rfl
    rw[key];exact⟨_,_,φ,rfl,.tuple .nil,H1,ev⟩
 ·cases hr
theorem VD(H:RelW ty φ E h w)(hE:∀ b,¬ E b){x:O}{x':Value}{t el:TypeId}{ti ei:TI}(T:TyOk P t ti)(hk:ti.k=.slice el)(TE:TyOk P el ei)(he:ei.k=.int .u8)(hx:RelV φ (x e) x')(hr:Jb x F e h=.ok v h'):
  BU ty φ E h w v h' ((convert t t x').run P w):=by
 obtain⟨d,hd,hkd⟩:=T.und
 rw[hk]at hkd;cases hkd
 obtain⟨d3,h3,k3⟩:=TE.und
 rw[he]at k3;cases k3
 unfold Jb at hr
 split at hr
 case h_2=>cases hr
 rename_i a n c hxe
 rw[hxe]at hx
 have hx0:=hx
 cases hx with
 |@slice _ a' _ _ c' hlc hs=>
  split at hr
  case h_2=>cases hr
  rename_i ct s en hrow
  obtain⟨s1,s2,p,hp,hbl,hor⟩:=hs
  obtain⟨cs,tt,fr,hw,R⟩:=H.rowAt hp (hE _) hrow
  have hlive:Live h a.block:=by unfold Live;rw[Cx hrow];intro hd;cases hd
  obtain⟨bl,h256,hbl2,hk2⟩:=Eu hr
  cases hk2
  let fr':Nat×Nat:=if fr.1 == fr.2 then(cs.size,cs.size+1)else(min fr.1 cs.size,max fr.2 (cs.size+1))
  let w':World:=w.freeze ⟨a'.block,cs.size,none⟩ 1
  have hf:∃ g:Obj→Obj,w'.heap=w.heap.modify p.blk g∧g (.cells cs tt fr)=.cells cs tt fr':=by
   obtain⟨lo,hi⟩:=fr
   refine⟨_,by show(w.freeze ⟨a'.block,cs.size,none⟩ 1).heap=_;unfold World.freeze;rw[if_neg Nat.one_ne_zero,hbl],rfl⟩
  obtain⟨g,hheap,hg⟩:=hf
  have e1:w'.heap.size=w.heap.size:=by rw[hheap];simp
  have e2:∀ k,k≠p.blk→w'.heap[k]? =w.heap[k]?:=fun k hk=>by
   rw[hheap,Array.getElem?_modify,if_neg (Ne.symm hk)]
  have e3:w'.heap[p.blk]? =some (.cells cs tt fr'):=by
   rw[hheap,Array.getElem?_modify,if_pos rfl,hw,Option.map_some,hg]
  have e4:w'.tape=w.tape∧w'.os=w.os∧w'.output=w.output:=by
   show(w.freeze ⟨a'.block,cs.size,none⟩ 1).tape=_∧(w.freeze ⟨a'.block,cs.size,none⟩ 1).os=_∧(w.freeze ⟨a'.block,cs.size,none⟩ 1).output=_
   unfold World.freeze
   rw[if_neg Nat.one_ne_zero]
   exact⟨rfl,rfl,rfl⟩
  have hB:RelB ty φ p (.cells ct s en) w'.heap[p.blk]?:=by
   rw[e3]
   refine .cells {R with loose:=.inl ?_}
   have:=R.firm (H.notInp hp h256)
   show fr'.1=fr'.2∨cs.size≤fr'.1
   refine .inr ?_
   simp only[fr']
   split
   ·exact Nat.le_refl _
   ·rename_i hne
    have hne':fr.1≠fr.2:=by simpa using hne
    rcases this with h|h
    ·exact absurd h hne'
    ·show cs.size≤min fr.1 cs.size
     omega
  have key:(convert t t (.slice (some a') n c')).run P w=.ok (.slice (some a') n c') w':=by
   have hsh:w.shape? a'.block=some (tt,cs.size):=by rw[hbl];simp[World.shape?,hw]
   simp only[convert,Sem.run_bind,run_underlying hd,run_underlying h3,Result.andThen_ok,beq_self_eq_true,markStringish,run_shape,hsh,run_freeze,Sem.run_pure]
   rfl
  rw[key]
  exact⟨_,w',φ,rfl,hx0,H.put (hE _) h256 hp hlive hbl2 e1 e2 hB,.put (H.notInp hp h256) hp hlive hbl2 (by rw[Cx hrow];exact .inr ⟨rfl,rfl⟩) e1 e2 e4.1 e4.2.1 e4.2.2⟩
end
end
noncomputable section
open Go
section
variable {P:Program}{ty:TTy}{φ:Phi}{E:Nat→Prop}{h h':Hp}{w:World}{F:CallF}{e:Env}{v:Value}
theorem M8(H:RelW ty φ E h w){o:Blk}{ob:Obj}(hr:Fc h o H6=.ok v h')
  (hB:RelB ty (φ.put h.next {blk:=w.heap.size,off:=0,sz:=0,room:=0,es:=1}) {blk:=w.heap.size,off:=0,sz:=0,room:=0,es:=1} o (some ob)):
  BU ty φ E h w v h' (.ok (.pointer (some ⟨w.heap.size,0,none⟩)) {w with heap:=w.heap.push ob}):=by
 obtain⟨bl,hbl,hk⟩:=Fp hr
 cases hk
 let w':World:={w with heap:=w.heap.push ob}
 have hs:w'.heap.size=w.heap.size+1:=by simp[w']
 have hsame:∀ k,k<w.heap.size→w'.heap[k]? =w.heap[k]?:=fun k hk=>by
  show(w.heap.push _)[k]? =_
  rw[Array.getElem?_push_lt hk,Array.getElem?_eq_getElem hk]
 refine⟨_,w',φ.put h.next {blk:=w.heap.size,off:=0,sz:=0,room:=0,es:=1},rfl,ON (Phi.put_self _ _ _) rfl,
  H.new hbl (by omega) (by show w.heap.size<_;omega) (fun j q e _=>by have:=(H.dom j q e).2;show _≠w.heap.size;omega) (fun k hk _=>hsame k hk) ?_,
  .made H hbl (Nat.le_refl _) (by omega) hsame rfl rfl rfl⟩
 have:w'.heap[w.heap.size]? =some ob:=by show(w.heap.push _)[w.heap.size]? =_;simp
 rw[this]
 exact hB
theorem VQ(H:RelW ty φ E h w)(hE:∀ b,¬ E b){x:O}{x':Value}{t kt el:TypeId}{ti:TI}(T:TyOk P t ti)(hk:ti.k=.map kt el)(hx:RelV φ (x e) x')(hr:Jc x F e h=.ok v h'):
  BU ty φ E h w v h' ((Instr.range t x').run P w):=by
 obtain⟨d,hd,hkd⟩:=T.desc
 rw[hk]at hkd;cases hkd
 unfold Jc at hr
 split at hr
 ·rename_i hxe
  rw[hxe]at hx
  cases hx
  have key:(Instr.range t (.map none)).run P w=.ok (.pointer (some ⟨w.heap.size,0,none⟩)) {w with heap:=w.heap.push (.mapIter none 0 #[] 0)}:=by
   simp only[Instr.range,Sem.run_bind,hd,Result.andThen_ok,Sem.run_pure,run_newObj]
  rw[key]
  exact M8 H hr (.iter0 rfl)
 ·rename_i r hxe
  rw[hxe]at hx
  cases hx with
  |@map _ p hp=>
   split at hr
   case h_2=>cases hr
   rename_i es c hes
   obtain⟨es',hw,hrel⟩:=H.entsAt hp (hE r) hes
   have key:(Instr.range t (.map (some p.blk))).run P w=.ok (.pointer (some ⟨w.heap.size,0,none⟩)) {w with heap:=w.heap.push (.mapIter (some p.blk) c #[] c)}:=by
    simp only[Instr.range,Sem.run_bind,hd,Result.andThen_ok,B0 hw rfl,Sem.run_pure,run_newObj]
   rw[key]
   exact M8 H hr (.iter rfl (Phi.put_le H.none_next _ _ hp))
 ·cases hr
theorem KQ(n:Nat):∀ l:List Nat,FG n l=l.contains n
 |[]=>rfl
 |x::l=>by
  unfold FG
  rw[KQ n l,List.contains_cons]
  cases hb:Nat.beq x n with
  |true=>
   have:x=n:=Ap.1 hb
   subst this;simp
  |false=>
   have:¬ n=x:=fun h=>by rw[h,Nat.beq_refl]at hb;cases hb
   simp[this]
theorem L7(n:Nat):∀ l:List Nat,Ip n l=l++[n]
 |[]=>rfl
 |x::l=>congrArg (x:: ·) (L7 n l)
theorem Pf{since:Nat}{seen:List Nat}:∀ {es:List Ent} {es':List MapEntry} {l:List Ent},RelE φ es es'→J1 since seen es=some l→
  ∃ l',RelE φ l l'∧es'.filter (fun e=> !seen.contains e.born)=l'∧l'.filter (fun e=>decide (e.born<since))=l'∧l'.filter (fun e=>decide (e.born≥since))=[]
 |_,_,l,.nil,h=>by cases h;exact⟨[],.nil,rfl,rfl,rfl⟩
 |_,_,l,.cons (b:=b) hk hv t,h=>by
  unfold J1 at h
  split at h
  ·rename_i r hr
   obtain⟨l',h1,h2,h3,h4⟩:=Pf t hr
   rw[KQ]at h
   cases hm:seen.contains b with
   |true=>
    simp only[hm,cond_true]at h
    cases h
    exact⟨l',h1,by rw[List.filter_cons];simp only[hm,Bool.not_true,Bool.false_eq_true,if_false];exact h2,h3,h4⟩
   |false=>
    simp only[hm,cond_false]at h
    obtain⟨hb,h⟩:Nat.blt b since=true∧_=some l:=by
     cases hb:Nat.blt b since with
     |true=>rw[hb]at h;exact⟨rfl,h⟩
     |false=>rw[hb]at h;cases h
    cases h
    have hlt:=BH.1 hb
    refine⟨_,.cons hk hv h1,by rw[List.filter_cons];simp only[hm,Bool.not_false,if_true];rw[h2],?_,?_⟩
    ·rw[List.filter_cons];simp[hlt,h3]
    ·rw[List.filter_cons];simp[Nat.not_le.2 hlt,h4]
  ·cases h
theorem Jp{last:Nat}:∀ {es:List Ent} {es':List MapEntry},RelE φ es es'→es'.all (fun e=>decide (e.born≥last))=Ew last es
 |_,_,.nil=>rfl
 |_,_,.cons (b:=b) hk hv t=>by
  unfold Ew
  rw[List.all_cons,Jp t]
  cases hb:Nat.ble last b with
  |true=>simp[Al.1 hb]
  |false=>
   have:¬ last≤b:=fun h=>by rw[Al.2 h]at hb;cases hb
   simp[this]
theorem HL{b:Nat}{m:Option Nat}{s:Nat}{l:List Nat}{t:Nat}(hr:Ds (h.bl.get b)=.ok m s l t):h.bl.get b=.iter m s l t:=by
 unfold Ds at hr
 split at hr<;>first|(cases hr;assumption)|cases hr
theorem jN{b m s t:Nat}(hr:Ds (h.bl.get b)=.cur m s t):h.bl.get b=.cur m s t:=by
 unfold Ds at hr
 split at hr<;>first|(cases hr;assumption)|cases hr
theorem dL{b m s t:Nat}{sn:Option (List Nat)}(hr:Ds (h.bl.get b)=.pick m s t sn):h.bl.get b=.pick m s t sn:=by
 unfold Ds at hr
 split at hr<;>first|(cases hr;assumption)|cases hr
theorem QG:RelV φ (.tuple ⟨[.bool false]⟩) (.tuple #[.bool false]):=.tuple (.cons (.bool _) .nil)
theorem YE(H:RelW ty φ E h w)(hE:∀ b,¬ E b){x:O}{x':Value}{t:TypeId}(hx:RelV φ (x e) x')(hr:Ft x F e h=.ok v h'):BU ty φ E h w v h' ((Instr.next x' false t).run P w):=by
 unfold Ft at hr
 split at hr
 case h_2=>cases hr
 rename_i a ha
 obtain⟨hb,hr⟩:=Bq hr
 obtain⟨a',rfl,hra⟩:=FJ hx ha
 obtain⟨p,hp,rfl⟩:=hra.eq
 have hoff:a.off=0:=Ap.1 hb
 unfold Fq at hr
 split at hr
 ·rename_i s l tl hit
  cases hr
  have hrow:=H.row a.block p hp (hE _)
  rw[HL hit]at hrow
  generalize hw:w.heap[p.blk]? =ob at hrow
  cases hrow with
  |iter0 hp0=>
   have key:(Instr.next (.pointer (some ⟨p.blk,p.off+a.off,none⟩)) false t).run P w=.ok (.tuple #[.bool false]) w:=by
    rw[hp0,hoff]
    simp only[Instr.next,Sem.run_bind,B0 hw rfl,Result.andThen_ok,Sem.run_pure]
   rw[key];exact .same H QG
 ·rename_i m since seen last hit
  have hrow:=H.row a.block p hp (hE _)
  rw[HL hit]at hrow
  generalize hw:w.heap[p.blk]? =ob at hrow
  cases hrow with
  |@iter _ q _ _ _ hp0 hq=>
   split at hr
   case h_2=>cases hr
   rename_i es c hes
   obtain⟨es',hwm,hrel⟩:=H.entsAt hq (hE m) hes
   rw[hp0,hoff]
   have hmatch:∃ k:R,k=.ok v h'∧(!(⟨seen⟩:Array Nat).isEmpty && !(⟨es'⟩:Array MapEntry).isEmpty && (⟨es'⟩:Array MapEntry).all (fun e=>decide (e.born≥last)))=false∧
     k=(match J1 since seen es with
      |some []=>YX h
      |some [x]=>Dx h a.block (.iter (some m) since (Ip x.born seen) c) fun h=>.ok (.tuple ⟨[.bool true,x.key,x.val]⟩) h
      |_=>.no):=by
    have hall:(⟨es'⟩:Array MapEntry).all (fun e=>decide (e.born≥last))=Ew last es:=by
     rw[← Jp hrel];simp
    cases seen with
    |nil=>exact⟨_,hr,by simp,rfl⟩
    |cons s0 sl=>
     cases hrel with
     |nil=>exact⟨_,hr,by simp,rfl⟩
     |cons hk hv tl=>
      simp only at hr
      rw[hall]
      generalize hy:Ew last _=y at hr ⊢
      cases y with
      |true=>cases hr
      |false=>exact⟨_,hr,by simp,rfl⟩
   obtain⟨k,hk,hstop,rfl⟩:=hmatch
   cases hl:J1 since seen es with
   |none=>rw[hl]at hk;cases hk
   |some l=>
    rw[hl]at hk
    obtain⟨l',q1,q2,q3,q4⟩:=Pf hrel hl
    have f1:(⟨es'⟩:Array MapEntry).filter (fun e=> !(⟨seen⟩:Array Nat).contains e.born)=⟨l'⟩:=by
     rw[← q2];apply Array.ext';simp
    have f2:(⟨l'⟩:Array MapEntry).filter (fun e=>decide (e.born<since))=⟨l'⟩:=by
     apply Array.ext';rw[Array.toList_filter];exact q3
    have f3:(⟨l'⟩:Array MapEntry).filter (fun e=>decide (e.born≥since))= #[]:=by
     apply Array.ext';rw[Array.toList_filter];exact q4
    cases q1 with
    |nil=>
     cases hk
     have key:(Instr.next (.pointer (some ⟨p.blk,0,none⟩)) false t).run P w=.ok (.tuple #[.bool false]) w:=by
      simp only[Instr.next,Sem.run_bind,B0 hw rfl,Result.andThen_ok,B0 hwm rfl,hstop,Bool.false_eq_true,if_false,f1,f2,f3]
      simp[run_choose,Question.forced]
     have:p.off+a.off=0:=by omega
     rw[show(0:Nat)+0=0 from rfl,key];exact .same H QG
    |cons hkk hvv tl=>
     cases tl with
     |cons _ _ _=>cases hk
     |nil=>
      rename_i k0 k1 v0 v1 b0
      have hlive:Live h a.block:=by unfold Live;rw[HL hit];intro hd;cases hd
      simp only at hk
      obtain⟨h1,hk2,H1,ev⟩:=Ev (ob:=.mapIter (some q.blk) since ⟨seen++[b0]⟩ c) H (hE _) hp hlive hk (by rw[HL hit];exact .inr trivial) (by rw[L7];exact .iter hp0 hq)
      cases hk2
      have key:(Instr.next (.pointer (some ⟨p.blk,0,none⟩)) false t).run P w=.ok (.tuple #[.bool true,k1,v1]) {w with heap:=w.heap.setIfInBounds p.blk (.mapIter (some q.blk) since ⟨seen++[b0]⟩ c)}:=by
       have hset:=Dd (P:=P) (ob':=.mapIter (some q.blk) since ⟨seen++[b0]⟩ c) hw rfl
       simp only[Instr.next,Sem.run_bind,B0 hw rfl,Result.andThen_ok,B0 hwm rfl,hstop,Bool.false_eq_true,if_false,f1,f2,f3]
       simp[run_choose,Question.forced,hset]
      rw[key];exact⟨_,_,φ,rfl,.tuple (.cons (.bool _) (.cons hkk (.cons hvv .nil))),H1,ev⟩
 ·cases hr
 ·cases hr
 ·rename_i m s last hit
  have hrow:=H.row a.block p hp (hE _)
  rw[dL hit]at hrow
  cases hrow
theorem Pd:∀ l:List Nat,Pc l=l.getLast?
 |[]=>rfl
 |[x]=>rfl
 |x::y::l=>by
  show Pc (y::l)=_
  rw[Pd (y::l)];rfl
theorem O9{n:Nat}:∀ {es:List Ent} {es':List MapEntry} {x:Ent},RelE φ es es'→Fi n es=some x→∃ x',es'.find? (fun e=>e.born == n)=some x'∧RelV φ x.key x'.key∧RelV φ x.val x'.val
 |_,_,x,.nil,h=>by cases h
 |_,_,x,.cons (k':=k') (v':=v') (b:=b) hk hv t,h=>by
  unfold Fi at h
  rw[List.find?_cons]
  cases hb:Nat.beq b n with
  |true=>
   simp only[hb,cond_true]at h
   cases h
   have:b=n:=Ap.1 hb
   subst this
   refine⟨⟨k',v',b⟩,?_,hk,hv⟩
   simp only[beq_self_eq_true]
  |false=>
   simp only[hb,cond_false]at h
   have hne:(b == n)=false:=by
    rw[beq_eq_false_iff_ne];intro he;rw[he,Nat.beq_refl]at hb;cases hb
   obtain⟨x',q1,q2⟩:=O9 t h
   exact⟨x',by simp only[hne];exact q1,q2⟩
theorem RK(H:RelW ty φ E h w)(hE:∀ b,¬ E b){m s last:Nat}{q:Pl}(hq:φ m=some q)(hr:HG m s last h=.ok v h'):
  h'=h∧∃ (es':List MapEntry) (c:Nat) (en':MapEntry) (k0 v0:Value),w.heap[q.blk]? =some (.map ⟨es'⟩ c)∧c=last∧(⟨es'⟩:Array MapEntry).find? (fun e=>e.born == s)=some en'∧v=.tuple ⟨[k0,v0]⟩∧RelV φ k0 en'.key∧RelV φ v0 en'.val:=by
 unfold HG at hr
 split at hr
 case h_2=>cases hr
 rename_i es c hes
 obtain⟨hc,hr⟩:=Bq hr
 split at hr
 case h_2=>cases hr
 rename_i en hen
 cases hr
 obtain⟨es',hwm,hrel⟩:=H.entsAt hq (hE m) hes
 obtain⟨en',q1,q2,q3⟩:=O9 hrel hen
 exact⟨rfl,es',c,en',_,_,hwm,Ap.1 hc,by rw[← q1];simp,rfl,q2,q3⟩
theorem VG(H:RelW ty φ E h w)(hE:∀ b,¬ E b){x:O}{x':Value}(hx:RelV φ (x e) x')(hr:Gw x F e h=.ok v h'):BU ty φ E h w v h' ((Instr.entry x').run P w):=by
 unfold Gw at hr
 split at hr
 case h_2=>cases hr
 rename_i a ha
 obtain⟨hb,hr⟩:=Bq hr
 obtain⟨a',rfl,hra⟩:=FJ hx ha
 obtain⟨p,hp,rfl⟩:=hra.eq
 have hoff:a.off=0:=Ap.1 hb
 have main:∀ {m s last:Nat} {q:Pl} {sn:Nat} {seen:List Nat},φ m=some q→p.off=0→w.heap[p.blk]? =some (.mapIter (some q.blk) sn ⟨seen⟩ last)→seen.getLast? =some s→HG m s last h=.ok v h'→
   BU ty φ E h w v h' ((Instr.entry (.pointer (some ⟨p.blk,p.off+a.off,none⟩))).run P w):=by
  intro m s last q sn seen hq hp0 hw hl hr
  obtain⟨rfl,es',c,en',k0,v0,hwm,rfl,hfind,rfl,q2,q3⟩:=RK H hE hq hr
  have hback:(⟨seen⟩:Array Nat).back? =some s:=by
   rw[← hl];simp[Array.back?_eq_getElem?,List.getLast?_eq_getElem?]
  rw[hp0,hoff]
  have key:(Instr.entry (.pointer (some ⟨p.blk,0,none⟩))).run P w=.ok (.tuple #[en'.key,en'.val]) w:=by
   simp only[Instr.entry,Sem.run_bind,B0 hw rfl,Result.andThen_ok,hback,B0 hwm rfl,bne_self_eq_false,Bool.false_eq_true,if_false,hfind,Sem.run_pure]
  rw[key];exact .same H (.tuple (.cons q2 (.cons q3 .nil)))
 unfold JP at hr
 split at hr
 ·rename_i m since seen last hit
  have hrow:=H.row a.block p hp (hE _)
  rw[HL hit]at hrow
  generalize hw:w.heap[p.blk]? =ob at hrow
  cases hrow with
  |@iter _ q _ _ _ hp0 hq=>
   split at hr
   case h_2=>cases hr
   rename_i st hst
   exact main hq hp0 hw (by rw[← Pd];exact hst) hr
 ·rename_i m st last hit
  have hrow:=H.row a.block p hp (hE _)
  rw[jN hit]at hrow
  generalize hw:w.heap[p.blk]? =ob at hrow
  cases hrow with
  |cur hp0 hq hl=>exact main hq hp0 hw hl hr
 ·cases hr
end
end
noncomputable section
open Go
section
variable {P:Program}{ty:TTy}{φ:Phi}{E:Nat→Prop}{h h':Hp}{w:World}{F:CallF}{e:Env}{v:Value}
theorem Ki{t:Nat}{k:KS→OpF}(hr:wKey ty t k F e h=.ok v h'):∃ ti kt el K,ty.get t=some ti∧ti.k=.map kt el∧KeyOf P ty kt K∧k K F e h=.ok v h':=by
 unfold wKey at hr
 obtain⟨ti,hti,hr⟩:=Bc hr
 cases hk:ti.k with
 |map kt el=>
  simp only[hk]at hr
  obtain⟨ki,hki,hr⟩:=Bc hr
  cases hf:flatK ty 8 kt with
  |none=>rw[hf]at hr;cases hr
  |some ks=>
   rw[hf]at hr
   exact⟨ti,kt,el,⟨ki.k.agg,ks⟩,hti,hk,⟨⟨ki,hki,rfl⟩,hf⟩,hr⟩
 |_=>simp only[hk]at hr;cases hr
theorem KeyOf.und(hT:Cc P ty){t:Nat}{K:KS}(hK:KeyOf P ty t K):∃ d,P.underlying t=some d:=by
 obtain⟨ti,hti,_⟩:=hK.ti
 obtain⟨d,hd,_⟩:=(hT t ti hti).und
 exact⟨d,hd⟩
theorem N6{t:Nat}{ti:TI}(T:TyOk P t ti){kt el:Nat}(hk:ti.k=.map kt el):P.underlying t=some (.map kt el):=by
 obtain⟨d,hd,hkd⟩:=T.und
 rw[hk]at hkd;cases hkd
 exact hd
theorem EG{ok:Bool}{u:Value}{b:Bool}(hr:DO ok u b h=.ok v h'):h'=h∧v=(if ok then .tuple ⟨[u,.bool b]⟩else u):=by
 unfold DO at hr
 cases ok<;>simp only[BG]at hr<;>cases hr<;>exact⟨rfl,rfl⟩
theorem Dh{ok:Bool}{u u':Value}{b:Bool}(hu:RelV φ u u'):RelV φ (if ok then .tuple ⟨[u,.bool b]⟩else u) (if ok then .tuple #[u',.bool b]else u'):=by
 cases ok
 ·exact hu
 ·exact .tuple (.cons hu (.cons (.bool b) .nil))
theorem SD(hT:Cc P ty)(H:RelW ty φ E h w){t kt el:Nat}{ti ei:TI}(T:TyOk P t ti)(hk:ti.k=.map kt el)(TE:TyOk P el ei)(hz:ei.zero.length=ei.size){z:Value}(hzv:zeroV ei=some z){K:KS}(hK:KeyOf P ty kt K)
  {ok:Bool}{x ix:O}{x' ix':Value}(hx:RelV φ (x e) x')(hix:RelV φ (ix e) ix')(hE:∀ r,x e=.map (some r)→¬ E r)(hr:GC K z ok x ix F e h=.ok v h'):
  BU ty φ E h w v h' ((Instr.lookup t x' ix' ok).run P w):=by
 obtain⟨z0,hz0,hzr,_,hzp⟩:=TE.zeroOk hz
 rw[hzv]at hz0;cases hz0
 have hzrel:RelV φ z z:=by
  unfold zeroV at hzv
  split at hzv
  ·cases hzv;exact .agg (.plain hzp)
  ·split at hzv
   ·rename_i u hu
    cases hzv
    rw[hu]at hzp
    simp only[List.all_cons,List.all_nil,Bool.and_true]at hzp
    exact .plain hzp
   ·cases hzv
 obtain⟨kd,hkd⟩:=hK.und hT
 have hu:=N6 T hk
 unfold GC HM at hr
 split at hr
 case h_2=>cases hr
 rename_i hfit
 have he:=IQ hfit hix
 subst he
 split at hr
 ·rename_i hxe
  rw[hxe]at hx;cases hx
  obtain⟨rfl,rfl⟩:=EG hr
  have hf:(Instr.findKey kt (ix e) []).run P w=.ok none w:=Db hkd (by simp[Instr.findAsking])
  have key:(Instr.lookup t (.map none) (ix e) ok).run P w=.ok (if ok then .tuple #[z,.bool false]else z) w:=by
   simp only[Instr.lookup,Sem.run_bind,run_underlying hu,Result.andThen_ok,Sem.run_pure,hK.check hT hfit,hf,hzr]
  rw[key];exact .same H (Dh hzrel)
 ·rename_i r hxe
  rw[hxe]at hx
  cases hx with
  |@map _ p hp=>
   split at hr
   case h_2=>cases hr
   rename_i es c hes
   obtain⟨es',hw,hrel⟩:=H.entsAt hp (hE r hxe) hes
   have hget:=B0 (P:=P) hw rfl
   split at hr
   ·rename_i en hfe
    obtain⟨rfl,rfl⟩:=EG hr
    obtain⟨j,u',hfa,hu'⟩:=LN hT hK hfit w 0 hrel hfe
    have hf:=Db hkd hfa
    have key:(Instr.lookup t (.map (some p.blk)) (ix e) ok).run P w=.ok (if ok then .tuple #[u',.bool true]else u') w:=by
     simp only[Instr.lookup,Sem.run_bind,run_underlying hu,Result.andThen_ok,Sem.run_pure,hget,hK.check hT hfit,hf]
    rw[key];exact .same H (Dh hu')
   ·rename_i hfe
    obtain⟨rfl,rfl⟩:=EG hr
    have hfa:=LN hT hK hfit w 0 hrel hfe
    have hf:=Db hkd hfa
    have key:(Instr.lookup t (.map (some p.blk)) (ix e) ok).run P w=.ok (if ok then .tuple #[z,.bool false]else z) w:=by
     simp only[Instr.lookup,Sem.run_bind,run_underlying hu,Result.andThen_ok,Sem.run_pure,hget,hK.check hT hfit,hf,hzr]
    rw[key];exact .same H (Dh hzrel)
   ·cases hr
 ·cases hr
theorem Rk(H:RelW ty φ E h w){t xt:Nat}{ti:TI}(T:TyOk P t ti)(hk:ti.k≠.iface)(hz:ti.zero.length=ti.size){z:Value}(hzv:zeroV ti=some z){ok:Bool}{x:O}{x':Value}(hx:RelV φ (x e) x')(hr:KR t ok z x F e h=.ok v h'):
  BU ty φ E h w v h' ((Instr.typeAssert x' xt t ok).run P w):=by
 obtain⟨z0,hz0,hzr,_,hzp⟩:=T.zeroOk hz
 rw[hzv]at hz0;cases hz0
 have hzrel:RelV φ z z:=by
  unfold zeroV at hzv
  split at hzv
  ·cases hzv;exact .agg (.plain hzp)
  ·split at hzv
   ·rename_i u hu
    cases hzv
    rw[hu]at hzp
    simp only[List.all_cons,List.all_nil,Bool.and_true]at hzp
    exact .plain hzp
   ·cases hzv
 obtain⟨d,hd,hkd⟩:=T.und
 unfold KR at hr
 split at hr
 ·rename_i hxe
  rw[hxe]at hx
  cases hx with
  |nilIface=>
   cases ok with
   |false=>cases hr
   |true=>
    obtain⟨rfl,rfl⟩:=EG hr
    have key:(Instr.typeAssert .nilIface xt t true).run P w=.ok (if true then .tuple #[z,.bool false]else z) w:=by
     simp only[Instr.typeAssert,Sem.run_bind,run_underlying hd,Result.andThen_ok]
     cases d<;>first|(simp only[if_true,Sem.run_bind,hzr,Result.andThen_ok,Sem.run_pure];done)|exact absurd rfl (hkd.noIface hk _)
    rw[key];exact .same H (Dh hzrel)
 ·rename_i u q hxe
  rw[hxe]at hx
  cases hx with
  |@iface _ _ q' hq=>
   split at hr
   ·rename_i hb
    have hb:=Ap.1 hb
    subst hb
    obtain⟨rfl,rfl⟩:=EG hr
    have key:(Instr.typeAssert (.iface u q') xt u ok).run P w=.ok (if ok then .tuple #[q',.bool true]else q') w:=by
     simp only[Instr.typeAssert,Sem.run_bind,run_underlying hd,Result.andThen_ok]
     cases d<;>first|(simp only[if_true,Sem.run_pure];done)|exact absurd rfl (hkd.noIface hk _)
    rw[key];exact .same H (Dh hq)
   ·rename_i hb
    have hne:¬ u=t:=fun he=>by rw[Ap.2 he]at hb;cases hb
    cases ok with
    |false=>cases hr
    |true=>
     obtain⟨rfl,rfl⟩:=EG hr
     have key:(Instr.typeAssert (.iface u q') xt t true).run P w=.ok (if true then .tuple #[z,.bool false]else z) w:=by
      simp only[Instr.typeAssert,Sem.run_bind,run_underlying hd,Result.andThen_ok]
      cases d<;>first|(simp only[if_neg hne,if_true,Sem.run_bind,hzr,Result.andThen_ok,Sem.run_pure];done)|exact absurd rfl (hkd.noIface hk _)
     rw[key];exact .same H (Dh hzrel)
 ·cases hr
theorem Lt(hT:Cc P ty)(H:RelW ty φ E h w)(hE:∀ b,¬ E b){t kt el:Nat}{ti:TI}(T:TyOk P t ti)(hk:ti.k=.map kt el){K:KS}(hK:KeyOf P ty kt K)
  {m key x:O}{m' key' x':Value}(hm:RelV φ (m e) m')(hkey:RelV φ (key e) key')(hx:RelV φ (x e) x')(hr:Ep K m key x F e h=.ok v h'):
  V7 ty φ E h w v h' ((Instr.mapUpdate t m' key' x').run P w):=by
 obtain⟨kd,hkd⟩:=hK.und hT
 have hu:=N6 T hk
 unfold Ep at hr
 simp only[BG]at hr
 unfold Kh at hr
 split at hr
 case h_2=>cases hr
 rename_i hfit
 obtain⟨he,hkk⟩:=LP hfit hkey
 subst he
 split at hr
 case h_2=>cases hr
 rename_i r hme
 rw[hme]at hm
 cases hm with
 |@map _ p hp=>
  split at hr
  case h_2=>cases hr
  rename_i es c hes
  obtain⟨es',hw,hrel⟩:=H.entsAt hp (hE r) hes
  have hget:=B0 (P:=P) hw rfl
  split at hr
  ·rename_i es2 hse
   obtain⟨j,u',en,hfa,hen,hek,hrel2⟩:=Kb hT hK hfit hx hkk w 0 hrel hse
   have hf:=Db hkd hfa
   obtain⟨h1,hk1,H1,ev⟩:=Ev (ob:=.map ⟨es'.modify (0+j) fun en=>{en with key:=key e,val:=x'}⟩ c) H (hE _) hp (Fo hes) hr (by rw[FO hes];exact .inr trivial) (.map (by rw[Nat.zero_add];exact hrel2))
   cases hk1
   refine⟨rfl,_,?_,H1,ev⟩
   have hstay:(Instr.keyThatStays (((⟨es'⟩:Array MapEntry)[0+j]?.map (·.key)).getD (key e)) (key e)).run P w=.ok (key e) w:=by
    have:(⟨es'⟩:Array MapEntry)[0+j]? =some en:=by rw[Nat.zero_add];simpa using hen
    rw[this]
    simp only[Option.map_some,Option.getD_some,hek]
    unfold Instr.keyThatStays
    rw[Ur hfit 9999]
    simp
   have hset:=Dd (P:=P) (ob':=.map ⟨es'.modify (0+j) fun en=>{en with key:=key e,val:=x'}⟩ c) hw rfl
   simp only[Instr.mapUpdate,Sem.run_bind,run_underlying hu,Result.andThen_ok,hget,hK.check hT hfit,hf,hstay]
   rw[← hset];congr 3
   apply Array.ext'
   simp
  ·rename_i hse
   have hfa:=Kb hT hK hfit hx hkk w 0 hrel hse
   have hf:=Db hkd hfa
   obtain⟨h1,hk1,H1,ev⟩:=Ev (ob:=.map ⟨es'++[{key:=key e,val:=x',born:=c}]⟩ (c+1)) H (hE _) hp (Fo hes) hr (by rw[FO hes];exact .inr trivial) (.map (by rw[Se];exact RelE.append (.cons hkk hx .nil) hrel))
   cases hk1
   refine⟨rfl,_,?_,H1,ev⟩
   have hset:=Dd (P:=P) (ob':=.map ⟨es'++[{key:=key e,val:=x',born:=c}]⟩ (c+1)) hw rfl
   simp only[Instr.mapUpdate,Sem.run_bind,run_underlying hu,Result.andThen_ok,hget,hK.check hT hfit,hf]
   rw[← hset];congr 2
   simp
  ·cases hr
theorem Ry(hT:Cc P ty)(H:RelW ty φ E h w)(hE:∀ b,¬ E b){ats:Array TypeId}{t' t kt el:Nat}{ti:TI}(h0:ats[0]? =some t)(T:TyOk P t ti)(hk:ti.k=.map kt el){K:KS}(hK:KeyOf P ty kt K)
  {m key:O}{m' key':Value}(hm:RelV φ (m e) m')(hkey:RelV φ (key e) key')(hr:KT K m key F e h=.ok v h'):
  BU ty φ E h w v h' ((Builtin.delete_ ats t' #[m',key']).run P w):=by
 obtain⟨kd,hkd⟩:=hK.und hT
 have hu:=N6 T hk
 unfold KT Sy at hr
 split at hr
 case h_2=>cases hr
 rename_i hfit
 obtain⟨he,hkk⟩:=LP hfit hkey
 subst he
 split at hr
 case h_2=>cases hr
 rename_i r hme
 rw[hme]at hm
 cases hm with
 |@map _ p hp=>
  split at hr
  case h_2=>cases hr
  rename_i es c hes
  obtain⟨es',hw,hrel⟩:=H.entsAt hp (hE r) hes
  have hget:=B0 (P:=P) hw rfl
  split at hr
  case h_2=>cases hr
  rename_i es2 hde
  rcases Sx hT hK hfit w 0 hrel hde with ⟨hfa,rfl⟩|⟨j,u',hfa,hrel2⟩
  ·have hf:=Db hkd hfa
   obtain⟨h1,hk1,H1,ev⟩:=Ev (ob:=.map ⟨es'⟩ c) H (hE _) hp (Fo hes) hr (by rw[FO hes];exact .inr trivial) (.map hrel)
   cases hk1
   have key:(Builtin.delete_ ats t' #[.map (some p.blk),key e]).run P w=.ok noRes {w with heap:=w.heap.setIfInBounds p.blk (.map ⟨es'⟩ c)}:=by
    simp only[Builtin.delete_,h0,List.getElem?_toArray,List.getElem?_cons_zero,List.getElem?_cons_succ,Sem.run_bind,run_underlying hu,Result.andThen_ok,Sem.run_pure,hget,hK.check hT hfit,hf,Dd hw rfl];rfl
   rw[key];exact⟨_,_,φ,rfl,.tuple .nil,H1,ev⟩
  ·have hf:=Db hkd hfa
   obtain⟨h1,hk1,H1,ev⟩:=Ev (ob:=.map ⟨es'.eraseIdx j⟩ c) H (hE _) hp (Fo hes) hr (by rw[FO hes];exact .inr trivial) (.map hrel2)
   cases hk1
   have herase:(⟨es'⟩:Array MapEntry).eraseIdxIfInBounds (0+j)=⟨es'.eraseIdx j⟩:=by
    apply Array.ext'
    rw[Nat.zero_add]
    unfold Array.eraseIdxIfInBounds
    split
    ·simp
    ·rename_i hj
     simp only
     rw[List.eraseIdx_of_length_le (by simpa using hj)]
   have key:(Builtin.delete_ ats t' #[.map (some p.blk),key e]).run P w=.ok noRes {w with heap:=w.heap.setIfInBounds p.blk (.map ⟨es'.eraseIdx j⟩ c)}:=by
    simp only[Builtin.delete_,h0,List.getElem?_toArray,List.getElem?_cons_zero,List.getElem?_cons_succ,Sem.run_bind,run_underlying hu,Result.andThen_ok,Sem.run_pure,hget,hK.check hT hfit,hf,herase,Dd hw rfl];rfl
   rw[key];exact⟨_,_,φ,rfl,.tuple .nil,H1,ev⟩
end
end
end Go.Proofs.YtedbmmfebjfibaaGreat

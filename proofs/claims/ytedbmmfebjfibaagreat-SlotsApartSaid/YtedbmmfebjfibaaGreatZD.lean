/-
  Part ZD of what Lawap stands on: printed by program, names and spaces cut.
-/
import Derived.Test.YtedbmmfebjfibaaGreatZC
import Derived.Laws.BytesString
import Derived.DeepKeys3
set_option linter.unusedSimpArgs false
set_option linter.unusedVariables false
namespace Go.Proofs.YtedbmmfebjfibaaGreat
noncomputable section
open Go
section
variable {P:Program}{ty:TTy}{φ:Phi}{E:Nat→Prop}{h h':Hp}{w:World}{F:CallF}{e:Env}{v:Value}
theorem Xc{esize en:Nat}{base:Option Addr}{sc need:Nat}{cs:List Value}(hr:Iu esize en base sc need cs h=.ok v h'):
  ∃ (t:VT) (m:Nat),(∀ j,j<cs.length→t.get j=cs.getD j undef)∧m=cs.length∧Ed esize en base sc need t m h=.ok v h':=by
 unfold Iu at hr
 split at hr
 case h_2=>cases hr
 rename_i c hset
 exact⟨c,_,MW hset,BN _,hr⟩
open Classical in
theorem Pb{esize en:Nat}{base:Option Addr}{sl sc need:Nat}{news:List Value}
  (hr:Gh esize en base sl sc need news h (BF h esize (.slice base sl sc) sl fun olds=>Iu esize en base sc need (olds++news) h)=.ok v h'):
  ∃ G:List Value→R,BF h esize (.slice base sl sc) sl G=.ok v h'∧∀ olds,G olds=.ok v h'→∃ (t:VT) (m:Nat),(∀ j,j<(olds++news).length→t.get j=(olds++news).getD j undef)∧
   m=(olds++news).length∧Ed esize en base sc need t m h=.ok v h':=by
 have slow:BF h esize (.slice base sl sc) sl (fun olds=>Iu esize en base sc need (olds++news) h)=.ok v h'→
   ∃ G:List Value→R,BF h esize (.slice base sl sc) sl G=.ok v h'∧∀ olds,G olds=.ok v h'→∃ (t:VT) (m:Nat),(∀ j,j<(olds++news).length→t.get j=(olds++news).getD j undef)∧
    m=(olds++news).length∧Ed esize en base sc need t m h=.ok v h':=fun hr=>⟨_,hr,fun olds h=>Xc h⟩
 unfold Gh at hr
 split at hr
 ·exact slow hr
 ·rename_i _ a
  split at hr
  ·rename_i hoff
   split at hr
   ·rename_i c sz ec hrow
    split at hr
    ·rename_i hb
     have hsz:sz=sl * esize:=Al.1 hb
     split at hr
     case h_2=>cases hr
     rename_i t hset
     refine⟨fun olds=>if olds=rowL c 0 sz then Ed esize en (some a) sc need t (Nat.add sz (A9 news)) h else .no,?_,fun olds ho=>?_⟩
     ·unfold BF
      simp only[hrow,hoff]
      have hle:Nat.ble (Nat.add 0 (Nat.mul sl esize)) sz=true:=Af.2 (by show 0+sl * esize≤sz;omega)
      rw[hle,FZ,List.append_nil]
      have:Nat.mul sl esize=sz:=hsz.symm
      rw[this]
      simp only[cond_true,if_true]
      exact hr
     ·by_cases he:olds=rowL c 0 sz
      ·simp only[he,if_true]at ho
       subst he
       refine⟨t,_,fun j hj=>?_,?_,ho⟩
       ·have hl:(rowL c 0 sz).length=sz:=Fh c 0 sz
        rw[GV _ _ _ _ hset j,List.getD_eq_getElem?_getD (l:=rowL c 0 sz++news)]
        rw[List.length_append,hl]at hj
        rcases Nat.lt_or_ge j sz with hjs|hjs
        ·rw[if_neg (by omega),List.getElem?_append_left (by omega)]
         simp[rowL,hjs]
        ·rw[if_pos (by omega),List.getElem?_append_right (by omega),hl,← List.getD_eq_getElem?_getD]
       ·rw[List.length_append,Fh,BN];rfl
      ·simp only[he,if_false]at ho;cases ho
    ·exact slow hr
   ·exact slow hr
  ·exact slow hr
def CD(elem:TypeId)(size:Nat)(base:Option Addr)(s:Value)(sLen sCap n:Nat)(zeros:Bool)(x:Value)(appended:Sem (Array Value)):Sem Value:=do
 let need:=sLen+n
 if need≤sCap then
  let new ← appended
  if let some a:=base then storeCells (a.add (sLen * size)) new.toList
  pure (.slice base need sCap)
 else
  if(need:Int) > IntKind.i64.max∧(zeros∨(← typeInfo elem).bytes=0)then runtimePanic (.error "growslice: len out of range")
  if Builtin.nextslicecap need sCap * (← typeInfo elem).bytes > 2 ^ 48 then(if zeros then runtimePanic (.error "growslice: len out of range")else do
   if !(← Builtin.mayShare size sLen n base x)then mark .noRoom
   unsupported (.resourceLimit "append: a slice or a string whose bytes no memory bears"))
  let newCap ← choose (.appendCap need sCap elem)
  askRoom (newCap * (← typeInfo elem).bytes)
  let old ← Builtin.firstCells size sLen s
  let new ← appended
  let rest:=Builtin.zeroCells (← zeroValue elem).cells (newCap - need)
  pure (.slice (some (← Go.newRow elem (old++new++rest))) need newCap)
theorem Hs(H:RelW ty φ E h w)(hE:∀ b,¬ E b){en:Nat}{ei:TI}(hty:ty.get en=some ei)(TE:TyOk P en ei)(hes:0<ei.size)(hz:ei.zero.length=ei.size)
  {base base':Option Addr}{sl sc sc' n:Nat}(hs:RelV φ (.slice base sl sc) (.slice base' sl sc')){zeros:Bool}{x':Value}{appended:Sem (Array Value)}{news news':List Value}
  (hn:RelL φ news news')(hnl:news.length=n * ei.size)(happ:∀ w':World,w'.heap=w.heap→appended.run P w'=.ok ⟨news'⟩ w')
  (hr:(∃ k,sl+n≤sc∧k=(match base with
    |none=>(.ok (.slice none (sl+n) sc) h:R)
    |some a=>Cb (Ej a (sl * ei.size)) news h fun h=>.ok (.slice (some a) (sl+n) sc) h)∧k=.ok v h')∨
   (sc<sl+n∧Nat.ble (Nat.mul (Nat.succ (sl+n)) (Nat.succ ei.bytes)) Ix=true∧BO news=true∧
    ∃ G:List Value→R,BF h ei.size (.slice base sl sc) sl G=.ok v h'∧∀ olds,G olds=.ok v h'→∃ (t:VT) (m:Nat),(∀ j,j<(olds++news).length→t.get j=(olds++news).getD j undef)∧
     m=(olds++news).length∧Ed ei.size en base sc (sl+n) t m h=.ok v h')):
  BI ty φ E h w v h' ((CD en ei.size base' (.slice base' sl sc') sl sc' n zeros x' appended).run P w):=by
 obtain⟨inf,hinf,hsz,hbt,_⟩:=TE.info
 obtain⟨z,_,hzr,hzc,hzp⟩:=TE.zeroOk hz
 have hzs:z.cells.size=ei.size:=by rw[← hz,← hzc];simp
 rcases hr with ⟨k,hle,rfl,hr⟩|⟨hlt,hmost,hone,G,hr,hG⟩
 ·cases hs with
  |slice0=>
   cases hr
   have:n=0:=by omega
   subst this
   have key:(CD en ei.size none (.slice none 0 0) 0 0 0 zeros x' appended).run P w=.ok (.slice none 0 0) w:=by
    simp only[CD,Nat.le_refl,if_true,Sem.run_bind,happ w rfl,Result.andThen_ok,Sem.run_pure]
   rw[key];exact .same H .slice0
  |@slice a a' _ _ _ hlc hs=>
   simp only at hr
   have h0:sc=0→news=[]:=fun h0=>List.length_eq_zero_iff.1 (by
    have:n=0:=by omega
    rw[hnl,this,Nat.zero_mul])
   obtain⟨h1,w1,hk,hrun,H1,ev⟩:=Vm (P:=P) H hE hs h0 hr hn
   cases hk
   have hcc:sl+n≤sc':=Nat.le_trans hle hs.le
   have key:(CD en ei.size (some a') (.slice (some a') sl sc') sl sc' n zeros x' appended).run P w=.ok (.slice (some a') (sl+n) sc') w1:=by
    simp only[CD,hcc,if_true,Sem.run_bind,happ w rfl,Result.andThen_ok,hrun,Sem.run_pure]
   rw[key]
   exact⟨_,_,φ,rfl,.slice hle hs,H1,ev⟩
 ·have hs0:=hs
  obtain⟨olds,olds',hr,ho,hrun,hl1,hl2,hcell⟩:=Fi (P:=P) H (fun _ _ _ _=>hE _) hs hr (fun m hm=>by cases hm;exact Nat.le_refl _)
  obtain⟨tr,tn,hT,hN,hr⟩:=hG olds hr
  have hone':=H0 hn hone
  obtain⟨hm1,hm2⟩:=Th hmost
  have hol:olds.length=sl * ei.size:=by
   rw[← ho.length]
   cases base' with
   |none=>cases hs;have:=hrun w rfl;simp only[Builtin.firstCells,Sem.run_pure]at this;cases this;simp
   |some a'=>exact hl1 a' sl sc' rfl
  have hnl2:(olds++news).length=(sl+n) * ei.size:=by rw[List.length_append,hol,hnl,Nat.add_mul]
  obtain⟨hfar,hnear⟩:=Xd (P:=P) H hE hty hes hs hlt ho hn hol hnl2 hone' (fun a a' ha ha' hpos=>hcell a sl sc (by rw[ha]) hpos) hT hN hr
  rcases Nat.lt_or_ge sc' (sl+n)with hroom|hroom
  ·
   let q:Question:=.appendCap (sl+n) sc' en
   let c:Nat:=q.cut (w.tape w.drawn q)
   let w1:World:={w with drawn:=w.drawn+1}
   have hc:sl+n≤c:=Nat.le_add_right _ _
   have hrl:(BJ z.cells.toList (c - (sl+n))).length=(c - (sl+n)) * ei.size:=by rw[Fg];simp[hzs]
   obtain⟨ψ,hv,H2,ev⟩:=hfar c (BJ z.cells.toList (c - (sl+n))) hc hrl {w1 with heap:=w.heap.push (.cells ⟨(olds'++news')++BJ z.cells.toList (c - (sl+n))⟩ en)} hroom rfl rfl rfl rfl
   have hbig:¬ ((sl+n:Nat):Int) > IntKind.i64.max:=by
    have:IntKind.i64.max=9223372036854775807:=by decide
    rw[this];omega
   have hnx:¬ (Builtin.nextslicecap (sl+n) sc' * ei.bytes > 2 ^ 48):=by
    have h1:=bj hroom
    have h2:Builtin.nextslicecap (sl+n) sc' * ei.bytes≤(2 * (sl+n)) * ei.bytes:=Nat.mul_le_mul_right _ h1
    have h3:(2 * (sl+n)) * ei.bytes≤(2 * (sl+n+1)) * (ei.bytes+1):=Nat.mul_le_mul (by omega) (by omega)
    have h4:(2 * (sl+n+1)) * (ei.bytes+1)=2 * ((sl+n+1) * (ei.bytes+1)):=by rw[Nat.mul_assoc]
    omega
   have hnle:¬ (sl+n≤sc'):=by omega
   have key:(CD en ei.size base' (.slice base' sl sc') sl sc' n zeros x' appended).run P w=.ok (.slice (some ⟨w.heap.size,0,none⟩) (sl+n) c)
     {w1 with heap:=w.heap.push (.cells ⟨(olds'++news')++BJ z.cells.toList (c - (sl+n))⟩ en)}:=by
    have ho1:=hrun w1 rfl
    have hn1:=happ w1 rfl
    have hforced:q.forced=false:=rfl
    simp only[CD,hnle,if_false,Sem.run_bind,run_typeInfo _ hinf,Result.andThen_ok,hbig,false_and,Sem.run_pure,hbt,hnx,Sem.run_ite,run_choose,hforced,Bool.false_eq_true,run_askRoom]
    show((Builtin.firstCells ei.size sl (.slice base' sl sc')).run P w1).andThen _=_
    rw[ho1]
    simp only[Result.andThen_ok]
    show(appended.run P w1).andThen _=_
    rw[hn1]
    have earr:∀ a b:List Value,(⟨a⟩:Array Value)++(⟨b⟩:Array Value)=⟨a++b⟩:=fun a b=>by apply Array.ext';simp
    simp only[Result.andThen_ok,hzr,Gb,Go.newRow,Sem.run_bind,run_newObj,Sem.run_pure,earr]
    rfl
   rw[key]
   exact⟨_,_,ψ,rfl,hv,H2,ev⟩
  ·
   cases base' with
   |none=>cases hs;omega
   |some a'=>
    obtain⟨w',ψ,hst,hv,H2,ev⟩:=hnear a' rfl hroom
    have key:(CD en ei.size (some a') (.slice (some a') sl sc') sl sc' n zeros x' appended).run P w=.ok (.slice (some a') (sl+n) sc') w':=by
     simp only[CD,hroom,if_true,Sem.run_bind,happ w rfl,Result.andThen_ok,hst,Sem.run_pure]
    rw[key]
    exact⟨_,_,ψ,rfl,hv,H2,ev⟩
theorem JS{ats:Array TypeId}{dt st t el:TypeId}(h0:ats[0]? =some dt)(h1:ats[1]? =some st){ti xi:TI}(T:TyOk P dt ti)(hk:ti.k=.slice el)(TX:TyOk P st xi)(hx:(∃ q,xi.k=.slice q)∨xi.k=.string){ei:TI}(TE:TyOk P el ei){base:Option Addr}{sl sc n:Nat}{x:Value}
  (hn:(Builtin.lenOf x).run P w=.ok n w):
  (Builtin.append_ ats t #[.slice base sl sc,x]).run P w=(CD el ei.size base (.slice base sl sc) sl sc n false x (Builtin.firstCells ei.size n x)).run P w:=by
 obtain⟨d,hd,hkd⟩:=T.desc
 rw[hk]at hkd
 cases hkd
 obtain⟨dx,hdx,hkx⟩:=TX.desc
 rcases hx with ⟨q,hx⟩|hx<;>rw[hx]at hkx<;>cases hkx<;>
 ·unfold Builtin.append_ CD
  simp only[Sem.run_bind,hd,Result.andThen_ok,TE.size,Sem.run_pure,h0,h1,List.getElem?_toArray,List.getElem?_cons_zero,List.getElem?_cons_succ,hdx,Bool.false_eq_true,if_false,hn,Bool.not_false,if_true]
  rfl
theorem L9(H:RelW ty φ E h w)(hE:∀ b,¬ E b){s x:O}{s' x':Value}{ats:Array TypeId}{dt st t el:TypeId}(h0:ats[0]? =some dt)(h1:ats[1]? =some st){ti xi ei:TI}(T:TyOk P dt ti)(hk:ti.k=.slice el)(TX:TyOk P st xi)(hxk:(∃ q,xi.k=.slice q)∨xi.k=.string)
  (hty:ty.get el=some ei)(TE:TyOk P el ei)(hes:0<ei.size)(hz:ei.zero.length=ei.size)
  (hs:RelV φ (s e) s')(hx:RelV φ (x e) x')(hr:Be ei.size ei.bytes el s x F e h=.ok v h'):BI ty φ E h w v h' ((Builtin.append_ ats t #[s',x']).run P w):=by
 unfold Be DN at hr
 split at hr
 case h_2=>cases hr
 rename_i base sl sc hse
 rw[hse]at hs
 split at hr
 case h_2=>cases hr
 rename_i n hn
 obtain⟨news,news',hr,hnr,hrun,hl1,hl2,_⟩:=Fi (P:=P) H (fun _ _ _ _=>hE _) hx hr (fun m hm=>by rw[hn]at hm;cases hm;exact Nat.le_refl _)
 rw[Aa]at hr
 have hlen:=Pv (P:=P) (w:=w) hx hn
 have hb:∃ base' sc',s'=.slice base' sl sc':=by
  cases hs
  ·exact⟨_,_,rfl⟩
  ·exact⟨_,_,rfl⟩
 obtain⟨base',sc',rfl⟩:=hb
 rw[JS h0 h1 T hk TX hxk TE hlen]
 have hnl:news.length=n * ei.size:=by
  rw[← hnr.length]
  cases x' with
  |string s=>obtain⟨q1,q2⟩:=hl2 s rfl;rw[q1,q2,Nat.mul_one]
  |slice a l c=>
   cases a with
   |some a=>exact hl1 a l c rfl
   |none=>
    have:=hrun w rfl
    simp only[Builtin.firstCells,Sem.run_pure]at this
    cases this
    have hn0:n=0:=by
     generalize x e=xv at hx hn
     cases hx
     ·unfold lenV at hn;cases hn;rfl
     ·unfold lenV at hn;cases hn
    rw[hn0];simp
  |_=>have:=hrun w rfl;simp only[Builtin.firstCells]at this;cases this
 refine Hs (P:=P) H hE hty TE hes hz hs hnr hnl hrun ?_
 split at hr
 ·rename_i hb
  refine .inl ⟨_,Af.1 hb,rfl,?_⟩
  exact hr
 ·rename_i hb
  obtain⟨hm,hr⟩:=Bf hr
  obtain⟨hone,hr⟩:=Bf hr
  refine .inr ⟨?_,hm,hone,Pb hr⟩
  rcases Nat.lt_or_ge sc (sl+n)with h|h
  ·exact h
  ·exact absurd (Af.2 (show Nat.add sl n≤sc from h)) (by rw[hb];simp)
theorem KV{ats:Array TypeId}{dt st t el:TypeId}(h0:ats[0]? =some dt)(h1:ats[1]? =some st){ti xi:TI}(T:TyOk P dt ti)(hk:ti.k=.slice el)(TX:TyOk P st xi){q:IntKind}(hx:xi.k=.int q){ei:TI}(TE:TyOk P el ei){base:Option Addr}{sl sc n:Nat}{q':IntKind}
  (hn1:n≤70368744177664)(hn2:n * ei.bytes≤70368744177664):
  (Builtin.append_ ats t #[.slice base sl sc,.int q' (n:Nat)]).run P w=(CD el ei.size base (.slice base sl sc) sl sc n true (.int q' (n:Nat))
   (if n * ei.size=0 then pure #[]else do pure (Builtin.zeroCells (← zeroValue el).cells n))).run P w:=by
 obtain⟨d,hd,hkd⟩:=T.desc
 rw[hk]at hkd
 cases hkd
 obtain⟨dx,hdx,hkx⟩:=TX.desc
 rw[hx]at hkx;cases hkx
 obtain⟨inf,hinf,hsz,hbt,_⟩:=TE.info
 have w1:IntKind.i64.wrap (n:Int)=n:=HN (by omega)
 have q0:¬ ((n:Int)<0):=by omega
 have q1:¬ ((n:Int) * (ei.bytes:Int) > 2 ^ 48):=by rw[← Int.natCast_mul];omega
 unfold Builtin.append_ CD
 simp only[Sem.run_bind,hd,Result.andThen_ok,TE.size,Sem.run_pure,List.getElem?_toArray,List.getElem?_cons_zero,List.getElem?_cons_succ,h0,h1,hdx,if_true,asInt,asIntOf,w1,q0,if_false,run_typeInfo _ hinf,hbt,q1,Int.toNat_natCast,Bool.not_true,Bool.false_eq_true]
 rfl
theorem QD(H:RelW ty φ E h w)(hE:∀ b,¬ E b){s x:O}{s' x':Value}{ats:Array TypeId}{dt st t el:TypeId}(h0:ats[0]? =some dt)(h1:ats[1]? =some st){ti xi ei:TI}(T:TyOk P dt ti)(hk:ti.k=.slice el)(TX:TyOk P st xi){q:IntKind}(hxk:xi.k=.int q)
  (hty:ty.get el=some ei)(TE:TyOk P el ei)(hes:0<ei.size)(hz:ei.zero.length=ei.size)
  (hs:RelV φ (s e) s')(hx:RelV φ (x e) x')(hr:FA ei.size ei.bytes el ei.zero s x F e h=.ok v h'):BI ty φ E h w v h' ((Builtin.append_ ats t #[s',x']).run P w):=by
 unfold FA HP at hr
 split at hr
 case h_2=>cases hr
 rename_i base sl sc hse
 rw[hse]at hs
 split at hr
 case h_2=>cases hr
 rename_i n hn
 obtain⟨q',rfl⟩:=Dv hx hn
 rw[Aa]at hr
 have hb:∃ base' sc',s'=.slice base' sl sc':=by
  cases hs
  ·exact⟨_,_,rfl⟩
  ·exact⟨_,_,rfl⟩
 obtain⟨base',sc',rfl⟩:=hb
 obtain⟨hm,hr⟩:=Bf hr
 obtain⟨hone,hr⟩:=Bf hr
 obtain⟨hm1,hm2⟩:=Th hm
 have hm1':sl+n≤70368744177664:=hm1
 have hm2':(sl+n+1) * (ei.bytes+1)≤70368744177664:=hm2
 have hnb:n * ei.bytes≤(sl+n+1) * (ei.bytes+1):=Nat.mul_le_mul (by omega) (by omega)
 rw[KV h0 h1 T hk TX hxk TE (by omega) (by omega)]
 obtain⟨z,_,hzr,hzc,hzp⟩:=TE.zeroOk hz
 have hzs:z.cells.size=ei.size:=by rw[← hz,← hzc];simp
 have hrel:RelL φ (BJ ei.zero n) (BJ ei.zero n):=HH (.plain hzp) n
 have hnl:(BJ ei.zero n).length=n * ei.size:=by rw[Fg,hz]
 have hones:BO (BJ ei.zero n)=true:=by
  have app:∀ a b:List Value,BO a=true→BO b=true→BO (a++b)=true:=by
   intro a
   induction a with
   |nil=>intro b _ h;exact h
   |cons u a ih=>
    intro b h1 h2
    unfold BO at h1
    cases hu:oneCell u with
    |false=>rw[hu]at h1;cases h1
    |true=>
     rw[hu]at h1
     show(bif oneCell u then BO (a++b)else false)=true
     rw[hu];exact ih b h1 h2
  have:∀ n,BO (BJ ei.zero n)=true:=by
   intro n
   induction n with
   |zero=>rfl
   |succ n ih=>exact app _ _ hone ih
  exact this n
 refine Hs (P:=P) H hE hty TE hes hz hs hrel hnl (fun w' _=>?_) ?_
 ·by_cases h0:n * ei.size=0
  ·rw[if_pos h0]
   have:BJ ei.zero n=[]:=List.length_eq_zero_iff.1 (by rw[hnl,h0])
   rw[this];rfl
  ·rw[if_neg h0]
   simp only[Sem.run_bind,hzr,Result.andThen_ok,Gb,hzc,Sem.run_pure]
 ·split at hr
  ·rename_i hb
   exact .inl ⟨_,Af.1 hb,rfl,hr⟩
  ·rename_i hb
   refine .inr ⟨?_,hm,hones,Pb hr⟩
   rcases Nat.lt_or_ge sc (sl+n)with h|h
   ·exact h
   ·exact absurd (Af.2 (show Nat.add sl n≤sc from h)) (by rw[hb];simp)
end
end
noncomputable section
open Go
section
variable {P:Program}{ty:TTy}{φ:Phi}{E:Nat→Prop}{h h':Hp}{w:World}{F:CallF}{e:Env}{v:Value}
theorem LM:∀ {cs cs':List Value} {bs:List UInt8},RelL φ cs cs'→ET cs=some bs→
  ∃ ns:List Int,cs'=ns.map (Value.int .u8)∧∀ s:ByteArray,(ns.foldl (fun r n=>r.push (UInt8.ofNat n.toNat)) s).data.toList=s.data.toList++bs
 |_,_,bs,.nil,hb=>by
  cases hb
  exact⟨[],rfl,fun s=>by simp⟩
 |_,_,bs,.cons (v:=u) (v':=u') (l:=l) (l':=l') hu t,hb=>by
  unfold ET at hb
  split at hb
  ·cases ‹_::_=[]›
  ·rename_i n l2 heq
   injection heq with h1 h2
   subst h1;subst h2
   split at hb
   ·rename_i bs' hbs
    rw[Aa]at hb
    cases hb
    obtain⟨ns,hns,hf⟩:=LM t hbs
    have:=hu.int_inv
    subst this
    refine⟨(n:Int)::ns,by rw[hns];rfl,fun s=>?_⟩
    rw[List.foldl_cons,hf]
    simp
   ·cases hb
  ·cases hb
theorem VZ(H:RelW ty φ E h w){x:O}(hE:∀ a l c,x e=.slice (some a) l c→¬ E a.block){x':Value}{src dst el:TypeId}{si di ei:TI}(TS:TyOk P src si)(hs:si.k=.slice el)(TD:TyOk P dst di)(hd:di.k=.string)(TE:TyOk P el ei)(he:ei.k=.int .u8)
  (hx:RelV φ (x e) x')(hr:FB x F e h=.ok v h'):BI ty φ E h w v h' ((convert src dst x').run P w):=by
 obtain⟨d1,h1,k1⟩:=TS.und
 obtain⟨d2,h2,k2⟩:=TD.und
 obtain⟨d3,h3,k3⟩:=TE.und
 rw[hs]at k1;cases k1
 rw[hd]at k2;cases k2
 rw[he]at k3;cases k3
 unfold FB at hr
 split at hr
 case h_2=>cases hr
 rename_i a n c hxe
 rw[hxe]at hx
 have hx0:=hx
 obtain⟨cs,cs',hr,hcs,hrun,hl1,hl2,_⟩:=Fi (P:=P) H (fun a l c heq=>by cases heq;exact hE _ _ _ hxe) hx hr (fun m hm=>by cases hm;exact Nat.le_refl _)
 split at hr
 case h_2=>cases hr
 rename_i bs hbs
 cases hr
 obtain⟨ns,hns,hf⟩:=LM hcs hbs
 have hempty:=hf ByteArray.empty
 have hdat:=Gq (a:=ns.foldl (fun r n=>r.push (UInt8.ofNat n.toNat)) ByteArray.empty) (l:=bs) (by rw[hempty];rfl)
 cases hx with
 |slice0=>
  rw[run_convert_bytes_string w src dst el none 0 0 h1 h3 h2]
  have:=hrun w rfl
  simp only[Builtin.firstCells,Sem.run_pure]at this
  have hcs0:cs'=[]:=by cases this;rfl
  have hns0:ns=[]:=by
   rw[hcs0]at hns
   cases ns with
   |nil=>rfl
   |cons _ _=>cases hns
  subst hns0
  rw[← hdat]
  exact .same H (.string _)
 |@slice _ a' _ _ c' hlc hsl=>
  rw[run_convert_bytes_string w src dst el (some a') n c' h1 h3 h2]
  have hld:(loadCells a' n).run P w=.ok (ns.map (Value.int .u8)).toArray w:=by
   have:=hrun w rfl
   rw[hns]at this
   simp only[Builtin.firstCells,Nat.mul_one]at this
   exact this
  rw[run_bytesToString w a' n c' ns hld,hdat]
  exact .same H (.string _)
theorem P7(A:Array Obj)(x:Obj)(f:Obj→Obj):(A.push x).modify A.size f=A.push (f x):=by
 apply Array.ext_getElem?
 intro i
 rw[Array.getElem?_modify,Array.getElem?_push,Array.getElem?_push]
 by_cases hi:i=A.size
 ·subst hi;simp
 ·rw[if_neg (Ne.symm hi),if_neg hi,if_neg hi]
theorem Xu(w:World)(A:Array Value)(el:TypeId):(markStringish ⟨w.heap.size,0,none⟩).run P {w with heap:=w.heap.push (.cells A el)}=
  .ok () {w with heap:=w.heap.push (.cells A el (A.size,A.size+1))}:=by
 have hs:World.shape? {w with heap:=w.heap.push (.cells A el)} w.heap.size=some (el,A.size):=by simp[World.shape?]
 simp only[markStringish,Sem.run_bind,run_shape,Result.andThen_ok,hs,run_freeze,World.freeze,Nat.one_ne_zero,if_false,P7]
 rfl
theorem QQ(H:RelW ty φ E h w){x:O}{x':Value}{src dst el:TypeId}{si di ei:TI}(TS:TyOk P src si)(hs:si.k=.string)(TD:TyOk P dst di)(hd:di.k=.slice el)(TE:TyOk P el ei)(he:ei.k=.int .u8)
  (hty:ty.get el=some ei)(hz:ei.size=1)(hx:RelV φ (x e) x')(hr:MF el x F e h=.ok v h'):BI ty φ E h w v h' ((convert src dst x').run P w):=by
 obtain⟨d1,h1,k1⟩:=TS.und
 obtain⟨d2,h2,k2⟩:=TD.und
 obtain⟨d3,h3,k3⟩:=TE.und
 rw[hs]at k1;cases k1
 rw[hd]at k2;cases k2
 rw[he]at k3;cases k3
 unfold MF at hr
 split at hr
 case h_2=>cases hr
 rename_i s hxe
 rw[hxe]at hx
 obtain rfl:=hx.string_inv
 rw[Aa,BN]at hr
 obtain⟨hb,hr⟩:=Bf hr
 let q:Question:=.appendCap s.size 0 el
 let c:Nat:=q.cut (w.tape w.drawn q)
 have hc:s.size≤c:=Nat.le_add_right _ _
 let cells:List Value:=s.data.toList.map fun b=>.int .u8 (b.toNat:Int)
 let rest:List Value:=List.replicate (c - s.size) (.int .u8 0)
 have hcl:cells.length=s.size:=by simp[cells]
 let w':World:={w with drawn:=w.drawn+1,heap:=w.heap.push (.cells ⟨cells++rest⟩ el (c,c+1))}
 have hsz:(⟨cells++rest⟩:Array Value).size=c:=by simp[rest,hcl];omega
 have hrel:RelL φ (CU s.data.toList) cells:=KB _
 have hlen:(CU s.data.toList).length=s.size:=by rw[← hrel.length,hcl]
 obtain⟨hh1,hk,H1,ev⟩:=NX (cs':=⟨cells++rest⟩) (t:=el) (fr:=(c,c+1)) (w':=w')
  (p:={blk:=w.heap.size,off:=0,sz:=(CU s.data.toList).length,room:=(⟨cells++rest⟩:Array Value).size,es:=1}) H hr rfl ⟨rfl,.inr ⟨el,ei,rfl,hty,hz.symm⟩⟩ (by rw[hlen,hsz];exact hc) (.inr (by rw[hsz];exact Nat.le_refl _))
  (fun j u hj=>by
   obtain⟨u',hu,hru⟩:=hrel.get j u hj
   refine⟨u',?_,hru⟩
   have hj':j<cells.length:=by
    rcases Nat.lt_or_ge j cells.length with h|h
    ·exact h
    ·rw[List.getElem?_eq_none h]at hu;cases hu
   simp only[List.getElem?_toArray]
   rw[List.getElem?_append_left hj'];exact hu) rfl rfl rfl rfl
 cases hk
 have key:(convert src dst (.string s)).run P w=.ok (.slice (some ⟨w.heap.size,0,none⟩) s.size c) w':=by
  have hforced:(Question.appendCap s.size 0 el).forced=false:=rfl
  have harr:(s.data.map fun b=>(Value.int .u8 (b.toNat:Int)))++Array.replicate (c - s.size) (Value.int .u8 0)=⟨cells++rest⟩:=by
   apply Array.ext';simp[cells,rest]
  have hm:=Xu (P:=P) {w with drawn:=w.drawn+1} ⟨cells++rest⟩ el
  rw[hsz]at hm
  simp only[convert,Sem.run_bind,run_underlying h1,run_underlying h2,run_underlying h3,Result.andThen_ok,Conv.stringToBytes,run_choose,hforced,Bool.false_eq_true,if_false,Go.newRow,run_newObj,Sem.run_pure]
  show(((markStringish ⟨w.heap.size,0,none⟩).run P {w with drawn:=w.drawn+1,heap:=w.heap.push (.cells ((s.data.map fun b=>(Value.int .u8 (b.toNat:Int)))++Array.replicate (c - s.size) (Value.int .u8 0)) el)}).andThen
   fun _ w''=>Result.ok (Value.slice (some ⟨w.heap.size,0,none⟩) s.size c) w'')=_
  rw[harr]
  have hm':(markStringish ⟨w.heap.size,0,none⟩).run P {w with drawn:=w.drawn+1,heap:=w.heap.push (.cells ⟨cells++rest⟩ el)}=.ok () w':=hm
  rw[hm'];rfl
 rw[key]
 refine⟨_,_,_,rfl,?_,H1,ev⟩
 have e1:s.data.toList.length=s.size:=rfl
 rw[e1]
 refine .slice (Nat.le_refl _) ⟨rfl,rfl,_,Phi.put_self _ _ _,rfl,?_⟩
 rcases Nat.eq_zero_or_pos s.size with h0|h0
 ·refine .inr ⟨h0,.inr ⟨?_,?_⟩⟩
  ·simp only[hlen,h0]
  ·simp only[hlen,hsz,h0];omega
 ·refine .inl ⟨h0,rfl,.inr ⟨?_,hc,?_⟩⟩
  ·simp only[hlen];omega
  ·simp only[hsz];omega
end
end
noncomputable section
open Go
section
variable {P:Program}{ty:TTy}{φ:Phi}{h:Hp}{w:World}{e:Env}{v:Value}{f:Fr}
def FG:Value→Lit
 |.bool b=>.bool b
 |.int q n=>.int q n
 |.string s=>.string s.data.toList
 |_=>.bool false
theorem kG{k:IntKind}{n:Int}(h:inK k n=true):(Lit.int k n).wf=true:=by
 unfold Lit.wf
 simp only[Bool.and_eq_true,decide_eq_true_eq]
 cases n with
 |ofNat m=>
  have h:Nat.ble m (A7 k)=true:=h
  have:=Af.1 h
  cases k<;>simp[IntKind.min,IntKind.max,IntKind.signed,IntKind.bits,A7]at this ⊢<;>omega
 |negSucc m=>
  cases k<;>simp only[inK]at h<;>first|(cases h;done)|skip
  all_goals
   have:=Af.1 h
   simp[IntKind.min,IntKind.max,IntKind.signed,IntKind.bits,A7]at this ⊢
   omega
theorem Gr{k:IntKind}{v:Value}(h:KY (.i k) v=true):∃ n,v=.int k n∧(Lit.int k n).wf=true:=by
 unfold KY at h
 simp only at h
 split at h
 ·split at h
  ·rename_i hq
   exact⟨_,by rw[HI hq],kG h⟩
  ·cases h
 ·cases h
theorem F0{v:Value}(h:KY .b v=true):∃ b,v=.bool b:=by
 unfold KY at h
 simp only at h
 split at h
 ·exact⟨_,rfl⟩
 ·cases h
theorem Gs{v:Value}(h:KY .s v=true):∃ s,v=.string s∧s.size≤maxLen:=by
 unfold KY at h
 simp only at h
 split at h
 ·rename_i s
  refine⟨s,rfl,?_⟩
  have:=Af.1 h
  rw[BN]at this
  have e:s.data.toList.length=s.size:=by simp
  have hm:most≤maxLen:=by unfold most maxLen;omega
  omega
 ·cases h
theorem C4{l:List Value}(h:EH [] l=true):l=[]:=by
 cases l with
 |nil=>rfl
 |cons=>cases h
theorem CX{c:CK}{ks:List CK}{l:List Value}(h:EH (c::ks) l=true):∃ v r,l=v::r∧KY c v=true∧EH ks r=true:=by
 cases l with
 |nil=>cases h
 |cons v r=>
  unfold EH at h
  split at h
  ·rename_i hc;exact⟨v,r,rfl,hc,h⟩
  ·cases h
theorem Ip:∀ {ks:List CK} {l:List Value},EH ks l=true→l.length=ks.length
 |[],l,h=>by rw[C4 h];rfl
 |c::ks,l,h=>by
  obtain⟨v,r,rfl,_,hr⟩:=CX h
  simp[Ip hr]
theorem Gt:∀ {a b:List CK} {l:List Value},EH (a++b) l=true→EH a (l.take a.length)=true∧EH b (l.drop a.length)=true
 |[],b,l,h=>⟨rfl,h⟩
 |c::a,b,l,h=>by
  obtain⟨v,r,rfl,hc,hr⟩:=CX h
  obtain⟨h1,h2⟩:=Gt hr
  refine⟨?_,by simpa using h2⟩
  show EH (c::a) (v::r.take a.length)=true
  unfold EH
  rw[hc];exact h1
theorem IB{c:CK}{v:Value}(h:KY c v=true):∃ l:Lit,FG v=l∧v=l.toCell∧l.keyWf:=by
 cases c with
 |i k=>obtain⟨n,rfl,hw⟩:=Gr h;exact⟨.int k n,rfl,rfl,hw⟩
 |b=>obtain⟨b,rfl⟩:=F0 h;exact⟨.bool b,rfl,rfl,trivial⟩
 |s=>obtain⟨s,rfl,hs⟩:=Gs h;exact⟨.string s.data.toList,rfl,rfl,by show s.data.toList.length≤maxLen;simpa using hs⟩
theorem PT{ks:List CK}:∀ {l l':List Value},EH ks l=true→RelL φ l l'→l'=l:=by
 induction ks with
 |nil=>intro l l' h hr;rw[C4 h]at hr ⊢;cases hr;rfl
 |cons c ks ih=>
  intro l l' h hr
  obtain⟨v,r,rfl,hc,hr'⟩:=CX h
  cases hr with
  |cons hv ht=>
   rw[ih hr' ht]
   congr 1
   cases c with
   |i k=>obtain⟨n,rfl,_⟩:=Gr hc;exact hv.int_inv
   |b=>obtain⟨n,rfl⟩:=F0 hc;exact hv.bool_inv
   |s=>obtain⟨n,rfl,_⟩:=Gs hc;exact hv.string_inv
theorem FU{x:Value}(hne:∀ l,x≠.agg l):cellsOf x=[x]:=by
 unfold cellsOf
 split
 ·rename_i l;exact absurd rfl (hne l)
 ·rfl
theorem Cz{K:KS}{x:Value}(h:FL K x=true):EH K.ks (cellsOf x)=true∧cellsOf x=x.cells.toList∧((K.agg=true∧∃ l,x=.agg ⟨l⟩)∨(K.agg=false∧(∀ l,x≠.agg l)∧∀ l,x≠.tuple l)):=by
 unfold FL at h
 split at h
 ·rename_i cs
  split at h
  ·rename_i ha
   exact⟨h,rfl,.inl ⟨ha,cs.toList,rfl⟩⟩
  ·cases h
 ·rename_i hne
  split at h
  ·cases h
  ·rename_i ha
   have hne':∀ l,x≠.agg l:=fun l e=>hne l e
   have hc:cellsOf x=[x]:=by
    unfold cellsOf
    split
    ·rename_i l;exact absurd rfl (hne' l)
    ·rfl
   have hnt:∀ l,x≠.tuple l:=by
    intro l e
    subst e
    cases hk:K.ks with
    |nil=>rw[hk]at h;cases h
    |cons c ks=>
     rw[hk]at h
     obtain⟨v,r,e,hc,_⟩:=CX h
     cases e
     cases c<;>cases hc
   refine⟨by rw[hc];exact h,?_,.inr ⟨ha,hne',hnt⟩⟩
   rw[hc]
   cases x<;>first|rfl|exact absurd rfl (hne' _)|exact absurd rfl (hnt _)
theorem Io{K:KS}{x x':Value}(h:FL K x=true)(hr:RelV φ x x'):x'=x:=by
 obtain⟨h1,h2,h3⟩:=Cz h
 rcases h3 with ⟨_,l,rfl⟩|⟨_,hne,hnt⟩
 ·cases hr with
  |agg hr=>rw[PT h1 hr];rfl
 ·have hc:cellsOf x=[x]:=FU hne
  rw[hc]at h1
  have:=PT h1 (.cons hr .nil)
  exact List.cons.inj this |>.1
theorem L3{α β:Type}{f:α→Option β}{g:α→β}:∀ {L:List α},(∀ x∈L,f x=some (g x))→L.mapM f=some (L.map g)
 |[],_=>rfl
 |x::L,h=>by
  rw[List.mapM_cons,h x (by simp),L3 fun y hy=>h y (by simp[hy])];rfl
theorem PU{ks:List CK}:∀ {m:Nat} {cs:List Value},EH (BJ ks m) cs=true→cs.length=m * ks.length∧∀ i,i<m→EH ks ((cs.drop (i * ks.length)).take ks.length)=true
 |0,cs,h=>by
  refine⟨?_,fun i hi=>absurd hi (Nat.not_lt_zero _)⟩
  rw[C4 h];simp
 |m+1,cs,h=>by
  have h:EH (ks++BJ ks m) cs=true:=h
  obtain⟨h1,h2⟩:=Gt h
  obtain⟨h3,h4⟩:=PU h2
  have hl:=Ip h1
  refine⟨?_,fun i hi=>?_⟩
  ·simp only[List.length_take,List.length_drop]at hl h3
   rw[Nat.succ_mul];omega
  ·cases i with
   |zero=>simpa using h1
   |succ i=>
    have:=h4 i (by omega)
    rw[List.drop_drop]at this
    rw[Nat.succ_mul,Nat.add_comm]
    exact this
theorem PX{P:Program}{rec:Nat→Option (List CK)}:∀ {L:List Field} {off:Nat} {ks:List CK},flatK.flatF rec off (L.map fun f=>(f.offset,P.cellsOf f.type,f.type))=some ks→
  (∀ f∈L,∃ kf,rec f.type=some kf)∧
  ∀ cs:List Value,EH ks (cs.drop off)=true→(∀ f∈L,∀ kf,rec f.type=some kf→EH kf ((cs.drop f.offset).take (P.cellsOf f.type))=true)∧
   ((L.map fun f=>(cs.drop f.offset).take (P.cellsOf f.type)).flatten=cs.drop off)
 |[],off,ks,hk=>by
  cases hk
  refine⟨(fun f hf=>by cases hf),fun cs h=>⟨(fun f hf=>by cases hf),?_⟩⟩
  rw[C4 h];rfl
 |f::L,off,ks,hk=>by
  rw[List.map_cons]at hk
  unfold flatK.flatF at hk
  split at hk
  case h_2=>cases hk
  rename_i ho
  split at hk
  case h_2=>cases hk
  rename_i kf hkf
  split at hk
  case h_2=>cases hk
  rename_i hl
  split at hk
  case h_2=>cases hk
  rename_i r hr
  cases hk
  have ho:f.offset=off:=Al.1 ho
  have hl:kf.length=P.cellsOf f.type:=by rw[← Al.1 hl,BN]
  obtain⟨i1,i2⟩:=PX hr
  refine⟨fun g hg=>?_,fun cs h=>?_⟩
  ·rcases List.mem_cons.1 hg with rfl|hg
   ·exact⟨kf,hkf⟩
   ·exact i1 g hg
  ·obtain⟨h1,h2⟩:=Gt h
   rw[hl]at h1 h2
   rw[List.drop_drop]at h2
   obtain⟨i3,i4⟩:=i2 cs h2
   refine⟨fun g hg kg hkg=>?_,?_⟩
   ·rcases List.mem_cons.1 hg with rfl|hg
    ·rw[hkf]at hkg;cases hkg
     rw[ho];exact h1
    ·exact i3 g hg kg hkg
   ·rw[List.map_cons,List.flatten_cons,i4,ho]
    have:cs.drop (Nat.add off (P.cellsOf f.type))=(cs.drop off).drop (P.cellsOf f.type):=by rw[List.drop_drop];rfl
    rw[this,List.take_append_drop]
theorem N5{t:Nat}{fs:Array Field}(hu:P.underlying t=some (.struct fs))(hf:fineS P t=true):
  (∀ f∈fs.toList,(f.name != "_")=true)∧(!(P.cutTypes.any (·.2 == t)) && !P.stoodInHeld t)=true:=by
 unfold fineS at hf
 rw[hu]at hf
 simp only[Bool.and_eq_true,Array.all_eq_true_iff_forall_mem]at hf
 obtain⟨⟨h1,h2⟩,h3⟩:=hf
 exact⟨fun f hm=>h1 f (Array.mem_toList_iff.1 hm),by rw[h2,h3];rfl⟩
theorem Ec(hT:Cc P ty):∀ (n t:Nat) (ks:List CK),flatK ty n t=some ks→
  P.keyTypeAt n t=true∧(∀ d,n≤d→P.eqGuardType d t=false)∧(∀ ti,ty.get t=some ti→ti.k.agg=true→ks.length=ti.size)∧
  ∀ cs,EH ks cs=true→P.keyLits n t cs=some (cs.map FG)
 |0,t,ks,h=>by cases h
 |n+1,t,ks,h=>by
  unfold flatK at h
  cases hg:ty.get t with
  |none=>rw[hg]at h;cases h
  |some ti=>
   simp only[hg]at h
   have T:=hT t ti hg
   obtain⟨d,hd,hk⟩:=T.und
   have hcell:=T.cells
   have plain:∀ {d:TypeDesc},(match d with|.interface _=>true|.struct _=>true|.array _ _=>true|_=>false)=false→P.underlying t=some d→∀ q,n+1≤q→P.eqGuardType q t=false:=by
    intro d h1 hd q hq
    cases q with
    |zero=>omega
    |succ q=>unfold Program.eqGuardType;rw[hd];cases d<;>first|rfl|cases h1
   cases hkk:ti.k with
   |int k=>
    simp only[hkk]at h;rw[hkk]at hk;cases hk;cases h
    refine⟨by unfold Program.keyTypeAt;rw[hd],plain rfl hd,(fun ti' ht' ha=>by cases ht';rw[hkk]at ha;cases ha),fun cs hf=>?_⟩
    obtain⟨v,r,rfl,hc,hr⟩:=CX hf
    obtain rfl:=C4 hr
    obtain⟨m,rfl,hw⟩:=Gr hc
    unfold Program.keyLits;rw[hd]
    simp[hw,FG]
   |bool=>
    simp only[hkk]at h;rw[hkk]at hk;cases hk;cases h
    refine⟨by unfold Program.keyTypeAt;rw[hd],plain rfl hd,(fun ti' ht' ha=>by cases ht';rw[hkk]at ha;cases ha),fun cs hf=>?_⟩
    obtain⟨v,r,rfl,hc,hr⟩:=CX hf
    obtain rfl:=C4 hr
    obtain⟨m,rfl⟩:=F0 hc
    unfold Program.keyLits;rw[hd]
    simp[FG]
   |string=>
    simp only[hkk]at h;rw[hkk]at hk;cases hk;cases h
    refine⟨by unfold Program.keyTypeAt;rw[hd],plain rfl hd,(fun ti' ht' ha=>by cases ht';rw[hkk]at ha;cases ha),fun cs hf=>?_⟩
    obtain⟨v,r,rfl,hc,hr⟩:=CX hf
    obtain rfl:=C4 hr
    obtain⟨m,rfl,hw⟩:=Gs hc
    unfold Program.keyLits;rw[hd]
    simp[hw,FG]
   |arr m el=>
    simp only[hkk]at h;rw[hkk]at hk;cases hk
    split at h
    case h_2=>cases h
    rename_i ei hei
    split at h
    case h_2=>cases h
    rename_i ke hke
    split at h
    case h_2=>cases h
    rename_i hl
    split at h
    case h_2=>cases h
    rename_i hm
    cases h
    obtain⟨i1,i2,_,i3⟩:=Ec hT n el ke hke
    have hce:=(hT el ei hei).cells
    have hl:ke.length=ei.size:=by rw[← Al.1 hl,BN]
    have hm:m * ei.size=ti.size:=Al.1 hm
    have hrep:∀ m,(BJ ke m).length=m * ke.length:=by
     intro m
     induction m with
     |zero=>simp[BJ]
     |succ m ih=>rw[BJ,List.length_append,ih,Nat.succ_mul];omega
    refine⟨by unfold Program.keyTypeAt;rw[hd];exact i1,fun q hq=>?_,(fun ti' ht' ha=>by cases ht';rw[hrep,hl,hm]),fun cs hf=>?_⟩
    ·cases q with
     |zero=>omega
     |succ q=>unfold Program.eqGuardType;rw[hd];exact i2 q (by omega)
    ·obtain⟨f1,f2⟩:=PU hf
     have hlen:cs.length=P.cellsOf t:=by rw[hcell,← hm,f1,hl]
     have hmap:(List.range m).mapM (fun i=>P.keyLits n el ((cs.drop (i * P.cellsOf el)).take (P.cellsOf el)))=some ((List.range m).map fun i=>((cs.drop (i * P.cellsOf el)).take (P.cellsOf el)).map FG):=
      L3 fun i hi=>by
       rw[hce,← hl]
       exact i3 _ (f2 i (List.mem_range.1 hi))
     unfold Program.keyLits
     rw[hd]
     simp only[hlen,if_true,hmap,Option.map_some]
     congr 1
     have:=chunks_flatten (P.cellsOf el) m cs (by rw[hce,← hl];exact f1)
     conv=>rhs;rw[← this]
     rw[List.map_flatten,List.map_map];rfl
   |struct fs=>
    simp only[hkk]at h;rw[hkk]at hk
    cases hk with
    |@struct _ fields hfs _=>
     split at h
     case h_2=>cases h
     rename_i ks' hks
     split at h
     case h_2=>cases h
     rename_i hl
     cases h
     have hl:ks.length=ti.size:=by rw[← Al.1 hl,BN]
     rw[← hfs]at hks
     obtain⟨j1,j2⟩:=PX hks
     obtain⟨n1,n2⟩:=N5 hd T.fine
     refine⟨?_,fun q hq=>?_,(fun ti' ht' ha=>by cases ht';exact hl),fun cs hf=>?_⟩
     ·unfold Program.keyTypeAt
      rw[hd]
      simp only[Bool.and_assoc,n2,Bool.and_true]
      rw[Array.all_eq_true_iff_forall_mem]
      intro f hm
      obtain⟨kf,hkf⟩:=j1 f (Array.mem_toList_iff.2 hm)
      rw[n1 f (Array.mem_toList_iff.2 hm),(Ec hT n f.type kf hkf).1];rfl
     ·cases q with
      |zero=>omega
      |succ q=>
       unfold Program.eqGuardType;rw[hd]
       simp only
       rw[Array.any_eq_false]
       intro i hi
       obtain⟨kf,hkf⟩:=j1 fields[i] (Array.mem_toList_iff.2 (Array.getElem_mem hi))
       rw[(Ec hT n _ kf hkf).2.1 q (by omega)];simp
     ·have hf0:EH ks (cs.drop 0)=true:=hf
      obtain⟨k1,k2⟩:=j2 cs hf0
      have hlen:cs.length=P.cellsOf t:=by rw[hcell,← hl,Ip hf]
      have hmap:fields.toList.mapM (fun f=>P.keyLits n f.type ((cs.drop f.offset).take (P.cellsOf f.type)))=some (fields.toList.map fun f=>((cs.drop f.offset).take (P.cellsOf f.type)).map FG):=
       L3 fun f hm=>by
        obtain⟨kf,hkf⟩:=j1 f hm
        exact(Ec hT n f.type kf hkf).2.2.2 _ (k1 f hm kf hkf)
      have hall:fields.all (·.name != "_")=true:=by
       rw[Array.all_eq_true_iff_forall_mem]
       intro f hm
       exact n1 f (Array.mem_toList_iff.2 hm)
      unfold Program.keyLits
      rw[hd]
      simp only[hlen,hall,and_self,if_true,hmap,Option.map_some]
      congr 1
      have:cs=cs.drop 0:=rfl
      conv=>rhs;rw[this,← k2]
      rw[List.map_flatten,List.map_map];rfl
   |_=>simp only[hkk]at h;cases h
theorem Jb{c:CK}{a b:Value}(ha:KY c a=true)(hb:KY c b=true){r:Bool}(hr:LS a b=some r):r=true↔FG a=FG b:=by
 cases c with
 |i k=>
  obtain⟨m,rfl,_⟩:=Gr ha
  obtain⟨n,rfl,_⟩:=Gr hb
  unfold LS at hr
  simp only at hr
  split at hr
  ·cases hr;rw[Dp];simp[FG]
  ·cases hr
 |b=>
  obtain⟨m,rfl⟩:=F0 ha
  obtain⟨n,rfl⟩:=F0 hb
  unfold LS at hr
  cases hr;simp[FG]
 |s=>
  obtain⟨m,rfl,_⟩:=Gs ha
  obtain⟨n,rfl,_⟩:=Gs hb
  unfold LS at hr
  cases hr;rw[LG];simp[FG]
theorem LU:∀ {ks:List CK} {a b:List Value},EH ks a=true→EH ks b=true→∀ {r:Bool},GK a b=some r→(r=true↔a.map FG=b.map FG)
 |[],a,b,ha,hb,r,hr=>by
  rw[C4 ha,C4 hb]at *
  cases hr;simp
 |c::ks,a,b,ha,hb,r,hr=>by
  obtain⟨x,a,rfl,hx,ha⟩:=CX ha
  obtain⟨y,b,rfl,hy,hb⟩:=CX hb
  unfold GK at hr
  split at hr
  ·rename_i h1
   have i1:=(Jb hx hy h1).1 rfl
   rw[LU ha hb hr]
   simp[i1]
  ·rename_i h1
   cases hr
   have i1:=Jb hx hy h1
   simp only[List.map_cons,List.cons.injEq]
   constructor
   ·intro h;cases h
   ·intro h;exact i1.2 h.1
  ·cases hr
structure KeyOf (P:Program)(ty:TTy)(t:Nat)(K:KS):Prop where
 ti:∃ ti,ty.get t=some ti∧K.agg=ti.k.agg
 flat:flatK ty 8 t=some K.ks
theorem KeyOf.formed(hT:Cc P ty){t:Nat}{K:KS}(hK:KeyOf P ty t K){x:Value}(hx:FL K x=true):x.formed P t=true∧P.keyLits 8 t x.cells.toList=some ((cellsOf x).map FG):=by
 obtain⟨ti,hti,ha⟩:=hK.ti
 obtain⟨_,_,f3,f4⟩:=Ec hT 8 t K.ks hK.flat
 obtain⟨h1,h2,h3⟩:=Cz hx
 have T:=hT t ti hti
 obtain⟨d,hd,hk⟩:=T.und
 refine⟨?_,by rw[← h2];exact f4 _ h1⟩
 rcases h3 with ⟨hag,l,rfl⟩|⟨hag,hne,hnt⟩
 ·rw[ha]at hag
  have hs:=f3 ti hti hag
  have hl:=Ip h1
  unfold Value.formed
  rw[hd]
  have hsz:(Array.mk l).size=P.cellsOf t:=by
   have:l.length=K.ks.length:=hl
   rw[T.cells,← hs,← this];rfl
  generalize ti.k=kk at hk hag
  cases hk<;>first|(cases hag;done)|(simp only[hsz];exact beq_self_eq_true _)
 ·rw[ha]at hag
  have:(match P.underlying t with|some (.struct _)=>false|some (.array _ _)=>false|_=>true)=true:=by
   rw[hd]
   generalize ti.k=kk at hk hag
   cases hk<;>first|rfl|(cases hag;done)|skip
   rename_i ho
   cases d<;>first|rfl|cases ho
  unfold Value.formed
  cases x<;>first|exact absurd rfl (hne _)|exact absurd rfl (hnt _)|exact this
theorem KeyOf.equal(hT:Cc P ty){t:Nat}{K:KS}(hK:KeyOf P ty t K){x y:Value}(hx:FL K x=true)(hy:FL K y=true){r:Bool}(hr:GK (cellsOf x) (cellsOf y)=some r)(w:World):
  (Op.equal t x y).run P w=.ok r w:=by
 obtain⟨f1,f2⟩:=hK.formed hT hx
 obtain⟨g1,g2⟩:=hK.formed hT hy
 obtain⟨k1,_⟩:=Ec hT 8 t K.ks hK.flat
 obtain⟨r',hr',hiff⟩:=run_equalIn_deep (P:=P) 9992 8 t k1 w _ _ x y _ _ f1 g1 f2 g2
 have:=LU (Cz hx).1 (Cz hy).1 hr
 have e:r'=r:=by
  rw[Bool.eq_iff_iff,hiff,this]
 rw[← e];exact hr'
theorem KeyOf.check(hT:Cc P ty){t:Nat}{K:KS}(hK:KeyOf P ty t K){x:Value}(hx:FL K x=true)(em:Bool)(w:World):(Instr.checkKey em 10000 t x).run P w=.ok () w:=by
 obtain⟨f1,f2⟩:=hK.formed hT hx
 obtain⟨k1,_⟩:=Ec hT 8 t K.ks hK.flat
 exact run_checkKey_deep (P:=P) em 9992 8 t k1 w _ x _ f1 f2
theorem N4{t:Nat}{d:TypeDesc}(hd:P.underlying t=some d)(n:Nat){a b:Value}{c:Bool}(hs:Instr.sameNow d a b=some c)(w:World):(Op.equalIn (n+1) t a b).run P w=.ok c w:=by
 unfold Instr.sameNow at hs
 split at hs
 ·split at hs
  ·rename_i hkk
   cases hs
   simp[Op.equalIn,run_underlying hd,hkk]
  ·cases hs
 ·cases hs;simp[Op.equalIn,run_underlying hd]
 ·cases hs;simp[Op.equalIn,run_underlying hd]
 ·cases hs
theorem Il{t:Nat}{d:TypeDesc}(hd:P.underlying t=some d){k:Value}:∀ {es:List MapEntry} {i:Nat} {r:Option (Nat×Value)},Instr.findNow d k es i=some r→∀ w:World,(Instr.findAsking t k es i).run P w=.ok r w
 |[],i,r,h,w=>by cases h;simp[Instr.findAsking]
 |e::es,i,r,h,w=>by
  have same:∀ {a b:Value} {c:Bool},Instr.sameNow d a b=some c→(Op.equal t a b).run P w=.ok c w:=fun hs=>N4 hd 9999 hs w
  unfold Instr.findNow at h
  split at h
  ·rename_i hs
   cases h
   simp[Instr.findAsking,same hs]
  ·rename_i hs
   have:=Il hd h w
   simp[Instr.findAsking,same hs,this]
  ·cases h
theorem Da{t:Nat}{d:TypeDesc}(hd:P.underlying t=some d){k:Value}{es:List MapEntry}{r:Option (Nat×Value)}(hr:(Instr.findAsking t k es 0).run P w=.ok r w):(Instr.findKey t k es).run P w=.ok r w:=by
 unfold Instr.findKey
 simp only[Sem.run_bind,run_underlying hd,Result.andThen_ok]
 cases hn:Instr.findNow d k es 0 with
 |none=>exact hr
 |some r'=>
  have:=Il hd hn w
  rw[hr]at this
  cases this
  simp
theorem E7(hT:Cc P ty){t:Nat}{K:KS}(hK:KeyOf P ty t K){x y y':Value}(hx:FL K x=true)(hy:RelV φ y y'){r:Bool}(hr:G4 K x y=some r)(w:World):(Op.equal t x y').run P w=.ok r w∧FL K y=true∧y'=y:=by
 unfold G4 at hr
 split at hr
 ·rename_i hf
  have:=Io hf hy
  subst this
  exact⟨hK.equal hT hx hf hr w,hf,rfl⟩
 ·cases hr
theorem Li(hT:Cc P ty){t:Nat}{K:KS}(hK:KeyOf P ty t K){x:Value}(hx:FL K x=true)(w:World):∀ {es:List Ent} {es':List MapEntry} (i:Nat),RelE φ es es'→∀ {r:Option Ent},Lh K x es=some r→
  match r with
  |none=>(Instr.findAsking t x es' i).run P w=.ok none w
  |some e=>∃ j v',(Instr.findAsking t x es' i).run P w=.ok (some (j,v')) w∧RelV φ e.val v'
 |_,_,i,.nil,r,h=>by cases h;simp[Instr.findAsking]
 |_,_,i,.cons (k:=k) (k':=k') (v:=v) (v':=v') (b:=b) (l:=l) (l':=l') hk hv ht,r,h=>by
  unfold Lh at h
  split at h
  ·rename_i he
   cases h
   obtain⟨h1,_⟩:=E7 hT hK hx hk he w
   exact⟨i,v',by simp[Instr.findAsking,h1],hv⟩
  ·rename_i he
   obtain⟨h1,_⟩:=E7 hT hK hx hk he w
   have ih:=Li hT hK hx w (i+1) ht h
   cases r with
   |none=>simpa [Instr.findAsking,h1] using ih
   |some e=>
    obtain⟨j,u,hj,hu⟩:=ih
    exact⟨j,u,by simp[Instr.findAsking,h1,hj],hu⟩
  ·cases h
theorem PV{c:CK}{x:Value}(h:KY c x=true)(n:Nat):Instr.sameBits n x x=true:=by
 obtain⟨l,_,rfl,hw⟩:=IB h
 exact sameBits_toCell hw n
theorem Uv{ks:List CK}(n:Nat):∀ {l:List Value},EH ks l=true→(l.zip l).all (fun (x,y)=>Instr.sameBits n x y)=true:=by
 induction ks with
 |nil=>intro l h;rw[C4 h];rfl
 |cons c ks ih=>
  intro l h
  obtain⟨v,r,rfl,hc,hr⟩:=CX h
  simp only[List.zip_cons_cons,List.all_cons,PV hc,ih hr,Bool.and_self]
theorem Uu{K:KS}{x:Value}(h:FL K x=true)(n:Nat):Instr.sameBits (n+1) x x=true:=by
 obtain⟨h1,_,h3⟩:=Cz h
 rcases h3 with ⟨_,l,rfl⟩|⟨_,hne,hnt⟩
 ·unfold Instr.sameBits
  simp only[beq_self_eq_true,Bool.true_and]
  exact Uv n h1
 ·have hc:cellsOf x=[x]:=FU hne
  rw[hc]at h1
  cases hk:K.ks with
  |nil=>rw[hk]at h1;cases h1
  |cons c ks=>
   rw[hk]at h1
   obtain⟨v,r,e,hcc,_⟩:=CX h1
   cases e
   exact PV hcc _
theorem LT:∀ {ks:List CK} {a b:List Value},EH ks a=true→EH ks b=true→GK a b=some true→a=b
 |[],a,b,ha,hb,_=>by rw[C4 ha,C4 hb]
 |c::ks,a,b,ha,hb,hr=>by
  obtain⟨x,a,rfl,hx,ha⟩:=CX ha
  obtain⟨y,b,rfl,hy,hb⟩:=CX hb
  unfold GK at hr
  split at hr
  ·rename_i h1
   have i1:=(Jb hx hy h1).1 rfl
   rw[LT ha hb hr]
   obtain⟨l,e1,e2,_⟩:=IB hx
   obtain⟨m,e3,e4,_⟩:=IB hy
   rw[e2,e4,← e1,← e3,i1]
  ·cases hr
  ·cases hr
theorem R0{K:KS}{x y:Value}(hx:FL K x=true)(hr:G4 K x y=some true):x=y:=by
 unfold G4 at hr
 split at hr
 ·rename_i hf
  obtain⟨h1,h2,h3⟩:=Cz hx
  obtain⟨g1,g2,g3⟩:=Cz hf
  have:=LT h1 g1 hr
  rcases h3 with ⟨ha,l,rfl⟩|⟨ha,hne,hnt⟩
  ·rcases g3 with ⟨_,m,rfl⟩|⟨hb,_⟩
   ·have:l=m:=this
    rw[this]
   ·rw[ha]at hb;cases hb
  ·rcases g3 with ⟨hb,_⟩|⟨_,gne,gnt⟩
   ·rw[ha]at hb;cases hb
   ·have c1:cellsOf x=[x]:=FU hne
    have c2:cellsOf y=[y]:=FU gne
    rw[c1,c2]at this
    exact List.cons.inj this |>.1
 ·cases hr
theorem K6(hT:Cc P ty){t:Nat}{K:KS}(hK:KeyOf P ty t K){x:Value}(hx:FL K x=true){u u':Value}(hu:RelV φ u u')(hxx:RelV φ x x)(w:World):∀ {es:List Ent} {es':List MapEntry} (i:Nat),RelE φ es es'→∀ {r:Option (List Ent)},Mr K x u es=some r→
  match r with
  |none=>(Instr.findAsking t x es' i).run P w=.ok none w
  |some es2=>∃ j v' en,(Instr.findAsking t x es' i).run P w=.ok (some (i+j,v')) w∧es'[j]? =some en∧en.key=x∧RelE φ es2 (es'.modify j fun e=>{e with key:=x,val:=u'})
 |_,_,i,.nil,r,h=>by cases h;simp[Instr.findAsking]
 |_,_,i,.cons (k:=k) (k':=k') (v:=v) (v':=v') (b:=b) (l:=l) (l':=l') hk hv ht,r,h=>by
  unfold Mr at h
  split at h
  ·rename_i he
   cases h
   obtain⟨h1,_,h2⟩:=E7 hT hK hx hk he w
   have h3:=R0 hx he
   exact⟨0,v',⟨k',v',b⟩,by simp[Instr.findAsking,h1],rfl,by simp only;rw[h2];exact h3.symm,by simpa using RelE.cons hxx hu ht⟩
  ·rename_i he
   obtain⟨h1,_⟩:=E7 hT hK hx hk he w
   split at h
   ·rename_i es2 hs
    cases h
    obtain⟨j,v2,en,e1,e2,e3,e4⟩:=K6 hT hK hx hu hxx w (i+1) ht hs
    refine⟨j+1,v2,en,?_,by simpa using e2,e3,by simpa using RelE.cons hk hv e4⟩
    simp only[Instr.findAsking,Sem.run_bind,h1,Result.andThen_ok,Bool.false_eq_true,if_false]
    rw[e1];congr 3;omega
   ·rename_i hs
    cases h
    have:=K6 hT hK hx hu hxx w (i+1) ht hs
    simpa [Instr.findAsking,h1] using this
   ·cases h
  ·cases h
theorem S0(hT:Cc P ty){t:Nat}{K:KS}(hK:KeyOf P ty t K){x:Value}(hx:FL K x=true)(w:World):∀ {es:List Ent} {es':List MapEntry} (i:Nat),RelE φ es es'→∀ {es2:List Ent},ae K x es=some es2→
  ((Instr.findAsking t x es' i).run P w=.ok none w∧es2=es)∨∃ j v',(Instr.findAsking t x es' i).run P w=.ok (some (i+j,v')) w∧RelE φ es2 (es'.eraseIdx j)
 |_,_,i,.nil,es2,h=>by cases h;exact .inl ⟨by simp[Instr.findAsking],rfl⟩
 |_,_,i,.cons (k:=k) (k':=k') (v:=v) (v':=v') (b:=b) (l:=l) (l':=l') hk hv ht,es2,h=>by
  unfold ae at h
  split at h
  ·rename_i he
   cases h
   obtain⟨h1,_⟩:=E7 hT hK hx hk he w
   exact .inr ⟨0,v',by simp[Instr.findAsking,h1],by simpa using ht⟩
  ·rename_i he
   obtain⟨h1,_⟩:=E7 hT hK hx hk he w
   split at h
   ·rename_i l2 hs
    cases h
    rcases S0 hT hK hx w (i+1) ht hs with ⟨e1,e2⟩|⟨j,v2,e1,e2⟩
    ·exact .inl ⟨by simp[Instr.findAsking,h1,e1],by rw[e2]⟩
    ·refine .inr ⟨j+1,v2,?_,by simpa using RelE.cons hk hv e2⟩
     simp only[Instr.findAsking,Sem.run_bind,h1,Result.andThen_ok,Bool.false_eq_true,if_false]
     rw[e1];congr 3;omega
   ·cases h
  ·cases h
theorem Sj{x:Ent}:∀ {es:List Ent},UT x es=es++[x]
 |[]=>rfl
 |e::es=>by unfold UT;rw[Sj];rfl
theorem RelE.append{x:Ent}{x':MapEntry}(hx:RelE φ [x] [x']):∀ {es:List Ent} {es':List MapEntry},RelE φ es es'→RelE φ (es++[x]) (es'++[x'])
 |_,_,.nil=>hx
 |_,_,.cons hk hv t=>.cons hk hv (RelE.append hx t)
theorem Lk{K:KS}{x x':Value}(h:FL K x=true)(hr:RelV φ x x'):x'=x∧RelV φ x x:=by
 have:=Io h hr
 subst this
 exact⟨rfl,hr⟩
end
end
noncomputable section
open Go
section
variable {P:Program}{ty:TTy}{φ:Phi}{E:Nat→Prop}{h h':Hp}{w:World}{F:CallF}{e:Env}{v:Value}
def TL:Value→Bool
 |.bool _|.pointer _|.slice _ _ _|.map _|.func _ _ _|.nilFunc=>true
 |_=>false
theorem WM{op:BinOp}{neg:Bool}(hop:(op=.eql∧neg=false)∨(op=.neq∧neg=true)){t:TypeId}{X Y:Operand}{a b:Value}(ha:TL a=true∨∃ l,a=.agg l)(hg:(eqGuard op t X Y a b).run P w=.ok () w)
  {r:Bool}(hr:(Op.equal t a b).run P w=.ok r w):(Bl op t X Y a b).run P w=.ok (.bool (neg != r)) w:=by
 unfold Bl
 rw[Sem.run_bind,hg,Result.andThen_ok]
 have:binOp op t a b=(do pure (.bool (neg != (← Op.equal t a b)))):=by
  rcases hop with ⟨rfl,rfl⟩|⟨rfl,rfl⟩
  ·rcases ha with ha|⟨l,rfl⟩
   ·cases a<;>first|(cases ha;done)|skip
    all_goals (simp[binOp];try rfl)
   ·simp[binOp]
  ·rcases ha with ha|⟨l,rfl⟩
   ·cases a<;>first|(cases ha;done)|skip
    all_goals (simp[binOp];try rfl)
   ·simp[binOp]
 rw[this,Sem.run_bind,hr,Result.andThen_ok,Sem.run_pure]
theorem Rn{op:BinOp}{t:TypeId}{X Y:Operand}{a b:Value}(ha:TL a=true):(eqGuard op t X Y a b).run P w=.ok () w:=by
 cases op<;>first|rfl|skip
 all_goals (cases a<;>first|(cases ha;done)|rfl)
theorem Ux{op:BinOp}{t:TypeId}{X Y:Operand}{a b:Array Value}(hg:P.eqGuardType P.depth t=false):(eqGuard op t X Y (.agg a) (.agg b)).run P w=.ok () w:=by
 cases op<;>first|rfl|skip
 all_goals (simp[eqGuard,hg])
theorem jk(n:Nat){k:TK}{x y x' y':Value}{r:Bool}(hr:eqV k x y=some r)(hx:RelV φ x x')(hy:RelV φ y y'){t:Nat}{d:TypeDesc}(hd:P.underlying t=some d)(hk:KOk P k d)(w:World):
  TL x'=true∧(Op.equalIn (n+1) t x' y').run P w=.ok r w:=by
 unfold eqV at hr
 split at hr
 case h_12=>cases hr
 all_goals (cases hr;cases hk;first|skip|(rename_i ho;cases ho))
 all_goals (cases hx;cases hy)
 all_goals (refine⟨rfl,?_⟩;simp[Op.equalIn,run_underlying hd])
theorem jl{k:TK}{x y x' y':Value}{r:Bool}(hr:eqV k x y=some r)(hx:RelV φ x x')(hy:RelV φ y y'){t:Nat}{d:TypeDesc}(hd:P.underlying t=some d)(hk:KOk P k d)(w:World):
 TL x'=true∧(Op.equal t x' y').run P w=.ok r w:=jk 9999 hr hx hy hd hk w
theorem YC(H:RelW ty φ E h w){k:TK}{op:BinOp}{neg:Bool}(hop:(op=.eql∧neg=false)∨(op=.neq∧neg=true)){t:Nat}{ti:TI}(T:TyOk P t ti)(hk:ti.k=k){X Y:Operand}{x y:O}{x' y':Value}
  (hx:RelV φ (x e) x')(hy:RelV φ (y e) y')(hr:oEq k neg x y F e h=.ok v h'):BI ty φ E h w v h' ((Bl op t X Y x' y').run P w):=by
 obtain⟨d,hd,hkd⟩:=T.und
 rw[hk]at hkd
 unfold oEq at hr
 split at hr
 case h_2=>cases hr
 rename_i r hq
 obtain⟨rfl,rfl⟩:=IK hr
 obtain⟨h1,h2⟩:=jl hq hx hy hd hkd w
 rw[WM hop (.inl h1) (Rn h1) h2]
 exact .same H (.bool _)
theorem QM(H:RelW ty φ E h w){op:BinOp}{neg:Bool}(hop:(op=.eql∧neg=false)∨(op=.neq∧neg=true)){t:Nat}{ti:TI}(T:TyOk P t ti)(hk:ti.k=.iface){X:Operand}{x:O}{x':Value}
  (hx:RelV φ (x e) x')(hr:Na neg x F e h=.ok v h'):BI ty φ E h w v h' ((Bl op t X (.const .nilIface) x' .nilIface).run P w):=by
 obtain⟨d,hd,hkd⟩:=T.und
 rw[hk]at hkd
 have main:∀ (a:Value) (r:Bool),((a=.nilIface∧r=true)∨((∃ t v,a=.iface t v)∧r=false))→(Bl op t X (.const .nilIface) a .nilIface).run P w=.ok (.bool (neg != r)) w:=by
  intro a r ha
  cases hkd with
  |iface ms=>
  unfold Bl
  have hg:(eqGuard op t X (.const .nilIface) a .nilIface).run P w=.ok () w:=by
   cases op<;>first|rfl|skip
   all_goals (rcases ha with ⟨rfl,_⟩|⟨⟨t,v,rfl⟩,_⟩<;>simp[eqGuard])
  have he1:∀ n,(Op.equalIn (n+1) t a .nilIface).run P w=.ok r w:=fun n=>by
   rcases ha with ⟨rfl,rfl⟩|⟨⟨t,v,rfl⟩,rfl⟩<;>simp[Op.equalIn,run_underlying hd]
  have he:(Op.equal t a .nilIface).run P w=.ok r w:=he1 9999
  have hb:binOp op t a .nilIface=(do pure (.bool (neg != (← Op.equal t a .nilIface)))):=by
   rcases hop with ⟨rfl,rfl⟩|⟨rfl,rfl⟩<;>rcases ha with ⟨rfl,rfl⟩|⟨⟨t,v,rfl⟩,rfl⟩<;>(simp[binOp];try rfl)
  rw[Sem.run_bind,hg,Result.andThen_ok,hb,Sem.run_bind,he,Result.andThen_ok,Sem.run_pure]
 have hr:Xy neg (x e) h=.ok v h':=hr
 generalize x e=u at hx hr
 unfold Xy at hr
 split at hr
 ·obtain⟨rfl,rfl⟩:=IK hr
  cases hx
  rw[main _ true (.inl ⟨rfl,rfl⟩)];exact .same H (.bool _)
 ·obtain⟨rfl,rfl⟩:=IK hr
  cases hx with
  |iface t h=>rw[main _ false (.inr ⟨⟨_,_,rfl⟩,rfl⟩)];exact .same H (.bool _)
 ·cases hr
theorem Kx(hT:Cc P ty)(H:RelW ty φ E h w){K:KS}{op:BinOp}{neg:Bool}(hop:(op=.eql∧neg=false)∨(op=.neq∧neg=true)){t:Nat}{ti:TI}(hti:ty.get t=some ti)(hk:ti.k.agg=true)(hf:flatK ty 8 t=some K.ks)(ha:K.agg=true)
  {X Y:Operand}{x y:O}{x' y':Value}(hx:RelV φ (x e) x')(hy:RelV φ (y e) y')(hr:QF K neg x y F e h=.ok v h'):BI ty φ E h w v h' ((Bl op t X Y x' y').run P w):=by
 have T:=hT t ti hti
 have hK:KeyOf P ty t K:=⟨⟨ti,hti,by rw[ha,hk]⟩,hf⟩
 unfold QF eqC at hr
 split at hr
 case h_2=>cases hr
 rename_i r hq
 split at hq
 case h_2=>cases hq
 rename_i hfx
 obtain⟨rfl,rfl⟩:=IK hr
 have e1:=Io hfx hx
 obtain⟨h1,hfy,e2⟩:=E7 hT hK hfx hy hq w
 rw[← e1]at hfx
 have hgt:=(Ec hT 8 t K.ks hf).2.1 P.depth T.deep
 obtain⟨_,_,g1⟩:=Cz hfx
 obtain⟨_,_,g2⟩:=Cz hfy
 rw[← e2]at g2
 rcases g1 with ⟨_,l,hl⟩|⟨hb,_⟩
 ·rcases g2 with ⟨_,m,hm⟩|⟨hb,_⟩
  ·rw[← e1]at h1
   have hg:(eqGuard op t X Y x' y').run P w=.ok () w:=by rw[hl,hm];exact Ux hgt
   rw[WM hop (.inr ⟨_,hl⟩) hg h1]
   exact .same H (.bool _)
  ·rw[ha]at hb;cases hb
 ·rw[ha]at hb;cases hb
end
end
noncomputable section
open Go
section
variable {P:Program}{ty:TTy}{φ:Phi}{E:Nat→Prop}{h h':Hp}{w:World}{F:CallF}{e:Env}{v:Value}{f:Fr}
theorem BU{t:Nat}{k:TI→OpF}(hr:wTy ty t k F e h=.ok v h'):∃ ti,ty.get t=some ti∧k ti F e h=.ok v h':=by
 unfold wTy at hr
 cases hg:ty.get t with
 |none=>rw[hg]at hr;cases hr
 |some ti=>rw[hg]at hr;exact⟨ti,rfl,hr⟩
theorem Cv{x:Operand}{k:O→OpF}(hr:w1 f x k F e h=.ok v h'):∃ y,cO f x=some y∧k y F e h=.ok v h':=by
 unfold w1 at hr
 cases hg:cO f x with
 |none=>rw[hg]at hr;cases hr
 |some y=>rw[hg]at hr;exact⟨y,rfl,hr⟩
theorem JO{x y:Operand}{k:O→O→OpF}(hr:w2 f x y k F e h=.ok v h'):∃ x' y',cO f x=some x'∧cO f y=some y'∧k x' y' F e h=.ok v h':=by
 unfold w2 at hr
 obtain⟨x',hx,hr⟩:=Cv hr
 obtain⟨y',hy,hr⟩:=Cv hr
 exact⟨x',y',hx,hy,hr⟩
theorem Hy{ti:TI}{k:OpF}(hr:wZ ti k F e h=.ok v h'):ti.zero.length=ti.size∧k F e h=.ok v h':=by
 unfold wZ at hr
 cases hg:Nat.beq (A9 ti.zero) ti.size with
 |false=>rw[hg]at hr;cases hr
 |true=>rw[hg]at hr;exact⟨by rw[← Al.1 hg,BN],hr⟩
def Cw(P:Program)(ty:TTy)(F:CallF):Prop:=∀ g args h v h',F g args h=.ok v h'→
 (∃ fn,P.funcs[g]? =some fn∧fn.name≠"runtime.NumGoroutine" ∧fn.body.isNone=false)∧
 ∀ φ w args',RelL φ args args'→RelW ty φ (fun _=>False) h w→
  Calls P g ⟨args'⟩ w fun en w'=>∃ v' ψ,en=.returned v'∧RelV ψ v v'∧RelW ty ψ (fun _=>False) h' w'∧Evo φ h w ψ h' w'
def EC(P:Program)(ty:TTy)(φ:Phi)(E:Nat→Prop)(h:Hp)(v:Value)(h':Hp)(o:Oper)(a:Act)(w:World):Prop:=
 ∀ (next:Act→World→Prop) (Q:Exit→Act→World→Prop),
  (∀ ψ v' w',RelV ψ v v'→RelW ty ψ E h' w'→Evo φ h w ψ h' w'→next (a.put o.dst v') w')→o.wp P a w next Q
theorem EC.of_gives{o:Oper}{a:Act}{s:Sem Value}(hx:execOp a.eval o=(do pure (.value (← s))))(hg:BI ty φ E h w v h' (s.run P w)):EC P ty φ E h v h' o a w:=by
 intro next Q hn
 obtain⟨v',w',ψ,hs,hv,H,ev⟩:=hg
 unfold Oper.wp
 rw[hx,Sem.run_bind,hs,Result.andThen_ok,Sem.run_pure,Oper.upon_value]
 exact hn ψ v' w' hv H ev
theorem EC.of_skips{o:Oper}{a:Act}{s:Sem Unit}(hx:execOp a.eval o=(do s;pure .skip))(hg:V7 ty φ E h w v h' (s.run P w)):EC P ty φ E h v h' o a w:=by
 intro next Q hn
 obtain⟨rfl,w',hs,H,ev⟩:=hg
 unfold Oper.wp
 rw[hx,Sem.run_bind,hs,Result.andThen_ok,Sem.run_pure,Oper.upon_skip]
 exact hn φ undef w' (.tuple .nil) H ev
theorem I9{place:Nat→Option (Nat×Nat)}{ρ:Operand→Value}:∀ {l:List (Nat×Operand)} {ps:List (Nat×Nat×O)},GS f place l=some ps→
  (∀ p∈l,∀ y,cO f p.2=some y→RelV φ (y e) (ρ p.2))→RelP φ e place ps (l.map fun (i,x)=>(i,ρ x))
 |[],ps,hp,_=>by cases hp;exact .nil
 |(i,x)::l,ps,hp,hst=>by
  unfold GS at hp
  split at hp
  ·rename_i off size hpl
   split at hp
   ·rename_i y hy
    split at hp
    ·rename_i r hr
     cases hp
     exact .cons hpl (hst (i,x) (by simp) y hy) (I9 hr fun p hp=>hst p (by simp[hp]))
    ·cases hp
   ·cases hp
  ·cases hp
theorem Nx{ρ:Operand→Value}:∀ {l:List Operand} {ys:List O},cOs f l=some ys→(∀ x∈l,∀ y,cO f x=some y→RelV φ (y e) (ρ x))→RelL φ (vals e ys) (l.map ρ)
 |[],ys,h,_=>by cases h;exact .nil
 |x::l,ys,h,hst=>by
  unfold cOs at h
  split at h
  ·rename_i y hy
   split at h
   ·rename_i r hr
    cases h
    exact .cons (hst x (by simp) y hy) (Nx hr fun x hx=>hst x (by simp[hx]))
   ·cases h
  ·cases h
theorem RP{ρ:Operand→Value}{x:Option Operand}{y:Option O}(h:cOo f x=some y)(hst:∀ z,x=some z→∀ y,cO f z=some y→RelV φ (y e) (ρ z)):RelO φ e y (x.map ρ):=by
 unfold cOo at h
 split at h
 ·cases h;exact .none
 ·rename_i x
  split at h
  ·rename_i y hy;cases h;exact .some (hst x rfl y hy)
  ·cases h
def eA(φ:Phi)(f:Fr)(e:Env)(ρ:Operand→Value)(op:Op):Prop:=∀ x∈op.operands.toList,∀ y,cO f x=some y→RelV φ (y e) (ρ x)
def Gk(ty:TTy)(f:Fr)(e:Env)(E:Nat→Prop)(op:Op):Prop:=match kd ty op with
 |.p=>True
 |.a=>True
 |.r x=>∀ y,cO f x=some y→∀ b,blkOf (y e)=.ok b→¬ E b
 |.w _=>∀ b,¬ E b
 |.q=>∀ b,¬ E b
theorem gz(hT:Cc P ty)(H:RelW ty φ E h w){op:BinOp}{t yt:TypeId}{x y:Operand}{o:Oper}{a:Act}(ho:o.op=.binOp op t x y yt)(hst:eA φ f e a.eval o.op)(hr:WL ty f op t x y F e h=.ok v h'):EC P ty φ E h v h' o a w:=by
 have hx:execOp a.eval o=(do pure (.value (← Bl op t x y (a.eval x) (a.eval y)))):=by unfold execOp;rw[ho];rfl
 unfold WL at hr
 obtain⟨ti,hti,hr⟩:=BU hr
 obtain⟨x',y',hx',hy',hr⟩:=JO hr
 have r1:=hst x (by rw[ho];simp[Op.operands]) x' hx'
 have r2:=hst y (by rw[ho];simp[Op.operands]) y' hy'
 cases hk:ti.k with
 |int k=>
  rw[hk]at hr
  cases op with
  |add=>exact .of_gives hx (br H r1 r2 hr)
  |sub=>exact .of_gives hx (Tj H (.inl ⟨rfl,rfl⟩) r1 r2 hr)
  |mul=>exact .of_gives hx (Tj H (.inr ⟨rfl,rfl⟩) r1 r2 hr)
  |quo=>exact .of_gives hx (cQ H r1 r2 hr)
  |rem=>exact .of_gives hx (ci H r1 r2 hr)
  |and=>exact .of_gives hx (OT H (.inl ⟨rfl,rfl⟩) r1 r2 hr)
  |or=>exact .of_gives hx (OT H (.inr (.inl ⟨rfl,rfl⟩)) r1 r2 hr)
  |xor=>exact .of_gives hx (OT H (.inr (.inr ⟨rfl,rfl⟩)) r1 r2 hr)
  |shl=>exact .of_gives hx (cn H r1 r2 hr)
  |shr=>exact .of_gives hx (cq H r1 r2 hr)
  |andNot=>cases hr
  |eql=>exact .of_gives hx (He H (.inl ⟨rfl,rfl⟩) r1 r2 hr)
  |neq=>exact .of_gives hx (He H (.inr (.inl ⟨rfl,rfl⟩)) r1 r2 hr)
  |lss=>exact .of_gives hx (He H (.inr (.inr (.inl ⟨rfl,rfl⟩))) r1 r2 hr)
  |leq=>exact .of_gives hx (He H (.inr (.inr (.inr (.inl ⟨rfl,rfl⟩)))) r1 r2 hr)
  |gtr=>exact .of_gives hx (He H (.inr (.inr (.inr (.inr (.inl ⟨rfl,rfl⟩))))) r1 r2 hr)
  |geq=>exact .of_gives hx (He H (.inr (.inr (.inr (.inr (.inr ⟨rfl,rfl⟩))))) r1 r2 hr)
 |string=>
  rw[hk]at hr
  cases op with
  |add=>exact .of_gives hx (cH H r1 r2 hr)
  |eql=>exact .of_gives hx (Hg H (.inl ⟨rfl,rfl⟩) r1 r2 hr)
  |neq=>exact .of_gives hx (Hg H (.inr (.inl ⟨rfl,rfl⟩)) r1 r2 hr)
  |lss=>exact .of_gives hx (Hg H (.inr (.inr (.inl ⟨rfl,rfl⟩))) r1 r2 hr)
  |gtr=>exact .of_gives hx (Hg H (.inr (.inr (.inr (.inl ⟨rfl,rfl⟩)))) r1 r2 hr)
  |leq=>exact .of_gives hx (Hg H (.inr (.inr (.inr (.inr (.inl ⟨rfl,rfl⟩))))) r1 r2 hr)
  |geq=>exact .of_gives hx (Hg H (.inr (.inr (.inr (.inr (.inr ⟨rfl,rfl⟩))))) r1 r2 hr)
  |_=>cases hr
 |struct fs=>
  rw[hk]at hr
  simp only at hr
  cases hf:flatK ty 8 t with
  |none=>rw[hf]at hr;cases hr
  |some ks=>
   rw[hf]at hr
   have hag:ti.k.agg=true:=by rw[hk];rfl
   cases op with
   |eql=>exact .of_gives hx (Kx hT H (K:=⟨true,ks⟩) (.inl ⟨rfl,rfl⟩) hti hag hf rfl r1 r2 hr)
   |neq=>exact .of_gives hx (Kx hT H (K:=⟨true,ks⟩) (.inr ⟨rfl,rfl⟩) hti hag hf rfl r1 r2 hr)
   |_=>cases hr
 |arr n el=>
  rw[hk]at hr
  simp only at hr
  cases hf:flatK ty 8 t with
  |none=>rw[hf]at hr;cases hr
  |some ks=>
   rw[hf]at hr
   have hag:ti.k.agg=true:=by rw[hk];rfl
   cases op with
   |eql=>exact .of_gives hx (Kx hT H (K:=⟨true,ks⟩) (.inl ⟨rfl,rfl⟩) hti hag hf rfl r1 r2 hr)
   |neq=>exact .of_gives hx (Kx hT H (K:=⟨true,ks⟩) (.inr ⟨rfl,rfl⟩) hti hag hf rfl r1 r2 hr)
   |_=>cases hr
 |iface=>
  rw[hk]at hr
  have hr:(match OI y with|true=>(match op with|.eql=>Na false x'|.neq=>Na true x'|_=>oNo)|false=>oNo) F e h=.ok v h':=hr
  cases hn:OI y with
  |false=>rw[hn]at hr;cases hr
  |true=>
   rw[hn]at hr
   have hy:y=.const .nilIface:=by
    unfold OI at hn
    split at hn
    ·split at hn
     ·rfl
     ·cases hn
    ·cases hn
   subst hy
   cases op with
   |eql=>exact .of_gives hx (QM H (.inl ⟨rfl,rfl⟩) (hT t ti hti) hk r1 hr)
   |neq=>exact .of_gives hx (QM H (.inr ⟨rfl,rfl⟩) (hT t ti hti) hk r1 hr)
   |_=>cases hr
 |_=>
  rw[hk]at hr
  cases op with
  |eql=>exact .of_gives hx (YC H (.inl ⟨rfl,rfl⟩) (hT t ti hti) hk r1 r2 hr)
  |neq=>exact .of_gives hx (YC H (.inr ⟨rfl,rfl⟩) (hT t ti hti) hk r1 r2 hr)
  |_=>cases hr
end
end
noncomputable section
open Go
section
variable {P:Program}{ty:TTy}{φ:Phi}{E:Nat→Prop}{h h':Hp}{w:World}{F:CallF}{e:Env}{v:Value}{f:Fr}
theorem RelW.less(H:RelW ty φ E h w)(hE:∀ b,¬ E b){E':Nat→Prop}:RelW ty φ E' h w where
 dom:=H.dom
 inj:=fun i j p q ei ej _ _=>H.inj i j p q ei ej (hE i) (hE j)
 row:=fun i p hp _=>H.row i p hp (hE i)
 fresh:=H.fresh
 kind:=H.kind
 inp:=H.inp
theorem N0(hF:Cw P ty F)(H:RelW ty φ E h w)(hE:∀ b,¬ E b){g:Nat}{args args':List Value}(ha:RelL φ args args')(hr:F g args h=.ok v h'){o:Oper}{a:Act}
  (hx:(execOp a.eval o).run P w=(callFunc g ⟨args'⟩).run P w):EC P ty φ E h v h' o a w:=by
 intro next Q hn
 obtain⟨⟨fn,hfn,hnm,hb⟩,hc⟩:=hF g args h v h' hr
 have hcall:(callFunc g ⟨args'⟩).run P w=.ok (.enter g ⟨args'⟩) w:=by
  have hnm':(fn.name == "runtime.NumGoroutine")=false:=by simpa using hnm
  simp only[callFunc,Sem.run_bind,run_program,Result.andThen_ok,hfn,hnm',Bool.false_eq_true,if_false,hb,Sem.run_pure,Sem.run_ite]
 unfold Oper.wp
 rw[hx,hcall,Oper.upon_enter]
 refine(hc φ w args' ha (H.less hE)).mono fun en w' ⟨v',ψ,he,hv,H',ev⟩=>?_
 subst he
 exact hn ψ v' w' hv (H'.less (fun _ h=>h)) ev
theorem X5(hF:Cw P ty F)(H:RelW ty φ E h w)(hE:∀ b,¬ E b){g:Nat}{c:Call}(hc:c.callee=.value (.func g)){o:Oper}{a:Act}(ho:o.op=.call c){args:List O}
  (ha:RelL φ (vals e args) (c.args.toList.map a.eval))(hr:AS g args F e h=.ok v h'):EC P ty φ E h v h' o a w:=by
 unfold AS at hr
 rw[CM]at hr
 refine N0 hF H hE ha hr ?_
 have e1:c.args.map a.eval=⟨c.args.toList.map a.eval⟩:=by apply Array.ext';simp
 unfold execOp
 rw[ho]
 simp only[resolve,hc,e1,Act.eval,Deferred.ofValue,Sem.run_bind,Sem.run_pure,Result.andThen_ok,invoke]
 congr 2
 apply Array.ext';simp
theorem Jv(hF:Cw P ty F)(H:RelW ty φ E h w)(hE:∀ b,¬ E b){x:Operand}{g:O}{c:Call}(hc:c.callee=.value x){o:Oper}{a:Act}(ho:o.op=.call c){args:List O}
  (hg:RelV φ (g e) (a.eval x))(ha:RelL φ (vals e args) (c.args.toList.map a.eval))(hr:EM g args F e h=.ok v h'):EC P ty φ E h v h' o a w:=by
 unfold EM at hr
 split at hr
 case h_2=>cases hr
 rename_i k first cap hge
 rw[hge]at hg
 rw[CM]at hr
 generalize hxe:a.eval x=xv at hg
 cases hg with
 |func _ h1 h2=>
  refine N0 hF H hE (h1.append (ha.append h2)) hr ?_
  have e1:c.args.map a.eval=⟨c.args.toList.map a.eval⟩:=by apply Array.ext';simp
  unfold execOp
  rw[ho]
  simp only[resolve,hc,e1,hxe,Deferred.ofValue,Sem.run_bind,Sem.run_pure,Result.andThen_ok,invoke]
  congr 2
  apply Array.ext';simp
theorem L6{name:String}:∀ {t:TTy} {ix:Nat→Nat} {u f:Nat},(u,f)∈t.meths name ix→∃ k ti,u=ix k∧t.get k=some ti∧findM name ti.ms=some f
 |.mt,ix,u,f,h=>by cases h
 |.nd t l r,ix,u,f,h=>by
  have sub:(u,f)∈l.meths name (fun k=>ix (Nat.succ (Nat.mul 2 k)))++r.meths name (fun k=>ix (Nat.succ (Nat.succ (Nat.mul 2 k))))→∃ k ti,u=ix k∧(TTy.nd t l r).get k=some ti∧findM name ti.ms=some f:=fun h=>by
   rcases List.mem_append.1 h with h|h
   ·obtain⟨k,ti,h1,h2,h3⟩:=L6 h
    refine⟨Nat.succ (Nat.mul 2 k),ti,h1,?_,h3⟩
    show(match Nat.mod (Nat.mul 2 k) 2 with| 0=>l.get (Nat.div (Nat.mul 2 k) 2)|Nat.succ _=>r.get (Nat.div (Nat.mul 2 k) 2))=_
    have e1:Nat.mod (Nat.mul 2 k) 2=0:=by show(2 * k) % 2=0;omega
    have e2:Nat.div (Nat.mul 2 k) 2=k:=by show(2 * k) / 2=k;omega
    rw[e1,e2];exact h2
   ·obtain⟨k,ti,h1,h2,h3⟩:=L6 h
    refine⟨Nat.succ (Nat.succ (Nat.mul 2 k)),ti,h1,?_,h3⟩
    show(match Nat.mod (Nat.succ (Nat.mul 2 k)) 2 with| 0=>l.get (Nat.div (Nat.succ (Nat.mul 2 k)) 2)|Nat.succ _=>r.get (Nat.div (Nat.succ (Nat.mul 2 k)) 2))=_
    have e1:Nat.mod (Nat.succ (Nat.mul 2 k)) 2=1:=by show(2 * k+1) % 2=1;omega
    have e2:Nat.div (Nat.succ (Nat.mul 2 k)) 2=k:=by show(2 * k+1) / 2=k;omega
    rw[e1,e2];exact h2
  unfold TTy.meths at h
  split at h
  ·rename_i g hg
   rcases List.mem_cons.1 h with h|h
   ·cases h
    cases t with
    |none=>cases hg
    |some ti=>exact⟨0,ti,rfl,rfl,hg⟩
   ·exact sub h
  ·exact sub h
theorem PQ{t f:Nat}:∀ {l:List (Nat×Nat)},S6 t l=some f→(t,f)∈l
 |[],h=>by cases h
 |(u,g)::l,h=>by
  have h:(bif Nat.beq u t then some g else S6 t l)=some f:=h
  cases hb:Nat.beq u t with
  |true=>
   rw[hb]at h
   cases h
   rw[Al.1 hb];exact List.mem_cons_self
  |false=>
   rw[hb]at h
   exact List.mem_cons_of_mem _ (PQ h)
theorem SP(hT:Cc P ty)(hF:Cw P ty F)(H:RelW ty φ E h w)(hE:∀ b,¬ E b){recv:Operand}{name:String}{x:O}{c:Call}(hc:c.callee=.invoke recv name){o:Oper}{a:Act}(ho:o.op=.call c){args:List O}
  (hg:RelV φ (x e) (a.eval recv))(ha:RelL φ (vals e args) (c.args.toList.map a.eval))(hr:Ky (ty.meths name fun k=>k) x args F e h=.ok v h'):EC P ty φ E h v h' o a w:=by
 unfold Ky at hr
 split at hr
 case h_2=>cases hr
 rename_i t u hxe
 split at hr
 case h_2=>cases hr
 rename_i f hf
 rw[A8,CM]at hr
 rw[hxe]at hg
 generalize hxe':a.eval recv=xv at hg
 cases hg with
 |@iface _ _ u' hu=>
  obtain⟨k,ti,hk,h2,h3⟩:=L6 (PQ hf)
  have hk:t=k:=hk
  subst hk
  have hm:=(hT t ti h2).ms name f h3 u' w
  refine N0 hF H hE (.cons hu ha) hr ?_
  have e1:c.args.map a.eval=⟨c.args.toList.map a.eval⟩:=by apply Array.ext';simp
  unfold execOp
  rw[ho]
  have e2:(#[Value.iface t u']++(⟨c.args.toList.map a.eval⟩:Array Value))[0]? =some (.iface t u'):=by simp
  have e3:(#[Value.iface t u']++(⟨c.args.toList.map a.eval⟩:Array Value)).extract 1 (#[Value.iface t u']++(⟨c.args.toList.map a.eval⟩:Array Value)).size=⟨c.args.toList.map a.eval⟩:=by apply Array.ext';simp;exact List.take_of_length_le (by simp)
  have e4: #[u']++(⟨c.args.toList.map a.eval⟩:Array Value)=⟨u'::c.args.toList.map a.eval⟩:=by apply Array.ext';simp
  simp only[resolve,hc,e1,hxe',Sem.run_bind,Sem.run_pure,Result.andThen_ok,invoke,e2,e3,callMethod,run_program,hm,e4]
theorem Bu{b:Nat}{ob:Obj}(h1:w.heap[b]? =some ob)(h2:(match ob with|.cells .. =>true|_=>false)=false):(getObj b).run P w=.ok ob w:=by
 unfold getObj
 simp only[Sem.run,h1]
 cases ob<;>first|rfl|cases h2
theorem RelE.length:∀ {l:List Ent} {l':List MapEntry},RelE φ l l'→l'.length=l.length
 |_,_,.nil=>rfl
 |_,_,.cons _ _ t=>congrArg (· +1) t.length
theorem FX{r:Nat}{es:List Ent}{c:Nat}(hr:BR h r=.ok es c):h.bl.get r=.map es c:=by
 unfold BR jj at hr
 split at hr
 ·cases hr;assumption
 ·cases hr
theorem RelW.entsAt(H:RelW ty φ E h w){r:Nat}{p:Pl}(hp:φ r=some p)(hE:¬ E r){es:List Ent}{c:Nat}(hr:BR h r=.ok es c):
  ∃ es',w.heap[p.blk]? =some (.map ⟨es'⟩ c)∧RelE φ es es':=by
 have:=H.row r p hp hE
 rw[FX hr]at this
 generalize w.heap[p.blk]? =o at this
 cases this with
 |map h=>exact⟨_,rfl,h⟩
theorem YI(H:RelW ty φ E h w){x:O}{x':Value}{ats:Array TypeId}{t t' el:TypeId}(h0:ats[0]? =some t){ti:TI}(T:TyOk P t ti)(hk:ti.k=.slice el)(hx:RelV φ (x e) x')(hr:Bi x F e h=.ok v h'):
  BI ty φ E h w v h' ((Builtin.len_ ats t' #[x']).run P w):=by
 unfold Bi at hr
 split at hr
 case h_3=>cases hr
 case h_2=>
  rename_i r hxe
  rw[hxe]at hx
  cases hr
  obtain⟨d,hd,hkd⟩:=T.desc
  rw[hk]at hkd;cases hkd
  have key:(Builtin.len_ ats t' #[x']).run P w=.ok (goInt ((0:Nat):Int)) w:=by
   cases hx<;>simp only[Builtin.len_,h0,Sem.run_bind,hd,Result.andThen_ok,Sem.run_pure,List.getElem?_toArray,List.getElem?_cons_zero]
  rw[key];exact .same H (.int _ _)
 rename_i a n c hxe
 rw[hxe]at hx
 cases hr
 obtain⟨d,hd,hkd⟩:=T.desc
 rw[hk]at hkd;cases hkd
 have key:(Builtin.len_ ats t' #[x']).run P w=.ok (goInt n) w:=by
  cases hx<;>simp only[Builtin.len_,h0,Sem.run_bind,hd,Result.andThen_ok,Sem.run_pure,List.getElem?_toArray,List.getElem?_cons_zero]
 rw[key];exact .same H (.int _ _)
theorem X7(H:RelW ty φ E h w){x:O}{x':Value}{ats:Array TypeId}{t t' el:TypeId}(h0:ats[0]? =some t){ti:TI}(T:TyOk P t ti)(hk:ti.k=.slice el)(hx:RelV φ (x e) x')(hr:X6 x F e h=.ok v h'):
  BI ty φ E h w v h' ((Builtin.cap_ ats t' #[x']).run P w):=by
 unfold X6 at hr
 split at hr
 case h_2=>cases hr
 rename_i hxe
 rw[hxe]at hx
 cases hr
 obtain⟨d,hd,hkd⟩:=T.desc
 rw[hk]at hkd;cases hkd
 have key:(Builtin.cap_ ats t' #[x']).run P w=.ok (goInt 0) w:=by
  cases hx<;>simp only[Builtin.cap_,h0,Sem.run_bind,hd,Result.andThen_ok,Sem.run_pure,List.getElem?_toArray,List.getElem?_cons_zero]<;>rfl
 rw[key];exact .same H (.int _ _)
theorem YK(H:RelW ty φ E h w){x:O}{x':Value}{ats:Array TypeId}{t t':TypeId}(h0:ats[0]? =some t){ti:TI}(T:TyOk P t ti)(hk:ti.k=.string)(hx:RelV φ (x e) x')(hr:QJ x F e h=.ok v h'):
  BI ty φ E h w v h' ((Builtin.len_ ats t' #[x']).run P w):=by
 unfold QJ at hr
 split at hr
 case h_2=>cases hr
 rename_i s hxe
 rw[hxe]at hx
 rw[Aa,BN]at hr
 cases hr
 obtain⟨d,hd,hkd⟩:=T.desc
 rw[hk]at hkd;cases hkd
 obtain rfl:=hx.string_inv
 have key:(Builtin.len_ ats t' #[.string s]).run P w=.ok (goInt s.size) w:=by
  simp only[Builtin.len_,h0,Sem.run_bind,hd,Result.andThen_ok,Sem.run_pure,List.getElem?_toArray,List.getElem?_cons_zero]
 rw[key];exact .same H (.int _ _)
theorem YG(H:RelW ty φ E h w){x:O}{x':Value}{ats:Array TypeId}{t t' kt el:TypeId}(h0:ats[0]? =some t){ti:TI}(T:TyOk P t ti)(hk:ti.k=.map kt el)(hx:RelV φ (x e) x')
  (hE:∀ r,x e=.map (some r)→¬ E r)(hr:QI x F e h=.ok v h'):BI ty φ E h w v h' ((Builtin.len_ ats t' #[x']).run P w):=by
 obtain⟨d,hd,hkd⟩:=T.desc
 rw[hk]at hkd;cases hkd
 unfold QI at hr
 split at hr
 ·rename_i hxe
  rw[hxe]at hx
  cases hr;cases hx
  have key:(Builtin.len_ ats t' #[.map none]).run P w=.ok (goInt 0) w:=by
   simp only[Builtin.len_,h0,Sem.run_bind,hd,Result.andThen_ok,Sem.run_pure,List.getElem?_toArray,List.getElem?_cons_zero]
  rw[key];exact .same H (.int _ _)
 ·rename_i r hxe
  rw[hxe]at hx
  cases hx with
  |@map _ p hp=>
   split at hr
   case h_2=>cases hr
   rename_i es c hes
   rw[Aa,BN]at hr
   cases hr
   obtain⟨es',hw,hrel⟩:=H.entsAt hp (hE r hxe) hes
   have key:(Builtin.len_ ats t' #[.map (some p.blk)]).run P w=.ok (goInt es.length) w:=by
    simp only[Builtin.len_,h0,Sem.run_bind,hd,Result.andThen_ok,Sem.run_pure,List.getElem?_toArray,List.getElem?_cons_zero,Bu hw rfl]
    rw[← hrel.length];rfl
   rw[key];exact .same H (.int _ _)
 ·cases hr
theorem bV{x':Value}{ats:Array TypeId}{t t' el:TypeId}{n:Nat}(h0:ats[0]? =some t){ti:TI}(T:TyOk P t ti)(hk:ti.k=.arr n el):(Builtin.len_ ats t' #[x']).run P w=.ok (goInt n) w:=by
 obtain⟨d,hd,hkd⟩:=T.desc
 rw[hk]at hkd;cases hkd
 simp only[Builtin.len_,h0,Sem.run_bind,hd,Result.andThen_ok,Sem.run_pure,List.getElem?_toArray,List.getElem?_cons_zero]
theorem Dc{b:Nat}{ob ob':Obj}(h1:w.heap[b]? =some ob)(h2:(match ob with|.cells .. =>true|_=>false)=false):
  (setObj b ob').run P w=.ok () {w with heap:=w.heap.setIfInBounds b ob'}:=by
 unfold setObj
 simp only[Sem.run,h1]
 cases ob<;>first|rfl|cases h2
theorem Ex(H:RelW ty φ E h w){r:Nat}{p:Pl}(hEr:¬ E r)(hp:φ r=some p)(hl:Live h r){o:Blk}{ob:Obj}{k:Hp→R}(hr:Dz h r o k=.ok v h')(hsh:ShapeLe (h.bl.get r) o)(hB:RelB ty φ p o (some ob)):
  ∃ h1,k h1=.ok v h'∧RelW ty φ E h1 {w with heap:=w.heap.setIfInBounds p.blk ob}∧Evo φ h w φ h1 {w with heap:=w.heap.setIfInBounds p.blk ob}:=by
 obtain⟨bl,h256,hbl,hk⟩:=Ew hr
 have hlt:=(H.dom r p hp).2
 have e1:(w.heap.setIfInBounds p.blk ob).size=w.heap.size:=by simp
 have e2:∀ k,k≠p.blk→(w.heap.setIfInBounds p.blk ob)[k]? =w.heap[k]?:=fun k hk=>by
  rw[Array.getElem?_setIfInBounds,if_neg (Ne.symm hk)]
 have e3:(w.heap.setIfInBounds p.blk ob)[p.blk]? =some ob:=by rw[Array.getElem?_setIfInBounds,if_pos rfl,if_pos hlt]
 exact⟨_,hk,H.put hEr h256 hp hl hbl e1 e2 (by show RelB ty φ p o ((w.heap.setIfInBounds p.blk ob)[p.blk]?);rw[e3];exact hB),.put (H.notInp hp h256) hp hl hbl hsh e1 e2 rfl rfl rfl⟩
theorem F4{r:Nat}{es:List Ent}{c:Nat}(hr:BR h r=.ok es c):Live h r:=by
 unfold Live;rw[FX hr];intro hd;cases hd
theorem OU(H:RelW ty φ E h w)(hE:∀ b,¬ E b){x:O}{x':Value}{ats:Array TypeId}{t t':TypeId}{ti:TI}(h0:ats[0]? =some t)(T:TyOk P t ti)(hx:RelV φ (x e) x')(hr:Ev x F e h=.ok v h'):
  BI ty φ E h w v h' ((Builtin.clear_ ats t' #[x']).run P w):=by
 obtain⟨d,hd,_⟩:=T.desc
 unfold Ev at hr
 split at hr
 ·rename_i hxe
  rw[hxe]at hx
  cases hr;cases hx
  have key:(Builtin.clear_ ats t' #[.map none]).run P w=.ok noRes w:=by
   simp only[Builtin.clear_,h0,Sem.run_bind,hd,Result.andThen_ok,Sem.run_pure,List.getElem?_toArray,List.getElem?_cons_zero];rfl
  rw[key];exact .same H (.tuple .nil)
 ·rename_i r hxe
  rw[hxe]at hx
  cases hx with
  |@map _ p hp=>
   split at hr
   case h_2=>cases hr
   rename_i es c hes
   obtain⟨es',hw,hrel⟩:=H.entsAt hp (hE r) hes
   obtain⟨h1,hk,H1,ev⟩:=Ex (ob:=.map #[] c) H (hE _) hp (F4 hes) hr (by rw[FX hes];exact .inr trivial) (.map .nil)
   cases hk
   have key:(Builtin.clear_ ats t' #[.map (some p.blk)]).run P w=.ok noRes {w with heap:=w.heap.setIfInBounds p.blk (.map #[] c)}:=by
    simp only[Builtin.clear_,h0,Sem.run_bind,hd,Result.andThen_ok,Sem.run_pure,List.getElem?_toArray,List.getElem?_cons_zero,Bu hw rfl,Dc hw rfl];rfl
   rw[key];exact⟨_,_,φ,rfl,.tuple .nil,H1,ev⟩
 ·cases hr
theorem VH(H:RelW ty φ E h w)(hE:∀ b,¬ E b){x:O}{x':Value}{ats:Array TypeId}{t t' el:TypeId}{ti ei:TI}(h0:ats[0]? =some t)(T:TyOk P t ti)(hk:ti.k=.slice el)(TE:TyOk P el ei)(hz:ei.zero.length=ei.size)
  (hx:RelV φ (x e) x')(hr:MB ei.zero x F e h=.ok v h'):BI ty φ E h w v h' ((Builtin.clear_ ats t' #[x']).run P w):=by
 obtain⟨d,hd,hkd⟩:=T.desc
 rw[hk]at hkd;cases hkd
 obtain⟨z,_,hzr,hzc,hzp⟩:=TE.zeroOk hz
 unfold MB at hr
 split at hr
 ·rename_i hxe
  rw[hxe]at hx
  cases hr;cases hx
  have key:(Builtin.clear_ ats t' #[.slice none 0 0]).run P w=.ok noRes w:=by
   simp only[Builtin.clear_,h0,Sem.run_bind,hd,Result.andThen_ok,Sem.run_pure,List.getElem?_toArray,List.getElem?_cons_zero];rfl
  rw[key];exact .same H (.tuple .nil)
 ·rename_i a n c hxe
  rw[hxe]at hx
  cases hx with
  |@slice _ a' _ _ c' hlc hs=>
   cases n with
   |zero=>
    cases hr
    have key:(Builtin.clear_ ats t' #[.slice (some a') 0 c']).run P w=.ok noRes w:=by
     simp only[Builtin.clear_,h0,Sem.run_bind,hd,Result.andThen_ok,Sem.run_pure,List.getElem?_toArray,List.getElem?_cons_zero];rfl
    rw[key];exact .same H (.tuple .nil)
   |succ n=>
    have hrel:RelL φ (BJ ei.zero (n+1)) (BJ ei.zero (n+1)):=HH (.plain hzp) (n+1)
    obtain⟨h1,w1,hk2,hrun,H1,ev⟩:=Hl (P:=P) H hr (J4 hlc hs (Nat.succ_pos n)) hrel (hE _)
    cases hk2
    have hc:(Builtin.zeroCells z.cells (n+1)).toList=BJ ei.zero (n+1):=by rw[Gb,hzc]
    have key:(Builtin.clear_ ats t' #[.slice (some a') (n+1) c']).run P w=.ok noRes w1:=by
     simp only[Builtin.clear_,h0,Sem.run_bind,hd,Result.andThen_ok,Sem.run_pure,List.getElem?_toArray,List.getElem?_cons_zero,hzr,hc,hrun];rfl
    rw[key];exact⟨_,_,φ,rfl,.tuple .nil,H1,ev⟩
 ·cases hr
theorem VG(H:RelW ty φ E h w)(hE:∀ b,¬ E b){x:O}{x':Value}{t el:TypeId}{ti ei:TI}(T:TyOk P t ti)(hk:ti.k=.slice el)(TE:TyOk P el ei)(he:ei.k=.int .u8)(hx:RelV φ (x e) x')(hr:Jx x F e h=.ok v h'):
  BI ty φ E h w v h' ((convert t t x').run P w):=by
 obtain⟨d,hd,hkd⟩:=T.und
 rw[hk]at hkd;cases hkd
 obtain⟨d3,h3,k3⟩:=TE.und
 rw[he]at k3;cases k3
 unfold Jx at hr
 split at hr
 case h_2=>cases hr
 rename_i a n c hxe
 rw[hxe]at hx
 have hx0:=hx
 cases hx with
 |@slice _ a' _ _ c' hlc hs=>
  split at hr
  case h_2=>cases hr
  rename_i ct s en hrow
  obtain⟨s1,s2,p,hp,hbl,hor⟩:=hs
  obtain⟨cs,tt,fr,hw,R⟩:=H.rowAt hp (hE _) hrow
  have hlive:Live h a.block:=by unfold Live;rw[C6 hrow];intro hd;cases hd
  obtain⟨bl,h256,hbl2,hk2⟩:=Ew hr
  cases hk2
  let fr':Nat×Nat:=if fr.1 == fr.2 then(cs.size,cs.size+1)else(min fr.1 cs.size,max fr.2 (cs.size+1))
  let w':World:=w.freeze ⟨a'.block,cs.size,none⟩ 1
  have hf:∃ g:Obj→Obj,w'.heap=w.heap.modify p.blk g∧g (.cells cs tt fr)=.cells cs tt fr':=by
   obtain⟨lo,hi⟩:=fr
   refine⟨_,by show(w.freeze ⟨a'.block,cs.size,none⟩ 1).heap=_;unfold World.freeze;rw[if_neg Nat.one_ne_zero,hbl],rfl⟩
  obtain⟨g,hheap,hg⟩:=hf
  have e1:w'.heap.size=w.heap.size:=by rw[hheap];simp
  have e2:∀ k,k≠p.blk→w'.heap[k]? =w.heap[k]?:=fun k hk=>by
   rw[hheap,Array.getElem?_modify,if_neg (Ne.symm hk)]
  have e3:w'.heap[p.blk]? =some (.cells cs tt fr'):=by
   rw[hheap,Array.getElem?_modify,if_pos rfl,hw,Option.map_some,hg]
  have e4:w'.tape=w.tape∧w'.os=w.os∧w'.output=w.output:=by
   show(w.freeze ⟨a'.block,cs.size,none⟩ 1).tape=_∧(w.freeze ⟨a'.block,cs.size,none⟩ 1).os=_∧(w.freeze ⟨a'.block,cs.size,none⟩ 1).output=_
   unfold World.freeze
   rw[if_neg Nat.one_ne_zero]
   exact⟨rfl,rfl,rfl⟩
  have hB:RelB ty φ p (.cells ct s en) w'.heap[p.blk]?:=by
   rw[e3]
   refine .cells {R with loose:=.inl ?_}
   have:=R.firm (H.notInp hp h256)
   show fr'.1=fr'.2∨cs.size≤fr'.1
   refine .inr ?_
   simp only[fr']
   split
   ·exact Nat.le_refl _
   ·rename_i hne
    have hne':fr.1≠fr.2:=by simpa using hne
    rcases this with h|h
    ·exact absurd h hne'
    ·show cs.size≤min fr.1 cs.size
     omega
  have key:(convert t t (.slice (some a') n c')).run P w=.ok (.slice (some a') n c') w':=by
   have hsh:w.shape? a'.block=some (tt,cs.size):=by rw[hbl];simp[World.shape?,hw]
   simp only[convert,Sem.run_bind,run_underlying hd,run_underlying h3,Result.andThen_ok,beq_self_eq_true,markStringish,run_shape,hsh,run_freeze,Sem.run_pure]
   rfl
  rw[key]
  exact⟨_,w',φ,rfl,hx0,H.put (hE _) h256 hp hlive hbl2 e1 e2 hB,.put (H.notInp hp h256) hp hlive hbl2 (by rw[C6 hrow];exact .inr ⟨rfl,rfl⟩) e1 e2 e4.1 e4.2.1 e4.2.2⟩
end
end
noncomputable section
open Go
section
variable {P:Program}{ty:TTy}{φ:Phi}{E:Nat→Prop}{h h':Hp}{w:World}{F:CallF}{e:Env}{v:Value}
theorem NW(H:RelW ty φ E h w){o:Blk}{ob:Obj}(hr:Fo h o IL=.ok v h')
  (hB:RelB ty (φ.put h.next {blk:=w.heap.size,off:=0,sz:=0,room:=0,es:=1}) {blk:=w.heap.size,off:=0,sz:=0,room:=0,es:=1} o (some ob)):
  BI ty φ E h w v h' (.ok (.pointer (some ⟨w.heap.size,0,none⟩)) {w with heap:=w.heap.push ob}):=by
 obtain⟨bl,hbl,hk⟩:=Hd hr
 cases hk
 let w':World:={w with heap:=w.heap.push ob}
 have hs:w'.heap.size=w.heap.size+1:=by simp[w']
 have hsame:∀ k,k<w.heap.size→w'.heap[k]? =w.heap[k]?:=fun k hk=>by
  show(w.heap.push _)[k]? =_
  rw[Array.getElem?_push_lt hk,Array.getElem?_eq_getElem hk]
 refine⟨_,w',φ.put h.next {blk:=w.heap.size,off:=0,sz:=0,room:=0,es:=1},rfl,Od (Phi.put_self _ _ _) rfl,
  H.new hbl (by omega) (by show w.heap.size<_;omega) (fun j q e _=>by have:=(H.dom j q e).2;show _≠w.heap.size;omega) (fun k hk _=>hsame k hk) ?_,
  .made H hbl (Nat.le_refl _) (by omega) hsame rfl rfl rfl⟩
 have:w'.heap[w.heap.size]? =some ob:=by show(w.heap.push _)[w.heap.size]? =_;simp
 rw[this]
 exact hB
theorem VW(H:RelW ty φ E h w)(hE:∀ b,¬ E b){x:O}{x':Value}{t kt el:TypeId}{ti:TI}(T:TyOk P t ti)(hk:ti.k=.map kt el)(hx:RelV φ (x e) x')(hr:Jy x F e h=.ok v h'):
  BI ty φ E h w v h' ((Instr.range t x').run P w):=by
 obtain⟨d,hd,hkd⟩:=T.desc
 rw[hk]at hkd;cases hkd
 unfold Jy at hr
 split at hr
 ·rename_i hxe
  rw[hxe]at hx
  cases hx
  have key:(Instr.range t (.map none)).run P w=.ok (.pointer (some ⟨w.heap.size,0,none⟩)) {w with heap:=w.heap.push (.mapIter none 0 #[] 0)}:=by
   simp only[Instr.range,Sem.run_bind,hd,Result.andThen_ok,Sem.run_pure,run_newObj]
  rw[key]
  exact NW H hr (.iter0 rfl)
 ·rename_i r hxe
  rw[hxe]at hx
  cases hx with
  |@map _ p hp=>
   split at hr
   case h_2=>cases hr
   rename_i es c hes
   obtain⟨es',hw,hrel⟩:=H.entsAt hp (hE r) hes
   have key:(Instr.range t (.map (some p.blk))).run P w=.ok (.pointer (some ⟨w.heap.size,0,none⟩)) {w with heap:=w.heap.push (.mapIter (some p.blk) c #[] c)}:=by
    simp only[Instr.range,Sem.run_bind,hd,Result.andThen_ok,Bu hw rfl,Sem.run_pure,run_newObj]
   rw[key]
   exact NW H hr (.iter rfl (Phi.put_le H.none_next _ _ hp))
 ·cases hr
theorem Ku(n:Nat):∀ l:List Nat,FM n l=l.contains n
 |[]=>rfl
 |x::l=>by
  unfold FM
  rw[Ku n l,List.contains_cons]
  cases hb:Nat.beq x n with
  |true=>
   have:x=n:=Al.1 hb
   subst this;simp
  |false=>
   have:¬ n=x:=fun h=>by rw[h,Nat.beq_refl]at hb;cases hb
   simp[this]
theorem MQ(n:Nat):∀ l:List Nat,JB n l=l++[n]
 |[]=>rfl
 |x::l=>congrArg (x:: ·) (MQ n l)
theorem Pu{since:Nat}{seen:List Nat}:∀ {es:List Ent} {es':List MapEntry} {l:List Ent},RelE φ es es'→KI since seen es=some l→
  ∃ l',RelE φ l l'∧es'.filter (fun e=> !seen.contains e.born)=l'∧l'.filter (fun e=>decide (e.born<since))=l'∧l'.filter (fun e=>decide (e.born≥since))=[]
 |_,_,l,.nil,h=>by cases h;exact⟨[],.nil,rfl,rfl,rfl⟩
 |_,_,l,.cons (b:=b) hk hv t,h=>by
  unfold KI at h
  split at h
  ·rename_i r hr
   obtain⟨l',h1,h2,h3,h4⟩:=Pu t hr
   rw[Ku]at h
   cases hm:seen.contains b with
   |true=>
    simp only[hm,cond_true]at h
    cases h
    exact⟨l',h1,by rw[List.filter_cons];simp only[hm,Bool.not_true,Bool.false_eq_true,if_false];exact h2,h3,h4⟩
   |false=>
    simp only[hm,cond_false]at h
    obtain⟨hb,h⟩:Nat.blt b since=true∧_=some l:=by
     cases hb:Nat.blt b since with
     |true=>rw[hb]at h;exact⟨rfl,h⟩
     |false=>rw[hb]at h;cases h
    cases h
    have hlt:=BD.1 hb
    refine⟨_,.cons hk hv h1,by rw[List.filter_cons];simp only[hm,Bool.not_false,if_true];rw[h2],?_,?_⟩
    ·rw[List.filter_cons];simp[hlt,h3]
    ·rw[List.filter_cons];simp[Nat.not_le.2 hlt,h4]
  ·cases h
theorem J9{last:Nat}:∀ {es:List Ent} {es':List MapEntry},RelE φ es es'→es'.all (fun e=>decide (e.born≥last))=Ey last es
 |_,_,.nil=>rfl
 |_,_,.cons (b:=b) hk hv t=>by
  unfold Ey
  rw[List.all_cons,J9 t]
  cases hb:Nat.ble last b with
  |true=>simp[Af.1 hb]
  |false=>
   have:¬ last≤b:=fun h=>by rw[Af.2 h]at hb;cases hb
   simp[this]
theorem HZ{b:Nat}{m:Option Nat}{s:Nat}{l:List Nat}{t:Nat}(hr:Dq (h.bl.get b)=.ok m s l t):h.bl.get b=.iter m s l t:=by
 unfold Dq at hr
 split at hr<;>first|(cases hr;assumption)|cases hr
theorem jT{b m s t:Nat}(hr:Dq (h.bl.get b)=.cur m s t):h.bl.get b=.cur m s t:=by
 unfold Dq at hr
 split at hr<;>first|(cases hr;assumption)|cases hr
theorem dJ{b m s t:Nat}{sn:Option (List Nat)}(hr:Dq (h.bl.get b)=.pick m s t sn):h.bl.get b=.pick m s t sn:=by
 unfold Dq at hr
 split at hr<;>first|(cases hr;assumption)|cases hr
theorem QX:RelV φ (.tuple ⟨[.bool false]⟩) (.tuple #[.bool false]):=.tuple (.cons (.bool _) .nil)
theorem YN(H:RelW ty φ E h w)(hE:∀ b,¬ E b){x:O}{x':Value}{t:TypeId}(hx:RelV φ (x e) x')(hr:Gj x F e h=.ok v h'):BI ty φ E h w v h' ((Instr.next x' false t).run P w):=by
 unfold Gj at hr
 split at hr
 case h_2=>cases hr
 rename_i a ha
 obtain⟨hb,hr⟩:=Bf hr
 obtain⟨a',rfl,hra⟩:=FQ hx ha
 obtain⟨p,hp,rfl⟩:=hra.eq
 have hoff:a.off=0:=Al.1 hb
 unfold F5 at hr
 split at hr
 ·rename_i s l tl hit
  cases hr
  have hrow:=H.row a.block p hp (hE _)
  rw[HZ hit]at hrow
  generalize hw:w.heap[p.blk]? =ob at hrow
  cases hrow with
  |iter0 hp0=>
   have key:(Instr.next (.pointer (some ⟨p.blk,p.off+a.off,none⟩)) false t).run P w=.ok (.tuple #[.bool false]) w:=by
    rw[hp0,hoff]
    simp only[Instr.next,Sem.run_bind,Bu hw rfl,Result.andThen_ok,Sem.run_pure]
   rw[key];exact .same H QX
 ·rename_i m since seen last hit
  have hrow:=H.row a.block p hp (hE _)
  rw[HZ hit]at hrow
  generalize hw:w.heap[p.blk]? =ob at hrow
  cases hrow with
  |@iter _ q _ _ _ hp0 hq=>
   split at hr
   case h_2=>cases hr
   rename_i es c hes
   obtain⟨es',hwm,hrel⟩:=H.entsAt hq (hE m) hes
   rw[hp0,hoff]
   have hmatch:∃ k:R,k=.ok v h'∧(!(⟨seen⟩:Array Nat).isEmpty && !(⟨es'⟩:Array MapEntry).isEmpty && (⟨es'⟩:Array MapEntry).all (fun e=>decide (e.born≥last)))=false∧
     k=(match KI since seen es with
      |some []=>Yg h
      |some [x]=>Dz h a.block (.iter (some m) since (JB x.born seen) c) fun h=>.ok (.tuple ⟨[.bool true,x.key,x.val]⟩) h
      |_=>.no):=by
    have hall:(⟨es'⟩:Array MapEntry).all (fun e=>decide (e.born≥last))=Ey last es:=by
     rw[← J9 hrel];simp
    cases seen with
    |nil=>exact⟨_,hr,by simp,rfl⟩
    |cons s0 sl=>
     cases hrel with
     |nil=>exact⟨_,hr,by simp,rfl⟩
     |cons hk hv tl=>
      simp only at hr
      rw[hall]
      generalize hy:Ey last _=y at hr ⊢
      cases y with
      |true=>cases hr
      |false=>exact⟨_,hr,by simp,rfl⟩
   obtain⟨k,hk,hstop,rfl⟩:=hmatch
   cases hl:KI since seen es with
   |none=>rw[hl]at hk;cases hk
   |some l=>
    rw[hl]at hk
    obtain⟨l',q1,q2,q3,q4⟩:=Pu hrel hl
    have f1:(⟨es'⟩:Array MapEntry).filter (fun e=> !(⟨seen⟩:Array Nat).contains e.born)=⟨l'⟩:=by
     rw[← q2];apply Array.ext';simp
    have f2:(⟨l'⟩:Array MapEntry).filter (fun e=>decide (e.born<since))=⟨l'⟩:=by
     apply Array.ext';rw[Array.toList_filter];exact q3
    have f3:(⟨l'⟩:Array MapEntry).filter (fun e=>decide (e.born≥since))= #[]:=by
     apply Array.ext';rw[Array.toList_filter];exact q4
    cases q1 with
    |nil=>
     cases hk
     have key:(Instr.next (.pointer (some ⟨p.blk,0,none⟩)) false t).run P w=.ok (.tuple #[.bool false]) w:=by
      simp only[Instr.next,Sem.run_bind,Bu hw rfl,Result.andThen_ok,Bu hwm rfl,hstop,Bool.false_eq_true,if_false,f1,f2,f3]
      simp[run_choose,Question.forced]
     have:p.off+a.off=0:=by omega
     rw[show(0:Nat)+0=0 from rfl,key];exact .same H QX
    |cons hkk hvv tl=>
     cases tl with
     |cons _ _ _=>cases hk
     |nil=>
      rename_i k0 k1 v0 v1 b0
      have hlive:Live h a.block:=by unfold Live;rw[HZ hit];intro hd;cases hd
      simp only at hk
      obtain⟨h1,hk2,H1,ev⟩:=Ex (ob:=.mapIter (some q.blk) since ⟨seen++[b0]⟩ c) H (hE _) hp hlive hk (by rw[HZ hit];exact .inr trivial) (by rw[MQ];exact .iter hp0 hq)
      cases hk2
      have key:(Instr.next (.pointer (some ⟨p.blk,0,none⟩)) false t).run P w=.ok (.tuple #[.bool true,k1,v1]) {w with heap:=w.heap.setIfInBounds p.blk (.mapIter (some q.blk) since ⟨seen++[b0]⟩ c)}:=by
       have hset:=Dc (P:=P) (ob':=.mapIter (some q.blk) since ⟨seen++[b0]⟩ c) hw rfl
       simp only[Instr.next,Sem.run_bind,Bu hw rfl,Result.andThen_ok,Bu hwm rfl,hstop,Bool.false_eq_true,if_false,f1,f2,f3]
       simp[run_choose,Question.forced,hset]
      rw[key];exact⟨_,_,φ,rfl,.tuple (.cons (.bool _) (.cons hkk (.cons hvv .nil))),H1,ev⟩
 ·cases hr
 ·cases hr
 ·rename_i m s last hit
  have hrow:=H.row a.block p hp (hE _)
  rw[dJ hit]at hrow
  cases hrow
theorem Pt:∀ l:List Nat,Ps l=l.getLast?
 |[]=>rfl
 |[x]=>rfl
 |x::y::l=>by
  show Ps (y::l)=_
  rw[Pt (y::l)];rfl
theorem PP{n:Nat}:∀ {es:List Ent} {es':List MapEntry} {x:Ent},RelE φ es es'→Fz n es=some x→∃ x',es'.find? (fun e=>e.born == n)=some x'∧RelV φ x.key x'.key∧RelV φ x.val x'.val
 |_,_,x,.nil,h=>by cases h
 |_,_,x,.cons (k':=k') (v':=v') (b:=b) hk hv t,h=>by
  unfold Fz at h
  rw[List.find?_cons]
  cases hb:Nat.beq b n with
  |true=>
   simp only[hb,cond_true]at h
   cases h
   have:b=n:=Al.1 hb
   subst this
   refine⟨⟨k',v',b⟩,?_,hk,hv⟩
   simp only[beq_self_eq_true]
  |false=>
   simp only[hb,cond_false]at h
   have hne:(b == n)=false:=by
    rw[beq_eq_false_iff_ne];intro he;rw[he,Nat.beq_refl]at hb;cases hb
   obtain⟨x',q1,q2⟩:=PP t h
   exact⟨x',by simp only[hne];exact q1,q2⟩
theorem Rh(H:RelW ty φ E h w)(hE:∀ b,¬ E b){m s last:Nat}{q:Pl}(hq:φ m=some q)(hr:HU m s last h=.ok v h'):
  h'=h∧∃ (es':List MapEntry) (c:Nat) (en':MapEntry) (k0 v0:Value),w.heap[q.blk]? =some (.map ⟨es'⟩ c)∧c=last∧(⟨es'⟩:Array MapEntry).find? (fun e=>e.born == s)=some en'∧v=.tuple ⟨[k0,v0]⟩∧RelV φ k0 en'.key∧RelV φ v0 en'.val:=by
 unfold HU at hr
 split at hr
 case h_2=>cases hr
 rename_i es c hes
 obtain⟨hc,hr⟩:=Bf hr
 split at hr
 case h_2=>cases hr
 rename_i en hen
 cases hr
 obtain⟨es',hwm,hrel⟩:=H.entsAt hq (hE m) hes
 obtain⟨en',q1,q2,q3⟩:=PP hrel hen
 exact⟨rfl,es',c,en',_,_,hwm,Al.1 hc,by rw[← q1];simp,rfl,q2,q3⟩
theorem VI(H:RelW ty φ E h w)(hE:∀ b,¬ E b){x:O}{x':Value}(hx:RelV φ (x e) x')(hr:IJ x F e h=.ok v h'):BI ty φ E h w v h' ((Instr.entry x').run P w):=by
 unfold IJ at hr
 split at hr
 case h_2=>cases hr
 rename_i a ha
 obtain⟨hb,hr⟩:=Bf hr
 obtain⟨a',rfl,hra⟩:=FQ hx ha
 obtain⟨p,hp,rfl⟩:=hra.eq
 have hoff:a.off=0:=Al.1 hb
 have main:∀ {m s last:Nat} {q:Pl} {sn:Nat} {seen:List Nat},φ m=some q→p.off=0→w.heap[p.blk]? =some (.mapIter (some q.blk) sn ⟨seen⟩ last)→seen.getLast? =some s→HU m s last h=.ok v h'→
   BI ty φ E h w v h' ((Instr.entry (.pointer (some ⟨p.blk,p.off+a.off,none⟩))).run P w):=by
  intro m s last q sn seen hq hp0 hw hl hr
  obtain⟨rfl,es',c,en',k0,v0,hwm,rfl,hfind,rfl,q2,q3⟩:=Rh H hE hq hr
  have hback:(⟨seen⟩:Array Nat).back? =some s:=by
   rw[← hl];simp[Array.back?_eq_getElem?,List.getLast?_eq_getElem?]
  rw[hp0,hoff]
  have key:(Instr.entry (.pointer (some ⟨p.blk,0,none⟩))).run P w=.ok (.tuple #[en'.key,en'.val]) w:=by
   simp only[Instr.entry,Sem.run_bind,Bu hw rfl,Result.andThen_ok,hback,Bu hwm rfl,bne_self_eq_false,Bool.false_eq_true,if_false,hfind,Sem.run_pure]
  rw[key];exact .same H (.tuple (.cons q2 (.cons q3 .nil)))
 unfold Jh at hr
 split at hr
 ·rename_i m since seen last hit
  have hrow:=H.row a.block p hp (hE _)
  rw[HZ hit]at hrow
  generalize hw:w.heap[p.blk]? =ob at hrow
  cases hrow with
  |@iter _ q _ _ _ hp0 hq=>
   split at hr
   case h_2=>cases hr
   rename_i st hst
   exact main hq hp0 hw (by rw[← Pt];exact hst) hr
 ·rename_i m st last hit
  have hrow:=H.row a.block p hp (hE _)
  rw[jT hit]at hrow
  generalize hw:w.heap[p.blk]? =ob at hrow
  cases hrow with
  |cur hp0 hq hl=>exact main hq hp0 hw hl hr
 ·cases hr
end
end
noncomputable section
open Go
section
variable {P:Program}{ty:TTy}{φ:Phi}{E:Nat→Prop}{h h':Hp}{w:World}{F:CallF}{e:Env}{v:Value}
theorem K9{t:Nat}{k:KS→OpF}(hr:wKey ty t k F e h=.ok v h'):∃ ti kt el K,ty.get t=some ti∧ti.k=.map kt el∧KeyOf P ty kt K∧k K F e h=.ok v h':=by
 unfold wKey at hr
 obtain⟨ti,hti,hr⟩:=BU hr
 cases hk:ti.k with
 |map kt el=>
  simp only[hk]at hr
  obtain⟨ki,hki,hr⟩:=BU hr
  cases hf:flatK ty 8 kt with
  |none=>rw[hf]at hr;cases hr
  |some ks=>
   rw[hf]at hr
   exact⟨ti,kt,el,⟨ki.k.agg,ks⟩,hti,hk,⟨⟨ki,hki,rfl⟩,hf⟩,hr⟩
 |_=>simp only[hk]at hr;cases hr
theorem KeyOf.und(hT:Cc P ty){t:Nat}{K:KS}(hK:KeyOf P ty t K):∃ d,P.underlying t=some d:=by
 obtain⟨ti,hti,_⟩:=hK.ti
 obtain⟨d,hd,_⟩:=(hT t ti hti).und
 exact⟨d,hd⟩
theorem OP{t:Nat}{ti:TI}(T:TyOk P t ti){kt el:Nat}(hk:ti.k=.map kt el):P.underlying t=some (.map kt el):=by
 obtain⟨d,hd,hkd⟩:=T.und
 rw[hk]at hkd;cases hkd
 exact hd
theorem EL{ok:Bool}{u:Value}{b:Bool}(hr:DP ok u b h=.ok v h'):h'=h∧v=(if ok then .tuple ⟨[u,.bool b]⟩else u):=by
 unfold DP at hr
 cases ok<;>simp only[A8]at hr<;>cases hr<;>exact⟨rfl,rfl⟩
theorem Dd{ok:Bool}{u u':Value}{b:Bool}(hu:RelV φ u u'):RelV φ (if ok then .tuple ⟨[u,.bool b]⟩else u) (if ok then .tuple #[u',.bool b]else u'):=by
 cases ok
 ·exact hu
 ·exact .tuple (.cons hu (.cons (.bool b) .nil))
theorem SR(hT:Cc P ty)(H:RelW ty φ E h w){t kt el:Nat}{ti ei:TI}(T:TyOk P t ti)(hk:ti.k=.map kt el)(TE:TyOk P el ei)(hz:ei.zero.length=ei.size){z:Value}(hzv:zeroV ei=some z){K:KS}(hK:KeyOf P ty kt K)
  {ok:Bool}{x ix:O}{x' ix':Value}(hx:RelV φ (x e) x')(hix:RelV φ (ix e) ix')(hE:∀ r,x e=.map (some r)→¬ E r)(hr:GP K z ok x ix F e h=.ok v h'):
  BI ty φ E h w v h' ((Instr.lookup t x' ix' ok).run P w):=by
 obtain⟨z0,hz0,hzr,_,hzp⟩:=TE.zeroOk hz
 rw[hzv]at hz0;cases hz0
 have hzrel:RelV φ z z:=by
  unfold zeroV at hzv
  split at hzv
  ·cases hzv;exact .agg (.plain hzp)
  ·split at hzv
   ·rename_i u hu
    cases hzv
    rw[hu]at hzp
    simp only[List.all_cons,List.all_nil,Bool.and_true]at hzp
    exact .plain hzp
   ·cases hzv
 obtain⟨kd,hkd⟩:=hK.und hT
 have hu:=OP T hk
 unfold GP Ha at hr
 split at hr
 case h_2=>cases hr
 rename_i hfit
 have he:=Io hfit hix
 subst he
 split at hr
 ·rename_i hxe
  rw[hxe]at hx;cases hx
  obtain⟨rfl,rfl⟩:=EL hr
  have hf:(Instr.findKey kt (ix e) []).run P w=.ok none w:=Da hkd (by simp[Instr.findAsking])
  have key:(Instr.lookup t (.map none) (ix e) ok).run P w=.ok (if ok then .tuple #[z,.bool false]else z) w:=by
   simp only[Instr.lookup,Sem.run_bind,run_underlying hu,Result.andThen_ok,Sem.run_pure,hK.check hT hfit,hf,hzr]
  rw[key];exact .same H (Dd hzrel)
 ·rename_i r hxe
  rw[hxe]at hx
  cases hx with
  |@map _ p hp=>
   split at hr
   case h_2=>cases hr
   rename_i es c hes
   obtain⟨es',hw,hrel⟩:=H.entsAt hp (hE r hxe) hes
   have hget:=Bu (P:=P) hw rfl
   split at hr
   ·rename_i en hfe
    obtain⟨rfl,rfl⟩:=EL hr
    obtain⟨j,u',hfa,hu'⟩:=Li hT hK hfit w 0 hrel hfe
    have hf:=Da hkd hfa
    have key:(Instr.lookup t (.map (some p.blk)) (ix e) ok).run P w=.ok (if ok then .tuple #[u',.bool true]else u') w:=by
     simp only[Instr.lookup,Sem.run_bind,run_underlying hu,Result.andThen_ok,Sem.run_pure,hget,hK.check hT hfit,hf]
    rw[key];exact .same H (Dd hu')
   ·rename_i hfe
    obtain⟨rfl,rfl⟩:=EL hr
    have hfa:=Li hT hK hfit w 0 hrel hfe
    have hf:=Da hkd hfa
    have key:(Instr.lookup t (.map (some p.blk)) (ix e) ok).run P w=.ok (if ok then .tuple #[z,.bool false]else z) w:=by
     simp only[Instr.lookup,Sem.run_bind,run_underlying hu,Result.andThen_ok,Sem.run_pure,hget,hK.check hT hfit,hf,hzr]
    rw[key];exact .same H (Dd hzrel)
   ·cases hr
 ·cases hr
theorem SE(H:RelW ty φ E h w){t xt:Nat}{ti:TI}(T:TyOk P t ti)(hk:ti.k≠.iface)(hz:ti.zero.length=ti.size){z:Value}(hzv:zeroV ti=some z){ok:Bool}{x:O}{x':Value}(hx:RelV φ (x e) x')(hr:Kv t ok z x F e h=.ok v h'):
  BI ty φ E h w v h' ((Instr.typeAssert x' xt t ok).run P w):=by
 obtain⟨z0,hz0,hzr,_,hzp⟩:=T.zeroOk hz
 rw[hzv]at hz0;cases hz0
 have hzrel:RelV φ z z:=by
  unfold zeroV at hzv
  split at hzv
  ·cases hzv;exact .agg (.plain hzp)
  ·split at hzv
   ·rename_i u hu
    cases hzv
    rw[hu]at hzp
    simp only[List.all_cons,List.all_nil,Bool.and_true]at hzp
    exact .plain hzp
   ·cases hzv
 obtain⟨d,hd,hkd⟩:=T.und
 unfold Kv at hr
 split at hr
 ·rename_i hxe
  rw[hxe]at hx
  cases hx with
  |nilIface=>
   cases ok with
   |false=>cases hr
   |true=>
    obtain⟨rfl,rfl⟩:=EL hr
    have key:(Instr.typeAssert .nilIface xt t true).run P w=.ok (if true then .tuple #[z,.bool false]else z) w:=by
     simp only[Instr.typeAssert,Sem.run_bind,run_underlying hd,Result.andThen_ok]
     cases d<;>first|(simp only[if_true,Sem.run_bind,hzr,Result.andThen_ok,Sem.run_pure];done)|exact absurd rfl (hkd.noIface hk _)
    rw[key];exact .same H (Dd hzrel)
 ·rename_i u q hxe
  rw[hxe]at hx
  cases hx with
  |@iface _ _ q' hq=>
   split at hr
   ·rename_i hb
    have hb:=Al.1 hb
    subst hb
    obtain⟨rfl,rfl⟩:=EL hr
    have key:(Instr.typeAssert (.iface u q') xt u ok).run P w=.ok (if ok then .tuple #[q',.bool true]else q') w:=by
     simp only[Instr.typeAssert,Sem.run_bind,run_underlying hd,Result.andThen_ok]
     cases d<;>first|(simp only[if_true,Sem.run_pure];done)|exact absurd rfl (hkd.noIface hk _)
    rw[key];exact .same H (Dd hq)
   ·rename_i hb
    have hne:¬ u=t:=fun he=>by rw[Al.2 he]at hb;cases hb
    cases ok with
    |false=>cases hr
    |true=>
     obtain⟨rfl,rfl⟩:=EL hr
     have key:(Instr.typeAssert (.iface u q') xt t true).run P w=.ok (if true then .tuple #[z,.bool false]else z) w:=by
      simp only[Instr.typeAssert,Sem.run_bind,run_underlying hd,Result.andThen_ok]
      cases d<;>first|(simp only[if_neg hne,if_true,Sem.run_bind,hzr,Result.andThen_ok,Sem.run_pure];done)|exact absurd rfl (hkd.noIface hk _)
     rw[key];exact .same H (Dd hzrel)
 ·cases hr
theorem MG(hT:Cc P ty)(H:RelW ty φ E h w)(hE:∀ b,¬ E b){t kt el:Nat}{ti:TI}(T:TyOk P t ti)(hk:ti.k=.map kt el){K:KS}(hK:KeyOf P ty kt K)
  {m key x:O}{m' key' x':Value}(hm:RelV φ (m e) m')(hkey:RelV φ (key e) key')(hx:RelV φ (x e) x')(hr:Ep K m key x F e h=.ok v h'):
  V7 ty φ E h w v h' ((Instr.mapUpdate t m' key' x').run P w):=by
 obtain⟨kd,hkd⟩:=hK.und hT
 have hu:=OP T hk
 unfold Ep at hr
 simp only[A8]at hr
 unfold K8 at hr
 split at hr
 case h_2=>cases hr
 rename_i hfit
 obtain⟨he,hkk⟩:=Lk hfit hkey
 subst he
 split at hr
 case h_2=>cases hr
 rename_i r hme
 rw[hme]at hm
 cases hm with
 |@map _ p hp=>
  split at hr
  case h_2=>cases hr
  rename_i es c hes
  obtain⟨es',hw,hrel⟩:=H.entsAt hp (hE r) hes
  have hget:=Bu (P:=P) hw rfl
  split at hr
  ·rename_i es2 hse
   obtain⟨j,u',en,hfa,hen,hek,hrel2⟩:=K6 hT hK hfit hx hkk w 0 hrel hse
   have hf:=Da hkd hfa
   obtain⟨h1,hk1,H1,ev⟩:=Ex (ob:=.map ⟨es'.modify (0+j) fun en=>{en with key:=key e,val:=x'}⟩ c) H (hE _) hp (F4 hes) hr (by rw[FX hes];exact .inr trivial) (.map (by rw[Nat.zero_add];exact hrel2))
   cases hk1
   refine⟨rfl,_,?_,H1,ev⟩
   have hstay:(Instr.keyThatStays (((⟨es'⟩:Array MapEntry)[0+j]?.map (·.key)).getD (key e)) (key e)).run P w=.ok (key e) w:=by
    have:(⟨es'⟩:Array MapEntry)[0+j]? =some en:=by rw[Nat.zero_add];simpa using hen
    rw[this]
    simp only[Option.map_some,Option.getD_some,hek]
    unfold Instr.keyThatStays
    rw[Uu hfit 9999]
    simp
   have hset:=Dc (P:=P) (ob':=.map ⟨es'.modify (0+j) fun en=>{en with key:=key e,val:=x'}⟩ c) hw rfl
   simp only[Instr.mapUpdate,Sem.run_bind,run_underlying hu,Result.andThen_ok,hget,hK.check hT hfit,hf,hstay]
   rw[← hset];congr 3
   apply Array.ext'
   simp
  ·rename_i hse
   have hfa:=K6 hT hK hfit hx hkk w 0 hrel hse
   have hf:=Da hkd hfa
   obtain⟨h1,hk1,H1,ev⟩:=Ex (ob:=.map ⟨es'++[{key:=key e,val:=x',born:=c}]⟩ (c+1)) H (hE _) hp (F4 hes) hr (by rw[FX hes];exact .inr trivial) (.map (by rw[Sj];exact RelE.append (.cons hkk hx .nil) hrel))
   cases hk1
   refine⟨rfl,_,?_,H1,ev⟩
   have hset:=Dc (P:=P) (ob':=.map ⟨es'++[{key:=key e,val:=x',born:=c}]⟩ (c+1)) hw rfl
   simp only[Instr.mapUpdate,Sem.run_bind,run_underlying hu,Result.andThen_ok,hget,hK.check hT hfit,hf]
   rw[← hset];congr 2
   simp
  ·cases hr
theorem SM(hT:Cc P ty)(H:RelW ty φ E h w)(hE:∀ b,¬ E b){ats:Array TypeId}{t' t kt el:Nat}{ti:TI}(h0:ats[0]? =some t)(T:TyOk P t ti)(hk:ti.k=.map kt el){K:KS}(hK:KeyOf P ty kt K)
  {m key:O}{m' key':Value}(hm:RelV φ (m e) m')(hkey:RelV φ (key e) key')(hr:Kw K m key F e h=.ok v h'):
  BI ty φ E h w v h' ((Builtin.delete_ ats t' #[m',key']).run P w):=by
 obtain⟨kd,hkd⟩:=hK.und hT
 have hu:=OP T hk
 unfold Kw S1 at hr
 split at hr
 case h_2=>cases hr
 rename_i hfit
 obtain⟨he,hkk⟩:=Lk hfit hkey
 subst he
 split at hr
 case h_2=>cases hr
 rename_i r hme
 rw[hme]at hm
 cases hm with
 |@map _ p hp=>
  split at hr
  case h_2=>cases hr
  rename_i es c hes
  obtain⟨es',hw,hrel⟩:=H.entsAt hp (hE r) hes
  have hget:=Bu (P:=P) hw rfl
  split at hr
  case h_2=>cases hr
  rename_i es2 hde
  rcases S0 hT hK hfit w 0 hrel hde with ⟨hfa,rfl⟩|⟨j,u',hfa,hrel2⟩
  ·have hf:=Da hkd hfa
   obtain⟨h1,hk1,H1,ev⟩:=Ex (ob:=.map ⟨es'⟩ c) H (hE _) hp (F4 hes) hr (by rw[FX hes];exact .inr trivial) (.map hrel)
   cases hk1
   have key:(Builtin.delete_ ats t' #[.map (some p.blk),key e]).run P w=.ok noRes {w with heap:=w.heap.setIfInBounds p.blk (.map ⟨es'⟩ c)}:=by
    simp only[Builtin.delete_,h0,List.getElem?_toArray,List.getElem?_cons_zero,List.getElem?_cons_succ,Sem.run_bind,run_underlying hu,Result.andThen_ok,Sem.run_pure,hget,hK.check hT hfit,hf,Dc hw rfl];rfl
   rw[key];exact⟨_,_,φ,rfl,.tuple .nil,H1,ev⟩
  ·have hf:=Da hkd hfa
   obtain⟨h1,hk1,H1,ev⟩:=Ex (ob:=.map ⟨es'.eraseIdx j⟩ c) H (hE _) hp (F4 hes) hr (by rw[FX hes];exact .inr trivial) (.map hrel2)
   cases hk1
   have herase:(⟨es'⟩:Array MapEntry).eraseIdxIfInBounds (0+j)=⟨es'.eraseIdx j⟩:=by
    apply Array.ext'
    rw[Nat.zero_add]
    unfold Array.eraseIdxIfInBounds
    split
    ·simp
    ·rename_i hj
     simp only
     rw[List.eraseIdx_of_length_le (by simpa using hj)]
   have key:(Builtin.delete_ ats t' #[.map (some p.blk),key e]).run P w=.ok noRes {w with heap:=w.heap.setIfInBounds p.blk (.map ⟨es'.eraseIdx j⟩ c)}:=by
    simp only[Builtin.delete_,h0,List.getElem?_toArray,List.getElem?_cons_zero,List.getElem?_cons_succ,Sem.run_bind,run_underlying hu,Result.andThen_ok,Sem.run_pure,hget,hK.check hT hfit,hf,herase,Dc hw rfl];rfl
   rw[key];exact⟨_,_,φ,rfl,.tuple .nil,H1,ev⟩
end
end
end Go.Proofs.YtedbmmfebjfibaaGreat

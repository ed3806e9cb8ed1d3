/-
  Part ZE of what Lawru stands on: printed by program, names and spaces cut.
-/
import Derived.Test.YtedbmmfebjfibaaGreatZD
open Go renaming Value→BY,IntKind→vQ,Operand→vm,World→vt,Program→wK,Oper→xp
open Nat renaming le_refl→IN,ble→vJ,beq→vO,lt_or_ge→vd,mul→vr,blt→wF,add→wg,beq_refl→wz,le_zero→yv,not_lt→AAJ,not_lt_zero→AAR
open Go.Result renaming andThen_ok→IS
open Go.Sem renaming run_bind→vE,run_pure→vF
open List renaming mem_cons_self→vG,mem_cons_of_mem→vH,mem_cons→vS,mem_map→vu,nodup_cons→xn,map_cons→yZ
open Go.Op renaming operands→vY
open Array renaming getD_eq_getD_getElem?→wD,ext'→wO,getElem?_toList→AA0
open Go.Call renaming operands→yp
open Go.Region renaming wanted→zc
set_option linter.unusedSimpArgs false
set_option linter.unusedVariables false
namespace Go.Proofs.YtedbmmfebjfibaaGreat
noncomputable section
open Go
section
variable {P:wK}{ty:TTy}{φ:Phi}{E:Nat→Prop}{h h':Hp}{w:vt}{F:ADS}{e:Env}{v:BY}{f:Fr}
theorem VH{op:Op}{x:vm}(hk:kd ty op=.r x)(hE:G5 ty f e E op){y:O}(hy:cO f x=some y):∀ a,y e=.pointer (some a)→¬ E a.block:=by
 intro a ha;unfold G5 at hE;rw[hk]at hE;exact hE y hy a.block (by rw[ha];rfl)
theorem LZ{op:Op}{x:vm}(hk:kd ty op=.w x)(hE:G5 ty f e E op):∀ b,¬ E b:=by
 unfold G5 at hE;rw[hk]at hE;exact hE
theorem Fz{op:Op}(hk:kd ty op=.q)(hE:G5 ty f e E op):∀ b,¬ E b:=by
 unfold G5 at hE;rw[hk]at hE;exact hE
theorem XJ{args:List O}{x:O}(hs:args=[x]){l:List vm}{ρ:vm→BY}(ha:ADp φ (vals e args) (l.map ρ)):∃ x',l.map ρ=[x']∧ADU φ (x e) x':=by
 subst hs;generalize l.map ρ=r at ha;cases ha with|cons h t=>cases t;exact⟨_,rfl,h⟩
theorem PU{args:List O}{x y:O}(hs:args=[x,y]){l:List vm}{ρ:vm→BY}(ha:ADp φ (vals e args) (l.map ρ)):∃ x' y',l.map ρ=[x',y']∧ADU φ (x e) x'∧ADU φ (y e) y':=by
 subst hs;generalize l.map ρ=r at ha;cases ha with|cons h t=>cases t with|cons h2 t=>cases t;exact⟨_,_,rfl,h,h2⟩
theorem XW(hT:Ck P ty)(H:ADX ty φ E h w){b:Builtin}{c:Call}(hc:c.callee=.builtin b){o:xp}{a:Act}(ho:o.op=.call c){args:List O}
  (ha:ADp φ (vals e args) (c.args.toList.map a.eval))(hE:(∀ b,¬ E b)∨b=.min∨b=.max∨(b=.len∧∀ x,args=[x]→∀ t ti,c.argTypes[0]? =some t→ty.get t=some ti→(∃ k q,ti.k=.map k q)→∀ r,x e=.map (some r)→¬ E r))
  (hr:Jv ty b c.argTypes.toList args F e h=.ok v h'):EO P ty φ E h v h' o a w:=by
 have AHA:c.args.map a.eval=⟨c.args.toList.map a.eval⟩:=by apply wO;simp
 have AFx:∀ t l,c.argTypes.toList=t::l→c.argTypes[0]? =some t:=fun t l hl=>by rw[← AA0,hl];rfl
 have AIp:∀ t t2 l,c.argTypes.toList=t::t2::l→c.argTypes[1]? =some t2:=fun t t2 l hl=>by rw[← AA0,hl];rfl
 have hex:∀ s:Sem BY,(∀ cs,builtin b c.argTypes o.type cs ⟨c.args.toList.map a.eval⟩=(do pure (.value (← s))))→∀ {vv:BY} {hh:Hp},BM ty φ E h w vv hh (s.run P w)→EO P ty φ E h vv hh o a w:=by
  intro s hs vv hh hg;refine .ADT (s:=s) ?_ hg;unfold execOp;rw[ho];simp only[resolve,hc,AHA];exact hs _
 cases b with
 |len=>
  match args,ha,hE,hr with
  |[x],ha,hE,hr=>
   obtain⟨x',he,hx⟩:=XJ rfl ha;cases hl:c.argTypes.toList with
   |nil=>rw[hl]at hr;cases hr
   |cons t l=>
    rw[hl]at hr;obtain⟨ti,hti,hr⟩:=BZ hr;have h0:=AFx t l hl;cases hk:ti.k with
    |slice el=>simp only[hk]at hr;exact hex _ (fun cs=>by rw[he];rfl) (ZX H h0 (hT t ti hti) hk hx hr)
    |string=>simp only[hk]at hr;exact hex _ (fun cs=>by rw[he];rfl) (ZZ H h0 (hT t ti hti) hk hx hr)
    |map k q=>
     simp only[hk]at hr;refine hex _ (fun cs=>by rw[he];rfl) (ZV H h0 (hT t ti hti) hk hx (fun r hxr=>?_) hr);rcases hE with hE|hE|hE|⟨_,hE⟩
     ·exact hE r
     ·cases hE
     ·cases hE
     ·exact hE x rfl t ti h0 hti ⟨k,q,hk⟩ r hxr
    |arr n el=>
     simp only[hk]at hr;refine hex (Builtin.len_ c.argTypes o.type #[x']) (fun cs=>by rw[he];rfl) ?_;rw[dh h0 (hT t ti hti) hk];have:v=.int .i64 (.ofNat n)∧h'=h:=by
      unfold AE kV at hr;rw[Et]at hr;cases hr;exact⟨rfl,rfl⟩
     obtain⟨rfl,rfl⟩:=this;exact .same H (.int _ _)
    |_=>simp only[hk]at hr;cases hr
  |[],_,_,hr=>cases hr
  |_::_::_,_,_,hr=>cases hr
 |cap=>
  match args,ha,hr with
  |[x],ha,hr=>
   obtain⟨x',he,hx⟩:=XJ rfl ha;cases hl:c.argTypes.toList with
   |nil=>rw[hl]at hr;cases hr
   |cons t l=>
    rw[hl]at hr;obtain⟨ti,hti,hr⟩:=BZ hr;have h0:=AFx t l hl;cases hk:ti.k with
    |slice el=>simp only[hk]at hr;exact hex (Builtin.cap_ c.argTypes o.type #[x']) (fun cs=>by rw[he];rfl) (ZM H h0 (hT t ti hti) hk hx hr)
    |_=>simp only[hk]at hr;cases hr
  |[],_,hr=>cases hr
  |_::_::_,_,hr=>cases hr
 |min=>
  match args,ha,hr with
  |[x,y],ha,hr=>
   obtain⟨x',y',he,hx,hy⟩:=PU rfl ha;exact hex _ (fun cs=>by rw[he];rfl) (eu (F:=F) H hx hy hr)
  |[],_,hr=>cases hr
  |[_],_,hr=>cases hr
  |_::_::_::_,_,hr=>cases hr
 |max=>
  match args,ha,hr with
  |[x,y],ha,hr=>
   obtain⟨x',y',he,hx,hy⟩:=PU rfl ha;exact hex _ (fun cs=>by rw[he];rfl) (eo (F:=F) H hx hy hr)
  |[],_,hr=>cases hr
  |[_],_,hr=>cases hr
  |_::_::_::_,_,hr=>cases hr
 |copy=>
  have hE':∀ b,¬ E b:=by
   rcases hE with h|h|h|⟨h,_⟩
   ·exact h
   all_goals cases h
  match args,ha,hr with
  |[d,x],ha,hr=>
   obtain⟨d',x',he,hd,hx⟩:=PU rfl ha;cases hl:c.argTypes.toList with
   |nil=>rw[hl]at hr;cases hr
   |cons t l=>
    rw[hl]at hr;obtain⟨ti,hti,hr⟩:=BZ hr;cases hk:ti.k with
    |slice el=>
     simp only[hk]at hr;obtain⟨ei,hei,hr⟩:=BZ hr;exact hex _ (fun cs=>by rw[he];rfl) (ZP H hE' (AFx t l hl) (hT t ti hti) hk (hT el ei hei) hd hx hr)
    |_=>simp only[hk]at hr;cases hr
  |[],_,hr=>cases hr
  |[_],_,hr=>cases hr
  |_::_::_::_,_,hr=>cases hr
 |clear=>
  have hE':∀ b,¬ E b:=by
   rcases hE with h|h|h|⟨h,_⟩
   ·exact h
   all_goals cases h
  match args,ha,hr with
  |[x],ha,hr=>
   obtain⟨x',he,hx⟩:=XJ rfl ha;cases hl:c.argTypes.toList with
   |nil=>rw[hl]at hr;cases hr
   |cons t l=>
    rw[hl]at hr;obtain⟨ti,hti,hr⟩:=BZ hr;cases hk:ti.k with
    |slice el=>
     simp only[hk]at hr;obtain⟨ei,hei,hr⟩:=BZ hr;obtain⟨hz,hr⟩:=IJ hr;exact hex _ (fun cs=>by rw[he];rfl) (WU H hE' (AFx t l hl) (hT t ti hti) hk (hT el ei hei) hz hx hr)
    |map k q=>
     simp only[hk]at hr;exact hex _ (fun cs=>by rw[he];rfl) (Ox H hE' (AFx t l hl) (hT t ti hti) hx hr)
    |_=>simp only[hk]at hr;cases hr
  |[],_,hr=>cases hr
  |_::_::_,_,hr=>cases hr
 |append=>
  have hE':∀ b,¬ E b:=by
   rcases hE with h|h|h|⟨h,_⟩
   ·exact h
   all_goals cases h
  match args,ha,hr with
  |[s,x],ha,hr=>
   obtain⟨s',x',he,hs,hx⟩:=PU rfl ha;cases hl:c.argTypes.toList with
   |nil=>rw[hl]at hr;cases hr
   |cons t l=>
    cases l with
    |nil=>rw[hl]at hr;cases hr
    |cons t2 l=>
     rw[hl]at hr;obtain⟨ti,hti,hr⟩:=BZ hr;obtain⟨xi,hxi,hr⟩:=BZ hr;have h0:=AFx t _ hl;have h1:=AIp t t2 l hl;cases hk:ti.k with
     |slice en=>
      cases hk2:xi.k with
      |slice q=>
       simp only[hk,hk2]at hr;obtain⟨ei,hei,hr⟩:=BZ hr;cases hsz:ei.size with
       |zero=>simp only[hsz]at hr;cases hr
       |succ n=>
        simp only[hsz]at hr;obtain⟨hz,hr⟩:=IJ hr;have hs2:n.succ=ei.size:=hsz.symm;rw[hs2]at hr;exact hex _ (fun cs=>by rw[he];rfl) (MY H hE' h0 h1 (hT t ti hti) hk (hT t2 xi hxi) (.inl ⟨q,hk2⟩) hei (hT en ei hei) (by omega) hz hs hx hr)
      |string=>
       simp only[hk,hk2]at hr;obtain⟨ei,hei,hr⟩:=BZ hr;cases hsz:ei.size with
       |zero=>simp only[hsz]at hr;cases hr
       |succ n=>
        simp only[hsz]at hr;obtain⟨hz,hr⟩:=IJ hr;have hs2:n.succ=ei.size:=hsz.symm;rw[hs2]at hr;exact hex _ (fun cs=>by rw[he];rfl) (MY H hE' h0 h1 (hT t ti hti) hk (hT t2 xi hxi) (.inr hk2) hei (hT en ei hei) (by omega) hz hs hx hr)
      |int q=>
       simp only[hk,hk2]at hr;obtain⟨ei,hei,hr⟩:=BZ hr;cases hsz:ei.size with
       |zero=>simp only[hsz]at hr;cases hr
       |succ n=>
        simp only[hsz]at hr;obtain⟨hz,hr⟩:=IJ hr;have hs2:n.succ=ei.size:=hsz.symm;rw[hs2]at hr;exact hex _ (fun cs=>by rw[he];rfl) (Qn H hE' h0 h1 (hT t ti hti) hk (hT t2 xi hxi) hk2 hei (hT en ei hei) (by omega) hz hs hx hr)
      |_=>simp only[hk,hk2]at hr;cases hr
     |_=>simp only[hk]at hr;cases hr
  |[],_,hr=>cases hr
  |[_],_,hr=>cases hr
  |_::_::_::_,_,hr=>cases hr
 |delete=>
  have hE':∀ b,¬ E b:=by
   rcases hE with h|h|h|⟨h,_⟩
   ·exact h
   all_goals cases h
  match args,ha,hr with
  |[m,key],ha,hr=>
   obtain⟨m',key',he,hm,hkey⟩:=PU rfl ha;cases hl:c.argTypes.toList with
   |nil=>rw[hl]at hr;cases hr
   |cons t l=>
    rw[hl]at hr;obtain⟨ti,kt,el,K,hti,hk,hK,hr⟩:=Lb (k:=fun ks=>LO ks m key) hr;exact hex _ (fun cs=>by rw[he];rfl) (S6 hT H hE' (AFx t l hl) (hT t ti hti) hk hK hm hkey hr)
  |[],_,hr=>cases hr
  |[_],_,hr=>cases hr
  |_::_::_::_,_,hr=>cases hr
 |_=>cases hr
theorem nG(hT:Ck P ty)(hF:C2 P ty F)(H:ADX ty φ E h w){o:xp}{a:Act}(hst:ge φ f e a.eval o.op)(hE:G5 ty f e E o.op)(hr:opC ty f o.op F e h=.ok v h'):
  EO P ty φ E h v h' o a w:=by
 cases ho:o.op with
 |move x=>
  rw[ho]at hr hst;obtain⟨x',hx',hr⟩:=C1 hr;exact .ADT (s:=pure (a.eval x)) (by unfold execOp;rw[ho];rfl) (Qu H (hst x (by simp[vY]) x' hx') hr)
 |assign x=>
  rw[ho]at hr hst;obtain⟨x',hx',hr⟩:=C1 hr;exact .ADT (s:=pure (a.eval x)) (by unfold execOp;rw[ho];rfl) (Qu H (hst x (by simp[vY]) x' hx') hr)
 |pick c x y=>
  rw[ho]at hr hst;obtain⟨c',hc',hr⟩:=C1 hr;obtain⟨x',y',hx',hy',hr⟩:=Jl hr;refine .ADT (s:=(do pure (if ← asBool (a.eval c)then a.eval x else a.eval y))) ?_ (Zf H (hst c (by simp[vY]) c' hc') (hst x (by simp[vY]) x' hx') (hst y (by simp[vY]) y' hy') hr);unfold execOp;rw[ho];simp
 |alloc t=>
  rw[ho]at hr hst;obtain⟨ti,hti,hr⟩:=BZ hr;obtain⟨hz,hr⟩:=IJ hr;cases hc:Bx .mt 0 ti.zero with
  |none=>rw[hc]at hr;cases hr
  |some c=>
   rw[hc]at hr;exact .ADT (by unfold execOp;rw[ho]) (WP H (hT t ti hti) hz hc hr)
 |box t x=>
  rw[ho]at hr hst;obtain⟨x',hx',hr⟩:=C1 hr;exact .ADT (by unfold execOp;rw[ho]) (eN H (hst x (by simp[vY]) x' hx') hr)
 |build t parts=>
  rw[ho]at hr hst;obtain⟨ti,hti,hr⟩:=BZ hr;obtain⟨hz,hr⟩:=IJ hr;have hps:∀ p∈parts.toList,∀ y,cO f p.2=some y→ADU φ (y e) (a.eval p.2):=fun p hp=>hst p.2 (by simp only[vY,vu];exact⟨p,hp,rfl⟩)
  cases hk:ti.k with
  |struct fs=>
   simp only[hk]at hr;cases hp:Ge f (Ml fs) parts.toList with
   |none=>rw[hp]at hr;cases hr
   |some ps=>
    rw[hp]at hr;exact .ADT (by unfold execOp;rw[ho]) (Sz H (hT t ti hti) hk hz (ps':=parts.map fun (i,x)=>(i,a.eval x)) (by simpa using JU (ρ:=a.eval) hp hps) hr)
  |arr n el=>
   simp only[hk]at hr;obtain⟨ei,hei,hr⟩:=BZ hr;cases hp:Ge f (fun i=>some (vr i ei.size,ei.size)) parts.toList with
   |none=>rw[hp]at hr;cases hr
   |some ps=>
    rw[hp]at hr;exact .ADT (by unfold execOp;rw[ho]) (Sy H (hT t ti hti) hk (hT el ei hei) hz (ps':=parts.map fun (i,x)=>(i,a.eval x)) (by simpa using JU (ρ:=a.eval) hp hps) hr)
  |_=>simp only[hk]at hr;cases hr
 |buildSlice t len parts=>
  rw[ho]at hr hst;obtain⟨ti,hti,hr⟩:=BZ hr;have hps:∀ p∈parts.toList,∀ y,cO f p.2=some y→ADU φ (y e) (a.eval p.2):=fun p hp=>hst p.2 (by simp only[vY,vu];exact⟨p,hp,rfl⟩)
  cases hk:ti.k with
  |slice el=>
   simp only[hk]at hr;obtain⟨ei,hei,hr⟩:=BZ hr;obtain⟨hz,hr⟩:=IJ hr;cases hp:Ge f (fun i=>some (vr i ei.size,ei.size)) parts.toList with
   |none=>rw[hp]at hr;cases hr
   |some ps=>
    rw[hp]at hr;simp only at hr;cases hb:vJ (vr len ei.size) 16777216 with
    |false=>rw[hb]at hr;cases hr
    |true=>
     rw[hb]at hr;exact .ADT (by unfold execOp;rw[ho]) (MZ H (hT t ti hti) hk (hT el ei hei) hz (Ab.1 hb) (ps':=parts.map fun (i,x)=>(i,a.eval x)) (by simpa using JU (ρ:=a.eval) hp hps) hr)
  |_=>simp only[hk]at hr;cases hr
 |load t x=>
  rw[ho]at hr hst hE;obtain⟨ti,hti,hr⟩:=BZ hr;obtain⟨x',hx',hr⟩:=C1 hr;have hx:=hst x (by simp[vY]) x' hx';cases hk:ti.k.agg with
  |true=>rw[hk]at hr;exact .ADT (by unfold execOp;rw[ho]) (Wd H (hT t ti hti) hk hx (VH rfl hE hx') hr)
  |false=>rw[hk]at hr;exact .ADT (by unfold execOp;rw[ho]) (Wb H (hT t ti hti) hk hx (VH rfl hE hx') hr)
 |store t x y=>
  rw[ho]at hr hst hE;obtain⟨ti,hti,hr⟩:=BZ hr;obtain⟨x',y',hx',hy',hr⟩:=Jl hr;exact .AEu (by unfold execOp;rw[ho]) (Wj H (hT t ti hti) (hst x (by simp[vY]) x' hx') (hst y (by simp[vY]) y' hy') (fun a _=>LZ (x:=x) rfl hE _) hr)
 |nilCheck x=>
  rw[ho]at hr hst;obtain⟨x',hx',hr⟩:=C1 hr;obtain⟨hv,rfl,hne⟩:=fC H (hst x (by simp[vY]) x' hx') hr;refine .ADT (s:=pure (a.eval x)) ?_ (.same H hv);unfold execOp;rw[ho];obtain⟨h1,h2,h3,h4⟩:=hne;simp only;generalize a.eval x=z at h1 h2 h3 h4 ⊢;cases z<;>first|rfl|(exact absurd rfl h2)|(exact absurd rfl h3)|skip
 |binOp op t x y yt=>rw[ho]at hr hst;exact jy hT H ho (by rw[ho];exact hst) hr
 |unOp op t x=>
  rw[ho]at hr hst;obtain⟨ti,hti,hr⟩:=BZ hr;obtain⟨x',hx',hr⟩:=C1 hr;have hx:=hst x (by simp[vY]) x' hx';have hex:execOp a.eval o=(do pure (.value (← Op.unary op (a.eval x)))):=by unfold execOp;rw[ho]
  cases op with
  |not=>exact .ADT hex (fF H hx (by revert hr;cases ti.k<;>exact id))
  |neg=>
   cases hk:ti.k with
   |int k=>simp only[hk]at hr;exact .ADT hex (ez H hx hr)
   |_=>simp only[hk]at hr;cases hr
  |plus=>revert hr;cases ti.k<;>intro hr<;>cases hr
  |xor=>
   cases hk:ti.k with
   |int k=>cases k<;>simp only[hk]at hr<;>first|cases hr;done|exact .ADT hex (eU H hx hr)
   |_=>simp only[hk]at hr;cases hr
 |fieldAddr t x i=>
  rw[ho]at hr hst;obtain⟨ti,hti,hr⟩:=BZ hr;obtain⟨x',hx',hr⟩:=C1 hr;have hx:=hst x (by simp[vY]) x' hx';cases hk:ti.k with
  |struct fs=>
   simp only[hk]at hr;cases hn:nth fs i with
   |none=>rw[hn]at hr;cases hr
   |some q=>
    obtain⟨off,s,ft⟩:=q;rw[hn]at hr;cases s with
    |zero=>cases hr
    |succ s=>exact .ADT (by unfold execOp;rw[ho]) (ND H (hT t ti hti) hk hn hx hr)
  |_=>simp only[hk]at hr;cases hr
 |field t x i=>
  rw[ho]at hr hst;obtain⟨ti,hti,hr⟩:=BZ hr;obtain⟨x',hx',hr⟩:=C1 hr;have hx:=hst x (by simp[vY]) x' hx';cases hk:ti.k with
  |struct fs=>
   simp only[hk]at hr;cases hn:nth fs i with
   |none=>rw[hn]at hr;cases hr
   |some q=>
    obtain⟨off,s,ft⟩:=q;rw[hn]at hr;obtain⟨fi,hfi,hr⟩:=BZ hr;exact .ADT (by unfold execOp;rw[ho]) (WX H (hT t ti hti) hk hn (hT ft fi hfi) hx hr)
  |_=>simp only[hk]at hr;cases hr
 |indexAddr t x ix=>
  rw[ho]at hr hst;obtain⟨ti,hti,hr⟩:=BZ hr;obtain⟨x',y',hx',hy',hr⟩:=Jl hr;have hx:=hst x (by simp[vY]) x' hx';have hy:=hst ix (by simp[vY]) y' hy';cases hk:ti.k with
  |arr n el=>
   simp only[hk]at hr;obtain⟨ei,hei,hr⟩:=BZ hr;exact .ADT (by unfold execOp;rw[ho]) (S8 H (hT t ti hti) hk (hT el ei hei) hx hy hr)
  |slice el=>
   simp only[hk]at hr;obtain⟨ei,hei,hr⟩:=BZ hr;exact .ADT (by unfold execOp;rw[ho]) (ee H (hT t ti hti) hk (hT el ei hei) hx hy hr)
  |_=>simp only[hk]at hr;cases hr
 |index t x ix=>
  rw[ho]at hr hst;obtain⟨ti,hti,hr⟩:=BZ hr;obtain⟨x',y',hx',hy',hr⟩:=Jl hr;have hx:=hst x (by simp[vY]) x' hx';have hy:=hst ix (by simp[vY]) y' hy';cases hk:ti.k with
  |arr n el=>
   simp only[hk]at hr;obtain⟨ei,hei,hr⟩:=BZ hr;exact .ADT (by unfold execOp;rw[ho]) (mz H (hT t ti hti) hk (hT el ei hei) hx hy hr)
  |string=>
   simp only[hk]at hr;exact .ADT (by unfold execOp;rw[ho]) (WS H (hT t ti hti) hk hx hy hr)
  |_=>simp only[hk]at hr;cases hr
 |extract x i=>
  rw[ho]at hr hst;obtain⟨x',hx',hr⟩:=C1 hr;exact .ADT (by unfold execOp;rw[ho]) (Qr H (hst x (by simp[vY]) x' hx') hr)
 |makeInterface t x=>
  rw[ho]at hr hst;obtain⟨ti,hti,hr⟩:=BZ hr;obtain⟨x',hx',hr⟩:=C1 hr;have hx:=hst x (by simp[vY]) x' hx';have hne:ti.k≠.iface:=by intro hk;rw[hk]at hr;cases hr
  have hr':Mc t x' F e h=.ok v h':=by revert hr hne;cases ti.k<;>intro hr hne<;>first|exact hr|exact absurd rfl hne
  exact .ADT (by unfold execOp;rw[ho]) (WZ H (hT t ti hti) hne hx hr')
 |makeFunc fn first cap=>
  rw[ho]at hr hst;simp only[opC]at hr;cases h1:cOs f first.toList with
  |none=>simp only[h1]at hr;cases hr
  |some fs=>
   cases h2:cOs f cap.toList with
   |none=>simp only[h1,h2]at hr;cases hr
   |some cs=>
    simp only[h1,h2]at hr;refine .ADT (s:=Instr.makeFunc fn (first.map a.eval) (cap.map a.eval)) (by unfold execOp;rw[ho]) ?_;have e1:first.map a.eval=⟨first.toList.map a.eval⟩:=by apply wO;simp
    have e2:cap.map a.eval=⟨cap.toList.map a.eval⟩:=by apply wO;simp
    rw[e1,e2];exact ZT H (OM h1 fun x hx=>hst x (by simp[vY]at hx ⊢;exact .inl hx)) (OM h2 fun x hx=>hst x (by simp[vY]at hx ⊢;exact .inr hx)) hr
 |makeMap t r=>
  rw[ho]at hr hst;cases r with
  |some _=>cases hr
  |none=>exact .ADT (by unfold execOp;rw[ho];rfl) (ef (F:=F) (e:=e) H (t:=t) hr)
 |makeSlice t l c=>
  rw[ho]at hr hst;obtain⟨ti,hti,hr⟩:=BZ hr;cases hk:ti.k with
  |slice el=>
   simp only[hk]at hr;obtain⟨ei,hei,hr⟩:=BZ hr;obtain⟨hz,hr⟩:=IJ hr;obtain⟨l',c',hl',hc',hr⟩:=Jl hr;exact .ADT (by unfold execOp;rw[ho]) (Za H (hT t ti hti) hk (hT el ei hei) hz (hst l (by simp[vY]) l' hl') (hst c (by simp[vY]) c' hc') hr)
  |_=>simp only[hk]at hr;cases hr
 |sliceToArrayPointer t x=>
  rw[ho]at hr hst;obtain⟨ti,hti,hr⟩:=BZ hr;cases hk:ti.k with
  |arr n el=>
   simp only[hk]at hr;cases n with
   |zero=>cases hr
   |succ n=>
    obtain⟨x',hx',hr⟩:=C1 hr;exact .ADT (by unfold execOp;rw[ho]) (eJ H (hT t ti hti) hk (Nat.succ_pos _) (hst x (by simp[vY]) x' hx') hr)
  |_=>simp only[hk]at hr;cases hr
 |slice t x lo hi mx=>
  rw[ho]at hr hst;obtain⟨ti,hti,hr⟩:=BZ hr;obtain⟨x',hx',hr⟩:=C1 hr;have hx:=hst x (by simp[vY]) x' hx';cases h1:cOo f lo with
  |none=>simp only[h1]at hr;cases hr
  |some lo'=>
   cases h2:cOo f hi with
   |none=>simp only[h1,h2]at hr;cases hr
   |some hi'=>
    cases h3:cOo f mx with
    |none=>simp only[h1,h2,h3]at hr;cases hr
    |some mx'=>
     simp only[h1,h2,h3]at hr;have r1:AEz φ e lo' (lo.map a.eval):=SM h1 fun z hz=>hst z (by rw[hz];simp[vY])
     have r2:AEz φ e hi' (hi.map a.eval):=SM h2 fun z hz=>hst z (by rw[hz];simp[vY])
     have r3:AEz φ e mx' (mx.map a.eval):=SM h3 fun z hz=>hst z (by rw[hz];simp[vY])
     cases hk:ti.k with
     |string=>
      simp only[hk]at hr;cases mx' with
      |some _=>cases hr
      |none=>
       have AE3:H0 x' lo' hi' F e h=.ok v h':=hr;have hmx:mx=none:=by
        cases mx with
        |none=>rfl
        |some z=>cases r3
       subst hmx;exact .ADT (by unfold execOp;rw[ho];rfl) (S5 H (hT t ti hti) hk hx r1 r2 AE3)
     |slice el=>
      simp only[hk]at hr;obtain⟨ei,hei,hr⟩:=BZ hr;exact .ADT (by unfold execOp;rw[ho]) (eW H (hT t ti hti) hk hei (hT el ei hei) hx r1 r2 r3 hr)
     |arr n el=>
      simp only[hk]at hr;obtain⟨ei,hei,hr⟩:=BZ hr;exact .ADT (by unfold execOp;rw[ho]) (S1 H (hT t ti hti) hk (hT el ei hei) hx r1 r2 r3 hr)
     |_=>simp only[hk]at hr;cases hr
 |convert src dst x=>
  rw[ho]at hr hst hE;obtain⟨si,hsi,hr⟩:=BZ hr;obtain⟨di,hdi,hr⟩:=BZ hr;obtain⟨x',hx',hr⟩:=C1 hr;have hx:=hst x (by simp[vY]) x' hx';have hex:execOp a.eval o=(do pure (.value (← convert src dst (a.eval x)))):=by unfold execOp;rw[ho]
  obtain⟨ds,hds,ks⟩:=(hT src si hsi).und;obtain⟨dd,hdd,kd⟩:=(hT dst di hdi).und;cases hk:di.k with
  |int k=>
   cases hk2:si.k with
   |int k2=>
    simp only[hk,hk2]at hr;obtain⟨q,n,hxe,hg⟩:=ZO (P:=P) H hx hr;rw[hk]at kd;cases kd;rw[hk2]at ks;cases ks;refine .ADT hex ?_;rw[hxe];have:(convert src dst (.int q n)).run P w=(Conv.intToInt k n).run P w:=by
     simp only[convert,vE,run_underlying hds,run_underlying hdd,IS]
    rw[this];exact hg
   |_=>simp only[hk,hk2]at hr;cases hr
  |string=>
   cases hk2:si.k with
   |string=>
    simp only[hk,hk2]at hr;obtain⟨s,hxe,hg⟩:=Zh H hx hr;rw[hk]at kd;cases kd;rw[hk2]at ks;cases ks;refine .ADT hex ?_;rw[hxe]at hg ⊢;have:(convert src dst (.string s)).run P w=.ok (.string s) w:=by
     simp only[convert,vE,run_underlying hds,run_underlying hdd,IS,vF]
    rw[this];exact hg
   |slice el=>
    simp only[hk,hk2]at hr;obtain⟨ei,hei,hr⟩:=BZ hr;cases hk3:ei.k with
    |int k3=>
     cases k3<;>simp only[hk3]at hr<;>first|(cases hr;done)|skip
     refine .ADT hex (Wl H (fun a l c hxe=>?_) (hT src si hsi) hk2 (hT dst di hdi) hk (hT el ei hei) hk3 hx hr);cases hb:vO src dst with
     |true=>exact Fz (by simp only[Go.Proofs.YtedbmmfebjfibaaGreat.kd,hb]) hE _
     |false=>
      have hi:ML ty src=false:=by unfold ML;rw[hsi];simp only[hk2]
      have hi2:HM ty dst=false:=by unfold HM;rw[hdi];simp only[hk]
      have hkd:Go.Proofs.YtedbmmfebjfibaaGreat.kd ty (.convert src dst x)=.r x:=by simp only[Go.Proofs.YtedbmmfebjfibaaGreat.kd,hb,hi,hi2]
      unfold G5 at hE;rw[hkd]at hE;exact hE x' hx' _ (by rw[hxe];rfl)
    |_=>simp only[hk3]at hr;cases hr
   |_=>simp only[hk,hk2]at hr;cases hr
  |slice el=>
   cases hk2:si.k with
   |string=>
    simp only[hk,hk2]at hr;obtain⟨ei,hei,hr⟩:=BZ hr;cases hk3:ei.k with
    |int k3=>
     cases k3<;>simp only[hk3]at hr<;>first|(cases hr;done)|skip
     cases hb:vO ei.size 1 with
     |false=>rw[hb]at hr;cases hr
     |true=>
      rw[hb]at hr;exact .ADT hex (Qy H (hT src si hsi) hk2 (hT dst di hdi) hk (hT el ei hei) hk3 hei (Am.1 hb) hx hr)
    |_=>simp only[hk3]at hr;cases hr
   |slice el2=>
    simp only[hk,hk2]at hr;cases hb:vO src dst with
    |false=>rw[hb]at hr;cases hr
    |true=>
     rw[hb]at hr;have heq:src=dst:=Am.1 hb;have hE':=Fz (by simp only[Go.Proofs.YtedbmmfebjfibaaGreat.kd,hb]) hE;obtain⟨ei,hei,hr⟩:=BZ hr;cases hk3:ei.k with
     |int k3=>
      cases k3<;>simp only[hk3]at hr<;>first|(cases hr;done)|skip
      have hg:=WT (P:=P) H hE' (hT dst di hdi) hk (hT el ei hei) hk3 hx hr;rw[heq]at hex;exact .ADT hex hg
     |_=>simp only[hk3]at hr;cases hr
   |_=>simp only[hk,hk2]at hr;cases hr
  |_=>simp only[hk]at hr;cases hr
 |call c=>
  rw[ho]at hr hst hE;simp only[opC]at hr;cases h1:cOs f c.args.toList with
  |none=>simp only[h1]at hr;cases hr
  |some args=>
   simp only[h1]at hr;have ha:ADp φ (vals e args) (c.args.toList.map a.eval):=OM h1 fun x hx=>hst x (by
    unfold vY yp;cases hc:c.callee<;>simp[hc]<;>first|exact Or.inr (by simpa using hx)|exact(by simpa using hx))
   cases hc:c.callee with
   |builtin b=>
    simp only[hc]at hr;refine XW hT H hc ho ha ?_ hr;cases b with
    |len=>
     refine .inr (.inr (.inr ⟨rfl,fun x hx t ti ht hti hm r hxr=>?_⟩));subst hx;cases hl:c.args.toList with
     |nil=>rw[hl]at h1;cases h1
     |cons x0 l=>
      cases l with
      |cons x1 l=>
       rw[hl]at h1;unfold cOs at h1;cases hx0:cO f x0 with
       |none=>rw[hx0]at h1;cases h1
       |some y0=>
        rw[hx0]at h1;cases hx1:cOs f (x1::l)with
        |none=>rw[hx1]at h1;cases h1
        |some ys=>
         rw[hx1]at h1;cases h1;unfold cOs at hx1;cases hq:cO f x1 with
         |none=>rw[hq]at hx1;cases hx1
         |some y1=>
          rw[hq]at hx1;cases hq2:cOs f l with
          |none=>rw[hq2]at hx1;cases hx1
          |some ys=>rw[hq2]at hx1;cases hx1
      |nil=>
       rw[hl]at h1;have hx0:cO f x0=some x:=by
        unfold cOs at h1;cases hx0:cO f x0 with
        |none=>rw[hx0]at h1;cases h1
        |some y0=>rw[hx0]at h1;cases h1;rfl
       obtain⟨k,q,hm⟩:=hm;have hmap:Sj ty (c.argTypes.getD 0 0)=true:=by
        have:c.argTypes.getD 0 0=t:=by rw[wD,ht];rfl
        rw[this];unfold Sj;rw[hti];simp only[hm]
       have hk:kd ty (.call c)=.r x0:=by simp only[kd,hc,hl,hmap]
       unfold G5 at hE;rw[hk]at hE;exact hE x hx0 r (by rw[hxr];rfl)
    |min=>exact .inr (.inl rfl)
    |max=>exact .inr (.inr (.inl rfl))
    |_=>
     refine .inl ?_;cases hl:c.args.toList with
     |nil=>exact Fz (by simp only[kd,hc,hl]) hE
     |cons x l=>exact LZ (x:=x) (by simp only[kd,hc,hl]) hE
   |value g=>
    simp only[hc]at hr;have hE':∀ b,¬ E b:=Fz (by simp only[kd,hc]) hE;cases g with
    |func g=>exact ZK hF H hE' hc ho ha hr
    |tmp t=>
     obtain⟨g',hg',hr⟩:=C1 hr;exact KI hF H hE' hc ho (hst (.tmp t) (by unfold vY yp;simp[hc]) g' hg') ha hr
    |const t=>
     obtain⟨g',hg',hr⟩:=C1 hr;exact KI hF H hE' hc ho (hst (.const t) (by unfold vY yp;simp[hc]) g' hg') ha hr
    |global t=>
     obtain⟨g',hg',hr⟩:=C1 hr;exact KI hF H hE' hc ho (hst (.global t) (by unfold vY yp;simp[hc]) g' hg') ha hr
   |invoke recv name=>
    simp only[hc]at hr;have hE':∀ b,¬ E b:=Fz (by simp only[kd,hc]) hE;obtain⟨x',hx',hr⟩:=C1 hr;exact S9 hT hF H hE' hc ho (hst recv (by unfold vY yp;simp[hc]) x' hx') ha hr
 |lookup t x ix ok=>
  rw[ho]at hr hst hE;obtain⟨ti,hti,hr⟩:=BZ hr;obtain⟨x',ix',hx',AIq,hr⟩:=Jl hr;cases hk:ti.k with
  |map kt el=>
   simp only[hk]at hr;obtain⟨ei,hei,hr⟩:=BZ hr;obtain⟨hz,hr⟩:=IJ hr;unfold wZero at hr;cases hzv:zeroV ei with
   |none=>rw[hzv]at hr;cases hr
   |some z=>
    rw[hzv]at hr;obtain⟨ti2,kt2,el2,K,AHw,hk2,hK,hr⟩:=Lb hr;rw[hti]at AHw;cases AHw;rw[hk]at hk2;cases hk2;refine .ADT (by unfold execOp;rw[ho]) (TB hT H (hT t ti hti) hk (hT el ei hei) hz hzv hK (hst x (by simp[vY]) x' hx') (hst ix (by simp[vY]) ix' AIq) (fun r hxr=>?_) hr);have hkd:kd ty (.lookup t x ix ok)=.r x:=rfl;unfold G5 at hE;rw[hkd]at hE;exact hE x' hx' r (by rw[hxr];rfl)
  |_=>simp only[hk]at hr;cases hr
 |mapUpdate t m k x=>
  rw[ho]at hr hst hE;obtain⟨ti,kt,el,K,hti,hk,hK,hr⟩:=Lb (k:=fun ks=>w1 f m fun m=>w2 f k x fun key x=>E8 ks m key x) hr;obtain⟨m',hm',hr⟩:=C1 hr;obtain⟨k',x',hk',hx',hr⟩:=Jl hr;exact .AEu (by unfold execOp;rw[ho]) (Mf hT H (LZ (x:=m) rfl hE) (hT t ti hti) hk hK (hst m (by simp[vY]) m' hm') (hst k (by simp[vY]) k' hk') (hst x (by simp[vY]) x' hx') hr)
 |insert t m k x=>
  rw[ho]at hr hst hE;obtain⟨ti,kt,el,K,hti,hk,hK,hr⟩:=Lb (k:=fun ks=>w1 f m fun m=>w2 f k x fun key x=>E8 ks m key x) hr;obtain⟨m',hm',hr⟩:=C1 hr;obtain⟨k',x',hk',hx',hr⟩:=Jl hr;exact .AEu (by unfold execOp;rw[ho]) (Mf hT H (LZ (x:=m) rfl hE) (hT t ti hti) hk hK (hst m (by simp[vY]) m' hm') (hst k (by simp[vY]) k' hk') (hst x (by simp[vY]) x' hx') hr)
 |range t x=>
  rw[ho]at hr hst hE;obtain⟨ti,hti,hr⟩:=BZ hr;cases hk:ti.k with
  |map k q=>
   simp only[hk]at hr;obtain⟨x',hx',hr⟩:=C1 hr;exact .ADT (by unfold execOp;rw[ho]) (Wi H (Fz rfl hE) (hT t ti hti) hk (hst x (by simp[vY]) x' hx') hr)
  |_=>simp only[hk]at hr;cases hr
 |next x s=>
  rw[ho]at hr hst hE;cases s with
  |true=>cases hr
  |false=>
   obtain⟨x',hx',hr⟩:=C1 hr;exact .ADT (by unfold execOp;rw[ho]) (Zc (t:=o.type) H (Fz rfl hE) (hst x (by simp[vY]) x' hx') hr)
 |entry x=>
  rw[ho]at hr hst hE;obtain⟨x',hx',hr⟩:=C1 hr;exact .ADT (by unfold execOp;rw[ho]) (WV H (Fz rfl hE) (hst x (by simp[vY]) x' hx') hr)
 |typeAssert x xt t ok=>
  rw[ho]at hr hst hE;obtain⟨ti,hti,hr⟩:=BZ hr;obtain⟨x',hx',hr⟩:=C1 hr;have hr2:ti.k≠.iface∧wZ ti (wZero ti fun z=>LN t ok z x') F e h=.ok v h':=by
   cases hk:ti.k with
   |iface=>simp only[hk]at hr;cases hr
   |_=>simp only[hk]at hr;exact⟨nofun,hr⟩
  obtain⟨hki,hr⟩:=hr2;obtain⟨hz,hr⟩:=IJ hr;unfold wZero at hr;cases hzv:zeroV ti with
  |none=>rw[hzv]at hr;cases hr
  |some z=>
   rw[hzv]at hr;exact .ADT (by unfold execOp;rw[ho]) (Sx H (hT t ti hti) hki hz hzv (hst x (by simp[vY]) x' hx') hr)
 |_=>rw[ho]at hr;cases hr
end
end
noncomputable section
open Go
def qW(h:Hp):R→R
 |.ok v _=>.ok v h
 |.no=>.no
def Kr(g:Hp→R):Prop:=∀ h h2:Hp,h2.bl=h.bl→g h2=qW h2 (g h)
def Kp(g:OpF):Prop:=∀ F e,Kr (g F e)
theorem Kr.same{g:Hp→R}(k:Kr g){h h':Hp}{v:BY}(hr:g h=.ok v h'):h'=h:=by
 have:=k h h rfl;rw[hr]at this;have:(R.ok v h')=.ok v h:=this;cases this;rfl
theorem Kr.at{g:Hp→R}(k:Kr g){h h':Hp}{v:BY}(hr:g h=.ok v h')(h2:Hp)(hb:h2.bl=h.bl):g h2=.ok v h2:=by
 rw[k h h2 hb,hr];rfl
theorem Kr.no:Kr fun _=>.no:=fun _ _ _=>rfl
theorem Kr.ok(v:BY):Kr fun h=>.ok v h:=fun _ _ _=>rfl
theorem Kr.bif{c:Bool}{a b:Hp→R}(ka:Kr a)(kb:Kr b):Kr fun h=>bif c then a h else b h:=by
 cases c
 ·exact kb
 ·exact ka
theorem Kr.ADf{v:BY}{k:BY→Hp→R}(hk:∀ v,Kr (k v)):Kr fun h=>ADf v fun v=>k v h:=by
 intro h h2 hb;simp only[BC];exact hk v h h2 hb
theorem Kr.AD7{v:List BY}{k:List BY→Hp→R}(hk:∀ v,Kr (k v)):Kr fun h=>AD7 v fun v=>k v h:=by
 intro h h2 hb;simp only[CQ];exact hk v h h2 hb
theorem Kr.ADi{v:Nat}{k:Nat→Hp→R}(hk:∀ v,Kr (k v)):Kr fun h=>ADi v fun v=>k v h:=by
 intro h h2 hb;simp only[AZ];exact hk v h h2 hb
theorem Kr.okI(k:vQ)(n:Int):Kr fun h=>okI k n h:=fun h h2 _=>by simp only[Ea];rfl
theorem Kr.AEm(v:BY):Kr fun h=>AEm v h:=fun h h2 _=>by simp only[Et];rfl
theorem Kr.okB(b:Bool):Kr fun h=>okB b h:=by cases b<;>exact .ok _
theorem Kr.row{b:Nat}{k:VT→Nat→Nat→Hp→R}{z:Hp→R}(hk:∀ c s e,Kr (k c s e))(hz:Kr z):Kr fun h=>match rowOf h b with
  |.ok c s e=>k c s e h
  |.no=>z h:=by
 intro h h2 hb;have:rowOf h2 b=rowOf h b:=by unfold rowOf;rw[hb]
 simp only[this];cases rowOf h b with
 |ok c s e=>exact hk c s e h h2 hb
 |no=>exact hz h h2 hb
theorem Kr.ents{b:Nat}{k:List Ent→Nat→Hp→R}{z:Hp→R}(hk:∀ c s,Kr (k c s))(hz:Kr z):Kr fun h=>match BP h b with
  |.ok c s=>k c s h
  |.no=>z h:=by
 intro h h2 hb;have:BP h2 b=BP h b:=by unfold BP;rw[hb]
 simp only[this];cases BP h b with
 |ok c s=>exact hk c s h h2 hb
 |no=>exact hz h h2 hb
theorem UL{c:VT}{off:Nat}{k:List BY→Hp→R}(hk:∀ l,Kr (k l))(n:Nat)(acc:List BY):Kr fun h=>Se c off (fun l=>k l h) n acc:=by
 intro h h2 hb;simp only[Fo];exact hk _ h h2 hb
theorem G9{e:Env}{x:Option O}{d y:Nat}{k:Nat→Hp→R}(hk:∀ n,Kr (k n)):Kr fun h=>Cd e x d y fun n=>k n h:=by
 unfold Cd;cases x with
 |none=>exact hk d
 |some o=>
  simp only;cases Cz (o e)with
  |no=>exact .no
  |ok n=>exact .bif (hk n) .no
theorem Jt{e:Env}{l c:Nat}{lo hi mx:Option O}{k:Nat→Nat→Nat→Hp→R}(hk:∀ a b c,Kr (k a b c)):Kr fun h=>DG e l c lo hi mx fun a b c=>k a b c h:=by
 unfold DG;cases mx with
 |none=>exact G9 (k:=fun hh h=>Cd e lo 0 hh fun l=>k l hh c h) fun hh=>G9 (k:=fun l h=>k l hh c h) fun l=>hk l hh c
 |some m=>
  refine G9 (k:=fun m h=>_) fun m=>?_
  cases hi with
  |none=>exact .no
  |some hh=>exact G9 (k:=fun hh h=>Cd e lo 0 hh fun l=>k l hh m h) fun hh=>G9 (k:=fun l h=>k l hh m h) fun l=>hk l hh m
theorem Gl{a:Option Addr}{s l hh m:Nat}:Kr fun h=>Bg a s l hh m h:=by
 unfold Bg;refine .ADi (k:=fun n h=>_) fun n=>.ADi (k:=fun c h=>_) fun c=>?_
 cases vO m l with
 |true=>exact .ok _
 |false=>
  cases a with
  |none=>exact .ok _
  |some a=>
   simp only;cases vr l s with
   |zero=>exact .ok _
   |succ m=>exact .ADi (k:=fun o h=>_) fun o=>.ok _
theorem Q9{g:Bool}{s:Nat}{cs:List BY}{off:Nat}:Kr fun h=>Nu g s cs off h:=by
 unfold Nu;cases g with
 |true=>exact .AD7 (k:=fun l h=>_) fun l=>.ok _
 |false=>
  simp only;cases nth cs off with
  |none=>exact .no
  |some v=>exact .ADf (k:=fun l h=>_) fun l=>.ok _
theorem Pt{e:Env}{k:List BY→Hp→R}(hk:∀ l,Kr (k l)):∀ (ps:List (Nat×Nat×O)) (cs:List BY),Kr fun h=>EK cs e (fun l=>k l h) ps
 |[],cs=>by
  unfold EK;exact .AD7 (k:=k) hk
 |(off,size,x)::ps,cs=>by
  unfold EK;exact .ADf (k:=fun v h=>_) fun v=>.bif (.bif (.bif (Pt hk ps _) .no) .no) .no
theorem MR{ok:Bool}{v:BY}{b:Bool}:Kr fun h=>DN ok v b h:=by
 unfold DN;cases ok
 ·exact .ADf (k:=fun v h=>_) fun v=>.ok _
 ·exact .ADf (k:=fun v h=>_) fun v=>.ok _
theorem RE{a:Addr}{n:Nat}:Kr fun h=>Nx a n h:=.ADi (k:=fun o h=>_) fun o=>.ok _
theorem Ri{size:Nat}{v:BY}{n:Nat}{k:List BY→Hp→R}(hk:∀ l,Kr (k l)):Kr fun h=>BH h size v n fun l=>k l h:=by
 unfold BH;cases v with
 |slice a l c=>
  cases a with
  |none=>exact hk []
  |some a=>exact .row (k:=fun c s _ h=>bif vJ (wg a.off (vr n size)) s then Se c a.off (fun l=>k l h) (vr n size) []else .no) (z:=fun _=>.no) (fun c s _=>.bif (UL hk _ _) .no) .no
 |string s=>exact .bif (hk _) .no
 |chan c=>
  cases c with
  |none=>exact .no
  |some r=>exact hk []
 |_=>exact .no
end
noncomputable section
open Go
theorem Kp.oNo:Kp oNo:=fun _ _=>.no
theorem Kp.w1{f:Fr}{x:vm}{k:O→OpF}(hk:∀ y,Kp (k y)):Kp (w1 f x k):=by
 unfold Go.Proofs.YtedbmmfebjfibaaGreat.w1;split
 ·exact hk _
 ·exact .oNo
theorem Kp.w2{f:Fr}{x y:vm}{k:O→O→OpF}(hk:∀ x y,Kp (k x y)):Kp (w2 f x y k):=.w1 fun x=>.w1 fun y=>hk x y
theorem Kp.wTy{ty:TTy}{t:Nat}{k:TI→OpF}(hk:∀ ti,ty.get t=some ti→Kp (k ti)):Kp (wTy ty t k):=by
 unfold Go.Proofs.YtedbmmfebjfibaaGreat.wTy;split
 ·rename_i ti h;exact hk ti h
 ·exact .oNo
theorem Kp.wZ{ti:TI}{k:OpF}(hk:Kp k):Kp (wZ ti k):=by
 unfold Go.Proofs.YtedbmmfebjfibaaGreat.wZ;split
 ·exact hk
 ·exact .oNo
theorem Kp.wZero{ti:TI}{k:BY→OpF}(hk:∀ z,Kp (k z)):Kp (wZero ti k):=by
 unfold Go.Proofs.YtedbmmfebjfibaaGreat.wZero;split
 ·exact hk _
 ·exact .oNo
theorem Kp.wKey{ty:TTy}{t:Nat}{k:KS→OpF}(hk:∀ z,Kp (k z)):Kp (wKey ty t k):=by
 unfold Go.Proofs.YtedbmmfebjfibaaGreat.wKey;refine .wTy fun ti _=>?_
 split
 ·refine .wTy fun ki _=>?_
  split
  ·exact hk _
  ·exact .oNo
 ·exact .oNo
section
variable {x y z:O}
theorem Md:Kp (AE x):=fun F e=>.AEm _
theorem Ze:Kp (A0 x y z):=fun F e=>by
 show Kr fun h=>Zy (x e) (y e) (z e) h
 cases x e with
 |bool t=>cases t<;>exact .AEm _
 |_=>exact .no
theorem Nq{zs:List BY}{ps:List (Nat×Nat×O)}:Kp (Bs zs ps):=fun F e=>Pt (k:=fun cs h=>.ok (.agg ⟨cs⟩) h) (fun l=>.ok _) ps zs
theorem fA:Kp (Bf x):=fun F e=>by
 show Kr fun h=>WN (x e) h
 unfold WN;cases x e with
 |pointer a=>cases a;exact .no;exact .ok _
 |func f a b=>cases f<;>first|exact .ok _|exact .no
 |slice a n c=>exact .ok _
 |map m=>exact .ok _
 |iface t v=>exact .ADf (k:=fun v h=>.ok (.iface t v) h) fun v=>.ok _
 |_=>exact .no
theorem eS{f:Int→Int→Bool}{k:vQ}:Kp (Ai f k x y):=fun F e=>by
 show Kr fun h=>cF f (CW k (x e)) (CW k (y e)) h
 cases CW k (x e)with
 |no=>exact .no
 |ok a=>cases CW k (y e)with
  |no=>exact .no
  |ok b=>exact .okB _
theorem eH{f:Int→Int→Int}{k:vQ}:Kp (Cj f k x y):=fun F e=>by
 show Kr fun h=>iQ f k (CW k (x e)) (CW k (y e)) h
 cases CW k (x e)with
 |no=>exact .no
 |ok a=>cases CW k (y e)with
  |no=>exact .no
  |ok b=>exact .okI _ _
theorem eF{k:vQ}{top:Nat}:Kp (CC k top x y):=fun F e=>by
 show Kr fun h=>bP k top (CW k (x e)) (CW k (y e)) h
 cases CW k (x e)with
 |no=>exact .no
 |ok a=>cases CW k (y e)with
  |no=>exact .no
  |ok b=>
   cases a with
   |negSucc _=>exact .okI _ _
   |ofNat a=>cases b with
    |negSucc _=>exact .okI _ _
    |ofNat b=>
     unfold bP;simp only;cases vJ (wg a b) top with
     |true=>exact .ADi (k:=fun n h=>.ok (.int k (.ofNat n)) h) fun n=>.ok _
     |false=>exact .okI _ _
theorem eY{k:vQ}:Kp (KL k x y):=fun F e=>by
 show Kr fun h=>YV k (CW k (x e)) (CW k (y e)) h
 unfold YV;cases CW k (x e)with
 |no=>exact .no
 |ok a=>cases CW k (y e)with
  |no=>exact .no
  |ok b=>exact .bif .no (.okI _ _)
theorem fG{k:vQ}:Kp (K8 k x y):=fun F e=>by
 show Kr fun h=>Z9 k (CW k (x e)) (CW k (y e)) h
 unfold Z9;cases CW k (x e)with
 |no=>exact .no
 |ok a=>cases CW k (y e)with
  |no=>exact .no
  |ok b=>exact .bif .no (.okI _ _)
theorem eM{f:Nat→Nat→Nat}{k:vQ}:Kp (KJ f k x y):=fun F e=>by
 show Kr fun h=>XR f k (Ff k (x e)) (Ff k (y e)) h
 unfold XR;cases Ff k (x e)with
 |no=>exact .no
 |ok a=>cases Ff k (y e)with
  |no=>exact .no
  |ok b=>exact .bif (.bif (.okI _ _) .no) .no
theorem fI{k:vQ}:Kp (NE k x y):=fun F e=>by
 show Kr fun h=>aM k (Ff k (x e)) (Cz (y e)) h
 unfold aM;cases Ff k (x e)with
 |no=>exact .no
 |ok a=>cases Cz (y e)with
  |no=>exact .no
  |ok b=>exact .okI _ _
theorem fL{k:vQ}:Kp (K9 k x y):=fun F e=>by
 show Kr fun h=>aN k (Ff k (x e)) (Cz (y e)) h
 unfold aN;cases Ff k (x e)with
 |no=>exact .no
 |ok a=>cases Cz (y e)with
  |no=>exact .no
  |ok b=>exact .okI _ _
theorem fN{f:List UInt8→List UInt8→Bool}:Kp (JS f x y):=fun F e=>by
 show Kr fun h=>aW f (x e) (y e) h
 unfold aW;cases x e with
 |string a=>cases y e with
  |string b=>exact .okB _
  |_=>exact .no
 |_=>exact .no
theorem eP:Kp (eO x y):=fun F e=>by
 show Kr fun h=>cC (x e) (y e) h
 unfold cC;cases x e with
 |string a=>cases y e with
  |string b=>exact .bif (.ok _) .no
  |_=>exact .no
 |_=>exact .no
theorem m8{k:TK}{n:Bool}:Kp (oEq k n x y):=fun F e=>by
 unfold oEq;cases eqV k (x e) (y e)with
 |some r=>exact .okB _
 |none=>exact .no
theorem Zd{n:Bool}:Kp (Nr n x):=fun F e=>by
 show Kr fun h=>ZF n (x e) h
 unfold ZF;cases x e<;>first|exact .okB _|exact .no
theorem Uo{k:KS}{n:Bool}:Kp (Qp k n x y):=fun F e=>by
 unfold Qp;cases eqC k (x e) (y e)with
 |some r=>exact .okB _
 |none=>exact .no
theorem fD:Kp (Dq x):=fun F e=>by
 unfold Dq;cases x e with
 |bool b=>exact .okB _
 |_=>exact .no
theorem eT:Kp (ZQ x):=fun F e=>by
 unfold ZQ;cases Ff .u8 (x e)with
 |no=>exact .no
 |ok n=>exact .bif (.okI _ _) .no
theorem ex{k:vQ}:Kp (Zb k x):=fun F e=>by
 unfold Zb;cases CW k (x e)with
 |no=>exact .no
 |ok n=>exact .okI _ _
theorem ZN{k:vQ}:Kp (Cf k x):=fun F e=>by
 unfold Cf;cases WA (x e)with
 |no=>exact .no
 |ok n=>exact .okI _ _
theorem Zg:Kp (Qx x):=fun F e=>by
 unfold Qx;cases x e with
 |string b=>exact .ok _
 |_=>exact .no
theorem Wk:Kp (FR x):=fun F e=>by
 unfold FR;cases x e with
 |slice a n c=>
  refine Ri (k:=fun cs h=>match Ef cs with|some bs=>.ok (.string ⟨⟨bs⟩⟩) h|none=>.no) fun l=>?_
  cases Ef l with
  |some bs=>exact .ok _
  |none=>exact .no
 |_=>exact .no
theorem WY{t:Nat}:Kp (Mc t x):=fun F e=>.ADf (k:=fun v h=>.ok (.iface t v) h) fun v=>.ok _
theorem ZS{fn:Fn}{a b:List O}:Kp (Eu fn a b):=fun F e=>.AD7 (k:=fun f h=>AD7 (vals e b) fun c=>.ok (.func fn ⟨f⟩ ⟨c⟩) h) fun f=>.AD7 (k:=fun c h=>.ok (.func fn ⟨f⟩ ⟨c⟩) h) fun c=>.ok _
theorem S4{lo hi:Option O}:Kp (H0 x lo hi):=fun F e=>by
 unfold H0;cases x e with
 |string s=>exact Jt (k:=fun l hh _ h=>.ok (.string ⟨⟨Kz (Nat.sub hh l) (L1 l s.data.toList)⟩⟩) h) fun a b c=>.ok _
 |_=>exact .no
theorem cK{el s:Nat}{a:Option Addr}{mx:Bool}{l hh m:Nat}:Kr fun h=>D7 el s a mx l hh m h:=by
 unfold D7;cases mx with
 |true=>exact Gl
 |false=>
  cases l with
  |zero=>exact Gl
  |succ l=>
   intro h h2 hb;have:En el a h2=En el a h:=by
    unfold En;cases a with
    |none=>rfl
    |some a=>
     have:rowOf h2 a.block=rowOf h a.block:=by unfold rowOf;rw[hb]
     simp only[this]
   simp only[this];cases En el a h with
   |true=>exact Gl h h2 hb
   |false=>rfl
theorem eV{el s:Nat}{lo hi mx:Option O}:Kp (Dp el s x lo hi mx):=fun F e=>by
 unfold Dp;cases x e with
 |slice a n c=>exact Jt (k:=fun l hh m h=>D7 el s a mx.isSome l hh m h) fun _ _ _=>cK
 |_=>exact .no
theorem S0{n s:Nat}{lo hi mx:Option O}:Kp (Ft n s x lo hi mx):=fun F e=>by
 unfold Ft;cases Dh (x e)with
 |ok a=>exact Jt (k:=fun l hh m h=>Bg (some a) s l hh m h) fun _ _ _=>Gl
 |no=>exact .no
theorem NC{o:Nat}:Kp (AH o x):=fun F e=>by
 unfold AH;cases Dh (x e)with
 |ok a=>exact RE
 |no=>exact .no
theorem WW{g:Bool}{s o:Nat}:Kp (Mb g s o x):=fun F e=>by
 unfold Mb;cases x e with
 |agg cs=>exact Q9
 |_=>exact .no
theorem US{n s:Nat}{a:AA}{i:NN}:Kr fun h=>MI n s a i h:=by
 unfold MI;cases i with
 |no=>exact .no
 |ok i=>
  simp only;cases wF i n with
  |false=>exact .no
  |true=>
   cases a with
   |no=>exact .no
   |ok a=>exact RE
theorem S7{n s:Nat}:Kp (CS n s x y):=fun F e=>US
theorem ed{s:Nat}:Kp (CD s x y):=fun F e=>by
 unfold CD;cases x e with
 |slice a n c=>cases a;exact .no;exact US
 |_=>exact .no
theorem my{g:Bool}{n s:Nat}:Kp (oAt g n s x y):=fun F e=>by
 show Kr fun h=>atF g n s (x e) (Cz (y e)) h
 unfold atF;cases Cz (y e)with
 |no=>exact .no
 |ok i=>
  refine .bif ?_ .no;cases x e with
  |agg cs=>exact Q9
  |_=>exact .no
theorem WQ:Kp (Id x y):=fun F e=>by
 show Kr fun h=>Jp (x e) (Cz (y e)) h
 unfold Jp;cases Cz (y e)with
 |no=>exact .no
 |ok i=>
  simp only;cases x e with
  |string s=>
   simp only;cases nth s.data.toList i with
   |some b=>exact .okI _ _
   |none=>exact .no
  |_=>exact .no
theorem Qq{i:Nat}:Kp (Aj i x):=fun F e=>by
 unfold Aj;cases x e with
 |tuple vs=>
  simp only;cases nth vs.toList i with
  |some v=>exact .ADf (k:=fun v h=>.ok v h) fun v=>.ok v
  |none=>exact .no
 |_=>exact .no
theorem eI{n:Nat}:Kp (Qo n x):=fun F e=>by
 unfold Qo;cases x e with
 |slice a l c=>cases a;exact .no;exact .bif (.ok _) .no
 |_=>exact .no
theorem ZW:Kp (Bl x):=fun F e=>by
 unfold Bl;cases x e with
 |slice a n c=>exact .ok _
 |chan o=>cases o;exact .no;exact .ok _
 |_=>exact .no
theorem ZY:Kp (Qt x):=fun F e=>by
 unfold Qt;cases x e with
 |string s=>exact .ADi (k:=fun n h=>.ok (.int .i64 (.ofNat n)) h) fun n=>.ok _
 |_=>exact .no
theorem ZU:Kp (Qs x):=fun F e=>by
 unfold Qs;cases x e with
 |map r=>
  cases r with
  |none=>exact .ok _
  |some r=>exact .ents (k:=fun es _ h=>ADi (A8 es) fun n=>.ok (.int .i64 (.ofNat n)) h) (z:=fun _=>.no) (fun es _=>.ADi (k:=fun n h=>.ok (.int .i64 (.ofNat n)) h) fun n=>.ok _) .no
 |_=>exact .no
theorem Nk{l:Bool}{a b:BY}:Kr fun h=>HS l a b h:=by
 unfold HS;cases a with
 |int k a=>
  simp only;cases WA b with
  |no=>exact .no
  |ok b=>exact .bif (.ok _) (.ok _)
 |_=>exact .no
theorem et:Kp (Wh x y):=fun F e=>Nk
theorem eh:Kp (TC x y):=fun F e=>Nk
theorem Wa:Kp (AP x):=fun F e=>by
 unfold AP;cases Dh (x e)with
 |no=>exact .no
 |ok a=>
  intro h h2 hb;show ADW a h2=qW h2 (ADW a h);have:rowOf h2 a.block=rowOf h a.block:=by unfold rowOf;rw[hb]
  unfold ADW;rw[this];cases rowOf h a.block with
  |no=>rfl
  |ok c s t=>
   simp only;cases wF a.off s with
   |false=>rfl
   |true=>simp only[BC];rfl
theorem Wc{n:Nat}:Kp (Bb n x):=fun F e=>by
 unfold Bb;cases Dh (x e)with
 |no=>exact .no
 |ok a=>exact .row (k:=fun c s _ h=>bif vJ (wg a.off n) s then Se c a.off (fun l=>.ok (.agg ⟨l⟩) h) n []else .no) (z:=fun _=>.no) (fun c s _=>.bif (UL (k:=fun l h=>.ok (.agg ⟨l⟩) h) (fun l=>.ok _) _ _) .no) .no
theorem TA{K:KS}{zv:BY}{ok:Bool}:Kp (E7 K zv ok x y):=fun F e=>by
 show Kr fun h=>Fp K zv (x e) (y e) ok h
 unfold Fp;cases Fd K (y e)with
 |false=>exact .no
 |true=>
  simp only;cases x e with
  |map r=>
   cases r with
   |none=>exact MR
   |some r=>
    refine .ents (k:=fun es _ h=>match IH K (y e) es with
     |some (some en)=>DN ok en.val true h
     |some none=>DN ok zv false h
     |none=>.no) (z:=fun _=>.no) (fun es _=>?_) .no
    cases IH K (y e) es with
    |none=>exact .no
    |some o=>cases o<;>exact MR
  |_=>exact .no
end
section
variable {ty:TTy}{f:Fr}
theorem bj{op:BinOp}{t:Nat}{x y:vm}:Kp (XP ty f op t x y):=by
 unfold XP;refine .wTy fun ti _=>.w2 fun x y=>?_
 split
 ·split
  ·cases op<;>first|exact Zd|exact .oNo
  ·exact .oNo
 ·cases op<;>first|exact eF|exact eH|exact eY|exact fG|exact eM|exact fI|exact fL|exact eS|exact .oNo
 ·cases op<;>first|exact eP|exact fN|exact .oNo
 ·split
  ·cases op<;>first|exact Uo|exact .oNo
  ·exact .oNo
 ·split
  ·cases op<;>first|exact Uo|exact .oNo
  ·exact .oNo
 ·cases op<;>first|exact m8|exact .oNo
theorem nF{op:Op}(hk:kd ty op=.p∨∃ x,kd ty op=.r x):Kp (opC ty f op):=by
 cases op with
 |move x=>exact .w1 fun x=>Md
 |assign x=>exact .w1 fun x=>Md
 |pick c a b=>exact .w1 fun c=>.w2 fun a b=>Ze
 |build t ps=>
  refine .wTy fun ti _=>.wZ ?_
  split
  ·split
   ·exact Nq
   ·exact .oNo
  ·refine .wTy fun ei _=>?_
   split
   ·exact Nq
   ·exact .oNo
  ·exact .oNo
 |load t x=>
  refine .wTy fun ti _=>.w1 fun x=>?_
  split
  ·exact Wc
  ·exact Wa
 |nilCheck x=>exact .w1 fun x=>fA
 |binOp op t x y u=>exact bj
 |unOp op t x=>
  refine .wTy fun ti _=>.w1 fun x=>?_
  split<;>first|exact fD|exact ex|exact eT|exact .oNo
 |convert src dst x=>
  refine .wTy fun si hsi=>.wTy fun di hdi=>.w1 fun x=>?_
  split
  ·exact ZN
  ·exact Zg
  ·refine .wTy fun ei _=>?_
   split
   ·exact Wk
   ·exact .oNo
  ·rename_i hd hs
   exfalso
   simp only[kd]at hk;cases hb:vO src dst with
   |true=>simp only[hb]at hk;rcases hk with hk|⟨_,hk⟩<;>cases hk
   |false=>
    have h1:ML ty src=false:=by unfold ML;rw[hsi];simp only[hs]
    have h2:HM ty dst=true:=by unfold HM;rw[hdi];simp only[hd]
    simp only[hb,h1,h2]at hk;rcases hk with hk|⟨_,hk⟩<;>cases hk
  ·rename_i hs hd
   split
   ·rename_i hb
    exfalso
    simp only[kd,hb]at hk;rcases hk with hk|⟨_,hk⟩<;>cases hk
   ·exact .oNo
  ·exact .oNo
 |makeInterface t x=>
  refine .wTy fun ti _=>.w1 fun x=>?_
  split
  ·exact .oNo
  ·exact WY
 |makeFunc fn a b=>
  show Kp (match cOs f a.toList,cOs f b.toList with
   |some fs,some c=>Eu fn fs c
   |_,_=>oNo)
  split
  ·exact ZS
  ·exact .oNo
 |slice t x lo hi mx=>
  refine .wTy fun ti _=>.w1 fun x=>?_
  split
  ·split
   ·split
    ·exact S4
    ·exact .oNo
   ·exact .wTy fun ei _=>eV
   ·exact .wTy fun ei _=>S0
   ·exact .oNo
  ·exact .oNo
 |fieldAddr t x i=>
  refine .wTy fun ti _=>.w1 fun x=>?_
  split
  ·split<;>first|exact NC|exact .oNo
  ·exact .oNo
 |field t x i=>
  refine .wTy fun ti _=>.w1 fun x=>?_
  split
  ·split
   ·exact .wTy fun fi _=>WW
   ·exact .oNo
  ·exact .oNo
 |indexAddr t x i=>
  refine .wTy fun ti _=>.w2 fun x y=>?_
  split
  ·exact .wTy fun fi _=>S7
  ·exact .wTy fun fi _=>ed
  ·exact .oNo
 |index t x i=>
  refine .wTy fun ti _=>.w2 fun x y=>?_
  split
  ·exact .wTy fun fi _=>my
  ·exact WQ
  ·exact .oNo
 |lookup t x i ok=>
  refine .wTy fun ti _=>.w2 fun x y=>?_
  split
  ·exact .wTy fun ei _=>.wZ (.wZero fun z=>.wKey fun ks=>TA)
  ·exact .oNo
 |extract t i=>exact .w1 fun t=>Qq
 |sliceToArrayPointer t x=>
  refine .wTy fun ti _=>?_
  split
  ·exact .w1 fun x=>eI
  ·exact .oNo
 |call c=>
  simp only[kd]at hk;cases hc:c.callee with
  |builtin b=>
   show Kp (match cOs f c.args.toList with
    |some args=>match c.callee with
     |.builtin b=>Jv ty b c.argTypes.toList args
     |.value g=>match g with
      |.func g=>AU g args
      |g=>w1 f g fun g=>EY g args
     |.invoke recv name=>w1 f recv fun x=>LQ (ty.meths name fun k=>k) x args
    |none=>oNo)
   split
   ·rename_i args ha
    simp only[hc];cases b with
    |len=>
     unfold Jv;split<;>rename_i h1<;>first|(cases h1;done)|skip
     all_goals (try (exact .oNo))
     split
     ·refine .wTy fun ti _=>?_
      split
      ·exact ZW
      ·exact ZY
      ·exact ZU
      ·exact Md
      ·exact .oNo
     ·exact .oNo
    |min=>
     unfold Jv;split<;>rename_i h1<;>first|(cases h1;done)|exact et|exact .oNo
    |max=>
     unfold Jv;split<;>rename_i h1<;>first|(cases h1;done)|exact eh|exact .oNo
    |_=>
     exfalso
     simp only[hc]at hk;cases hl:c.args.toList with
     |nil=>simp only[hl]at hk;rcases hk with hk|⟨_,hk⟩<;>cases hk
     |cons _ _=>simp only[hl]at hk;rcases hk with hk|⟨_,hk⟩<;>cases hk
   ·exact .oNo
  |_=>
   exfalso
   simp only[hc]at hk;rcases hk with hk|⟨_,hk⟩<;>cases hk
 |_=>first|exact .oNo|(exfalso;rcases hk with hk|⟨_,hk⟩<;>cases hk)
end
end
noncomputable section
open Go
abbrev Rho:=Nat→Option BY
def ADq(A:List Nat)(σ:Sg)(e:Env):Rho:=fun t=>match PE A σ (.tmp t)with
 |some s=>some (LC s e)
 |none=>none
def evR(ρ:Rho):vm→Option BY
 |.tmp t=>ρ t
 |.const v=>if FS v then some v else none
 |.func g=>some (.func (.func g) #[] #[])
 |.global _=>none
theorem EG(A:List Nat)(σ:Sg)(e:Env)(t:Nat):ADq A σ e t=match DJ t σ with
  |some s=>some (LC s e)
  |none=>match memN t A with
   |true=>none
   |false=>match wF t 160 with
    |true=>some (AB t e)
    |false=>none:=by
 show(match PE A σ (.tmp t)with|some s=>some (LC s e)|none=>none)=_;show(match (match DJ t σ with|some s=>some s|none=>match memN t A with|true=>none|false=>match wF t 160 with|true=>some (Src.s t)|false=>none)with|some s=>some (LC s e)|none=>none)=_;cases DJ t σ with
 |some s=>rfl
 |none=>
  cases memN t A with
  |true=>rfl
  |false=>cases wF t 160<;>rfl
theorem aU{A:List Nat}{σ:Sg}{x:vm}{s:Src}(h:PE A σ x=some s)(e:Env):evR (ADq A σ e) x=some (LC s e):=by
 cases x with
 |tmp t=>show(match PE A σ (.tmp t)with|some s=>some (LC s e)|none=>none)=_;rw[h]
 |const v=>
  have h:(match FS v with|true=>some (Src.c v)|false=>none)=some s:=h;cases hp:FS v with
  |true=>rw[hp]at h;cases h;show(if FS v then some v else none)=_;rw[if_pos hp];rfl
  |false=>rw[hp]at h;cases h
 |func g=>cases h;rfl
 |global _=>cases h
theorem j0{f:Fr}{x:vm}{y:O}(h:cO f x=some y):∃ s,PE f.A f.σ x=some s∧y=LC s:=by
 unfold cO at h;split at h
 ·rename_i s hs;cases h;exact⟨s,hs,rfl⟩
 ·cases h
theorem Fi{A:List Nat}{σ:Sg}{x:vm}{y:O}(h:cO ⟨A,σ⟩ x=some y)(e:Env):evR (ADq A σ e) x=some (y e):=by
 obtain⟨s,hs,rfl⟩:=j0 h;exact aU hs e
theorem Mm{φ:Phi}{v:BY}(h:FS v=true):ADU φ v v:=by
 unfold FS at h;split at h
 ·rename_i cs
  exact .agg (l:=cs.toList) (l':=cs.toList) (.plain h)
 ·exact .plain h
structure AEp (A:List Nat)(σ:Sg):Prop where
 mem:∀ p∈σ,memN p.1 A=true
 nodup:(σ.map (·.1)).Nodup
 lt:∀ p∈σ,∀ n,p.2=.s n→n<160
theorem AEp.nil(A:List Nat):AEp A [] where
 mem:=fun p hp=>by cases hp
 nodup:=List.nodup_nil
 lt:=fun p hp=>by cases hp
theorem FA{a b:Nat}(h:vO a b=false):a≠b:=fun e=>by rw[e,wz]at h;cases h
theorem EQ:∀ {σ:Sg} {t:Nat} {s:Src},DJ t σ=some s→(t,s)∈σ
 |(d,s')::l,t,s,h=>by
  unfold DJ at h;split at h
  ·rename_i hb
   cases h;have:=Am.1 hb;subst this;exact vG
  ·exact vH _ (EQ h)
theorem E4:∀ {σ:Sg} {t:Nat} {s:Src},(σ.map (·.1)).Nodup→(t,s)∈σ→DJ t σ=some s
 |(d,s')::l,t,s,hn,h=>by
  unfold DJ;rw[yZ,xn]at hn;rcases vS.1 h with h|h
  ·cases h
   rw[wz]
  ·have:d≠t:=by
    intro e;subst e;exact hn.1 (vu.2 ⟨_,h,rfl⟩)
   have hb:vO d t=false:=by
    cases hb:vO d t with
    |true=>exact absurd (Am.1 hb) this
    |false=>rfl
   rw[hb];exact E4 hn.2 h
theorem EP:∀ {σ:Sg} {d:Nat},(Fl d σ).Sublist σ∧∀ p∈Fl d σ,p.2≠.s d
 |[],d=>⟨.slnil,fun p hp=>by cases hp⟩
 |(t,.s n)::l,d=>by
  obtain⟨h1,h2⟩:=EP (σ:=l) (d:=d);unfold Fl;split
  ·exact⟨h1.cons _,h2⟩
  ·rename_i hb
   refine⟨h1.cons_cons _,fun p hp=>?_⟩;rcases vS.1 hp with rfl|hp
   ·intro e;cases e;exact FA hb rfl
   ·exact h2 p hp
 |(t,.c v)::l,d=>by
  obtain⟨h1,h2⟩:=EP (σ:=l) (d:=d);unfold Fl;refine⟨h1.cons_cons _,fun p hp=>?_⟩;rcases vS.1 hp with rfl|hp
  ·intro e;cases e
  ·exact h2 p hp
theorem GR:∀ {σ:Sg} {d:Nat},(Fa d σ).Sublist σ∧∀ p∈Fa d σ,p.1≠d
 |[],d=>⟨.slnil,fun p hp=>by cases hp⟩
 |(t,s)::l,d=>by
  obtain⟨h1,h2⟩:=GR (σ:=l) (d:=d);unfold Fa;split
  ·exact⟨h1.cons _,h2⟩
  ·rename_i hb
   refine⟨h1.cons_cons _,fun p hp=>?_⟩;rcases vS.1 hp with rfl|hp
   ·exact FA hb
   ·exact h2 p hp
theorem AEp.sub{A:List Nat}{σ σ':Sg}(h:AEp A σ)(hs:σ'.Sublist σ):AEp A σ':=
 ⟨fun p hp=>h.mem p (hs.subset hp),(hs.map (·.1)).nodup h.nodup,fun p hp=>h.lt p (hs.subset hp)⟩
theorem AEp.alias{A:List Nat}{σ:Sg}(h:AEp A σ){d:Nat}(hd:memN d A=true){s:Src}(hs:∀ n,s=.s n→n<160):AEp A ((d,s)::Fa d σ):=by
 have h':=h.sub (GR (d:=d)).1;refine⟨fun p hp=>?_,?_,fun p hp=>?_⟩
 ·rcases vS.1 hp with rfl|hp
  ·exact hd
  ·exact h'.mem p hp
 rotate_left
 ·rcases vS.1 hp with rfl|hp
  ·exact hs
  ·exact h'.lt p hp
 ·rw[yZ,xn]
  refine⟨fun hm=>?_,h'.nodup⟩;obtain⟨p,hp,e⟩:=vu.1 hm;exact(GR (d:=d)).2 p hp e
theorem fo{A:List Nat}{σ:Sg}{e:Env}(hS:AEp A σ){d:Nat}(hd:memN d A=false)(hlt:d<160)(v:BY){t:Nat}{u:BY}
  (h:ADq A (Fl d σ) (Env.set d v e) t=some u):if t=d then u=v else ADq A σ e t=some u:=by
 rw[EG]at h;cases hf:DJ t (Fl d σ)with
 |some s=>
  simp only[hf]at h;cases h;have hm:=EQ hf;have hm':=EP.1.subset hm;have hne:=(EP (σ:=σ) (d:=d)).2 _ hm;have hA:=hS.mem _ hm';have ht:t≠d:=by intro e;subst e;simp only at hA;rw[hd]at hA;cases hA
  rw[if_neg ht,EG,E4 hS.nodup hm'];simp only
  congr 1
  cases s with
  |c v=>rfl
  |s n=>
   have hn:n≠d:=fun e=>hne (by rw[e])
   show AB n e=AB n (Env.set d v e);have h3:n<160:=hS.lt _ hm' n rfl;rw[Cq n h3,Cq n h3,Env.ADh _ _ _ _ hlt h3,if_neg hn]
 |none=>
  simp only[hf]at h;cases hm:memN t A with
  |true=>simp only[hm]at h;cases h
  |false=>
   simp only[hm]at h;cases hb:wF t 160 with
   |false=>simp only[hb]at h;cases h
   |true=>
    simp only[hb]at h;have h3:=A9.1 hb;cases h;have hg:AB t (Env.set d v e)=if t=d then v else e.get t:=by
     rw[Cq t h3,Env.ADh _ _ _ _ hlt h3]
    rw[hg];split
    ·rfl
    ·have hf2:DJ t σ=none:=by
      cases hf2:DJ t σ with
      |none=>rfl
      |some s=>
       have:=hS.mem _ (EQ hf2);simp only at this;rw[hm]at this;cases this
     rw[EG];simp only[hf2,hm,hb];rw[Cq t h3]
theorem Wr{A:List Nat}{σ:Sg}{e:Env}(hS:AEp A σ){d:Nat}(hd:memN d A=true)(s:Src){t:Nat}{u:BY}
  (h:ADq A ((d,s)::Fa d σ) e t=some u):if t=d then u=LC s e else ADq A σ e t=some u:=by
 rw[EG]at h;by_cases ht:t=d
 ·rw[if_pos ht]
  subst ht;have:DJ t ((t,s)::Fa t σ)=some s:=by unfold DJ;rw[wz]
  simp only[this]at h;cases h;rfl
 ·rw[if_neg ht]
  have hb:vO d t=false:=by
   cases hb:vO d t with
   |true=>exact absurd (Am.1 hb).symm ht
   |false=>rfl
  have h1:DJ t ((d,s)::Fa d σ)=DJ t (Fa d σ):=by conv=>lhs;unfold DJ;rw[hb]
  have h2:DJ t (Fa d σ)=DJ t σ:=by
   cases hf:DJ t (Fa d σ)with
   |some s'=>exact(E4 hS.nodup (GR.1.subset (EQ hf))).symm
   |none=>
    cases hf2:DJ t σ with
    |none=>rfl
    |some s'=>
     have hm:=EQ hf2;have:∀ {σ:Sg},(t,s')∈σ→(t,s')∈Fa d σ:=by
      intro σ hm
      induction σ with
      |nil=>cases hm
      |cons p l ih=>
       obtain⟨a,b⟩:=p;unfold Fa;rcases vS.1 hm with h|h
       ·cases h
        have hb2:vO t d=false:=by
         cases hb:vO t d with
         |true=>exact absurd (Am.1 hb) ht
         |false=>rfl
        rw[hb2];exact vG
       ·split
        ·exact ih h
        ·exact vH _ (ih h)
     have:=E4 (hS.sub (GR (d:=d)).1).nodup (this hm);rw[hf]at this;cases this
  rw[h1,h2]at h;rw[EG];exact h
structure Eff (T:Nat→Prop)(φ:Phi)(h:Hp)(w:vt)(φ':Phi)(h':Hp)(w':vt):Prop where
 le:φ.Le φ'
 new:∀ i p,φ' i=some p→φ i=some p∨h.next≤i
 next:h.next≤h'.next
 size:w.heap.size≤w'.heap.size
 tape:w'.tape=w.tape
 os:w'.os=w.os
 output:w'.output=w.output
 frame:∀ k,k<w.heap.size→(∀ i p,φ i=some p→p.inp=false→T i→Live h i→p.blk≠k)→w'.heap[k]? =w.heap[k]?
 back:∀ i p,φ' i=some p→Live h' i→p.blk<w.heap.size→∃ j q,φ j=some q∧Live h j∧q.blk=p.blk∧q.inp=p.inp∧(j=i∨T j)
 kept:∀ i,i<h.next→¬ T i→h'.bl.get i=h.bl.get i
 shape:∀ i,i<h.next→ADn (h.bl.get i) (h'.bl.get i)
 only:∀ i,i<h.next→φ i=none→h'.bl.get i=h.bl.get i
 all:∀ i,h.next≤i→i<h'.next→∃ p,φ' i=some p
theorem Evo.eff{φ ψ:Phi}{h h':Hp}{w w':vt}(ev:Evo φ h w ψ h' w'):Eff (fun c=>h'.low≤c∧c≤h'.high) φ h w ψ h' w' where
 le:=ev.le
 new:=ev.new
 next:=ev.next
 size:=ev.size
 tape:=ev.tape
 os:=ev.os
 output:=ev.output
 frame:=fun k hk hf=>ev.frame k hk fun i p e hn h1 h2 hl=>hf i p e hn ⟨h1,h2⟩ hl
 back:=ev.back
 kept:=fun i hi ht=>ev.kept i hi (by
  rcases vd i h'.low with h|h
  ·exact .inl h
  ·rcases vd h'.high i with h2|h2
   ·exact .inr h2
   ·exact absurd ⟨h,h2⟩ ht)
 shape:=ev.shape
 only:=ev.only
 all:=ev.all
theorem Eff.AEv{T:Nat→Prop}{φ ψ:Phi}{h h' g g':Hp}{w w':vt}(ev:Eff T φ h w ψ h' w')(h1:g.bl=h.bl)(h2:g.next=h.next)(h3:g'.bl=h'.bl)(h4:g'.next=h'.next):Eff T φ g w ψ g' w' where
 le:=ev.le
 new:=by rw[h2];exact ev.new
 next:=by rw[h2,h4];exact ev.next
 size:=ev.size
 tape:=ev.tape
 os:=ev.os
 output:=ev.output
 frame:=by unfold Live;rw[h1];exact ev.frame
 back:=by unfold Live;rw[h1,h3];exact ev.back
 kept:=by rw[h1,h2,h3];exact ev.kept
 shape:=by rw[h1,h2,h3];exact ev.shape
 only:=by rw[h1,h2,h3];exact ev.only
 all:=by rw[h2,h4];exact ev.all
theorem Eff.evo{T:Nat→Prop}{φ ψ:Phi}{h h':Hp}{w w':vt}(ev:Eff T φ h w ψ h' w')(hT:∀ c,T c→h'.low≤c∧c≤h'.high)(hl:h'.low≤h.low)(hh:h.high≤h'.high):Evo φ h w ψ h' w' where
 le:=ev.le
 new:=ev.new
 next:=ev.next
 size:=ev.size
 tape:=ev.tape
 os:=ev.os
 output:=ev.output
 frame:=fun k hk hf=>ev.frame k hk fun i p e hn ht hl=>hf i p e hn (hT i ht).1 (hT i ht).2 hl
 back:=fun i p e hl hp=>by
  obtain⟨j,q,e1,e2,e3,e5,e4⟩:=ev.back i p e hl hp;exact⟨j,q,e1,e2,e3,e5,e4.imp id (hT j)⟩
 kept:=fun i hi ho=>ev.kept i hi fun ht=>by have:=hT i ht;omega
 low:=hl
 high:=hh
 shape:=ev.shape
 only:=ev.only
 all:=ev.all
theorem ADX.AEv{ty:TTy}{φ:Phi}{E:Nat→Prop}{h g:Hp}{w:vt}(H:ADX ty φ E h w)(h1:g.bl=h.bl)(h2:g.next=h.next):ADX ty φ E g w where
 dom:=by rw[h2];exact H.dom
 inj:=by unfold Live;rw[h1];exact H.inj
 row:=by rw[h1];exact H.row
 fresh:=by rw[h1,h2];exact H.fresh
 kind:=by rw[h1];exact H.kind
 inp:=H.inp
def TouchR(ty:TTy)(ρ:Rho)(E:Nat→Prop)(op:Op):Prop:=match kd ty op with
 |.p=>True
 |.a=>True
 |.r x=>∀ u,evR ρ x=some u→∀ b,AD3 u=.ok b→¬ E b
 |.w _=>∀ b,¬ E b
 |.q=>∀ b,¬ E b
theorem Eff.cut{T:Nat→Prop}{φ ψ:Phi}{h h':Hp}{w w':vt}(ev:Eff T φ h w ψ h' w')(hd:∀ i p,φ i=some p→i<h.next):Eff (fun c=>T c∧c<h.next) φ h w ψ h' w' where
 le:=ev.le
 new:=ev.new
 next:=ev.next
 size:=ev.size
 tape:=ev.tape
 os:=ev.os
 output:=ev.output
 frame:=fun k hk hf=>ev.frame k hk fun i p e hn ht hl=>hf i p e hn ⟨ht,hd i p e⟩ hl
 back:=fun i p e hl hp=>by
  obtain⟨j,q,e1,e2,e3,e5,e4⟩:=ev.back i p e hl hp;exact⟨j,q,e1,e2,e3,e5,e4.imp id fun ht=>⟨ht,hd j q e1⟩⟩
 kept:=fun i hi ho=>ev.kept i hi fun ht=>ho ⟨ht,hi⟩
 shape:=ev.shape
 only:=ev.only
 all:=ev.all
theorem Eff.refl(φ:Phi)(h:Hp)(w:vt):Eff (fun _=>False) φ h w φ h w where
 le:=.refl φ
 new:=fun _ _ e=>.inl e
 next:=IN _
 size:=IN _
 tape:=rfl
 os:=rfl
 output:=rfl
 frame:=fun _ _ _=>rfl
 back:=fun i p e hl _=>⟨i,p,e,hl,rfl,rfl,.inl rfl⟩
 kept:=fun _ _ _=>rfl
 shape:=fun _ _=>.refl _
 only:=fun _ _ _=>rfl
 all:=fun _ h1 h2=>absurd h2 (AAJ.2 h1)
def AHx(ty:TTy)(o:xp)(ah:AD4):Prop:=(kd ty o.op=.p∨∃ x,kd ty o.op=.r x)∨(ah≠.plain∧∀ old x xs,ah≠.chk old x xs)
structure Core (P:wK)(ty:TTy)(o:xp)(ah:AD4)(ρ:Rho)(h h':Hp)(v:BY)(T:Nat→Prop):Prop where
 AGE:∀ (φ:Phi) (E:Nat→Prop) (w:vt) (a:Act),ADX ty φ E h w→(∀ x∈o.op.operands.toList,∀ u,evR ρ x=some u→ADU φ u (a.eval x))→TouchR ty ρ E o.op→
  ∀ (next:Act→vt→Prop) (Q:Exit→Act→vt→Prop),(∀ ψ v' w',ADU ψ v v'→ADX ty ψ E h' w'→Eff T φ h w ψ h' w'→Evo φ h w ψ h' w'→next (a.put o.dst v') w')→o.wp P a w next Q
 AFy:AHx ty o ah→h'.low≤h.low∧h.high≤h'.high∧(∀ c,T c→h'.low≤c∧c≤h'.high)∧h'.mark=h.mark
 tlt:∀ c,T c→c<h.next
 tp:(kd ty o.op=.p∨∃ x,kd ty o.op=.r x)→(∀ c,¬ T c)∧h'=h
 ADk:ah=.quiet .ADk→∀ c,¬ T c
 weak:ah=.quiet .weak→∀ c,T c→h.mark≤c
 wr:∀ x xs,ah=.wr x xs→∀ c,T c→∃ u,evR ρ x=some u∧AD3 u=.ok c
structure AGl (ah:AD4)(ρ:Rho)(h:Hp):Prop where
 wrx:∀ x xs,ah=.wr x xs→∀ y∈xs,∀ u u' b,evR ρ x=some u→evR ρ y=some u'→AD3 u=.ok b→AD3 u'≠.ok b
 chk:∀ old x xs,ah=.chk old x xs→∀ y∈xs,∀ u u' b,evR ρ x=some u→evR ρ y=some u'→AD3 u=.ok b→AD3 u'≠.ok b
 old:∀ x xs,ah=.chk true x xs→∀ u b,evR ρ x=some u→AD3 u=.ok b→b<h.mark
 known:∀ x xs,(ah=.wr x xs∨∃ old,ah=.chk old x xs)→(∃ u,evR ρ x=some u)∧∀ y∈xs,∃ u,evR ρ y=some u
structure SF (P:wK)(ty:TTy)(ops:List xp)(o:xp)(ah:AD4)(ρ ρ':Rho)(h h':Hp)(v:BY)(run:Bool)(T:Nat→Prop):Prop where
 slot:∀ t u,ρ' t=some u→if o.dst=some t then u=v else ρ t=some u
 grd:match o.guard with
  |none=>run=true
  |some (g,want)=>∃ og d c,ops[g]? =some og∧og.dst=some d∧ρ d=some c∧((∃ b,c=.bool b∧run=(want == b))∨(∃ l,c=.tuple l∧run=false))
 side:kd ty o.op≠.p→AGl ah ρ h
 core:(run=true∧Core P ty o ah ρ h h' v T)∨(run=false∧v=ADV∧h'=h∧∀ c,¬ T c)
section
variable {P:wK}{ty:TTy}{F:ADS}
theorem Lz(hT:Ck P ty)(hF:C2 P ty F){A:List Nat}{σ:Sg}{e:Env}{o:xp}{g g':Hp}{v:BY}(hr:opC ty ⟨A,σ⟩ o.op F e g=.ok v g')(φ:Phi)(E:Nat→Prop)(w:vt)(a:Act)(H:ADX ty φ E g w)
  (hn:∀ x∈o.op.operands.toList,∀ u,evR (ADq A σ e) x=some u→ADU φ u (a.eval x))(ht:TouchR ty (ADq A σ e) E o.op):EO P ty φ E g v g' o a w:=by
 refine nG hT hF H (f:=⟨A,σ⟩) (e:=e) (F:=F) (fun x hx y hy=>hn x hx _ (Fi hy e)) ?_ hr;unfold G5;unfold TouchR at ht;cases hk:kd ty o.op with
 |p=>trivial
 |a=>trivial
 |r x=>rw[hk]at ht;exact fun y hy b hb=>ht _ (Fi hy e) b hb
 |w x=>rw[hk]at ht;exact ht
 |q=>rw[hk]at ht;exact ht
def Jg(h:Hp):Hp:={next:=h.next,low:=h.next,high:=0,mark:=h.mark,bl:=h.bl}
theorem Lv(hT:Ck P ty)(hF:C2 P ty F){A:List Nat}{σ:Sg}{e:Env}{o:xp}{ah:AD4}(hah:ah=.plain∨∃ old x xs,ah=.chk old x xs){h h':Hp}{v:BY}(hr:opC ty ⟨A,σ⟩ o.op F e h=.ok v h'):∃ T,Core P ty o ah (ADq A σ e) h h' v T:=by
 have hns:ah≠.quiet .ADk:=by rcases hah with rfl|⟨_,_,_,rfl⟩<;>exact fun h=>by cases h
 have hnw:ah≠.quiet .weak:=by rcases hah with rfl|⟨_,_,_,rfl⟩<;>exact fun h=>by cases h
 have hnr:∀ x xs,ah≠.wr x xs:=by rcases hah with rfl|⟨_,_,_,rfl⟩<;>exact fun _ _ h=>by cases h
 have hnm:¬ (ah≠.plain∧∀ old x xs,ah≠.chk old x xs):=by
  rcases hah with rfl|⟨_,_,_,rfl⟩
  ·exact fun h=>h.1 rfl
  ·exact fun h=>h.2 _ _ _ rfl
 by_cases hk:kd ty o.op=.p∨∃ x,kd ty o.op=.r x
 ·have K:=nF (ty:=ty) (f:=⟨A,σ⟩) hk F e
  have hh:=K.same hr;have hr2:=K.at hr (Jg h) rfl;subst hh;refine⟨fun _=>False,{AGE:=fun φ E w a H hn ht next Q hnx=>?_,AFy:=fun _=>⟨IN _,IN _,fun _ h=>h.elim,rfl⟩,tlt:=fun _ h=>h.elim,tp:=fun _=>⟨fun _ h=>h,rfl⟩,ADk:=fun h=>absurd h hns,weak:=fun h=>absurd h hnw,wr:=fun _ _ h=>absurd h (hnr _ _)}⟩;have key:∀ ψ v' w',ADU ψ v v'→ADX ty ψ E (Jg h') w'→Evo φ (Jg h') w ψ (Jg h') w'→Eff (fun _=>False) φ h' w ψ h' w':=?_
  ·exact Lz hT hF hr2 φ E w a (H.AEv rfl rfl) hn ht next Q fun ψ v' w' hv H' ev=>hnx ψ v' w' hv (H'.AEv rfl rfl) (key ψ v' w' hv H' ev) ((key ψ v' w' hv H' ev).evo (fun _ h=>h.elim) (IN _) (IN _))
  intro ψ v' w' hv H' ev;have e1:Eff (fun c=>h'.next≤c∧c≤0) φ h' w ψ h' w':=ev.eff.AEv rfl rfl rfl rfl;have hd:∀ i p,φ i=some p→i<h'.next:=fun i p e=>(H.dom i p e).1
  have e2:=e1.cut hd;exact {e2 with
   frame:=fun k hk hf=>e2.frame k hk fun i p e hn ht=>by omega
   back:=fun i p e hl hp=>by
    obtain⟨j,q,e1,e2,e3,e5,e4⟩:=e2.back i p e hl hp;exact⟨j,q,e1,e2,e3,e5,e4.imp id fun ht=>by omega⟩
   kept:=fun i hi _=>e2.kept i hi fun ht=>by omega}
 ·refine⟨fun c=>(h'.low≤c∧c≤h'.high)∧c<h.next,{AGE:=fun φ E w a H hn ht next Q hnx=>?_,AFy:=fun h=>absurd h (fun h=>h.elim hk hnm),tlt:=fun _ h=>h.2,tp:=fun h=>absurd h hk,ADk:=fun h=>absurd h hns,weak:=fun h=>absurd h hnw,wr:=fun _ _ h=>absurd h (hnr _ _)}⟩
  exact Lz hT hF hr φ E w a H hn ht next Q fun ψ v' w' hv H' ev=>hnx ψ v' w' hv H' (ev.eff.cut fun i p e=>(H.dom i p e).1) ev
theorem I3(hT:Ck P ty)(hF:C2 P ty F){A:List Nat}{σ:Sg}{e:Env}{o:xp}{ah:AD4}{h h' g':Hp}{v:BY}(hr:opC ty ⟨A,σ⟩ o.op F e (Jg h)=.ok v g')
  (h1:h'.bl=g'.bl)(h2:h'.next=g'.next)(h3:h'.low=min h.low g'.low)(h4:h'.high=max h.high g'.high)(h5:h'.mark=h.mark)
  (hs:ah=.quiet .ADk→h.next≤g'.low)(hw:ah=.quiet .weak→h.mark≤g'.low)
  (hx:∀ x xs,ah=.wr x xs→∀ c,g'.low≤c→c≤g'.high→c<h.next→∃ u,evR (ADq A σ e) x=some u∧AD3 u=.ok c)(hnk:¬ (kd ty o.op=.p∨∃ x,kd ty o.op=.r x)):∃ T,Core P ty o ah (ADq A σ e) h h' v T:=by
 refine⟨fun c=>(g'.low≤c∧c≤g'.high)∧c<h.next,{AGE:=fun φ E w a H hn ht next Q hnx=>?_,AFy:=fun _=>⟨by omega,by omega,fun c h=>by omega,h5⟩,tlt:=fun _ h=>h.2,tp:=fun h=>absurd h hnk,ADk:=fun h c hc=>?_,weak:=fun h c hc=>?_,wr:=fun x xs h c hc=>hx x xs h c hc.1.1 hc.1.2 hc.2}⟩
 ·refine Lz hT hF hr φ E w a (H.AEv rfl rfl) hn ht next Q fun ψ v' w' hv H' ev=>?_
  have e1:Eff (fun c=>g'.low≤c∧c≤g'.high) φ h w ψ h' w':=ev.eff.AEv rfl rfl h1 h2;exact hnx ψ v' w' hv (H'.AEv h1 h2) (e1.cut fun i p e=>(H.dom i p e).1) (e1.evo (fun c h=>by omega) (by omega) (by omega))
 ·have:=hs h;omega
 ·have:=hw h;omega
end
end
noncomputable section
open Go
section
variable {P:wK}{ty:TTy}{F:ADS}
structure AFz (ty:TTy)(o:xp)(ah:AD4):Prop where
 quiet:∀ m,ah=.quiet m→¬ (kd ty o.op=.p∨∃ x,kd ty o.op=.r x)
 wr:∀ x xs,ah=.wr x xs→kd ty o.op=.w x
 chk:∀ old x xs,ah=.chk old x xs→kd ty o.op=.r x
theorem AFz.plain(ty:TTy)(o:xp):AFz ty o .plain:=⟨(fun _ h=>by cases h),(fun _ _ h=>by cases h),(fun _ _ _ h=>by cases h)⟩
theorem Jw{b:Nat}{e:Env}:∀ {rs:List (Env→BY)},DS b e rs=true→∀ g∈rs,AD3 (g e)≠.ok b
 |[],_,g,hg=>by cases hg
 |x::l,h,g,hg=>by
  unfold DS at h;cases hb:AD3 (x e)with
  |no=>
   rw[hb]at h;rcases vS.1 hg with rfl|hg
   ·rw[hb];exact fun h=>by cases h
   ·exact Jw h g hg
  |ok a=>
   rw[hb]at h;simp only at h;cases hq:vO a b with
   |true=>rw[hq]at h;cases h
   |false=>
    rw[hq]at h;rcases vS.1 hg with rfl|hg
    ·rw[hb];exact fun h=>by cases h;exact FA hq rfl
    ·exact Jw h g hg
theorem Tk{w:Env→BY}{rs:List (Env→BY)}{k:C}{e:Env}{h:Hp}{X:X}(hr:C3 w rs k F e h=X)(hn:X≠.no):k F e h=X∧∀ b,AD3 (w e)=.ok b→∀ g∈rs,AD3 (g e)≠.ok b:=by
 unfold C3 at hr;cases hb:AD3 (w e)with
 |no=>rw[hb]at hr;exact⟨hr,fun b h=>by cases h⟩
 |ok b=>
  rw[hb]at hr;simp only at hr;cases hc:DS b e rs with
  |false=>rw[hc]at hr;exact absurd hr.symm hn
  |true=>rw[hc]at hr;exact⟨hr,fun b' h=>by cases h;exact Jw hc⟩
theorem br{x:O}{k:C}{e:Env}{h:Hp}{X:X}(hr:Ez x k F e h=X)(hn:X≠.no):k F e h=X∧∀ b,AD3 (x e)=.ok b→b<h.mark:=by
 unfold Ez at hr;cases hb:AD3 (x e)with
 |no=>rw[hb]at hr;exact⟨hr,fun b h=>by cases h⟩
 |ok b=>
  rw[hb]at hr;simp only at hr;cases hc:wF b h.mark with
  |false=>rw[hc]at hr;exact absurd hr.symm hn
  |true=>rw[hc]at hr;exact⟨hr,fun b' h=>by cases h;exact A9.1 hc⟩
theorem Iu{f:Fr}:∀ {l:List vm} {ys:List O},cOs f l=some ys→∀ x∈l,∃ y,cO f x=some y∧y∈ys
 |[],ys,h,x,hx=>by cases hx
 |z::l,ys,h,x,hx=>by
  unfold cOs at h;split at h
  ·rename_i y hy
   split at h
   ·rename_i r hr
    cases h;rcases vS.1 hx with rfl|hx
    ·exact⟨y,hy,vG⟩
    ·obtain⟨y',h1,h2⟩:=Iu hr x hx
     exact⟨y',h1,vH _ h2⟩
   ·cases h
  ·cases h
theorem PY{h g' h':Hp}{v u:BY}(hr:Dz h v g'=.ok u h'):u=v∧h'.bl=g'.bl∧h'.next=g'.next∧h'.low=min h.low g'.low∧h'.high=max h.high g'.high∧h'.mark=h.mark:=by
 unfold Dz at hr;rw[AZ,AZ,BJ,Bw]at hr;cases hr;exact⟨rfl,rfl,rfl,rfl,rfl,rfl⟩
theorem AGl.none{ah:AD4}{ρ:Rho}{h:Hp}(h1:∀ x xs,ah≠.wr x xs)(h2:∀ old x xs,ah≠.chk old x xs):AGl ah ρ h where
 wrx:=fun x xs e=>absurd e (h1 x xs)
 chk:=fun old x xs e=>absurd e (h2 old x xs)
 old:=fun x xs e=>absurd e (h2 true x xs)
 known:=fun x xs e=>by
  rcases e with e|⟨old,e⟩
  ·exact absurd e (h1 x xs)
  ·exact absurd e (h2 old x xs)
theorem Ld(hT:Ck P ty)(hF:C2 P ty F){A:List Nat}{σ:Sg}{e:Env}{h:Hp}{o:xp}{ah:AD4}(hA:AFz ty o ah){kc:OpF→C}{X:X}(hr:G6 ⟨A,σ⟩ ah (opC ty ⟨A,σ⟩ o.op) kc F e h=X)(hn:X≠.no):
  ∃ p,kc p F e h=X∧(∀ v h',p F e h=.ok v h'→∃ T,Core P ty o ah (ADq A σ e) h h' v T)∧AGl ah (ADq A σ e) h:=by
 cases ah with
 |plain=>exact⟨_,hr,fun v h' hp=>Lv hT hF (.inl rfl) hp,.none (fun _ _ h=>by cases h) (fun _ _ _ h=>by cases h)⟩
 |quiet m=>
  refine⟨_,hr,fun v h' hp=>?_,.none (fun _ _ h=>by cases h) (fun _ _ _ h=>by cases h)⟩;have hk:=hA.quiet m rfl;unfold Al at hp;have hp:(match opC ty ⟨A,σ⟩ o.op F e (Jg h)with|.ok v h'=>bif qOk m h h'.low then Dz h v h' else .no|.no=>.no)=.ok v h':=hp;cases hq:opC ty ⟨A,σ⟩ o.op F e (Jg h)with
  |no=>rw[hq]at hp;cases hp
  |ok u g'=>
   rw[hq]at hp;obtain⟨hc,hp⟩:=Bk hp;obtain⟨rfl,h1,h2,h3,h4,h5⟩:=PY hp;refine I3 hT hF hq h1 h2 h3 h4 h5 (fun e=>?_) (fun e=>?_) (fun _ _ e=>by cases e) hk
   ·cases e;exact Ab.1 hc
   ·cases e;exact Ab.1 hc
 |wr x xs=>
  have hk:=hA.wr x xs rfl;unfold G6 at hr;simp only at hr;cases h1:cO ⟨A,σ⟩ x with
  |none=>simp only[h1]at hr;exact absurd hr.symm hn
  |some x'=>
   cases h2:cOs ⟨A,σ⟩ xs with
   |none=>simp only[h1,h2]at hr;exact absurd hr.symm hn
   |some xs'=>
    simp only[h1,h2]at hr;obtain⟨hr,hap⟩:=Tk hr hn;refine⟨_,hr,fun v h' hp=>?_,?_⟩
    ·unfold NA at hp
     have hp:(match opC ty ⟨A,σ⟩ o.op F e (Jg h)with|.ok v h'=>bif K5 (AD3 (x' e)) h h'.low h'.high then Dz h v h' else .no|.no=>.no)=.ok v h':=hp;cases hq:opC ty ⟨A,σ⟩ o.op F e (Jg h)with
     |no=>rw[hq]at hp;cases hp
     |ok u g'=>
      rw[hq]at hp;obtain⟨hc,hp⟩:=Bk hp;obtain⟨rfl,q1,q2,q3,q4,q5⟩:=PY hp;refine I3 hT hF hq q1 q2 q3 q4 q5 (fun e=>by cases e) (fun e=>by cases e) (fun y ys he c c1 c2 c3=>?_) (by rw[hk];rintro (h|⟨_,h⟩)<;>cases h);cases he;refine⟨x' e,Fi h1 e,?_⟩;unfold K5 at hc;cases hb:AD3 (x' e)with
      |no=>rw[hb]at hc;have hc:=Ab.1 hc;omega
      |ok b=>
       rw[hb]at hc;simp only at hc;cases hb1:vJ b g'.low with
       |false=>rw[hb1]at hc;cases hc
       |true=>
        rw[hb1]at hc;have c4:=Ab.1 hb1;have c5:=Ab.1 hc
        congr 1;omega
    ·refine {wrx:=fun y ys he z hz u u' b hu hu' hb=>?_,chk:=fun _ _ _ h=>(by cases h),old:=fun _ _ h=>(by cases h),known:=fun y ys he=>?_}
     ·cases he
      obtain⟨z',hz1,hz2⟩:=Iu h2 z hz;rw[Fi h1 e]at hu;cases hu;rw[Fi hz1 e]at hu';cases hu';exact hap b hb z' hz2
     ·rcases he with he|⟨_,he⟩
      ·cases he
       exact⟨⟨_,Fi h1 e⟩,fun z hz=>by obtain⟨z',hz1,_⟩:=Iu h2 z hz;exact⟨_,Fi hz1 e⟩⟩
      ·cases he
 |chk old x xs=>
  unfold G6 at hr;simp only at hr;cases h1:cO ⟨A,σ⟩ x with
  |none=>simp only[h1]at hr;exact absurd hr.symm hn
  |some x'=>
   cases h2:cOs ⟨A,σ⟩ xs with
   |none=>simp only[h1,h2]at hr;exact absurd hr.symm hn
   |some xs'=>
    simp only[h1,h2]at hr;have hold:C3 x' xs' (kc (opC ty ⟨A,σ⟩ o.op)) F e h=X∧(old=true→∀ b,AD3 (x' e)=.ok b→b<h.mark):=by
     cases old with
     |true=>obtain⟨q1,q2⟩:=br hr hn;exact⟨q1,fun _=>q2⟩
     |false=>exact⟨hr,fun h=>by cases h⟩
    obtain⟨hr,hap⟩:=Tk hold.1 hn;refine⟨_,hr,fun v h' hp=>Lv hT hF (.inr ⟨_,_,_,rfl⟩) hp,?_⟩;refine {wrx:=fun _ _ h=>(by cases h),chk:=fun _ y ys he z hz u u' b hu hu' hb=>?_,old:=fun y ys he u b hu hb=>?_,known:=fun y ys he=>?_}
    ·cases he
     obtain⟨z',hz1,hz2⟩:=Iu h2 z hz;rw[Fi h1 e]at hu;cases hu;rw[Fi hz1 e]at hu';cases hu';exact hap b hb z' hz2
    ·cases he
     rw[Fi h1 e]at hu;cases hu;exact hold.2 rfl b hb
    ·rcases he with he|⟨_,he⟩
     ·cases he
     ·cases he
      exact⟨⟨_,Fi h1 e⟩,fun z hz=>by obtain⟨z',hz1,_⟩:=Iu h2 z hz;exact⟨_,Fi hz1 e⟩⟩
structure Tr (P:wK)(ty:TTy)(all:List xp)(ahs:List AD4)(l:List xp)(ρ:Nat→Rho)(H:Nat→Hp)(V:Nat→BY)(run:Nat→Bool)(T:Nat→Nat→Prop):Prop where
 sf:∀ j o,l[j]? =some o→SF P ty all o (ahs.getD j .plain) (ρ j) (ρ (j+1)) (H j) (H (j+1)) (V j) (run j) (T j)
def Ph{α:Type}(x:α)(f:Nat→α):Nat→α
 |0=>x
 |j+1=>f j
theorem Tr.cons{all:List xp}{ahs:List AD4}{o:xp}{l:List xp}{ρ:Nat→Rho}{H:Nat→Hp}{V:Nat→BY}{run:Nat→Bool}{T:Nat→Nat→Prop}(t:Tr P ty all ahs.tail l ρ H V run T)
  {ρ0:Rho}{h0:Hp}{v0:BY}{r0:Bool}{T0:Nat→Prop}(s:SF P ty all o (ahs.headD .plain) ρ0 (ρ 0) h0 (H 0) v0 r0 T0):Tr P ty all ahs (o::l) (Ph ρ0 ρ) (Ph h0 H) (Ph v0 V) (Ph r0 run) (Ph T0 T) where
 sf:=fun j o' hj=>by
  cases j with
  |zero=>
   cases hj;have:ahs.getD 0 .plain=ahs.headD .plain:=by cases ahs<;>rfl
   rw[this];exact s
  |succ j=>
   have:ahs.getD (j+1) .plain=ahs.tail.getD j .plain:=by cases ahs<;>rfl
   rw[this];exact t.sf j o' hj
theorem Mw{A:List Nat}{σ:Sg}{e:Env}(hS:AEp A σ){d:Nat}(hd:memN d A=false)(hlt:d<160)(v:BY){o:xp}(ho:o.dst=some d)(t:Nat)(u:BY)
  (h:ADq A (Fl d σ) (Env.set d v e) t=some u):if o.dst=some t then u=v else ADq A σ e t=some u:=by
 have:=fo hS hd hlt v h;rw[ho];by_cases ht:t=d
 ·rw[if_pos ht]at this;rw[if_pos (by rw[ht])];exact this
 ·rw[if_neg ht]at this;rw[if_neg (fun e=>ht (Option.some.inj e).symm)];exact this
theorem O5(hT:Ck P ty)(hF:C2 P ty F){A:List Nat}{all:List xp}{k:Sg→C}:∀ (l:List xp) (ahs:List AD4) (σ:Sg) (e:Env) (h:Hp) (X:X),(∀ j o,l[j]? =some o→AFz ty o (ahs.getD j .plain))→AEp A σ→
  Gd ty A all k ahs l σ F e h=X→X≠.no→
  ∃ (ρ:Nat→Rho) (H:Nat→Hp) (V:Nat→BY) (run:Nat→Bool) (T:Nat→Nat→Prop) (σ':Sg) (e':Env),Tr P ty all ahs l ρ H V run T∧ρ 0=ADq A σ e∧H 0=h∧ρ l.length=ADq A σ' e'∧AEp A σ'∧k σ' F e' (H l.length)=X
 |[],ahs,σ,e,h,X,_,hS,hr,_=>by
  refine⟨fun _=>ADq A σ e,fun _=>h,fun _=>ADV,fun _=>true,fun _ _=>False,σ,e,⟨fun j o hj=>by cases hj⟩,rfl,rfl,rfl,hS,?_⟩;unfold Gd at hr;exact hr
 |o::l,ahs,σ,e,h,X,hA,hS,hr,hn=>by
  have hA0:AFz ty o (ahs.headD .plain):=by
   have:=hA 0 o rfl;cases ahs<;>exact this
  have hA1:∀ j o',l[j]? =some o'→AFz ty o' (ahs.tail.getD j .plain):=fun j o' hj=>by
   have:=hA (j+1) o' hj;cases ahs<;>exact this
  have fin:∀ {σ1:Sg} {e1:Env} {h1:Hp} {v:BY} {r:Bool} {T0:Nat→Prop},AEp A σ1→Gd ty A all k ahs.tail l σ1 F e1 h1=X→
    SF P ty all o (ahs.headD .plain) (ADq A σ e) (ADq A σ1 e1) h h1 v r T0→
    ∃ (ρ:Nat→Rho) (H:Nat→Hp) (V:Nat→BY) (run:Nat→Bool) (T:Nat→Nat→Prop) (σ':Sg) (e':Env),Tr P ty all ahs (o::l) ρ H V run T∧ρ 0=ADq A σ e∧H 0=h∧ρ (o::l).length=ADq A σ' e'∧AEp A σ'∧k σ' F e' (H (o::l).length)=X:=by
   intro σ1 e1 h1 v r T0 hS1 hr1 sf;obtain⟨ρ,H,V,run,T,σ',e',t,q1,q2,q3,q4,q5⟩:=O5 hT hF l ahs.tail σ1 e1 h1 X hA1 hS1 hr1 hn;exact⟨_,_,_,_,_,σ',e',t.cons (by rw[q1,q2];exact sf),rfl,rfl,q3,q4,q5⟩
  unfold Gd at hr;cases hg:o.guard with
  |none=>
   cases hd:o.dst with
   |none=>
    simp only[hg,hd]at hr;obtain⟨p,hp,AE8,AFI⟩:=Ld hT hF hA0 hr hn;unfold cDo at hp;cases hq:p F e h with
    |no=>rw[hq]at hp;exact absurd hp.symm hn
    |ok v h1=>
     rw[hq]at hp;obtain⟨T0,core⟩:=AE8 v h1 hq;exact fin hS hp {slot:=fun t u ht=>(by rw[hd,if_neg (by intro h;cases h)];exact ht),grd:=(by rw[hg]),side:=fun _=>AFI,core:=.inl ⟨rfl,core⟩}
   |some d=>
    simp only[hg,hd]at hr;cases hm:memN d A with
    |true=>
     simp only[hm]at hr;cases hop:o.op with
     |move x=>
      simp only[hop]at hr;cases hs:PE A σ x with
      |none=>simp only[hs]at hr;exact absurd hr.symm hn
      |some s=>
       simp only[hs]at hr;have hlt:∀ n,s=.s n→n<160:=by
        intro n hn;subst hn;cases x with
        |tmp t=>
         have hs:(match DJ t σ with|some s=>some s|none=>match memN t A with|true=>none|false=>match wF t 160 with|true=>some (Src.s t)|false=>none)=some (.s n):=hs;cases hf:DJ t σ with
         |some s'=>
          rw[hf]at hs;cases hs;exact hS.lt _ (EQ hf) n rfl
         |none=>
          rw[hf]at hs;simp only at hs;cases hm2:memN t A with
          |true=>rw[hm2]at hs;cases hs
          |false=>
           rw[hm2]at hs;simp only at hs;cases hb:wF t 160 with
           |false=>rw[hb]at hs;cases hs
           |true=>rw[hb]at hs;cases hs;exact A9.1 hb
        |const v=>
         have hs:(match FS v with|true=>some (Src.c v)|false=>none)=some (.s n):=hs;cases hp:FS v<;>rw[hp]at hs<;>cases hs
        |func g=>cases hs
        |global g=>cases hs
       have hkp:kd ty o.op=.p:=by rw[hop];rfl
       refine fin (hS.alias hm hlt) hr (v:=LC s e) (r:=true) (T0:=fun _=>False) {slot:=fun t u ht=>?_,grd:=(by rw[hg]),side:=fun h=>absurd hkp h,core:=.inl ⟨rfl,?_⟩}
       ·have:=Wr hS hm s ht
        rw[hd];by_cases htd:t=d
        ·rw[if_pos htd]at this;rw[if_pos (by rw[htd])];exact this
        ·rw[if_neg htd]at this;rw[if_neg (fun e=>htd (Option.some.inj e).symm)];exact this
       ·refine {AGE:=fun φ E w a H hn ht next Q hnx=>?_,AFy:=fun _=>⟨IN _,IN _,fun _ h=>h.elim,rfl⟩,tlt:=fun _ h=>h.elim,tp:=fun _=>⟨fun _ h=>h,rfl⟩,ADk:=fun _ _ h=>h,weak:=fun _ _ h=>h.elim,wr:=fun _ _ _ _ h=>h.elim}
        have hv:=hn x (by rw[hop];simp[vY]) _ (aU hs e);have hx:execOp a.eval o=(do pure (.value (← (pure (a.eval x):Sem BY)))):=by unfold execOp;rw[hop];rfl
        unfold Oper.wp;rw[hx,vE,vF,IS,vF,Oper.upon_value];exact hnx φ _ w hv H (.refl _ _ _) (.refl _ _ _)
     |_=>simp only[hop]at hr;exact absurd hr.symm hn
    |false=>
     simp only[hm]at hr;cases hb:wF d 160 with
     |false=>simp only[hb]at hr;exact absurd hr.symm hn
     |true=>
      simp only[hb]at hr;have hlt:=A9.1 hb;obtain⟨p,hp,AE8,AFI⟩:=Ld hT hF hA0 hr hn;unfold AG at hp;cases hq:p F e h with
      |no=>rw[hq]at hp;exact absurd hp.symm hn
      |ok v h1=>
       rw[hq]at hp;simp only at hp;rw[Dm d hlt]at hp;obtain⟨T0,core⟩:=AE8 v h1 hq;exact fin (hS.sub EP.1) hp {slot:=Mw hS hm hlt v hd,grd:=(by rw[hg]),side:=fun _=>AFI,core:=.inl ⟨rfl,core⟩}
  |some gw=>
   obtain⟨g,want⟩:=gw;cases hd:o.dst with
   |none=>simp only[hg,hd]at hr;exact absurd hr.symm hn
   |some d=>
    simp only[hg,hd]at hr;cases hm:memN d A with
    |true=>simp only[hm]at hr;exact absurd hr.symm hn
    |false=>
     simp only[hm]at hr;rw[FP]at hr;cases hog:all[g]? with
     |none=>rw[hog]at hr;exact absurd hr.symm hn
     |some og=>
      rw[hog]at hr;simp only at hr;cases hgd:og.dst with
      |none=>simp only[hgd]at hr;exact absurd hr.symm hn
      |some dg=>
       simp only[hgd]at hr;cases hcg:cO ⟨A,σ⟩ (.tmp dg)with
       |none=>simp only[hcg]at hr;exact absurd hr.symm hn
       |some gg=>
        simp only[hcg]at hr;cases hb:wF d 160 with
        |false=>simp only[hb]at hr;exact absurd hr.symm hn
        |true=>
         simp only[hb]at hr;have hlt:=A9.1 hb;obtain⟨p,hp,AE8,AFI⟩:=Ld hT hF hA0 hr hn;have hρ:ADq A σ e dg=some (gg e):=Fi hcg e;unfold cG at hp;have AFR:AC d (fun e=>Gd ty A all k ahs.tail l (Fl d σ) F e h) ADV e=X→(∀ r:Bool,r=false→(match o.guard with
            |none=>r=true
            |some (g,want)=>∃ og d c,all[g]? =some og∧og.dst=some d∧ADq A σ e d=some c∧((∃ b,c=.bool b∧r=(want == b))∨(∃ l,c=.tuple l∧r=false))))→
           ∃ (ρ:Nat→Rho) (H:Nat→Hp) (V:Nat→BY) (run:Nat→Bool) (T:Nat→Nat→Prop) (σ':Sg) (e':Env),Tr P ty all ahs (o::l) ρ H V run T∧ρ 0=ADq A σ e∧H 0=h∧ρ (o::l).length=ADq A σ' e'∧AEp A σ'∧k σ' F e' (H (o::l).length)=X:=by
          intro hp AIr;rw[Dm d hlt]at hp;exact fin (hS.sub EP.1) hp (v:=ADV) (r:=false) (T0:=fun _=>False) {slot:=Mw hS hm hlt ADV hd,grd:=AIr false rfl,side:=fun _=>AFI,core:=.inr ⟨rfl,rfl,rfl,fun _ h=>h⟩}
         split at hp
         ·rename_i b hgb
          cases hwb:want == b with
          |true=>
           rw[hwb]at hp;simp only[cond_true]at hp;unfold AG at hp;cases hq:p F e h with
           |no=>rw[hq]at hp;exact absurd hp.symm hn
           |ok v h1=>
            rw[hq]at hp;simp only at hp;rw[Dm d hlt]at hp;obtain⟨T0,core⟩:=AE8 v h1 hq;exact fin (hS.sub EP.1) hp (r:=true) {slot:=Mw hS hm hlt v hd,grd:=(by rw[hg];exact⟨og,dg,_,hog,hgd,hρ,.inl ⟨b,hgb,hwb.symm⟩⟩),side:=fun _=>AFI,core:=.inl ⟨rfl,core⟩}
          |false=>
           rw[hwb]at hp;exact AFR hp fun r hr=>by rw[hg];exact⟨og,dg,_,hog,hgd,hρ,.inl ⟨b,hgb,by rw[hr,hwb]⟩⟩
         ·rename_i ls hgb
          exact AFR hp fun r hr=>by rw[hg];exact⟨og,dg,_,hog,hgd,hρ,.inr ⟨ls,hgb,hr⟩⟩
         ·exact absurd hp.symm hn
end
end
noncomputable section
open Go
abbrev nil:Nat→Prop:=fun _=>False
structure AR (N:Nat)(φ:Phi)(ρ:Rho)(a:Act):Prop where
 size:a.tmps.size=N
 defs:a.defers=[]
 rel:∀ t u,ρ t=some u→ADU φ u (a.tmps.getD t undef)
theorem AR.ev{N:Nat}{φ:Phi}{ρ:Rho}{a:Act}(h:AR N φ ρ a){x:vm}{u:BY}(hu:evR ρ x=some u):ADU φ u (a.eval x):=by
 cases x with
 |tmp t=>exact h.rel t u hu
 |const v=>
  have hu:(if FS v then some v else none)=some u:=hu;split at hu
  ·rename_i hp;cases hu;exact Mm hp
  ·cases hu
 |func g=>cases hu;exact .func _ .nil .nil
 |global g=>cases hu
theorem HZ(a:Act)(d:Option Nat)(v:BY)(t:Nat):(a.put d v).tmps.getD t undef=if d=some t∧t<a.tmps.size then v else a.tmps.getD t undef:=by
 cases d with
 |none=>rw[if_neg (fun h=>by cases h.1)];rfl
 |some d=>
  show(a.tmps.setIfInBounds d v).getD t undef=_;rw[wD,Array.getElem?_setIfInBounds,wD];by_cases h:d=t
  ·subst h
   rw[if_pos rfl];by_cases h2:d<a.tmps.size
   ·rw[if_pos h2,if_pos ⟨rfl,h2⟩];rfl
   ·rw[if_neg h2,if_neg (fun h=>h2 h.2),Array.getElem?_eq_none (by omega)]
  ·rw[if_neg h,if_neg (fun h2=>h (Option.some.inj h2.1))]
theorem FV(a:Act)(d:Option Nat)(v:BY):(a.put d v).tmps.size=a.tmps.size:=by
 cases d with
 |none=>rfl
 |some d=>show(a.tmps.setIfInBounds d v).size=_;simp
theorem GK(a:Act)(d:Option Nat)(v:BY):(a.put d v).defers=a.defers:=by cases d<;>rfl
theorem AR.put{N:Nat}{φ ψ:Phi}{ρ ρ':Rho}{a:Act}(h:AR N φ ρ a)(hle:φ.Le ψ){d:Option Nat}(hd:∀ t,d=some t→t<N){v v':BY}(hv:ADU ψ v v')
  (hs:∀ t u,ρ' t=some u→if d=some t then u=v else ρ t=some u):AR N ψ ρ' (a.put d v') where
 size:=by rw[FV];exact h.size
 defs:=by rw[GK];exact h.defs
 rel:=fun t u hu=>by
  have:=hs t u hu;rw[HZ];by_cases ht:d=some t
  ·rw[if_pos ht]at this
   rw[if_pos ⟨ht,by rw[h.size];exact hd t ht⟩,this];exact hv
  ·rw[if_neg ht]at this
   rw[if_neg (fun h=>ht h.1)];exact(h.rel t u this).mono hle
theorem OA{P:wK}{ty:TTy}{all:List xp}{o:xp}{ah:AD4}{ρ ρ':Rho}{h h':Hp}{v:BY}{run:Bool}{T:Nat→Prop}(s:SF P ty all o ah ρ ρ' h h' v run T){a:Act}{φ:Phi}
  (hr:∀ g want og d u,o.guard=some (g,want)→all[g]? =some og→og.dst=some d→ρ d=some u→ADU φ u (a.tmps.getD d undef)):zc o (yielded all.toArray a.tmps)=run:=by
 have hg:=s.grd;unfold zc;cases hgd:o.guard with
 |none=>rw[hgd]at hg;exact hg.symm
 |some gw=>
  obtain⟨g,want⟩:=gw;rw[hgd]at hg;obtain⟨og,d,c,h1,h2,h3,h4⟩:=hg;have ADy:=hr g want og d c hgd h1 h2 h3;simp only;have hy:yielded all.toArray a.tmps g=match a.tmps[d]? with|some (.bool b)=>some b|_=>none:=by
   unfold yielded;have:(all.toArray[g]?).bind (·.dst)=some d:=by rw[List.getElem?_toArray,h1];exact h2
   rw[this];rfl
  rw[wD]at ADy;rcases h4 with ⟨b,rfl,hrun⟩|⟨ls,rfl,hrun⟩
  ·have hb:=ADy.AEK
   cases hq:a.tmps[d]? with
   |none=>rw[hq]at hb;cases hb
   |some x=>
    rw[hq]at hb;have hb:x=.bool b:=hb;rw[hy,hq,hb,hrun];cases b<;>cases want<;>rfl
  ·rw[hrun,hy]
   cases hq:a.tmps[d]? with
   |none=>rfl
   |some x=>
    rw[hq]at ADy;have ADy:ADU φ (.tuple ls) x:=ADy;cases ADy;rfl
structure Txt (P:wK)(ty:TTy)(N:Nat)(φ0:Phi)(ρ:Nat→Rho)(H:Nat→Hp)(V:Nat→BY)(T:Nat→Nat→Prop)(n:Nat):Prop where
 next:∀ j,j<n→(H j).next≤(H (j+1)).next
 shape:∀ j,j<n→∀ i,i<(H j).next→ADn ((H j).bl.get i) ((H (j+1)).bl.get i)
 kept:∀ j,j<n→∀ i,i<(H j).next→¬ T j i→(H (j+1)).bl.get i=(H j).bl.get i
 fresh:∀ j,j≤n→∀ i,(H j).next≤i→(H j).bl.get i=.dead
 AGm:∀ j,j≤n→∃ (ψ:Phi) (w:vt) (a:Act),ADX ty ψ nil (H j) w∧AR N ψ (ρ j) a∧φ0.Le ψ∧∀ i,(H 0).next≤i→i<(H j).next→∃ p,ψ i=some p
section
variable {P:wK}{ty:TTy}
theorem PK{N:Nat}{all:List xp}{Q:Exit→Act→vt→Prop}:∀ (l:List xp) {ahs:List AD4} {ρ:Nat→Rho} {H:Nat→Hp} {V:Nat→BY} {run:Nat→Bool} {T:Nat→Nat→Prop} {a:Act} {w:vt} {φ:Phi},
  Tr P ty all ahs l ρ H V run T→(∀ o∈l,∀ d,o.dst=some d→d<N)→ADX ty φ nil (H 0) w→AR N φ (ρ 0) a→
  (Txt P ty N φ ρ H V T l.length→∀ ψ a' w',ADX ty ψ nil (H l.length) w'→AR N ψ (ρ l.length) a'→Evo φ (H 0) w ψ (H l.length) w'→Q .normal a' w')→wpList P all.toArray Q l a w
 |[],ahs,ρ,H,V,run,T,a,w,φ,_,_,HW,HA,hq=>by
  refine hq ?_ φ a w HW HA (.refl _ _ _);refine {next:=fun j hj=>absurd hj (AAR _),shape:=fun j hj=>absurd hj (AAR _),kept:=fun j hj=>absurd hj (AAR _),fresh:=fun j hj i hi=>?_,AGm:=fun j hj=>?_}
  ·have:j=0:=yv.1 hj
   subst this;exact HW.fresh i hi
  ·have:j=0:=yv.1 hj
   subst this;exact⟨φ,w,a,HW,HA,.refl _,fun i h1 h2=>absurd h2 (AAJ.2 h1)⟩
 |o::l,ahs,ρ,H,V,run,T,a,w,φ,tr,hN,HW,HA,hq=>by
  have s:=tr.sf 0 o rfl;have tr':Tr P ty all ahs.tail l (fun j=>ρ (j+1)) (fun j=>H (j+1)) (fun j=>V (j+1)) (fun j=>run (j+1)) (fun j=>T (j+1)):=
   ⟨fun j o' hj=>by
    have:=tr.sf (j+1) o' hj;have e:ahs.getD (j+1) .plain=ahs.tail.getD j .plain:=by cases ahs<;>rfl
    rw[e]at this;exact this⟩
  have hd:∀ d,o.dst=some d→d<N:=hN o vG;have rest:∀ ψ v' w',ADU ψ (V 0) v'→ADX ty ψ nil (H 1) w'→Eff (T 0) φ (H 0) w ψ (H 1) w'→Evo φ (H 0) w ψ (H 1) w'→wpList P all.toArray Q l (a.put o.dst v') w':=by
   intro ψ v' w' hv HW' eff evo;refine PK l tr' (fun o ho=>hN o (vH _ ho)) HW' (HA.put eff.le hd hv s.slot) fun txt ψ2 a2 w2 q1 q2 q3=>hq ?_ ψ2 a2 w2 q1 q2 (evo.trans q3)
   refine {next:=fun j hj=>?_,shape:=fun j hj=>?_,kept:=fun j hj=>?_,fresh:=fun j hj i hi=>?_,AGm:=fun j hj=>?_}
   ·cases j with
    |zero=>exact eff.next
    |succ j=>exact txt.next j (by simpa using hj)
   ·cases j with
    |zero=>exact eff.shape
    |succ j=>exact txt.shape j (by simpa using hj)
   ·cases j with
    |zero=>exact eff.kept
    |succ j=>exact txt.kept j (by simpa using hj)
   ·cases j with
    |zero=>exact HW.fresh i hi
    |succ j=>exact txt.fresh j (by simpa using hj) i hi
   ·cases j with
    |zero=>exact⟨φ,w,a,HW,HA,.refl _,fun i h1 h2=>absurd h2 (AAJ.2 h1)⟩
    |succ j=>
     obtain⟨χ,w3,a3,r1,r2,r3,r4⟩:=txt.AGm j (by simpa using hj);refine⟨χ,w3,a3,r1,r2,eff.le.trans r3,fun i h1 h2=>?_⟩;rcases vd i (H 1).next with h|h
     ·obtain⟨p,hp⟩:=eff.all i h1 h
      exact⟨p,r3 i p hp⟩
     ·exact r4 i h h2
  have hw:=OA s (a:=a) (φ:=φ) fun g want og d u _ _ _ hu=>HA.rel d u hu
  unfold wpList;rcases s.core with ⟨hrun,core⟩|⟨hrun,hv,hh,hT⟩
  ·rw[hw,hrun,if_pos rfl]
   refine .inl (core.AGE φ nil w a HW (fun x _ u hu=>HA.ev hu) ?_ _ _ fun ψ v' w' hv HW' eff evo=>rest ψ v' w' hv HW' eff evo);unfold TouchR;split<;>first|trivial|exact fun _ h=>h|exact fun _ _ _ _ h=>h
  ·rw[hw,hrun,if_neg (by simp)]
   have hu:ADU φ (V 0) undef:=by rw[hv];exact .tuple .nil
   have e1:Evo φ (H 0) w φ (H 1) w:=by
    show Evo φ (H 0) w φ (H (0+1)) w;rw[hh];exact .refl _ _ _
   have e2:Eff (T 0) φ (H 0) w φ (H 1) w:=by
    show Eff (T 0) φ (H 0) w φ (H (0+1)) w;rw[hh];exact {Eff.refl φ (H 0) w with frame:=fun _ _ _=>rfl,back:=fun i p e hl _=>⟨i,p,e,hl,rfl,rfl,.inl rfl⟩,kept:=fun _ _ _=>rfl}
   exact rest φ undef w hu (by show ADX ty φ nil (H (0+1)) w;rw[hh];exact HW) e2 e1
end
end
noncomputable section
open Go
section
variable {φ ψ χ:Phi}
theorem AEn.cut(hx:∀ b p,φ b=some p→(∃ q,ψ b=some q)→χ b=some p){a a' a'':Addr}:AEn φ a a'→AEn ψ a a''→AEn χ a a'
 |⟨s,s',p,hp,r⟩,⟨_,_,q,hq,_⟩=>⟨s,s',p,hx _ _ hp ⟨q,hq⟩,r⟩
theorem AFE.cut(hx:∀ b p,φ b=some p→(∃ q,ψ b=some q)→χ b=some p){a a' a'':Addr}{c c' c'':Nat}:AFE φ a c a' c'→AFE ψ a c a'' c''→AFE χ a c a' c'
 |⟨s,s',p,hp,r⟩,⟨_,_,q,hq,_⟩=>⟨s,s',p,hx _ _ hp ⟨q,hq⟩,r⟩
mutual
theorem ADU.cut(hx:∀ b p,φ b=some p→(∃ q,ψ b=some q)→χ b=some p):∀ {v v' v'':BY},ADU φ v v'→ADU ψ v v''→ADU χ v v'
 |_,_,_,.bool b,_=>.bool b
 |_,_,_,.int k n,_=>.int k n
 |_,_,_,.string s,_=>.string s
 |_,_,_,.AGB,_=>.AGB
 |_,_,_,.ptr h,h2=>by cases h2 with|ptr h2=>exact .ptr (h.cut hx h2)
 |_,_,_,.AEF,_=>.AEF
 |_,_,_,.slice hn h,h2=>by cases h2 with|slice _ h2=>exact .slice hn (h.cut hx h2)
 |_,_,_,.AGC,_=>.AGC
 |_,_,_,.map h,h2=>by cases h2 with|map h2=>exact .map (hx _ _ h ⟨_,h2⟩)
 |_,_,_,.func fn h h',h2=>by cases h2 with|func _ h2 h2'=>exact .func fn (ADp.cut hx h h2) (ADp.cut hx h' h2')
 |_,_,_,.nilFunc,_=>.nilFunc
 |_,_,_,.iface t h,h2=>by cases h2 with|iface _ h2=>exact .iface t (ADU.cut hx h h2)
 |_,_,_,.nilIface,_=>.nilIface
 |_,_,_,.agg h,h2=>by cases h2 with|agg h2=>exact .agg (ADp.cut hx h h2)
 |_,_,_,.tuple h,h2=>by cases h2 with|tuple h2=>exact .tuple (ADp.cut hx h h2)
 |_,_,_,.unk,_=>.unk
 |_,_,_,.AFq,_=>.AFq
theorem ADp.cut(hx:∀ b p,φ b=some p→(∃ q,ψ b=some q)→χ b=some p):∀ {v v' v'':List BY},ADp φ v v'→ADp ψ v v''→ADp χ v v'
 |_,_,_,.nil,_=>.nil
 |_,_,_,.cons h t,h2=>by cases h2 with|cons h2 t2=>exact .cons (ADU.cut hx h h2) (ADp.cut hx t t2)
end
theorem AEO.cut(hx:∀ b p,φ b=some p→(∃ q,ψ b=some q)→χ b=some p):∀ {l:List Ent} {l' l'':List MapEntry},AEO φ l l'→AEO ψ l l''→AEO χ l l'
 |_,_,_,.nil,_=>.nil
 |_,_,_,.cons hk hv t,h2=>by cases h2 with|cons hk2 hv2 t2=>exact .cons (hk.cut hx hk2) (hv.cut hx hv2) (AEO.cut hx t t2)
theorem AER.cut{ty:TTy}(hx:∀ b p,φ b=some p→(∃ q,ψ b=some q)→χ b=some p){p p2:Pl}{b:Blk}{o o2:Option Obj}(h:AER ty φ p b o)(h2:AER ty ψ p2 b o2):AER ty χ p b o:=by
 cases h with
 |cells h=>cases h2 with
  |cells h2=>exact .cells {h with cell:=fun j hj=>let ⟨v,e,r⟩:=h.cell j hj;let ⟨v2,_,r2⟩:=h2.cell j hj;⟨v,e,r.cut hx r2⟩}
 |map h=>cases h2 with
  |map h2=>exact .map (h.cut hx h2)
 |AFG h=>exact .AFG h
 |iter hp h=>cases h2 with
  |iter _ h2=>exact .iter hp (hx _ _ h ⟨_,h2⟩)
 |cur hp h hl=>cases h2 with
  |cur _ h2 _=>exact .cur hp (hx _ _ h ⟨_,h2⟩) hl
 |dead=>exact .dead
end
structure Laws (ty:TTy)(all:List xp)(ρ:Nat→Rho)(H:Nat→Hp)(T:Nat→Nat→Prop)(B:Nat→Nat→Prop):Prop where
 lt:∀ i j,B i j→i<j
 slots:∀ i j oi oj d,i≠j→all[i]? =some oi→all[j]? =some oj→oi.dst=some d→
  (oj.dst=some d∨.tmp d∈oj.op.operands.toList∨∃ g w og,oj.guard=some (g,w)∧all[g]? =some og∧og.dst=some d)→B i j∨B j i
 kinds:∀ j oj c,all[j]? =some oj→T j c→(∃ x,kd ty oj.op=.w x)∨kd ty oj.op=.q
 fixed:∀ i j oi c,i≠j→all[i]? =some oi→j<all.length→T j c→((∃ x,kd ty oi.op=.w x)∨kd ty oi.op=.q)→B i j∨B j i
 reads:∀ i j oi x c u,i≠j→all[i]? =some oi→j<all.length→T j c→kd ty oi.op=.r x→evR (ρ i) x=some u→AD3 u=.ok c→B i j∨B j i
 tlt:∀ j c,j<all.length→T j c→c<(H j).next
 AGn:∀ j c,j<all.length→T j c→(H all.length).low≤c∧c≤(H all.length).high
 low:(H all.length).low≤(H 0).low
 high:(H 0).high≤(H all.length).high
structure Inv (ty:TTy)(N:Nat)(all:List xp)(ρ:Nat→Rho)(H:Nat→Hp)(T:Nat→Nat→Prop)(φ0:Phi)(w0:vt)(S:Nat→Prop)(φ:Phi)(C:Nat→Blk)(a:Act)(w:vt):Prop where
 dom:∀ b p,φ b=some p→p.blk<w.heap.size∧(b<(H 0).next∨∃ j,S j∧j<all.length∧(H j).next≤b∧b<(H (j+1)).next)
 inj:∀ b c p q,φ b=some p→φ c=some q→C b≠.dead→C c≠.dead→(p.inp=false∨q.inp=false)→p.blk=q.blk→b=c
 row:∀ b p,φ b=some p→AER ty φ p (C b) w.heap[p.blk]?
 kind:∀ k,k≤all.length→∀ b p c s e,φ b=some p→b<(H k).next→(H k).bl.get b=.cells c s e→Kind ty p s e
 inp:∀ b p,φ b=some p→p.inp=true→b<256
 link:∀ k,k≤all.length→∀ b p,φ b=some p→b<(H k).next→(∀ j,j<all.length→T j b→(j<k→S j)∧(k≤j→¬ S j))→C b=(H k).bl.get b
 chg:∀ j,S j→j<all.length→∀ b,b<(H j).next→(H (j+1)).bl.get b≠(H j).bl.get b→∃ p,φ b=some p
 full:∀ j,S j→j<all.length→∀ b,(H j).next≤b→b<(H (j+1)).next→∃ p,φ b=some p
 slot:∀ k,k≤all.length→∀ t u,(∀ j o,all[j]? =some o→o.dst=some t→(j<k→S j)∧(k≤j→¬ S j))→ρ k t=some u→ADU φ u (a.tmps.getD t undef)
 size:a.tmps.size=N
 defs:a.defers=[]
 le:φ0.Le φ
 new:∀ b p,φ b=some p→φ0 b=some p∨(H 0).next≤b
 sz:w0.heap.size≤w.heap.size
 tape:w.tape=w0.tape
 os:w.os=w0.os
 output:w.output=w0.output
 frame:∀ k,k<w0.heap.size→(∀ c p,φ0 c=some p→p.inp=false→(H all.length).low≤c→c≤(H all.length).high→Live (H 0) c→p.blk≠k)→w.heap[k]? =w0.heap[k]?
 back:∀ b p,φ b=some p→C b≠.dead→p.blk<w0.heap.size→∃ c q,φ0 c=some q∧Live (H 0) c∧q.blk=p.blk∧q.inp=p.inp∧(c=b∨(H all.length).low≤c∧c≤(H all.length).high)
section
variable {P:wK}{ty:TTy}{N:Nat}{all:List xp}{ρ:Nat→Rho}{H:Nat→Hp}{V:Nat→BY}{T:Nat→Nat→Prop}{φ0:Phi}{w0:vt}
theorem Txt.mono{φ:Phi}{n:Nat}(t:Txt P ty N φ ρ H V T n){i:Nat}:∀ {k:Nat},i≤k→k≤n→(H i).next≤(H k).next:=by
 intro k h hn
 induction k with
 |zero=>have:i=0:=yv.1 h;subst this;exact IN _
 |succ k ih=>
  rcases vd k i with h2|h2
  ·have:i=k+1:=by omega
   subst this;exact IN _
  ·exact Nat.le_trans (ih h2 (by omega)) (t.next k (by omega))
theorem Txt.AFS{φ:Phi}{n:Nat}(t:Txt P ty N φ ρ H V T n){i:Nat}{b:Nat}(hb:b<(H i).next):∀ {k:Nat},i≤k→k≤n→ADn ((H i).bl.get b) ((H k).bl.get b):=by
 intro k h hn
 induction k with
 |zero=>have:i=0:=yv.1 h;subst this;exact .refl _
 |succ k ih=>
  rcases vd k i with h2|h2
  ·have:i=k+1:=by omega
   subst this;exact .refl _
  ·exact(ih h2 (by omega)).trans (t.shape k (by omega) b (Nat.lt_of_lt_of_le hb (t.mono h2 (by omega))))
theorem Txt.same{φ:Phi}{n:Nat}(t:Txt P ty N φ ρ H V T n){i:Nat}{b:Nat}:∀ {k:Nat},i≤k→k≤n→(∀ m,i≤m→m<k→(H (m+1)).bl.get b=(H m).bl.get b)→(H k).bl.get b=(H i).bl.get b:=by
 intro k h hn hs
 induction k with
 |zero=>have:i=0:=yv.1 h;subst this;rfl
 |succ k ih=>
  rcases vd k i with h2|h2
  ·have:i=k+1:=by omega
   subst this;rfl
  ·rw[hs k h2 (by omega)];exact ih h2 (by omega) fun m h1 h2=>hs m h1 (by omega)
theorem Tr.backward{run:Nat→Bool}{ahs:List AD4}(tr:Tr P ty all ahs all ρ H V run T){t:Nat}{u:BY}{i:Nat}:∀ {k:Nat},i≤k→k≤all.length→(∀ m o,i≤m→m<k→all[m]? =some o→o.dst≠some t)→ρ k t=some u→ρ i t=some u:=by
 intro k h hn hs hu
 induction k with
 |zero=>have:i=0:=yv.1 h;subst this;exact hu
 |succ k ih=>
  rcases vd k i with h2|h2
  ·have:i=k+1:=by omega
   subst this;exact hu
  ·have hk:k<all.length:=by omega
   have ho:all[k]? =some all[k]:=List.getElem?_eq_getElem hk;have:=(tr.sf k all[k] ho).slot t u hu;rw[if_neg (hs k all[k] h2 (Nat.lt_succ_self _) ho)]at this;exact ih h2 (by omega) (fun m o h1 h2=>hs m o h1 (by omega)) this
def PO(n:Nat)(T:Nat→Nat→Prop)(S:Nat→Prop)(h:Hp)(i:Nat):Nat→Prop:=fun b=>b<h.next∧¬ ∀ j,j<n→T j b→(j<i→S j)∧(i≤j→¬ S j)
def upto(φ:Phi)(n:Nat):Phi:=fun b=>if b<n then φ b else none
theorem CT{φ:Phi}{n b:Nat}{p:Pl}(h:upto φ n b=some p):b<n∧φ b=some p:=by
 unfold upto at h;split at h
 ·exact⟨‹_›,h⟩
 ·cases h
theorem Inv.AIs{φ:Phi}{C:Nat→Blk}{a:Act}{w:vt}{S:Nat→Prop}(I:Inv ty N all ρ H T φ0 w0 S φ C a w)(txt:Txt P ty N φ0 ρ H V T all.length){i:Nat}(hi:i≤all.length):
  ADX ty (upto φ (H i).next) (PO all.length T S (H i) i) (H i) w∧∃ (ψ:Phi) (b:Act),AR N ψ (ρ i) b∧∀ b p,φ b=some p→(∃ q,ψ b=some q)→upto φ (H i).next b=some p:=by
 obtain⟨ψ,wt,at',HW,HA,hle,hall⟩:=txt.AGm i hi;have hx:∀ b p,φ b=some p→(∃ q,ψ b=some q)→upto φ (H i).next b=some p:=by
  rintro b p hp ⟨q,hq⟩;unfold upto;rw[if_pos (HW.dom b q hq).1];exact hp
 have hin:∀ b p,φ b=some p→b<(H i).next→∃ q,ψ b=some q:=by
  intro b p hp hb;rcases I.new b p hp with h|h
  ·exact⟨p,hle b p h⟩
  ·exact hall b h hb
 have lk:∀ b p,φ b=some p→b<(H i).next→¬ PO all.length T S (H i) i b→C b=(H i).bl.get b:=by
  intro b p hp hb hE;refine I.link i hi b p hp hb fun j hj hT=>?_
  by_cases hh:(j<i→S j)∧(i≤j→¬ S j)
  ·exact hh
  ·exact absurd ⟨hb,fun hall=>hh (hall j hj hT)⟩ hE
 refine⟨{dom:=fun b p e=>?_,inj:=fun b c p q eb ec hEb hEc hb hc hio hpq=>?_,row:=fun b p e hE=>?_,fresh:=txt.fresh i hi,kind:=fun b p c s e' e he=>?_,inp:=fun b p e=>I.inp b p (CT e).2},ψ,at',HA,hx⟩
 ·obtain⟨h1,h2⟩:=CT e
  exact⟨h1,(I.dom b p h2).1⟩
 ·obtain⟨h1,h2⟩:=CT eb
  obtain⟨h3,h4⟩:=CT ec;exact I.inj b c p q h2 h4 (by rw[lk b p h2 h1 hEb];exact hb) (by rw[lk c q h4 h3 hEc];exact hc) hio hpq
 ·obtain⟨h1,h2⟩:=CT e
  have r1:=I.row b p h2;rw[lk b p h2 h1 hE]at r1;obtain⟨q,hq⟩:=hin b p h2 h1;exact r1.cut hx (HW.row b q hq fun h=>h)
 ·obtain⟨h1,h2⟩:=CT e
  exact I.kind i hi b p c s e' h2 h1 he
end
end
end Go.Proofs.YtedbmmfebjfibaaGreat

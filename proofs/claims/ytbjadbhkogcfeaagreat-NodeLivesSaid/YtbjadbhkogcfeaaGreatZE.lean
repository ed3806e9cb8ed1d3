/-
  Part ZE of what Lawnl stands on: printed by program, names and spaces cut.
-/
import Derived.Test.YtbjadbhkogcfeaaGreatZD
open Go renaming Value→IN,IntKind→xc,Operand→yF,World→yJ,Program→yg,Oper→zu
open Nat renaming le_refl→IT,ble→xU,beq→xW,lt_or_ge→xx,mul→yK,blt→ye,add→zA,beq_refl→zG,le_zero→AAo,not_lt_zero→ABK,not_lt→ABi
open Go.Result renaming andThen_ok→If
open Go.Sem renaming run_bind→xO,run_pure→xQ
open List renaming mem_cons_of_mem→xS,mem_cons_self→xT,mem_cons→xe,mem_map→yl,nodup_cons→AAO,map_cons→AAs
open Go.Op renaming operands→xh
open Array renaming getD_eq_getD_getElem?→yU,ext'→yj,getElem?_toList→ACL
open Go.Call renaming operands→AAn
open Go.Region renaming wanted→ABI
set_option linter.unusedSimpArgs false
set_option linter.unusedVariables false
namespace Go.Proofs.YtbjadbhkogcfeaaGreat
noncomputable section
open Go
section
variable {P:yg}{ty:TTy}{φ:Phi}{E:Nat->Prop}{h h':Hp}{w:yJ}{F:AEB}{e:Env}{v:IN}{f:Fr}
theorem WK{op:Op}{x:yF}(hk:kd ty op=.r x)(hE:HF ty f e E op){y:O}(hy:cO f x=some y):∀ a,y e=.pointer (some a)->¬ E a.block:=by
 intro a ha;unfold HF at hE;rw[hk]at hE;exact hE y hy a.block (by rw[ha];rfl)
theorem Ll{op:Op}{x:yF}(hk:kd ty op=.w x)(hE:HF ty f e E op):∀ b,¬ E b:=by
 unfold HF at hE;rw[hk]at hE;exact hE
theorem GE{op:Op}(hk:kd ty op=.q)(hE:HF ty f e E op):∀ b,¬ E b:=by
 unfold HF at hE;rw[hk]at hE;exact hE
theorem Yi{args:List O}{x:O}(hs:args=[x]){l:List yF}{ρ:yF->IN}(ha:AEX φ (vals e args) (l.map ρ)):∃ x',l.map ρ=[x']/\AED φ (x e) x':=by
 subst hs;generalize l.map ρ=r at ha;cases ha with|cons h t=>cases t;exact⟨_,rfl,h⟩
theorem Pk{args:List O}{x y:O}(hs:args=[x,y]){l:List yF}{ρ:yF->IN}(ha:AEX φ (vals e args) (l.map ρ)):∃ x' y',l.map ρ=[x',y']/\AED φ (x e) x'/\AED φ (y e) y':=by
 subst hs;generalize l.map ρ=r at ha;cases ha with|cons h t=>cases t with|cons h2 t=>cases t;exact⟨_,_,rfl,h,h2⟩
theorem Yw(hT:Cx P ty)(H:AEI ty φ E h w){b:Builtin}{c:Call}(hc:c.callee=.builtin b){o:zu}{a:Act}(ho:o.op=.call c){args:List O}
  (ha:AEX φ (vals e args) (c.args.toList.map a.eval))(hE:(∀ b,¬ E b)\/b=.min\/b=.max\/(b=.len/\∀ x,args=[x]->∀ t ti,c.argTypes[0]? =some t->ty.get t=some ti->(∃ k q,ti.k=.map k q)->∀ r,x e=.map (some r)->¬ E r))
  (hr:KA ty b c.argTypes.toList args F e h=.ok v h'):Ee P ty φ E h v h' o a w:=by
 have AHs:c.args.map a.eval=⟨c.args.toList.map a.eval⟩:=by apply yj;simp
 have AGi:∀ t l,c.argTypes.toList=t::l->c.argTypes[0]? =some t:=fun t l hl=>by rw[<- ACL,hl];rfl
 have AJX:∀ t t2 l,c.argTypes.toList=t::t2::l->c.argTypes[1]? =some t2:=fun t t2 l hl=>by rw[<- ACL,hl];rfl
 have hex:∀ s:Sem IN,(∀ cs,builtin b c.argTypes o.type cs ⟨c.args.toList.map a.eval⟩=(do pure (.value (<- s))))->∀ {vv:IN} {hh:Hp},Bd ty φ E h w vv hh (s.run P w)->Ee P ty φ E h vv hh o a w:=by
  intro s hs vv hh hg;refine .AEC (s:=s) ?_ hg;unfold execOp;rw[ho];simp only[resolve,hc,AHs];exact hs _
 cases b with
 |len=>
  match args,ha,hE,hr with
  |[x],ha,hE,hr=>
   obtain⟨x',he,hx⟩:=Yi rfl ha;cases hl:c.argTypes.toList with
   |nil=>rw[hl]at hr;cases hr
   |cons t l=>
    rw[hl]at hr;obtain⟨ti,hti,hr⟩:=Bl hr;have h0:=AGi t l hl;cases hk:ti.k with
    |slice el=>simp only[hk]at hr;exact hex _ (fun cs=>by rw[he];rfl) (ag H h0 (hT t ti hti) hk hx hr)
    |string=>simp only[hk]at hr;exact hex _ (fun cs=>by rw[he];rfl) (aj H h0 (hT t ti hti) hk hx hr)
    |map k q=>
     simp only[hk]at hr;refine hex _ (fun cs=>by rw[he];rfl) (ac H h0 (hT t ti hti) hk hx (fun r hxr=>?_) hr);rcases hE with hE|hE|hE|⟨_,hE⟩
     ·exact hE r
     ·cases hE
     ·cases hE
     ·exact hE x rfl t ti h0 hti ⟨k,q,hk⟩ r hxr
    |arr n el=>
     simp only[hk]at hr;refine hex (Builtin.len_ c.argTypes o.type #[x']) (fun cs=>by rw[he];rfl) ?_;rw[iG h0 (hT t ti hti) hk];have:v=.int .i64 (.ofNat n)/\h'=h:=by
      unfold AQ kV at hr;rw[E6]at hr;cases hr;exact⟨rfl,rfl⟩
     obtain⟨rfl,rfl⟩:=this;exact .same H (.int _ _)
    |_=>simp only[hk]at hr;cases hr
  |[],_,_,hr=>cases hr
  |_::_::_,_,_,hr=>cases hr
 |cap=>
  match args,ha,hr with
  |[x],ha,hr=>
   obtain⟨x',he,hx⟩:=Yi rfl ha;cases hl:c.argTypes.toList with
   |nil=>rw[hl]at hr;cases hr
   |cons t l=>
    rw[hl]at hr;obtain⟨ti,hti,hr⟩:=Bl hr;have h0:=AGi t l hl;cases hk:ti.k with
    |slice el=>simp only[hk]at hr;exact hex (Builtin.cap_ c.argTypes o.type #[x']) (fun cs=>by rw[he];rfl) (aS H h0 (hT t ti hti) hk hx hr)
    |_=>simp only[hk]at hr;cases hr
  |[],_,hr=>cases hr
  |_::_::_,_,hr=>cases hr
 |min=>
  match args,ha,hr with
  |[x,y],ha,hr=>
   obtain⟨x',y',he,hx,hy⟩:=Pk rfl ha;exact hex _ (fun cs=>by rw[he];rfl) (jF (F:=F) H hx hy hr)
  |[],_,hr=>cases hr
  |[_],_,hr=>cases hr
  |_::_::_::_,_,hr=>cases hr
 |max=>
  match args,ha,hr with
  |[x,y],ha,hr=>
   obtain⟨x',y',he,hx,hy⟩:=Pk rfl ha;exact hex _ (fun cs=>by rw[he];rfl) (jD (F:=F) H hx hy hr)
  |[],_,hr=>cases hr
  |[_],_,hr=>cases hr
  |_::_::_::_,_,hr=>cases hr
 |copy=>
  have hE':∀ b,¬ E b:=by
   rcases hE with h|h|h|⟨h,_⟩
   ·exact h
   all_goals cases h
  match args,ha,hr with
  |[d,x],ha,hr=>
   obtain⟨d',x',he,hd,hx⟩:=Pk rfl ha;cases hl:c.argTypes.toList with
   |nil=>rw[hl]at hr;cases hr
   |cons t l=>
    rw[hl]at hr;obtain⟨ti,hti,hr⟩:=Bl hr;cases hk:ti.k with
    |slice el=>
     simp only[hk]at hr;obtain⟨ei,hei,hr⟩:=Bl hr;exact hex _ (fun cs=>by rw[he];rfl) (aV H hE' (AGi t l hl) (hT t ti hti) hk (hT el ei hei) hd hx hr)
    |_=>simp only[hk]at hr;cases hr
  |[],_,hr=>cases hr
  |[_],_,hr=>cases hr
  |_::_::_::_,_,hr=>cases hr
 |clear=>
  have hE':∀ b,¬ E b:=by
   rcases hE with h|h|h|⟨h,_⟩
   ·exact h
   all_goals cases h
  match args,ha,hr with
  |[x],ha,hr=>
   obtain⟨x',he,hx⟩:=Yi rfl ha;cases hl:c.argTypes.toList with
   |nil=>rw[hl]at hr;cases hr
   |cons t l=>
    rw[hl]at hr;obtain⟨ti,hti,hr⟩:=Bl hr;cases hk:ti.k with
    |slice el=>
     simp only[hk]at hr;obtain⟨ei,hei,hr⟩:=Bl hr;obtain⟨hz,hr⟩:=IX hr;exact hex _ (fun cs=>by rw[he];rfl) (Xx H hE' (AGi t l hl) (hT t ti hti) hk (hT el ei hei) hz hx hr)
    |map k q=>
     simp only[hk]at hr;exact hex _ (fun cs=>by rw[he];rfl) (PC H hE' (AGi t l hl) (hT t ti hti) hx hr)
    |_=>simp only[hk]at hr;cases hr
  |[],_,hr=>cases hr
  |_::_::_,_,hr=>cases hr
 |append=>
  have hE':∀ b,¬ E b:=by
   rcases hE with h|h|h|⟨h,_⟩
   ·exact h
   all_goals cases h
  match args,ha,hr with
  |[s,x],ha,hr=>
   obtain⟨s',x',he,hs,hx⟩:=Pk rfl ha;cases hl:c.argTypes.toList with
   |nil=>rw[hl]at hr;cases hr
   |cons t l=>
    cases l with
    |nil=>rw[hl]at hr;cases hr
    |cons t2 l=>
     rw[hl]at hr;obtain⟨ti,hti,hr⟩:=Bl hr;obtain⟨xi,hxi,hr⟩:=Bl hr;have h0:=AGi t _ hl;have h1:=AJX t t2 l hl;cases hk:ti.k with
     |slice en=>
      cases hk2:xi.k with
      |slice q=>
       simp only[hk,hk2]at hr;obtain⟨ei,hei,hr⟩:=Bl hr;cases hsz:ei.size with
       |zero=>simp only[hsz]at hr;cases hr
       |succ n=>
        simp only[hsz]at hr;obtain⟨hz,hr⟩:=IX hr;have hs2:n.succ=ei.size:=hsz.symm;rw[hs2]at hr;exact hex _ (fun cs=>by rw[he];rfl) (Mm H hE' h0 h1 (hT t ti hti) hk (hT t2 xi hxi) (.inl ⟨q,hk2⟩) hei (hT en ei hei) (by omega) hz hs hx hr)
      |string=>
       simp only[hk,hk2]at hr;obtain⟨ei,hei,hr⟩:=Bl hr;cases hsz:ei.size with
       |zero=>simp only[hsz]at hr;cases hr
       |succ n=>
        simp only[hsz]at hr;obtain⟨hz,hr⟩:=IX hr;have hs2:n.succ=ei.size:=hsz.symm;rw[hs2]at hr;exact hex _ (fun cs=>by rw[he];rfl) (Mm H hE' h0 h1 (hT t ti hti) hk (hT t2 xi hxi) (.inr hk2) hei (hT en ei hei) (by omega) hz hs hx hr)
      |int q=>
       simp only[hk,hk2]at hr;obtain⟨ei,hei,hr⟩:=Bl hr;cases hsz:ei.size with
       |zero=>simp only[hsz]at hr;cases hr
       |succ n=>
        simp only[hsz]at hr;obtain⟨hz,hr⟩:=IX hr;have hs2:n.succ=ei.size:=hsz.symm;rw[hs2]at hr;exact hex _ (fun cs=>by rw[he];rfl) (Qx H hE' h0 h1 (hT t ti hti) hk (hT t2 xi hxi) hk2 hei (hT en ei hei) (by omega) hz hs hx hr)
      |_=>simp only[hk,hk2]at hr;cases hr
     |_=>simp only[hk]at hr;cases hr
  |[],_,hr=>cases hr
  |[_],_,hr=>cases hr
  |_::_::_::_,_,hr=>cases hr
 |delete=>
  have hE':∀ b,¬ E b:=by
   rcases hE with h|h|h|⟨h,_⟩
   ·exact h
   all_goals cases h
  match args,ha,hr with
  |[m,key],ha,hr=>
   obtain⟨m',key',he,hm,hkey⟩:=Pk rfl ha;cases hl:c.argTypes.toList with
   |nil=>rw[hl]at hr;cases hr
   |cons t l=>
    rw[hl]at hr;obtain⟨ti,kt,el,K,hti,hk,hK,hr⟩:=Ln (k:=fun ks=>Lc ks m key) hr;exact hex _ (fun cs=>by rw[he];rfl) (TU hT H hE' (AGi t l hl) (hT t ti hti) hk hK hm hkey hr)
  |[],_,hr=>cases hr
  |[_],_,hr=>cases hr
  |_::_::_::_,_,hr=>cases hr
 |_=>cases hr
theorem rl(hT:Cx P ty)(hF:DJ P ty F)(H:AEI ty φ E h w){o:zu}{a:Act}(hst:kS φ f e a.eval o.op)(hE:HF ty f e E o.op)(hr:opC ty f o.op F e h=.ok v h'):
  Ee P ty φ E h v h' o a w:=by
 cases ho:o.op with
 |move x=>
  rw[ho]at hr hst;obtain⟨x',hx',hr⟩:=DI hr;exact .AEC (s:=pure (a.eval x)) (by unfold execOp;rw[ho];rfl) (Q3 H (hst x (by simp[xh]) x' hx') hr)
 |assign x=>
  rw[ho]at hr hst;obtain⟨x',hx',hr⟩:=DI hr;exact .AEC (s:=pure (a.eval x)) (by unfold execOp;rw[ho];rfl) (Q3 H (hst x (by simp[xh]) x' hx') hr)
 |pick c x y=>
  rw[ho]at hr hst;obtain⟨c',hc',hr⟩:=DI hr;obtain⟨x',y',hx',hy',hr⟩:=Jx hr;refine .AEC (s:=(do pure (if <- asBool (a.eval c)then a.eval x else a.eval y))) ?_ (ay H (hst c (by simp[xh]) c' hc') (hst x (by simp[xh]) x' hx') (hst y (by simp[xh]) y' hy') hr);unfold execOp;rw[ho];simp
 |alloc t=>
  rw[ho]at hr hst;obtain⟨ti,hti,hr⟩:=Bl hr;obtain⟨hz,hr⟩:=IX hr;cases hc:Bt .mt 0 ti.zero with
  |none=>rw[hc]at hr;cases hr
  |some c=>
   rw[hc]at hr;exact .AEC (by unfold execOp;rw[ho]) (Xt H (hT t ti hti) hz hc hr)
 |box t x=>
  rw[ho]at hr hst;obtain⟨x',hx',hr⟩:=DI hr;exact .AEC (by unfold execOp;rw[ho]) (ik H (hst x (by simp[xh]) x' hx') hr)
 |build t parts=>
  rw[ho]at hr hst;obtain⟨ti,hti,hr⟩:=Bl hr;obtain⟨hz,hr⟩:=IX hr;have hps:∀ p∈parts.toList,∀ y,cO f p.2=some y->AED φ (y e) (a.eval p.2):=fun p hp=>hst p.2 (by simp only[xh,yl];exact⟨p,hp,rfl⟩)
  cases hk:ti.k with
  |struct fs=>
   simp only[hk]at hr;cases hp:Gs f (Mx fs) parts.toList with
   |none=>rw[hp]at hr;cases hr
   |some ps=>
    rw[hp]at hr;exact .AEC (by unfold execOp;rw[ho]) (TN H (hT t ti hti) hk hz (ps':=parts.map fun (i,x)=>(i,a.eval x)) (by simpa using Jj (ρ:=a.eval) hp hps) hr)
  |arr n el=>
   simp only[hk]at hr;obtain⟨ei,hei,hr⟩:=Bl hr;cases hp:Gs f (fun i=>some (yK i ei.size,ei.size)) parts.toList with
   |none=>rw[hp]at hr;cases hr
   |some ps=>
    rw[hp]at hr;exact .AEC (by unfold execOp;rw[ho]) (TM H (hT t ti hti) hk (hT el ei hei) hz (ps':=parts.map fun (i,x)=>(i,a.eval x)) (by simpa using Jj (ρ:=a.eval) hp hps) hr)
  |_=>simp only[hk]at hr;cases hr
 |buildSlice t len parts=>
  rw[ho]at hr hst;obtain⟨ti,hti,hr⟩:=Bl hr;have hps:∀ p∈parts.toList,∀ y,cO f p.2=some y->AED φ (y e) (a.eval p.2):=fun p hp=>hst p.2 (by simp only[xh,yl];exact⟨p,hp,rfl⟩)
  cases hk:ti.k with
  |slice el=>
   simp only[hk]at hr;obtain⟨ei,hei,hr⟩:=Bl hr;obtain⟨hz,hr⟩:=IX hr;cases hp:Gs f (fun i=>some (yK i ei.size,ei.size)) parts.toList with
   |none=>rw[hp]at hr;cases hr
   |some ps=>
    rw[hp]at hr;simp only at hr;cases hb:xU (yK len ei.size) 16777216 with
    |false=>rw[hb]at hr;cases hr
    |true=>
     rw[hb]at hr;exact .AEC (by unfold execOp;rw[ho]) (Mn H (hT t ti hti) hk (hT el ei hei) hz (Au.1 hb) (ps':=parts.map fun (i,x)=>(i,a.eval x)) (by simpa using Jj (ρ:=a.eval) hp hps) hr)
  |_=>simp only[hk]at hr;cases hr
 |load t x=>
  rw[ho]at hr hst hE;obtain⟨ti,hti,hr⟩:=Bl hr;obtain⟨x',hx',hr⟩:=DI hr;have hx:=hst x (by simp[xh]) x' hx';cases hk:ti.k.agg with
  |true=>rw[hk]at hr;exact .AEC (by unfold execOp;rw[ho]) (X7 H (hT t ti hti) hk hx (WK rfl hE hx') hr)
  |false=>rw[hk]at hr;exact .AEC (by unfold execOp;rw[ho]) (X5 H (hT t ti hti) hk hx (WK rfl hE hx') hr)
 |store t x y=>
  rw[ho]at hr hst hE;obtain⟨ti,hti,hr⟩:=Bl hr;obtain⟨x',y',hx',hy',hr⟩:=Jx hr;exact .AFc (by unfold execOp;rw[ho]) (YB H (hT t ti hti) (hst x (by simp[xh]) x' hx') (hst y (by simp[xh]) y' hy') (fun a _=>Ll (x:=x) rfl hE _) hr)
 |nilCheck x=>
  rw[ho]at hr hst;obtain⟨x',hx',hr⟩:=DI hr;obtain⟨hv,rfl,hne⟩:=jJ H (hst x (by simp[xh]) x' hx') hr;refine .AEC (s:=pure (a.eval x)) ?_ (.same H hv);unfold execOp;rw[ho];obtain⟨h1,h2,h3,h4⟩:=hne;simp only;generalize a.eval x=z at h1 h2 h3 h4 ⊢;cases z<;>first|rfl|(exact absurd rfl h2)|(exact absurd rfl h3)|skip
 |binOp op t x y yt=>rw[ho]at hr hst;exact oD hT H ho (by rw[ho];exact hst) hr
 |unOp op t x=>
  rw[ho]at hr hst;obtain⟨ti,hti,hr⟩:=Bl hr;obtain⟨x',hx',hr⟩:=DI hr;have hx:=hst x (by simp[xh]) x' hx';have hex:execOp a.eval o=(do pure (.value (<- Op.unary op (a.eval x)))):=by unfold execOp;rw[ho]
  cases op with
  |not=>exact .AEC hex (jL H hx (by revert hr;cases ti.k<;>exact id))
  |neg=>
   cases hk:ti.k with
   |int k=>simp only[hk]at hr;exact .AEC hex (jH H hx hr)
   |_=>simp only[hk]at hr;cases hr
  |plus=>revert hr;cases ti.k<;>intro hr<;>cases hr
  |xor=>
   cases hk:ti.k with
   |int k=>cases k<;>simp only[hk]at hr<;>first|cases hr;done|exact .AEC hex (iu H hx hr)
   |_=>simp only[hk]at hr;cases hr
 |fieldAddr t x i=>
  rw[ho]at hr hst;obtain⟨ti,hti,hr⟩:=Bl hr;obtain⟨x',hx',hr⟩:=DI hr;have hx:=hst x (by simp[xh]) x' hx';cases hk:ti.k with
  |struct fs=>
   simp only[hk]at hr;cases hn:nth fs i with
   |none=>rw[hn]at hr;cases hr
   |some q=>
    obtain⟨off,s,ft⟩:=q;rw[hn]at hr;cases s with
    |zero=>cases hr
    |succ s=>exact .AEC (by unfold execOp;rw[ho]) (NR H (hT t ti hti) hk hn hx hr)
  |_=>simp only[hk]at hr;cases hr
 |field t x i=>
  rw[ho]at hr hst;obtain⟨ti,hti,hr⟩:=Bl hr;obtain⟨x',hx',hr⟩:=DI hr;have hx:=hst x (by simp[xh]) x' hx';cases hk:ti.k with
  |struct fs=>
   simp only[hk]at hr;cases hn:nth fs i with
   |none=>rw[hn]at hr;cases hr
   |some q=>
    obtain⟨off,s,ft⟩:=q;rw[hn]at hr;obtain⟨fi,hfi,hr⟩:=Bl hr;exact .AEC (by unfold execOp;rw[ho]) (X0 H (hT t ti hti) hk hn (hT ft fi hfi) hx hr)
  |_=>simp only[hk]at hr;cases hr
 |indexAddr t x ix=>
  rw[ho]at hr hst;obtain⟨ti,hti,hr⟩:=Bl hr;obtain⟨x',y',hx',hy',hr⟩:=Jx hr;have hx:=hst x (by simp[xh]) x' hx';have hy:=hst ix (by simp[xh]) y' hy';cases hk:ti.k with
  |arr n el=>
   simp only[hk]at hr;obtain⟨ei,hei,hr⟩:=Bl hr;exact .AEC (by unfold execOp;rw[ho]) (TW H (hT t ti hti) hk (hT el ei hei) hx hy hr)
  |slice el=>
   simp only[hk]at hr;obtain⟨ei,hei,hr⟩:=Bl hr;exact .AEC (by unfold execOp;rw[ho]) (jA H (hT t ti hti) hk (hT el ei hei) hx hy hr)
  |_=>simp only[hk]at hr;cases hr
 |index t x ix=>
  rw[ho]at hr hst;obtain⟨ti,hti,hr⟩:=Bl hr;obtain⟨x',y',hx',hy',hr⟩:=Jx hr;have hx:=hst x (by simp[xh]) x' hx';have hy:=hst ix (by simp[xh]) y' hy';cases hk:ti.k with
  |arr n el=>
   simp only[hk]at hr;obtain⟨ei,hei,hr⟩:=Bl hr;exact .AEC (by unfold execOp;rw[ho]) (rh H (hT t ti hti) hk (hT el ei hei) hx hy hr)
  |string=>
   simp only[hk]at hr;exact .AEC (by unfold execOp;rw[ho]) (Xv H (hT t ti hti) hk hx hy hr)
  |_=>simp only[hk]at hr;cases hr
 |extract x i=>
  rw[ho]at hr hst;obtain⟨x',hx',hr⟩:=DI hr;exact .AEC (by unfold execOp;rw[ho]) (Q0 H (hst x (by simp[xh]) x' hx') hr)
 |makeInterface t x=>
  rw[ho]at hr hst;obtain⟨ti,hti,hr⟩:=Bl hr;obtain⟨x',hx',hr⟩:=DI hr;have hx:=hst x (by simp[xh]) x' hx';have hne:ti.k≠.iface:=by intro hk;rw[hk]at hr;cases hr
  have hr':Mq t x' F e h=.ok v h':=by revert hr hne;cases ti.k<;>intro hr hne<;>first|exact hr|exact absurd rfl hne
  exact .AEC (by unfold execOp;rw[ho]) (X3 H (hT t ti hti) hne hx hr')
 |makeFunc fn first cap=>
  rw[ho]at hr hst;simp only[opC]at hr;cases h1:cOs f first.toList with
  |none=>simp only[h1]at hr;cases hr
  |some fs=>
   cases h2:cOs f cap.toList with
   |none=>simp only[h1,h2]at hr;cases hr
   |some cs=>
    simp only[h1,h2]at hr;refine .AEC (s:=Instr.makeFunc fn (first.map a.eval) (cap.map a.eval)) (by unfold execOp;rw[ho]) ?_;have e1:first.map a.eval=⟨first.toList.map a.eval⟩:=by apply yj;simp
    have e2:cap.map a.eval=⟨cap.toList.map a.eval⟩:=by apply yj;simp
    rw[e1,e2];exact aZ H (OY h1 fun x hx=>hst x (by simp[xh]at hx ⊢;exact .inl hx)) (OY h2 fun x hx=>hst x (by simp[xh]at hx ⊢;exact .inr hx)) hr
 |makeMap t r=>
  rw[ho]at hr hst;cases r with
  |some _=>cases hr
  |none=>exact .AEC (by unfold execOp;rw[ho];rfl) (jB (F:=F) (e:=e) H (t:=t) hr)
 |makeSlice t l c=>
  rw[ho]at hr hst;obtain⟨ti,hti,hr⟩:=Bl hr;cases hk:ti.k with
  |slice el=>
   simp only[hk]at hr;obtain⟨ei,hei,hr⟩:=Bl hr;obtain⟨hz,hr⟩:=IX hr;obtain⟨l',c',hl',hc',hr⟩:=Jx hr;exact .AEC (by unfold execOp;rw[ho]) (an H (hT t ti hti) hk (hT el ei hei) hz (hst l (by simp[xh]) l' hl') (hst c (by simp[xh]) c' hc') hr)
  |_=>simp only[hk]at hr;cases hr
 |sliceToArrayPointer t x=>
  rw[ho]at hr hst;obtain⟨ti,hti,hr⟩:=Bl hr;cases hk:ti.k with
  |arr n el=>
   simp only[hk]at hr;cases n with
   |zero=>cases hr
   |succ n=>
    obtain⟨x',hx',hr⟩:=DI hr;exact .AEC (by unfold execOp;rw[ho]) (ie H (hT t ti hti) hk (Nat.succ_pos _) (hst x (by simp[xh]) x' hx') hr)
  |_=>simp only[hk]at hr;cases hr
 |slice t x lo hi mx=>
  rw[ho]at hr hst;obtain⟨ti,hti,hr⟩:=Bl hr;obtain⟨x',hx',hr⟩:=DI hr;have hx:=hst x (by simp[xh]) x' hx';cases h1:cOo f lo with
  |none=>simp only[h1]at hr;cases hr
  |some lo'=>
   cases h2:cOo f hi with
   |none=>simp only[h1,h2]at hr;cases hr
   |some hi'=>
    cases h3:cOo f mx with
    |none=>simp only[h1,h2,h3]at hr;cases hr
    |some mx'=>
     simp only[h1,h2,h3]at hr;have r1:AFg φ e lo' (lo.map a.eval):=Sb h1 fun z hz=>hst z (by rw[hz];simp[xh])
     have r2:AFg φ e hi' (hi.map a.eval):=Sb h2 fun z hz=>hst z (by rw[hz];simp[xh])
     have r3:AFg φ e mx' (mx.map a.eval):=Sb h3 fun z hz=>hst z (by rw[hz];simp[xh])
     cases hk:ti.k with
     |string=>
      simp only[hk]at hr;cases mx' with
      |some _=>cases hr
      |none=>
       have AFm:ID x' lo' hi' F e h=.ok v h':=hr;have hmx:mx=none:=by
        cases mx with
        |none=>rfl
        |some z=>cases r3
       subst hmx;exact .AEC (by unfold execOp;rw[ho];rfl) (TT H (hT t ti hti) hk hx r1 r2 AFm)
     |slice el=>
      simp only[hk]at hr;obtain⟨ei,hei,hr⟩:=Bl hr;exact .AEC (by unfold execOp;rw[ho]) (iz H (hT t ti hti) hk hei (hT el ei hei) hx r1 r2 r3 hr)
     |arr n el=>
      simp only[hk]at hr;obtain⟨ei,hei,hr⟩:=Bl hr;exact .AEC (by unfold execOp;rw[ho]) (TQ H (hT t ti hti) hk (hT el ei hei) hx r1 r2 r3 hr)
     |_=>simp only[hk]at hr;cases hr
 |convert src dst x=>
  rw[ho]at hr hst hE;obtain⟨si,hsi,hr⟩:=Bl hr;obtain⟨di,hdi,hr⟩:=Bl hr;obtain⟨x',hx',hr⟩:=DI hr;have hx:=hst x (by simp[xh]) x' hx';have hex:execOp a.eval o=(do pure (.value (<- convert src dst (a.eval x)))):=by unfold execOp;rw[ho]
  obtain⟨ds,hds,ks⟩:=(hT src si hsi).und;obtain⟨dd,hdd,kd⟩:=(hT dst di hdi).und;cases hk:di.k with
  |int k=>
   cases hk2:si.k with
   |int k2=>
    simp only[hk,hk2]at hr;obtain⟨q,n,hxe,hg⟩:=aU (P:=P) H hx hr;rw[hk]at kd;cases kd;rw[hk2]at ks;cases ks;refine .AEC hex ?_;rw[hxe];have:(convert src dst (.int q n)).run P w=(Conv.intToInt k n).run P w:=by
     simp only[convert,xO,run_underlying hds,run_underlying hdd,If]
    rw[this];exact hg
   |_=>simp only[hk,hk2]at hr;cases hr
  |string=>
   cases hk2:si.k with
   |string=>
    simp only[hk,hk2]at hr;obtain⟨s,hxe,hg⟩:=bA H hx hr;rw[hk]at kd;cases kd;rw[hk2]at ks;cases ks;refine .AEC hex ?_;rw[hxe]at hg ⊢;have:(convert src dst (.string s)).run P w=.ok (.string s) w:=by
     simp only[convert,xO,run_underlying hds,run_underlying hdd,If,xQ]
    rw[this];exact hg
   |slice el=>
    simp only[hk,hk2]at hr;obtain⟨ei,hei,hr⟩:=Bl hr;cases hk3:ei.k with
    |int k3=>
     cases k3<;>simp only[hk3]at hr<;>first|(cases hr;done)|skip
     refine .AEC hex (YD H (fun a l c hxe=>?_) (hT src si hsi) hk2 (hT dst di hdi) hk (hT el ei hei) hk3 hx hr);cases hb:xW src dst with
     |true=>exact GE (by simp only[Go.Proofs.YtbjadbhkogcfeaaGreat.kd,hb]) hE _
     |false=>
      have hi:MX ty src=false:=by unfold MX;rw[hsi];simp only[hk2]
      have hi2:HY ty dst=false:=by unfold HY;rw[hdi];simp only[hk]
      have hkd:Go.Proofs.YtbjadbhkogcfeaaGreat.kd ty (.convert src dst x)=.r x:=by simp only[Go.Proofs.YtbjadbhkogcfeaaGreat.kd,hb,hi,hi2]
      unfold HF at hE;rw[hkd]at hE;exact hE x' hx' _ (by rw[hxe];rfl)
    |_=>simp only[hk3]at hr;cases hr
   |_=>simp only[hk,hk2]at hr;cases hr
  |slice el=>
   cases hk2:si.k with
   |string=>
    simp only[hk,hk2]at hr;obtain⟨ei,hei,hr⟩:=Bl hr;cases hk3:ei.k with
    |int k3=>
     cases k3<;>simp only[hk3]at hr<;>first|(cases hr;done)|skip
     cases hb:xW ei.size 1 with
     |false=>rw[hb]at hr;cases hr
     |true=>
      rw[hb]at hr;exact .AEC hex (Q7 H (hT src si hsi) hk2 (hT dst di hdi) hk (hT el ei hei) hk3 hei (Ax.1 hb) hx hr)
    |_=>simp only[hk3]at hr;cases hr
   |slice el2=>
    simp only[hk,hk2]at hr;cases hb:xW src dst with
    |false=>rw[hb]at hr;cases hr
    |true=>
     rw[hb]at hr;have heq:src=dst:=Ax.1 hb;have hE':=GE (by simp only[Go.Proofs.YtbjadbhkogcfeaaGreat.kd,hb]) hE;obtain⟨ei,hei,hr⟩:=Bl hr;cases hk3:ei.k with
     |int k3=>
      cases k3<;>simp only[hk3]at hr<;>first|(cases hr;done)|skip
      have hg:=Xw (P:=P) H hE' (hT dst di hdi) hk (hT el ei hei) hk3 hx hr;rw[heq]at hex;exact .AEC hex hg
     |_=>simp only[hk3]at hr;cases hr
   |_=>simp only[hk,hk2]at hr;cases hr
  |_=>simp only[hk]at hr;cases hr
 |call c=>
  rw[ho]at hr hst hE;simp only[opC]at hr;cases h1:cOs f c.args.toList with
  |none=>simp only[h1]at hr;cases hr
  |some args=>
   simp only[h1]at hr;have ha:AEX φ (vals e args) (c.args.toList.map a.eval):=OY h1 fun x hx=>hst x (by
    unfold xh AAn;cases hc:c.callee<;>simp[hc]<;>first|exact Or.inr (by simpa using hx)|exact(by simpa using hx))
   cases hc:c.callee with
   |builtin b=>
    simp only[hc]at hr;refine Yw hT H hc ho ha ?_ hr;cases b with
    |len=>
     refine .inr (.inr (.inr ⟨rfl,fun x hx t ti ht hti hm r hxr=>?_⟩));subst hx;cases hl:c.args.toList with
     |nil=>rw[hl]at h1;cases h1
     |cons x0 l=>
      cases l with
      |cons x1 l=>
       rw[hl]at h1;unfold cOs at h1;cases hx0:cO f x0 with
       |none=>rw[hx0]at h1;cases h1
       |some y0=>
        rw[hx0]at h1;cases hx1:cOs f (x1::l)with
        |none=>rw[hx1]at h1;cases h1
        |some ys=>
         rw[hx1]at h1;cases h1;unfold cOs at hx1;cases hq:cO f x1 with
         |none=>rw[hq]at hx1;cases hx1
         |some y1=>
          rw[hq]at hx1;cases hq2:cOs f l with
          |none=>rw[hq2]at hx1;cases hx1
          |some ys=>rw[hq2]at hx1;cases hx1
      |nil=>
       rw[hl]at h1;have hx0:cO f x0=some x:=by
        unfold cOs at h1;cases hx0:cO f x0 with
        |none=>rw[hx0]at h1;cases h1
        |some y0=>rw[hx0]at h1;cases h1;rfl
       obtain⟨k,q,hm⟩:=hm;have hmap:S1 ty (c.argTypes.getD 0 0)=true:=by
        have:c.argTypes.getD 0 0=t:=by rw[yU,ht];rfl
        rw[this];unfold S1;rw[hti];simp only[hm]
       have hk:kd ty (.call c)=.r x0:=by simp only[kd,hc,hl,hmap]
       unfold HF at hE;rw[hk]at hE;exact hE x hx0 r (by rw[hxr];rfl)
    |min=>exact .inr (.inl rfl)
    |max=>exact .inr (.inr (.inl rfl))
    |_=>
     refine .inl ?_;cases hl:c.args.toList with
     |nil=>exact GE (by simp only[kd,hc,hl]) hE
     |cons x l=>exact Ll (x:=x) (by simp only[kd,hc,hl]) hE
   |value g=>
    simp only[hc]at hr;have hE':∀ b,¬ E b:=GE (by simp only[kd,hc]) hE;cases g with
    |func g=>exact aQ hF H hE' hc ho ha hr
    |tmp t=>
     obtain⟨g',hg',hr⟩:=DI hr;exact KZ hF H hE' hc ho (hst (.tmp t) (by unfold xh AAn;simp[hc]) g' hg') ha hr
    |const t=>
     obtain⟨g',hg',hr⟩:=DI hr;exact KZ hF H hE' hc ho (hst (.const t) (by unfold xh AAn;simp[hc]) g' hg') ha hr
    |global t=>
     obtain⟨g',hg',hr⟩:=DI hr;exact KZ hF H hE' hc ho (hst (.global t) (by unfold xh AAn;simp[hc]) g' hg') ha hr
   |invoke recv name=>
    simp only[hc]at hr;have hE':∀ b,¬ E b:=GE (by simp only[kd,hc]) hE;obtain⟨x',hx',hr⟩:=DI hr;exact TY hT hF H hE' hc ho (hst recv (by unfold xh AAn;simp[hc]) x' hx') ha hr
 |lookup t x ix ok=>
  rw[ho]at hr hst hE;obtain⟨ti,hti,hr⟩:=Bl hr;obtain⟨x',ix',hx',AJY,hr⟩:=Jx hr;cases hk:ti.k with
  |map kt el=>
   simp only[hk]at hr;obtain⟨ei,hei,hr⟩:=Bl hr;obtain⟨hz,hr⟩:=IX hr;unfold wZero at hr;cases hzv:zeroV ei with
   |none=>rw[hzv]at hr;cases hr
   |some z=>
    rw[hzv]at hr;obtain⟨ti2,kt2,el2,K,AIg,hk2,hK,hr⟩:=Ln hr;rw[hti]at AIg;cases AIg;rw[hk]at hk2;cases hk2;refine .AEC (by unfold execOp;rw[ho]) (Ta hT H (hT t ti hti) hk (hT el ei hei) hz hzv hK (hst x (by simp[xh]) x' hx') (hst ix (by simp[xh]) ix' AJY) (fun r hxr=>?_) hr);have hkd:kd ty (.lookup t x ix ok)=.r x:=rfl;unfold HF at hE;rw[hkd]at hE;exact hE x' hx' r (by rw[hxr];rfl)
  |_=>simp only[hk]at hr;cases hr
 |mapUpdate t m k x=>
  rw[ho]at hr hst hE;obtain⟨ti,kt,el,K,hti,hk,hK,hr⟩:=Ln (k:=fun ks=>w1 f m fun m=>w2 f k x fun key x=>FI ks m key x) hr;obtain⟨m',hm',hr⟩:=DI hr;obtain⟨k',x',hk',hx',hr⟩:=Jx hr;exact .AFc (by unfold execOp;rw[ho]) (Ms hT H (Ll (x:=m) rfl hE) (hT t ti hti) hk hK (hst m (by simp[xh]) m' hm') (hst k (by simp[xh]) k' hk') (hst x (by simp[xh]) x' hx') hr)
 |insert t m k x=>
  rw[ho]at hr hst hE;obtain⟨ti,kt,el,K,hti,hk,hK,hr⟩:=Ln (k:=fun ks=>w1 f m fun m=>w2 f k x fun key x=>FI ks m key x) hr;obtain⟨m',hm',hr⟩:=DI hr;obtain⟨k',x',hk',hx',hr⟩:=Jx hr;exact .AFc (by unfold execOp;rw[ho]) (Ms hT H (Ll (x:=m) rfl hE) (hT t ti hti) hk hK (hst m (by simp[xh]) m' hm') (hst k (by simp[xh]) k' hk') (hst x (by simp[xh]) x' hx') hr)
 |range t x=>
  rw[ho]at hr hst hE;obtain⟨ti,hti,hr⟩:=Bl hr;cases hk:ti.k with
  |map k q=>
   simp only[hk]at hr;obtain⟨x',hx',hr⟩:=DI hr;exact .AEC (by unfold execOp;rw[ho]) (YA H (GE rfl hE) (hT t ti hti) hk (hst x (by simp[xh]) x' hx') hr)
  |_=>simp only[hk]at hr;cases hr
 |next x s=>
  rw[ho]at hr hst hE;cases s with
  |true=>cases hr
  |false=>
   obtain⟨x',hx',hr⟩:=DI hr;exact .AEC (by unfold execOp;rw[ho]) (au (t:=o.type) H (GE rfl hE) (hst x (by simp[xh]) x' hx') hr)
 |entry x=>
  rw[ho]at hr hst hE;obtain⟨x',hx',hr⟩:=DI hr;exact .AEC (by unfold execOp;rw[ho]) (Xy H (GE rfl hE) (hst x (by simp[xh]) x' hx') hr)
 |typeAssert x xt t ok=>
  rw[ho]at hr hst hE;obtain⟨ti,hti,hr⟩:=Bl hr;obtain⟨x',hx',hr⟩:=DI hr;have hr2:ti.k≠.iface/\wZ ti (wZero ti fun z=>Lb t ok z x') F e h=.ok v h':=by
   cases hk:ti.k with
   |iface=>simp only[hk]at hr;cases hr
   |_=>simp only[hk]at hr;exact⟨nofun,hr⟩
  obtain⟨hki,hr⟩:=hr2;obtain⟨hz,hr⟩:=IX hr;unfold wZero at hr;cases hzv:zeroV ti with
  |none=>rw[hzv]at hr;cases hr
  |some z=>
   rw[hzv]at hr;exact .AEC (by unfold execOp;rw[ho]) (TL H (hT t ti hti) hki hz hzv (hst x (by simp[xh]) x' hx') hr)
 |_=>rw[ho]at hr;cases hr
end
end
noncomputable section
open Go
def vB(h:Hp):R->R
 |.ok v _=>.ok v h
 |.no=>.no
def Kr(g:Hp->R):Prop:=∀ h h2:Hp,h2.bl=h.bl->g h2=vB h2 (g h)
def Kp(g:OpF):Prop:=∀ F e,Kr (g F e)
theorem Kr.same{g:Hp->R}(k:Kr g){h h':Hp}{v:IN}(hr:g h=.ok v h'):h'=h:=by
 have:=k h h rfl;rw[hr]at this;have:(R.ok v h')=.ok v h:=this;cases this;rfl
theorem Kr.at{g:Hp->R}(k:Kr g){h h':Hp}{v:IN}(hr:g h=.ok v h')(h2:Hp)(hb:h2.bl=h.bl):g h2=.ok v h2:=by
 rw[k h h2 hb,hr];rfl
theorem Kr.no:Kr fun _=>.no:=fun _ _ _=>rfl
theorem Kr.ok(v:IN):Kr fun h=>.ok v h:=fun _ _ _=>rfl
theorem Kr.bif{c:Bool}{a b:Hp->R}(ka:Kr a)(kb:Kr b):Kr fun h=>bif c then a h else b h:=by
 cases c
 ·exact kb
 ·exact ka
theorem Kr.AEN{v:IN}{k:IN->Hp->R}(hk:∀ v,Kr (k v)):Kr fun h=>AEN v fun v=>k v h:=by
 intro h h2 hb;simp only[BK];exact hk v h h2 hb
theorem Kr.AEs{v:List IN}{k:List IN->Hp->R}(hk:∀ v,Kr (k v)):Kr fun h=>AEs v fun v=>k v h:=by
 intro h h2 hb;simp only[Cb];exact hk v h h2 hb
theorem Kr.AEV{v:Nat}{k:Nat->Hp->R}(hk:∀ v,Kr (k v)):Kr fun h=>AEV v fun v=>k v h:=by
 intro h h2 hb;simp only[Ao];exact hk v h h2 hb
theorem Kr.okI(k:xc)(n:Int):Kr fun h=>okI k n h:=fun h h2 _=>by simp only[Eq];rfl
theorem Kr.AFS(v:IN):Kr fun h=>AFS v h:=fun h h2 _=>by simp only[E6];rfl
theorem Kr.okB(b:Bool):Kr fun h=>okB b h:=by cases b<;>exact .ok _
theorem Kr.row{b:Nat}{k:VT->Nat->Nat->Hp->R}{z:Hp->R}(hk:∀ c s e,Kr (k c s e))(hz:Kr z):Kr fun h=>match rowOf h b with
  |.ok c s e=>k c s e h
  |.no=>z h:=by
 intro h h2 hb;have:rowOf h2 b=rowOf h b:=by unfold rowOf;rw[hb]
 simp only[this];cases rowOf h b with
 |ok c s e=>exact hk c s e h h2 hb
 |no=>exact hz h h2 hb
theorem Kr.ents{b:Nat}{k:List Ent->Nat->Hp->R}{z:Hp->R}(hk:∀ c s,Kr (k c s))(hz:Kr z):Kr fun h=>match Bk h b with
  |.ok c s=>k c s h
  |.no=>z h:=by
 intro h h2 hb;have:Bk h2 b=Bk h b:=by unfold Bk;rw[hb]
 simp only[this];cases Bk h b with
 |ok c s=>exact hk c s h h2 hb
 |no=>exact hz h h2 hb
theorem VF{c:VT}{off:Nat}{k:List IN->Hp->R}(hk:∀ l,Kr (k l))(n:Nat)(acc:List IN):Kr fun h=>Sy c off (fun l=>k l h) n acc:=by
 intro h h2 hb;simp only[F2];exact hk _ h h2 hb
theorem HI{e:Env}{x:Option O}{d y:Nat}{k:Nat->Hp->R}(hk:∀ n,Kr (k n)):Kr fun h=>Ct e x d y fun n=>k n h:=by
 unfold Ct;cases x with
 |none=>exact hk d
 |some o=>
  simp only;cases DG (o e)with
  |no=>exact .no
  |ok n=>exact .bif (hk n) .no
theorem J8{e:Env}{l c:Nat}{lo hi mx:Option O}{k:Nat->Nat->Nat->Hp->R}(hk:∀ a b c,Kr (k a b c)):Kr fun h=>DY e l c lo hi mx fun a b c=>k a b c h:=by
 unfold DY;cases mx with
 |none=>exact HI (k:=fun hh h=>Ct e lo 0 hh fun l=>k l hh c h) fun hh=>HI (k:=fun l h=>k l hh c h) fun l=>hk l hh c
 |some m=>
  refine HI (k:=fun m h=>_) fun m=>?_
  cases hi with
  |none=>exact .no
  |some hh=>exact HI (k:=fun hh h=>Ct e lo 0 hh fun l=>k l hh m h) fun hh=>HI (k:=fun l h=>k l hh m h) fun l=>hk l hh m
theorem Gx{a:Option Addr}{s l hh m:Nat}:Kr fun h=>Bp a s l hh m h:=by
 unfold Bp;refine .AEV (k:=fun n h=>_) fun n=>.AEV (k:=fun c h=>_) fun c=>?_
 cases xW m l with
 |true=>exact .ok _
 |false=>
  cases a with
  |none=>exact .ok _
  |some a=>
   simp only;cases yK l s with
   |zero=>exact .ok _
   |succ m=>exact .AEV (k:=fun o h=>_) fun o=>.ok _
theorem RI{g:Bool}{s:Nat}{cs:List IN}{off:Nat}:Kr fun h=>OD g s cs off h:=by
 unfold OD;cases g with
 |true=>exact .AEs (k:=fun l h=>_) fun l=>.ok _
 |false=>
  simp only;cases nth cs off with
  |none=>exact .no
  |some v=>exact .AEN (k:=fun l h=>_) fun l=>.ok _
theorem QC{e:Env}{k:List IN->Hp->R}(hk:∀ l,Kr (k l)):∀ (ps:List (Nat×Nat×O)) (cs:List IN),Kr fun h=>EZ cs e (fun l=>k l h) ps
 |[],cs=>by
  unfold EZ;exact .AEs (k:=k) hk
 |(off,size,x)::ps,cs=>by
  unfold EZ;exact .AEN (k:=fun v h=>_) fun v=>.bif (.bif (.bif (QC hk ps _) .no) .no) .no
theorem Mc{ok:Bool}{v:IN}{b:Bool}:Kr fun h=>Dp ok v b h:=by
 unfold Dp;cases ok
 ·exact .AEN (k:=fun v h=>_) fun v=>.ok _
 ·exact .AEN (k:=fun v h=>_) fun v=>.ok _
theorem RM{a:Addr}{n:Nat}:Kr fun h=>OE a n h:=.AEV (k:=fun o h=>_) fun o=>.ok _
theorem Ry{size:Nat}{v:IN}{n:Nat}{k:List IN->Hp->R}(hk:∀ l,Kr (k l)):Kr fun h=>BO h size v n fun l=>k l h:=by
 unfold BO;cases v with
 |slice a l c=>
  cases a with
  |none=>exact hk []
  |some a=>exact .row (k:=fun c s _ h=>bif xU (zA a.off (yK n size)) s then Sy c a.off (fun l=>k l h) (yK n size) []else .no) (z:=fun _=>.no) (fun c s _=>.bif (VF hk _ _) .no) .no
 |string s=>exact .bif (hk _) .no
 |chan c=>
  cases c with
  |none=>exact .no
  |some r=>exact hk []
 |_=>exact .no
end
noncomputable section
open Go
theorem Kp.oNo:Kp oNo:=fun _ _=>.no
theorem Kp.w1{f:Fr}{x:yF}{k:O->OpF}(hk:∀ y,Kp (k y)):Kp (w1 f x k):=by
 unfold Go.Proofs.YtbjadbhkogcfeaaGreat.w1;split
 ·exact hk _
 ·exact .oNo
theorem Kp.w2{f:Fr}{x y:yF}{k:O->O->OpF}(hk:∀ x y,Kp (k x y)):Kp (w2 f x y k):=.w1 fun x=>.w1 fun y=>hk x y
theorem Kp.wTy{ty:TTy}{t:Nat}{k:TI->OpF}(hk:∀ ti,ty.get t=some ti->Kp (k ti)):Kp (wTy ty t k):=by
 unfold Go.Proofs.YtbjadbhkogcfeaaGreat.wTy;split
 ·rename_i ti h;exact hk ti h
 ·exact .oNo
theorem Kp.wZ{ti:TI}{k:OpF}(hk:Kp k):Kp (wZ ti k):=by
 unfold Go.Proofs.YtbjadbhkogcfeaaGreat.wZ;split
 ·exact hk
 ·exact .oNo
theorem Kp.wZero{ti:TI}{k:IN->OpF}(hk:∀ z,Kp (k z)):Kp (wZero ti k):=by
 unfold Go.Proofs.YtbjadbhkogcfeaaGreat.wZero;split
 ·exact hk _
 ·exact .oNo
theorem Kp.wKey{ty:TTy}{t:Nat}{k:KS->OpF}(hk:∀ z,Kp (k z)):Kp (wKey ty t k):=by
 unfold Go.Proofs.YtbjadbhkogcfeaaGreat.wKey;refine .wTy fun ti _=>?_
 split
 ·refine .wTy fun ki _=>?_
  split
  ·exact hk _
  ·exact .oNo
 ·exact .oNo
section
variable {x y z:O}
theorem Mr:Kp (AQ x):=fun F e=>.AFS _
theorem ax:Kp (A5 x y z):=fun F e=>by
 show Kr fun h=>bU (x e) (y e) (z e) h
 cases x e with
 |bool t=>cases t<;>exact .AFS _
 |_=>exact .no
theorem N8{zs:List IN}{ps:List (Nat×Nat×O)}:Kp (BU zs ps):=fun F e=>QC (k:=fun cs h=>.ok (.agg ⟨cs⟩) h) (fun l=>.ok _) ps zs
theorem jI:Kp (Bi x):=fun F e=>by
 show Kr fun h=>Xr (x e) h
 unfold Xr;cases x e with
 |pointer a=>cases a;exact .no;exact .ok _
 |func f a b=>cases f<;>first|exact .ok _|exact .no
 |slice a n c=>exact .ok _
 |map m=>exact .ok _
 |iface t v=>exact .AEN (k:=fun v h=>.ok (.iface t v) h) fun v=>.ok _
 |_=>exact .no
theorem iq{f:Int->Int->Bool}{k:xc}:Kp (Ah f k x y):=fun F e=>by
 show Kr fun h=>fC f (Cg k (x e)) (Cg k (y e)) h
 cases Cg k (x e)with
 |no=>exact .no
 |ok a=>cases Cg k (y e)with
  |no=>exact .no
  |ok b=>exact .okB _
theorem ib{f:Int->Int->Int}{k:xc}:Kp (C1 f k x y):=fun F e=>by
 show Kr fun h=>mK f k (Cg k (x e)) (Cg k (y e)) h
 cases Cg k (x e)with
 |no=>exact .no
 |ok a=>cases Cg k (y e)with
  |no=>exact .no
  |ok b=>exact .okI _ _
theorem iZ{k:xc}{top:Nat}:Kp (CI k top x y):=fun F e=>by
 show Kr fun h=>cz k top (Cg k (x e)) (Cg k (y e)) h
 cases Cg k (x e)with
 |no=>exact .no
 |ok a=>cases Cg k (y e)with
  |no=>exact .no
  |ok b=>
   cases a with
   |negSucc _=>exact .okI _ _
   |ofNat a=>cases b with
    |negSucc _=>exact .okI _ _
    |ofNat b=>
     unfold cz;simp only;cases xU (zA a b) top with
     |true=>exact .AEV (k:=fun n h=>.ok (.int k (.ofNat n)) h) fun n=>.ok _
     |false=>exact .okI _ _
theorem i6{k:xc}:Kp (LL k x y):=fun F e=>by
 show Kr fun h=>ZX k (Cg k (x e)) (Cg k (y e)) h
 unfold ZX;cases Cg k (x e)with
 |no=>exact .no
 |ok a=>cases Cg k (y e)with
  |no=>exact .no
  |ok b=>exact .bif .no (.okI _ _)
theorem jM{k:xc}:Kp (PF k x y):=fun F e=>by
 show Kr fun h=>bh k (Cg k (x e)) (Cg k (y e)) h
 unfold bh;cases Cg k (x e)with
 |no=>exact .no
 |ok a=>cases Cg k (y e)with
  |no=>exact .no
  |ok b=>exact .bif .no (.okI _ _)
theorem ij{f:Nat->Nat->Nat}{k:xc}:Kp (Ka f k x y):=fun F e=>by
 show Kr fun h=>Yq f k (Fq k (x e)) (Fq k (y e)) h
 unfold Yq;cases Fq k (x e)with
 |no=>exact .no
 |ok a=>cases Fq k (y e)with
  |no=>exact .no
  |ok b=>exact .bif (.bif (.okI _ _) .no) .no
theorem jO{k:xc}:Kp (NS k x y):=fun F e=>by
 show Kr fun h=>bz k (Fq k (x e)) (DG (y e)) h
 unfold bz;cases Fq k (x e)with
 |no=>exact .no
 |ok a=>cases DG (y e)with
  |no=>exact .no
  |ok b=>exact .okI _ _
theorem jQ{k:xc}:Kp (LM k x y):=fun F e=>by
 show Kr fun h=>cA k (Fq k (x e)) (DG (y e)) h
 unfold cA;cases Fq k (x e)with
 |no=>exact .no
 |ok a=>cases DG (y e)with
  |no=>exact .no
  |ok b=>exact .okI _ _
theorem jS{f:List UInt8->List UInt8->Bool}:Kp (Jg f x y):=fun F e=>by
 show Kr fun h=>cJ f (x e) (y e) h
 unfold cJ;cases x e with
 |string a=>cases y e with
  |string b=>exact .okB _
  |_=>exact .no
 |_=>exact .no
theorem io:Kp (im x y):=fun F e=>by
 show Kr fun h=>e9 (x e) (y e) h
 unfold e9;cases x e with
 |string a=>cases y e with
  |string b=>exact .bif (.ok _) .no
  |_=>exact .no
 |_=>exact .no
theorem ri{k:TK}{n:Bool}:Kp (oEq k n x y):=fun F e=>by
 unfold oEq;cases eqV k (x e) (y e)with
 |some r=>exact .okB _
 |none=>exact .no
theorem av{n:Bool}:Kp (OA n x):=fun F e=>by
 show Kr fun h=>aK n (x e) h
 unfold aK;cases x e<;>first|exact .okB _|exact .no
theorem Vo{k:KS}{n:Bool}:Kp (PD k n x y):=fun F e=>by
 unfold PD;cases eqC k (x e) (y e)with
 |some r=>exact .okB _
 |none=>exact .no
theorem jK:Kp (EI x):=fun F e=>by
 unfold EI;cases x e with
 |bool b=>exact .okB _
 |_=>exact .no
theorem ir:Kp (aW x):=fun F e=>by
 unfold aW;cases Fq .u8 (x e)with
 |no=>exact .no
 |ok n=>exact .bif (.okI _ _) .no
theorem jG{k:xc}:Kp (aq k x):=fun F e=>by
 unfold aq;cases Cg k (x e)with
 |no=>exact .no
 |ok n=>exact .okI _ _
theorem aT{k:xc}:Kp (C6 k x):=fun F e=>by
 unfold C6;cases Xj (x e)with
 |no=>exact .no
 |ok n=>exact .okI _ _
theorem az:Kp (Q6 x):=fun F e=>by
 unfold Q6;cases x e with
 |string b=>exact .ok _
 |_=>exact .no
theorem YC:Kp (Fe x):=fun F e=>by
 unfold Fe;cases x e with
 |slice a n c=>
  refine Ry (k:=fun cs h=>match Eu cs with|some bs=>.ok (.string ⟨⟨bs⟩⟩) h|none=>.no) fun l=>?_
  cases Eu l with
  |some bs=>exact .ok _
  |none=>exact .no
 |_=>exact .no
theorem X2{t:Nat}:Kp (Mq t x):=fun F e=>.AEN (k:=fun v h=>.ok (.iface t v) h) fun v=>.ok _
theorem aY{fn:Fn}{a b:List O}:Kp (Eb fn a b):=fun F e=>.AEs (k:=fun f h=>AEs (vals e b) fun c=>.ok (.func fn ⟨f⟩ ⟨c⟩) h) fun f=>.AEs (k:=fun c h=>.ok (.func fn ⟨f⟩ ⟨c⟩) h) fun c=>.ok _
theorem TR{lo hi:Option O}:Kp (ID x lo hi):=fun F e=>by
 unfold ID;cases x e with
 |string s=>exact J8 (k:=fun l hh _ h=>.ok (.string ⟨⟨LD (Nat.sub hh l) (MG l s.data.toList)⟩⟩) h) fun a b c=>.ok _
 |_=>exact .no
theorem fH{el s:Nat}{a:Option Addr}{mx:Bool}{l hh m:Nat}:Kr fun h=>EM el s a mx l hh m h:=by
 unfold EM;cases mx with
 |true=>exact Gx
 |false=>
  cases l with
  |zero=>exact Gx
  |succ l=>
   intro h h2 hb;have:E0 el a h2=E0 el a h:=by
    unfold E0;cases a with
    |none=>rfl
    |some a=>
     have:rowOf h2 a.block=rowOf h a.block:=by unfold rowOf;rw[hb]
     simp only[this]
   simp only[this];cases E0 el a h with
   |true=>exact Gx h h2 hb
   |false=>rfl
theorem iw{el s:Nat}{lo hi mx:Option O}:Kp (D9 el s x lo hi mx):=fun F e=>by
 unfold D9;cases x e with
 |slice a n c=>exact J8 (k:=fun l hh m h=>EM el s a mx.isSome l hh m h) fun _ _ _=>fH
 |_=>exact .no
theorem TP{n s:Nat}{lo hi mx:Option O}:Kp (F9 n s x lo hi mx):=fun F e=>by
 unfold F9;cases Ds (x e)with
 |ok a=>exact J8 (k:=fun l hh m h=>Bp (some a) s l hh m h) fun _ _ _=>Gx
 |no=>exact .no
theorem NQ{o:Nat}:Kp (AE o x):=fun F e=>by
 unfold AE;cases Ds (x e)with
 |ok a=>exact RM
 |no=>exact .no
theorem Xz{g:Bool}{s o:Nat}:Kp (Mp g s o x):=fun F e=>by
 unfold Mp;cases x e with
 |agg cs=>exact RI
 |_=>exact .no
theorem VM{n s:Nat}{a:AA}{i:NN}:Kr fun h=>MT n s a i h:=by
 unfold MT;cases i with
 |no=>exact .no
 |ok i=>
  simp only;cases ye i n with
  |false=>exact .no
  |true=>
   cases a with
   |no=>exact .no
   |ok a=>exact RM
theorem TV{n s:Nat}:Kp (Cd n s x y):=fun F e=>VM
theorem i9{s:Nat}:Kp (CF s x y):=fun F e=>by
 unfold CF;cases x e with
 |slice a n c=>cases a;exact .no;exact VM
 |_=>exact .no
theorem re{g:Bool}{n s:Nat}:Kp (oAt g n s x y):=fun F e=>by
 show Kr fun h=>atF g n s (x e) (DG (y e)) h
 unfold atF;cases DG (y e)with
 |no=>exact .no
 |ok i=>
  refine .bif ?_ .no;cases x e with
  |agg cs=>exact RI
  |_=>exact .no
theorem Xu:Kp (Io x y):=fun F e=>by
 show Kr fun h=>J4 (x e) (DG (y e)) h
 unfold J4;cases DG (y e)with
 |no=>exact .no
 |ok i=>
  simp only;cases x e with
  |string s=>
   simp only;cases nth s.data.toList i with
   |some b=>exact .okI _ _
   |none=>exact .no
  |_=>exact .no
theorem Qz{i:Nat}:Kp (Aa i x):=fun F e=>by
 unfold Aa;cases x e with
 |tuple vs=>
  simp only;cases nth vs.toList i with
  |some v=>exact .AEN (k:=fun v h=>.ok v h) fun v=>.ok v
  |none=>exact .no
 |_=>exact .no
theorem ic{n:Nat}:Kp (Qy n x):=fun F e=>by
 unfold Qy;cases x e with
 |slice a l c=>cases a;exact .no;exact .bif (.ok _) .no
 |_=>exact .no
theorem ae:Kp (Bg x):=fun F e=>by
 unfold Bg;cases x e with
 |slice a n c=>exact .ok _
 |chan o=>cases o;exact .no;exact .ok _
 |_=>exact .no
theorem ai:Kp (N9 x):=fun F e=>by
 unfold N9;cases x e with
 |string s=>exact .AEV (k:=fun n h=>.ok (.int .i64 (.ofNat n)) h) fun n=>.ok _
 |_=>exact .no
theorem aa:Kp (Q1 x):=fun F e=>by
 unfold Q1;cases x e with
 |map r=>
  cases r with
  |none=>exact .ok _
  |some r=>exact .ents (k:=fun es _ h=>AEV (BB es) fun n=>.ok (.int .i64 (.ofNat n)) h) (z:=fun _=>.no) (fun es _=>.AEV (k:=fun n h=>.ok (.int .i64 (.ofNat n)) h) fun n=>.ok _) .no
 |_=>exact .no
theorem N3{l:Bool}{a b:IN}:Kr fun h=>Hf l a b h:=by
 unfold Hf;cases a with
 |int k a=>
  simp only;cases Xj b with
  |no=>exact .no
  |ok b=>exact .bif (.ok _) (.ok _)
 |_=>exact .no
theorem jE:Kp (X9 x y):=fun F e=>N3
theorem jC:Kp (Q2 x y):=fun F e=>N3
theorem X4:Kp (AO x):=fun F e=>by
 unfold AO;cases Ds (x e)with
 |no=>exact .no
 |ok a=>
  intro h h2 hb;show AEF a h2=vB h2 (AEF a h);have:rowOf h2 a.block=rowOf h a.block:=by unfold rowOf;rw[hb]
  unfold AEF;rw[this];cases rowOf h a.block with
  |no=>rfl
  |ok c s t=>
   simp only;cases ye a.off s with
   |false=>rfl
   |true=>simp only[BK];rfl
theorem X6{n:Nat}:Kp (BM n x):=fun F e=>by
 unfold BM;cases Ds (x e)with
 |no=>exact .no
 |ok a=>exact .row (k:=fun c s _ h=>bif xU (zA a.off n) s then Sy c a.off (fun l=>.ok (.agg ⟨l⟩) h) n []else .no) (z:=fun _=>.no) (fun c s _=>.bif (VF (k:=fun l h=>.ok (.agg ⟨l⟩) h) (fun l=>.ok _) _ _) .no) .no
theorem TZ{K:KS}{zv:IN}{ok:Bool}:Kp (Gn K zv ok x y):=fun F e=>by
 show Kr fun h=>H8 K zv (x e) (y e) ok h
 unfold H8;cases Fo K (y e)with
 |false=>exact .no
 |true=>
  simp only;cases x e with
  |map r=>
   cases r with
   |none=>exact Mc
   |some r=>
    refine .ents (k:=fun es _ h=>match MK K (y e) es with
     |some (some en)=>Dp ok en.val true h
     |some none=>Dp ok zv false h
     |none=>.no) (z:=fun _=>.no) (fun es _=>?_) .no
    cases MK K (y e) es with
    |none=>exact .no
    |some o=>cases o<;>exact Mc
  |_=>exact .no
end
section
variable {ty:TTy}{f:Fr}
theorem eA{op:BinOp}{t:Nat}{x y:yF}:Kp (Yo ty f op t x y):=by
 unfold Yo;refine .wTy fun ti _=>.w2 fun x y=>?_
 split
 ·split
  ·cases op<;>first|exact av|exact .oNo
  ·exact .oNo
 ·cases op<;>first|exact iZ|exact ib|exact i6|exact jM|exact ij|exact jO|exact jQ|exact iq|exact .oNo
 ·cases op<;>first|exact io|exact jS|exact .oNo
 ·split
  ·cases op<;>first|exact Vo|exact .oNo
  ·exact .oNo
 ·split
  ·cases op<;>first|exact Vo|exact .oNo
  ·exact .oNo
 ·cases op<;>first|exact ri|exact .oNo
theorem rk{op:Op}(hk:kd ty op=.p\/∃ x,kd ty op=.r x):Kp (opC ty f op):=by
 cases op with
 |move x=>exact .w1 fun x=>Mr
 |assign x=>exact .w1 fun x=>Mr
 |pick c a b=>exact .w1 fun c=>.w2 fun a b=>ax
 |build t ps=>
  refine .wTy fun ti _=>.wZ ?_
  split
  ·split
   ·exact N8
   ·exact .oNo
  ·refine .wTy fun ei _=>?_
   split
   ·exact N8
   ·exact .oNo
  ·exact .oNo
 |load t x=>
  refine .wTy fun ti _=>.w1 fun x=>?_
  split
  ·exact X6
  ·exact X4
 |nilCheck x=>exact .w1 fun x=>jI
 |binOp op t x y u=>exact eA
 |unOp op t x=>
  refine .wTy fun ti _=>.w1 fun x=>?_
  split<;>first|exact jK|exact jG|exact ir|exact .oNo
 |convert src dst x=>
  refine .wTy fun si hsi=>.wTy fun di hdi=>.w1 fun x=>?_
  split
  ·exact aT
  ·exact az
  ·refine .wTy fun ei _=>?_
   split
   ·exact YC
   ·exact .oNo
  ·rename_i hd hs
   exfalso
   simp only[kd]at hk;cases hb:xW src dst with
   |true=>simp only[hb]at hk;rcases hk with hk|⟨_,hk⟩<;>cases hk
   |false=>
    have h1:MX ty src=false:=by unfold MX;rw[hsi];simp only[hs]
    have h2:HY ty dst=true:=by unfold HY;rw[hdi];simp only[hd]
    simp only[hb,h1,h2]at hk;rcases hk with hk|⟨_,hk⟩<;>cases hk
  ·rename_i hs hd
   split
   ·rename_i hb
    exfalso
    simp only[kd,hb]at hk;rcases hk with hk|⟨_,hk⟩<;>cases hk
   ·exact .oNo
  ·exact .oNo
 |makeInterface t x=>
  refine .wTy fun ti _=>.w1 fun x=>?_
  split
  ·exact .oNo
  ·exact X2
 |makeFunc fn a b=>
  show Kp (match cOs f a.toList,cOs f b.toList with
   |some fs,some c=>Eb fn fs c
   |_,_=>oNo)
  split
  ·exact aY
  ·exact .oNo
 |slice t x lo hi mx=>
  refine .wTy fun ti _=>.w1 fun x=>?_
  split
  ·split
   ·split
    ·exact TR
    ·exact .oNo
   ·exact .wTy fun ei _=>iw
   ·exact .wTy fun ei _=>TP
   ·exact .oNo
  ·exact .oNo
 |fieldAddr t x i=>
  refine .wTy fun ti _=>.w1 fun x=>?_
  split
  ·split<;>first|exact NQ|exact .oNo
  ·exact .oNo
 |field t x i=>
  refine .wTy fun ti _=>.w1 fun x=>?_
  split
  ·split
   ·exact .wTy fun fi _=>Xz
   ·exact .oNo
  ·exact .oNo
 |indexAddr t x i=>
  refine .wTy fun ti _=>.w2 fun x y=>?_
  split
  ·exact .wTy fun fi _=>TV
  ·exact .wTy fun fi _=>i9
  ·exact .oNo
 |index t x i=>
  refine .wTy fun ti _=>.w2 fun x y=>?_
  split
  ·exact .wTy fun fi _=>re
  ·exact Xu
  ·exact .oNo
 |lookup t x i ok=>
  refine .wTy fun ti _=>.w2 fun x y=>?_
  split
  ·exact .wTy fun ei _=>.wZ (.wZero fun z=>.wKey fun ks=>TZ)
  ·exact .oNo
 |extract t i=>exact .w1 fun t=>Qz
 |sliceToArrayPointer t x=>
  refine .wTy fun ti _=>?_
  split
  ·exact .w1 fun x=>ic
  ·exact .oNo
 |call c=>
  simp only[kd]at hk;cases hc:c.callee with
  |builtin b=>
   show Kp (match cOs f c.args.toList with
    |some args=>match c.callee with
     |.builtin b=>KA ty b c.argTypes.toList args
     |.value g=>match g with
      |.func g=>AU g args
      |g=>w1 f g fun g=>D7 g args
     |.invoke recv name=>w1 f recv fun x=>Lf (ty.meths name fun k=>k) x args
    |none=>oNo)
   split
   ·rename_i args ha
    simp only[hc];cases b with
    |len=>
     unfold KA;split<;>rename_i h1<;>first|(cases h1;done)|skip
     all_goals (try (exact .oNo))
     split
     ·refine .wTy fun ti _=>?_
      split
      ·exact ae
      ·exact ai
      ·exact aa
      ·exact Mr
      ·exact .oNo
     ·exact .oNo
    |min=>
     unfold KA;split<;>rename_i h1<;>first|(cases h1;done)|exact jE|exact .oNo
    |max=>
     unfold KA;split<;>rename_i h1<;>first|(cases h1;done)|exact jC|exact .oNo
    |_=>
     exfalso
     simp only[hc]at hk;cases hl:c.args.toList with
     |nil=>simp only[hl]at hk;rcases hk with hk|⟨_,hk⟩<;>cases hk
     |cons _ _=>simp only[hl]at hk;rcases hk with hk|⟨_,hk⟩<;>cases hk
   ·exact .oNo
  |_=>
   exfalso
   simp only[hc]at hk;rcases hk with hk|⟨_,hk⟩<;>cases hk
 |_=>first|exact .oNo|(exfalso;rcases hk with hk|⟨_,hk⟩<;>cases hk)
end
end
noncomputable section
open Go
abbrev Rho:=Nat->Option IN
def AEZ(A:List Nat)(σ:Sg)(e:Env):Rho:=fun t=>match PS A σ (.tmp t)with
 |some s=>some (LQ s e)
 |none=>none
def evR(ρ:Rho):yF->Option IN
 |.tmp t=>ρ t
 |.const v=>if Fg v then some v else none
 |.func g=>some (.func (.func g) #[] #[])
 |.global _=>none
theorem EW(A:List Nat)(σ:Sg)(e:Env)(t:Nat):AEZ A σ e t=match Da t σ with
  |some s=>some (LQ s e)
  |none=>match memN t A with
   |true=>none
   |false=>match ye t 160 with
    |true=>some (J t e)
    |false=>none:=by
 show(match PS A σ (.tmp t)with|some s=>some (LQ s e)|none=>none)=_;show(match (match Da t σ with|some s=>some s|none=>match memN t A with|true=>none|false=>match ye t 160 with|true=>some (Src.s t)|false=>none)with|some s=>some (LQ s e)|none=>none)=_;cases Da t σ with
 |some s=>rfl
 |none=>
  cases memN t A with
  |true=>rfl
  |false=>cases ye t 160<;>rfl
theorem cH{A:List Nat}{σ:Sg}{x:yF}{s:Src}(h:PS A σ x=some s)(e:Env):evR (AEZ A σ e) x=some (LQ s e):=by
 cases x with
 |tmp t=>show(match PS A σ (.tmp t)with|some s=>some (LQ s e)|none=>none)=_;rw[h]
 |const v=>
  have h:(match Fg v with|true=>some (Src.c v)|false=>none)=some s:=h;cases hp:Fg v with
  |true=>rw[hp]at h;cases h;show(if Fg v then some v else none)=_;rw[if_pos hp];rfl
  |false=>rw[hp]at h;cases h
 |func g=>cases h;rfl
 |global _=>cases h
theorem oI{f:Fr}{x:yF}{y:O}(h:cO f x=some y):∃ s,PS f.A f.σ x=some s/\y=LQ s:=by
 unfold cO at h;split at h
 ·rename_i s hs;cases h;exact⟨s,hs,rfl⟩
 ·cases h
theorem Fu{A:List Nat}{σ:Sg}{x:yF}{y:O}(h:cO ⟨A,σ⟩ x=some y)(e:Env):evR (AEZ A σ e) x=some (y e):=by
 obtain⟨s,hs,rfl⟩:=oI h;exact cH hs e
theorem My{φ:Phi}{v:IN}(h:Fg v=true):AED φ v v:=by
 unfold Fg at h;split at h
 ·rename_i cs
  exact .agg (l:=cs.toList) (l':=cs.toList) (.plain h)
 ·exact .plain h
structure AFV (A:List Nat)(σ:Sg):Prop where
 mem:∀ p∈σ,memN p.1 A=true
 nodup:(σ.map (·.1)).Nodup
 lt:∀ p∈σ,∀ n,p.2=.s n->n<160
theorem AFV.nil(A:List Nat):AFV A [] where
 mem:=fun p hp=>by cases hp
 nodup:=List.nodup_nil
 lt:=fun p hp=>by cases hp
theorem FO{a b:Nat}(h:xW a b=false):a≠b:=fun e=>by rw[e,zG]at h;cases h
theorem Eh:∀ {σ:Sg} {t:Nat} {s:Src},Da t σ=some s->(t,s)∈σ
 |(d,s')::l,t,s,h=>by
  unfold Da at h;split at h
  ·rename_i hb
   cases h;have:=Ax.1 hb;subst this;exact xT
  ·exact xS _ (Eh h)
theorem FG:∀ {σ:Sg} {t:Nat} {s:Src},(σ.map (·.1)).Nodup->(t,s)∈σ->Da t σ=some s
 |(d,s')::l,t,s,hn,h=>by
  unfold Da;rw[AAs,AAO]at hn;rcases xe.1 h with h|h
  ·cases h
   rw[zG]
  ·have:d≠t:=by
    intro e;subst e;exact hn.1 (yl.2 ⟨_,h,rfl⟩)
   have hb:xW d t=false:=by
    cases hb:xW d t with
    |true=>exact absurd (Ax.1 hb) this
    |false=>rfl
   rw[hb];exact FG hn.2 h
theorem Ef:∀ {σ:Sg} {d:Nat},(Fy d σ).Sublist σ/\∀ p∈Fy d σ,p.2≠.s d
 |[],d=>⟨.slnil,fun p hp=>by cases hp⟩
 |(t,.s n)::l,d=>by
  obtain⟨h1,h2⟩:=Ef (σ:=l) (d:=d);unfold Fy;split
  ·exact⟨h1.cons _,h2⟩
  ·rename_i hb
   refine⟨h1.cons_cons _,fun p hp=>?_⟩;rcases xe.1 hp with rfl|hp
   ·intro e;cases e;exact FO hb rfl
   ·exact h2 p hp
 |(t,.c v)::l,d=>by
  obtain⟨h1,h2⟩:=Ef (σ:=l) (d:=d);unfold Fy;refine⟨h1.cons_cons _,fun p hp=>?_⟩;rcases xe.1 hp with rfl|hp
  ·intro e;cases e
  ·exact h2 p hp
theorem Ge:∀ {σ:Sg} {d:Nat},(Fm d σ).Sublist σ/\∀ p∈Fm d σ,p.1≠d
 |[],d=>⟨.slnil,fun p hp=>by cases hp⟩
 |(t,s)::l,d=>by
  obtain⟨h1,h2⟩:=Ge (σ:=l) (d:=d);unfold Fm;split
  ·exact⟨h1.cons _,h2⟩
  ·rename_i hb
   refine⟨h1.cons_cons _,fun p hp=>?_⟩;rcases xe.1 hp with rfl|hp
   ·exact FO hb
   ·exact h2 p hp
theorem AFV.sub{A:List Nat}{σ σ':Sg}(h:AFV A σ)(hs:σ'.Sublist σ):AFV A σ':=
 ⟨fun p hp=>h.mem p (hs.subset hp),(hs.map (·.1)).nodup h.nodup,fun p hp=>h.lt p (hs.subset hp)⟩
theorem AFV.alias{A:List Nat}{σ:Sg}(h:AFV A σ){d:Nat}(hd:memN d A=true){s:Src}(hs:∀ n,s=.s n->n<160):AFV A ((d,s)::Fm d σ):=by
 have h':=h.sub (Ge (d:=d)).1;refine⟨fun p hp=>?_,?_,fun p hp=>?_⟩
 ·rcases xe.1 hp with rfl|hp
  ·exact hd
  ·exact h'.mem p hp
 rotate_left
 ·rcases xe.1 hp with rfl|hp
  ·exact hs
  ·exact h'.lt p hp
 ·rw[AAs,AAO]
  refine⟨fun hm=>?_,h'.nodup⟩;obtain⟨p,hp,e⟩:=yl.1 hm;exact(Ge (d:=d)).2 p hp e
theorem jn{A:List Nat}{σ:Sg}{e:Env}(hS:AFV A σ){d:Nat}(hd:memN d A=false)(hlt:d<160)(v:IN){t:Nat}{u:IN}
  (h:AEZ A (Fy d σ) (Env.set d v e) t=some u):if t=d then u=v else AEZ A σ e t=some u:=by
 rw[EW]at h;cases hf:Da t (Fy d σ)with
 |some s=>
  simp only[hf]at h;cases h;have hm:=Eh hf;have hm':=Ef.1.subset hm;have hne:=(Ef (σ:=σ) (d:=d)).2 _ hm;have hA:=hS.mem _ hm';have ht:t≠d:=by intro e;subst e;simp only at hA;rw[hd]at hA;cases hA
  rw[if_neg ht,EW,FG hS.nodup hm'];simp only
  congr 1
  cases s with
  |c v=>rfl
  |s n=>
   have hn:n≠d:=fun e=>hne (by rw[e])
   show J n e=J n (Env.set d v e);have h3:n<160:=hS.lt _ hm' n rfl;rw[C8 n h3,C8 n h3,Env.AEQ _ _ _ _ hlt h3,if_neg hn]
 |none=>
  simp only[hf]at h;cases hm:memN t A with
  |true=>simp only[hm]at h;cases h
  |false=>
   simp only[hm]at h;cases hb:ye t 160 with
   |false=>simp only[hb]at h;cases h
   |true=>
    simp only[hb]at h;have h3:=BW.1 hb;cases h;have hg:J t (Env.set d v e)=if t=d then v else e.get t:=by
     rw[C8 t h3,Env.AEQ _ _ _ _ hlt h3]
    rw[hg];split
    ·rfl
    ·have hf2:Da t σ=none:=by
      cases hf2:Da t σ with
      |none=>rfl
      |some s=>
       have:=hS.mem _ (Eh hf2);simp only at this;rw[hm]at this;cases this
     rw[EW];simp only[hf2,hm,hb];rw[C8 t h3]
theorem YJ{A:List Nat}{σ:Sg}{e:Env}(hS:AFV A σ){d:Nat}(hd:memN d A=true)(s:Src){t:Nat}{u:IN}
  (h:AEZ A ((d,s)::Fm d σ) e t=some u):if t=d then u=LQ s e else AEZ A σ e t=some u:=by
 rw[EW]at h;by_cases ht:t=d
 ·rw[if_pos ht]
  subst ht;have:Da t ((t,s)::Fm t σ)=some s:=by unfold Da;rw[zG]
  simp only[this]at h;cases h;rfl
 ·rw[if_neg ht]
  have hb:xW d t=false:=by
   cases hb:xW d t with
   |true=>exact absurd (Ax.1 hb).symm ht
   |false=>rfl
  have h1:Da t ((d,s)::Fm d σ)=Da t (Fm d σ):=by conv=>lhs;unfold Da;rw[hb]
  have h2:Da t (Fm d σ)=Da t σ:=by
   cases hf:Da t (Fm d σ)with
   |some s'=>exact(FG hS.nodup (Ge.1.subset (Eh hf))).symm
   |none=>
    cases hf2:Da t σ with
    |none=>rfl
    |some s'=>
     have hm:=Eh hf2;have:∀ {σ:Sg},(t,s')∈σ->(t,s')∈Fm d σ:=by
      intro σ hm
      induction σ with
      |nil=>cases hm
      |cons p l ih=>
       obtain⟨a,b⟩:=p;unfold Fm;rcases xe.1 hm with h|h
       ·cases h
        have hb2:xW t d=false:=by
         cases hb:xW t d with
         |true=>exact absurd (Ax.1 hb) ht
         |false=>rfl
        rw[hb2];exact xT
       ·split
        ·exact ih h
        ·exact xS _ (ih h)
     have:=FG (hS.sub (Ge (d:=d)).1).nodup (this hm);rw[hf]at this;cases this
  rw[h1,h2]at h;rw[EW];exact h
structure Eff (T:Nat->Prop)(φ:Phi)(h:Hp)(w:yJ)(φ':Phi)(h':Hp)(w':yJ):Prop where
 le:φ.Le φ'
 new:∀ i p,φ' i=some p->φ i=some p\/h.next<=i
 next:h.next<=h'.next
 size:w.heap.size<=w'.heap.size
 tape:w'.tape=w.tape
 os:w'.os=w.os
 output:w'.output=w.output
 frame:∀ k,k<w.heap.size->(∀ i p,φ i=some p->p.inp=false->T i->Live h i->p.blk≠k)->w'.heap[k]? =w.heap[k]?
 back:∀ i p,φ' i=some p->Live h' i->p.blk<w.heap.size->∃ j q,φ j=some q/\Live h j/\q.blk=p.blk/\q.inp=p.inp/\(j=i\/T j)
 kept:∀ i,i<h.next->¬ T i->h'.bl.get i=h.bl.get i
 shape:∀ i,i<h.next->AEW (h.bl.get i) (h'.bl.get i)
 only:∀ i,i<h.next->φ i=none->h'.bl.get i=h.bl.get i
 all:∀ i,h.next<=i->i<h'.next->∃ p,φ' i=some p
theorem Evo.eff{φ ψ:Phi}{h h':Hp}{w w':yJ}(ev:Evo φ h w ψ h' w'):Eff (fun c=>h'.low<=c/\c<=h'.high) φ h w ψ h' w' where
 le:=ev.le
 new:=ev.new
 next:=ev.next
 size:=ev.size
 tape:=ev.tape
 os:=ev.os
 output:=ev.output
 frame:=fun k hk hf=>ev.frame k hk fun i p e hn h1 h2 hl=>hf i p e hn ⟨h1,h2⟩ hl
 back:=ev.back
 kept:=fun i hi ht=>ev.kept i hi (by
  rcases xx i h'.low with h|h
  ·exact .inl h
  ·rcases xx h'.high i with h2|h2
   ·exact .inr h2
   ·exact absurd ⟨h,h2⟩ ht)
 shape:=ev.shape
 only:=ev.only
 all:=ev.all
theorem Eff.AFd{T:Nat->Prop}{φ ψ:Phi}{h h' g g':Hp}{w w':yJ}(ev:Eff T φ h w ψ h' w')(h1:g.bl=h.bl)(h2:g.next=h.next)(h3:g'.bl=h'.bl)(h4:g'.next=h'.next):Eff T φ g w ψ g' w' where
 le:=ev.le
 new:=by rw[h2];exact ev.new
 next:=by rw[h2,h4];exact ev.next
 size:=ev.size
 tape:=ev.tape
 os:=ev.os
 output:=ev.output
 frame:=by unfold Live;rw[h1];exact ev.frame
 back:=by unfold Live;rw[h1,h3];exact ev.back
 kept:=by rw[h1,h2,h3];exact ev.kept
 shape:=by rw[h1,h2,h3];exact ev.shape
 only:=by rw[h1,h2,h3];exact ev.only
 all:=by rw[h2,h4];exact ev.all
theorem Eff.evo{T:Nat->Prop}{φ ψ:Phi}{h h':Hp}{w w':yJ}(ev:Eff T φ h w ψ h' w')(hT:∀ c,T c->h'.low<=c/\c<=h'.high)(hl:h'.low<=h.low)(hh:h.high<=h'.high):Evo φ h w ψ h' w' where
 le:=ev.le
 new:=ev.new
 next:=ev.next
 size:=ev.size
 tape:=ev.tape
 os:=ev.os
 output:=ev.output
 frame:=fun k hk hf=>ev.frame k hk fun i p e hn ht hl=>hf i p e hn (hT i ht).1 (hT i ht).2 hl
 back:=fun i p e hl hp=>by
  obtain⟨j,q,e1,e2,e3,e5,e4⟩:=ev.back i p e hl hp;exact⟨j,q,e1,e2,e3,e5,e4.imp id (hT j)⟩
 kept:=fun i hi ho=>ev.kept i hi fun ht=>by have:=hT i ht;omega
 low:=hl
 high:=hh
 shape:=ev.shape
 only:=ev.only
 all:=ev.all
theorem AEI.AFd{ty:TTy}{φ:Phi}{E:Nat->Prop}{h g:Hp}{w:yJ}(H:AEI ty φ E h w)(h1:g.bl=h.bl)(h2:g.next=h.next):AEI ty φ E g w where
 dom:=by rw[h2];exact H.dom
 inj:=by unfold Live;rw[h1];exact H.inj
 row:=by rw[h1];exact H.row
 fresh:=by rw[h1,h2];exact H.fresh
 kind:=by rw[h1];exact H.kind
 inp:=H.inp
def TouchR(ty:TTy)(ρ:Rho)(E:Nat->Prop)(op:Op):Prop:=match kd ty op with
 |.p=>True
 |.a=>True
 |.r x=>∀ u,evR ρ x=some u->∀ b,AEl u=.ok b->¬ E b
 |.w _=>∀ b,¬ E b
 |.q=>∀ b,¬ E b
theorem Eff.cut{T:Nat->Prop}{φ ψ:Phi}{h h':Hp}{w w':yJ}(ev:Eff T φ h w ψ h' w')(hd:∀ i p,φ i=some p->i<h.next):Eff (fun c=>T c/\c<h.next) φ h w ψ h' w' where
 le:=ev.le
 new:=ev.new
 next:=ev.next
 size:=ev.size
 tape:=ev.tape
 os:=ev.os
 output:=ev.output
 frame:=fun k hk hf=>ev.frame k hk fun i p e hn ht hl=>hf i p e hn ⟨ht,hd i p e⟩ hl
 back:=fun i p e hl hp=>by
  obtain⟨j,q,e1,e2,e3,e5,e4⟩:=ev.back i p e hl hp;exact⟨j,q,e1,e2,e3,e5,e4.imp id fun ht=>⟨ht,hd j q e1⟩⟩
 kept:=fun i hi ho=>ev.kept i hi fun ht=>ho ⟨ht,hi⟩
 shape:=ev.shape
 only:=ev.only
 all:=ev.all
theorem Eff.refl(φ:Phi)(h:Hp)(w:yJ):Eff (fun _=>False) φ h w φ h w where
 le:=.refl φ
 new:=fun _ _ e=>.inl e
 next:=IT _
 size:=IT _
 tape:=rfl
 os:=rfl
 output:=rfl
 frame:=fun _ _ _=>rfl
 back:=fun i p e hl _=>⟨i,p,e,hl,rfl,rfl,.inl rfl⟩
 kept:=fun _ _ _=>rfl
 shape:=fun _ _=>.refl _
 only:=fun _ _ _=>rfl
 all:=fun _ h1 h2=>absurd h2 (ABi.2 h1)
def AIh(ty:TTy)(o:zu)(ah:AEo):Prop:=(kd ty o.op=.p\/∃ x,kd ty o.op=.r x)\/(ah≠.plain/\∀ old x xs,ah≠.chk old x xs)
structure Core (P:yg)(ty:TTy)(o:zu)(ah:AEo)(ρ:Rho)(h h':Hp)(v:IN)(T:Nat->Prop):Prop where
 AGx:∀ (φ:Phi) (E:Nat->Prop) (w:yJ) (a:Act),AEI ty φ E h w->(∀ x∈o.op.operands.toList,∀ u,evR ρ x=some u->AED φ u (a.eval x))->TouchR ty ρ E o.op->
  ∀ (next:Act->yJ->Prop) (Q:Exit->Act->yJ->Prop),(∀ ψ v' w',AED ψ v v'->AEI ty ψ E h' w'->Eff T φ h w ψ h' w'->Evo φ h w ψ h' w'->next (a.put o.dst v') w')->o.wp P a w next Q
 AGj:AIh ty o ah->h'.low<=h.low/\h.high<=h'.high/\(∀ c,T c->h'.low<=c/\c<=h'.high)/\h'.mark=h.mark
 tlt:∀ c,T c->c<h.next
 tp:(kd ty o.op=.p\/∃ x,kd ty o.op=.r x)->(∀ c,¬ T c)/\h'=h
 AER:ah=.quiet .AER->∀ c,¬ T c
 weak:ah=.quiet .weak->∀ c,T c->h.mark<=c
 wr:∀ x xs,ah=.wr x xs->∀ c,T c->∃ u,evR ρ x=some u/\AEl u=.ok c
structure AHV (ah:AEo)(ρ:Rho)(h:Hp):Prop where
 wrx:∀ x xs,ah=.wr x xs->∀ y∈xs,∀ u u' b,evR ρ x=some u->evR ρ y=some u'->AEl u=.ok b->AEl u'≠.ok b
 chk:∀ old x xs,ah=.chk old x xs->∀ y∈xs,∀ u u' b,evR ρ x=some u->evR ρ y=some u'->AEl u=.ok b->AEl u'≠.ok b
 old:∀ x xs,ah=.chk true x xs->∀ u b,evR ρ x=some u->AEl u=.ok b->b<h.mark
 known:∀ x xs,(ah=.wr x xs\/∃ old,ah=.chk old x xs)->(∃ u,evR ρ x=some u)/\∀ y∈xs,∃ u,evR ρ y=some u
structure SF (P:yg)(ty:TTy)(ops:List zu)(o:zu)(ah:AEo)(ρ ρ':Rho)(h h':Hp)(v:IN)(run:Bool)(T:Nat->Prop):Prop where
 slot:∀ t u,ρ' t=some u->if o.dst=some t then u=v else ρ t=some u
 grd:match o.guard with
  |none=>run=true
  |some (g,want)=>∃ og d c,ops[g]? =some og/\og.dst=some d/\ρ d=some c/\((∃ b,c=.bool b/\run=(want == b))\/(∃ l,c=.tuple l/\run=false))
 side:kd ty o.op≠.p->AHV ah ρ h
 core:(run=true/\Core P ty o ah ρ h h' v T)\/(run=false/\v=AEE/\h'=h/\∀ c,¬ T c)
section
variable {P:yg}{ty:TTy}{F:AEB}
theorem MF(hT:Cx P ty)(hF:DJ P ty F){A:List Nat}{σ:Sg}{e:Env}{o:zu}{g g':Hp}{v:IN}(hr:opC ty ⟨A,σ⟩ o.op F e g=.ok v g')(φ:Phi)(E:Nat->Prop)(w:yJ)(a:Act)(H:AEI ty φ E g w)
  (hn:∀ x∈o.op.operands.toList,∀ u,evR (AEZ A σ e) x=some u->AED φ u (a.eval x))(ht:TouchR ty (AEZ A σ e) E o.op):Ee P ty φ E g v g' o a w:=by
 refine rl hT hF H (f:=⟨A,σ⟩) (e:=e) (F:=F) (fun x hx y hy=>hn x hx _ (Fu hy e)) ?_ hr;unfold HF;unfold TouchR at ht;cases hk:kd ty o.op with
 |p=>trivial
 |a=>trivial
 |r x=>rw[hk]at ht;exact fun y hy b hb=>ht _ (Fu hy e) b hb
 |w x=>rw[hk]at ht;exact ht
 |q=>rw[hk]at ht;exact ht
def Js(h:Hp):Hp:={next:=h.next,low:=h.next,high:=0,mark:=h.mark,bl:=h.bl}
theorem MB(hT:Cx P ty)(hF:DJ P ty F){A:List Nat}{σ:Sg}{e:Env}{o:zu}{ah:AEo}(hah:ah=.plain\/∃ old x xs,ah=.chk old x xs){h h':Hp}{v:IN}(hr:opC ty ⟨A,σ⟩ o.op F e h=.ok v h'):∃ T,Core P ty o ah (AEZ A σ e) h h' v T:=by
 have hns:ah≠.quiet .AER:=by rcases hah with rfl|⟨_,_,_,rfl⟩<;>exact fun h=>by cases h
 have hnw:ah≠.quiet .weak:=by rcases hah with rfl|⟨_,_,_,rfl⟩<;>exact fun h=>by cases h
 have hnr:∀ x xs,ah≠.wr x xs:=by rcases hah with rfl|⟨_,_,_,rfl⟩<;>exact fun _ _ h=>by cases h
 have hnm:¬ (ah≠.plain/\∀ old x xs,ah≠.chk old x xs):=by
  rcases hah with rfl|⟨_,_,_,rfl⟩
  ·exact fun h=>h.1 rfl
  ·exact fun h=>h.2 _ _ _ rfl
 by_cases hk:kd ty o.op=.p\/∃ x,kd ty o.op=.r x
 ·have K:=rk (ty:=ty) (f:=⟨A,σ⟩) hk F e
  have hh:=K.same hr;have hr2:=K.at hr (Js h) rfl;subst hh;refine⟨fun _=>False,{AGx:=fun φ E w a H hn ht next Q hnx=>?_,AGj:=fun _=>⟨IT _,IT _,fun _ h=>h.elim,rfl⟩,tlt:=fun _ h=>h.elim,tp:=fun _=>⟨fun _ h=>h,rfl⟩,AER:=fun h=>absurd h hns,weak:=fun h=>absurd h hnw,wr:=fun _ _ h=>absurd h (hnr _ _)}⟩;have key:∀ ψ v' w',AED ψ v v'->AEI ty ψ E (Js h') w'->Evo φ (Js h') w ψ (Js h') w'->Eff (fun _=>False) φ h' w ψ h' w':=?_
  ·exact MF hT hF hr2 φ E w a (H.AFd rfl rfl) hn ht next Q fun ψ v' w' hv H' ev=>hnx ψ v' w' hv (H'.AFd rfl rfl) (key ψ v' w' hv H' ev) ((key ψ v' w' hv H' ev).evo (fun _ h=>h.elim) (IT _) (IT _))
  intro ψ v' w' hv H' ev;have e1:Eff (fun c=>h'.next<=c/\c<=0) φ h' w ψ h' w':=ev.eff.AFd rfl rfl rfl rfl;have hd:∀ i p,φ i=some p->i<h'.next:=fun i p e=>(H.dom i p e).1
  have e2:=e1.cut hd;exact {e2 with
   frame:=fun k hk hf=>e2.frame k hk fun i p e hn ht=>by omega
   back:=fun i p e hl hp=>by
    obtain⟨j,q,e1,e2,e3,e5,e4⟩:=e2.back i p e hl hp;exact⟨j,q,e1,e2,e3,e5,e4.imp id fun ht=>by omega⟩
   kept:=fun i hi _=>e2.kept i hi fun ht=>by omega}
 ·refine⟨fun c=>(h'.low<=c/\c<=h'.high)/\c<h.next,{AGx:=fun φ E w a H hn ht next Q hnx=>?_,AGj:=fun h=>absurd h (fun h=>h.elim hk hnm),tlt:=fun _ h=>h.2,tp:=fun h=>absurd h hk,AER:=fun h=>absurd h hns,weak:=fun h=>absurd h hnw,wr:=fun _ _ h=>absurd h (hnr _ _)}⟩
  exact MF hT hF hr φ E w a H hn ht next Q fun ψ v' w' hv H' ev=>hnx ψ v' w' hv H' (ev.eff.cut fun i p e=>(H.dom i p e).1) ev
theorem JD(hT:Cx P ty)(hF:DJ P ty F){A:List Nat}{σ:Sg}{e:Env}{o:zu}{ah:AEo}{h h' g':Hp}{v:IN}(hr:opC ty ⟨A,σ⟩ o.op F e (Js h)=.ok v g')
  (h1:h'.bl=g'.bl)(h2:h'.next=g'.next)(h3:h'.low=min h.low g'.low)(h4:h'.high=max h.high g'.high)(h5:h'.mark=h.mark)
  (hs:ah=.quiet .AER->h.next<=g'.low)(hw:ah=.quiet .weak->h.mark<=g'.low)
  (hx:∀ x xs,ah=.wr x xs->∀ c,g'.low<=c->c<=g'.high->c<h.next->∃ u,evR (AEZ A σ e) x=some u/\AEl u=.ok c)(hnk:¬ (kd ty o.op=.p\/∃ x,kd ty o.op=.r x)):∃ T,Core P ty o ah (AEZ A σ e) h h' v T:=by
 refine⟨fun c=>(g'.low<=c/\c<=g'.high)/\c<h.next,{AGx:=fun φ E w a H hn ht next Q hnx=>?_,AGj:=fun _=>⟨by omega,by omega,fun c h=>by omega,h5⟩,tlt:=fun _ h=>h.2,tp:=fun h=>absurd h hnk,AER:=fun h c hc=>?_,weak:=fun h c hc=>?_,wr:=fun x xs h c hc=>hx x xs h c hc.1.1 hc.1.2 hc.2}⟩
 ·refine MF hT hF hr φ E w a (H.AFd rfl rfl) hn ht next Q fun ψ v' w' hv H' ev=>?_
  have e1:Eff (fun c=>g'.low<=c/\c<=g'.high) φ h w ψ h' w':=ev.eff.AFd rfl rfl h1 h2;exact hnx ψ v' w' hv (H'.AFd h1 h2) (e1.cut fun i p e=>(H.dom i p e).1) (e1.evo (fun c h=>by omega) (by omega) (by omega))
 ·have:=hs h;omega
 ·have:=hw h;omega
end
end
noncomputable section
open Go
section
variable {P:yg}{ty:TTy}{F:AEB}
structure AGk (ty:TTy)(o:zu)(ah:AEo):Prop where
 quiet:∀ m,ah=.quiet m->¬ (kd ty o.op=.p\/∃ x,kd ty o.op=.r x)
 wr:∀ x xs,ah=.wr x xs->kd ty o.op=.w x
 chk:∀ old x xs,ah=.chk old x xs->kd ty o.op=.r x
theorem AGk.plain(ty:TTy)(o:zu):AGk ty o .plain:=⟨(fun _ h=>by cases h),(fun _ _ h=>by cases h),(fun _ _ _ h=>by cases h)⟩
theorem KB{b:Nat}{e:Env}:∀ {rs:List (Env->IN)},DA b e rs=true->∀ g∈rs,AEl (g e)≠.ok b
 |[],_,g,hg=>by cases hg
 |x::l,h,g,hg=>by
  unfold DA at h;cases hb:AEl (x e)with
  |no=>
   rw[hb]at h;rcases xe.1 hg with rfl|hg
   ·rw[hb];exact fun h=>by cases h
   ·exact KB h g hg
  |ok a=>
   rw[hb]at h;simp only at h;cases hq:xW a b with
   |true=>rw[hq]at h;cases h
   |false=>
    rw[hq]at h;rcases xe.1 hg with rfl|hg
    ·rw[hb];exact fun h=>by cases h;exact FO hq rfl
    ·exact KB h g hg
theorem UM{w:Env->IN}{rs:List (Env->IN)}{k:C}{e:Env}{h:Hp}{X:X}(hr:Cf w rs k F e h=X)(hn:X≠.no):k F e h=X/\∀ b,AEl (w e)=.ok b->∀ g∈rs,AEl (g e)≠.ok b:=by
 unfold Cf at hr;cases hb:AEl (w e)with
 |no=>rw[hb]at hr;exact⟨hr,fun b h=>by cases h⟩
 |ok b=>
  rw[hb]at hr;simp only at hr;cases hc:DA b e rs with
  |false=>rw[hc]at hr;exact absurd hr.symm hn
  |true=>rw[hc]at hr;exact⟨hr,fun b' h=>by cases h;exact KB hc⟩
theorem eF{x:O}{k:C}{e:Env}{h:Hp}{X:X}(hr:EJ x k F e h=X)(hn:X≠.no):k F e h=X/\∀ b,AEl (x e)=.ok b->b<h.mark:=by
 unfold EJ at hr;cases hb:AEl (x e)with
 |no=>rw[hb]at hr;exact⟨hr,fun b h=>by cases h⟩
 |ok b=>
  rw[hb]at hr;simp only at hr;cases hc:ye b h.mark with
  |false=>rw[hc]at hr;exact absurd hr.symm hn
  |true=>rw[hc]at hr;exact⟨hr,fun b' h=>by cases h;exact BW.1 hc⟩
theorem I6{f:Fr}:∀ {l:List yF} {ys:List O},cOs f l=some ys->∀ x∈l,∃ y,cO f x=some y/\y∈ys
 |[],ys,h,x,hx=>by cases hx
 |z::l,ys,h,x,hx=>by
  unfold cOs at h;split at h
  ·rename_i y hy
   split at h
   ·rename_i r hr
    cases h;rcases xe.1 hx with rfl|hx
    ·exact⟨y,hy,xT⟩
    ·obtain⟨y',h1,h2⟩:=I6 hr x hx
     exact⟨y',h1,xS _ h2⟩
   ·cases h
  ·cases h
theorem Pp{h g' h':Hp}{v u:IN}(hr:Dd h v g'=.ok u h'):u=v/\h'.bl=g'.bl/\h'.next=g'.next/\h'.low=min h.low g'.low/\h'.high=max h.high g'.high/\h'.mark=h.mark:=by
 unfold Dd at hr;rw[Ao,Ao,BV,B4]at hr;cases hr;exact⟨rfl,rfl,rfl,rfl,rfl,rfl⟩
theorem AHV.none{ah:AEo}{ρ:Rho}{h:Hp}(h1:∀ x xs,ah≠.wr x xs)(h2:∀ old x xs,ah≠.chk old x xs):AHV ah ρ h where
 wrx:=fun x xs e=>absurd e (h1 x xs)
 chk:=fun old x xs e=>absurd e (h2 old x xs)
 old:=fun x xs e=>absurd e (h2 true x xs)
 known:=fun x xs e=>by
  rcases e with e|⟨old,e⟩
  ·exact absurd e (h1 x xs)
  ·exact absurd e (h2 old x xs)
theorem Lq(hT:Cx P ty)(hF:DJ P ty F){A:List Nat}{σ:Sg}{e:Env}{h:Hp}{o:zu}{ah:AEo}(hA:AGk ty o ah){kc:OpF->C}{X:X}(hr:HG ⟨A,σ⟩ ah (opC ty ⟨A,σ⟩ o.op) kc F e h=X)(hn:X≠.no):
  ∃ p,kc p F e h=X/\(∀ v h',p F e h=.ok v h'->∃ T,Core P ty o ah (AEZ A σ e) h h' v T)/\AHV ah (AEZ A σ e) h:=by
 cases ah with
 |plain=>exact⟨_,hr,fun v h' hp=>MB hT hF (.inl rfl) hp,.none (fun _ _ h=>by cases h) (fun _ _ _ h=>by cases h)⟩
 |quiet m=>
  refine⟨_,hr,fun v h' hp=>?_,.none (fun _ _ h=>by cases h) (fun _ _ _ h=>by cases h)⟩;have hk:=hA.quiet m rfl;unfold Ad at hp;have hp:(match opC ty ⟨A,σ⟩ o.op F e (Js h)with|.ok v h'=>bif qOk m h h'.low then Dd h v h' else .no|.no=>.no)=.ok v h':=hp;cases hq:opC ty ⟨A,σ⟩ o.op F e (Js h)with
  |no=>rw[hq]at hp;cases hp
  |ok u g'=>
   rw[hq]at hp;obtain⟨hc,hp⟩:=Br hp;obtain⟨rfl,h1,h2,h3,h4,h5⟩:=Pp hp;refine JD hT hF hq h1 h2 h3 h4 h5 (fun e=>?_) (fun e=>?_) (fun _ _ e=>by cases e) hk
   ·cases e;exact Au.1 hc
   ·cases e;exact Au.1 hc
 |wr x xs=>
  have hk:=hA.wr x xs rfl;unfold HG at hr;simp only at hr;cases h1:cO ⟨A,σ⟩ x with
  |none=>simp only[h1]at hr;exact absurd hr.symm hn
  |some x'=>
   cases h2:cOs ⟨A,σ⟩ xs with
   |none=>simp only[h1,h2]at hr;exact absurd hr.symm hn
   |some xs'=>
    simp only[h1,h2]at hr;obtain⟨hr,hap⟩:=UM hr hn;refine⟨_,hr,fun v h' hp=>?_,?_⟩
    ·unfold Jc at hp
     have hp:(match opC ty ⟨A,σ⟩ o.op F e (Js h)with|.ok v h'=>bif IZ (AEl (x' e)) h h'.low h'.high then Dd h v h' else .no|.no=>.no)=.ok v h':=hp;cases hq:opC ty ⟨A,σ⟩ o.op F e (Js h)with
     |no=>rw[hq]at hp;cases hp
     |ok u g'=>
      rw[hq]at hp;obtain⟨hc,hp⟩:=Br hp;obtain⟨rfl,q1,q2,q3,q4,q5⟩:=Pp hp;refine JD hT hF hq q1 q2 q3 q4 q5 (fun e=>by cases e) (fun e=>by cases e) (fun y ys he c c1 c2 c3=>?_) (by rw[hk];rintro (h|⟨_,h⟩)<;>cases h);cases he;refine⟨x' e,Fu h1 e,?_⟩;unfold IZ at hc;cases hb:AEl (x' e)with
      |no=>rw[hb]at hc;have hc:=Au.1 hc;omega
      |ok b=>
       rw[hb]at hc;simp only at hc;cases hb1:xU b g'.low with
       |false=>rw[hb1]at hc;cases hc
       |true=>
        rw[hb1]at hc;have c4:=Au.1 hb1;have c5:=Au.1 hc
        congr 1;omega
    ·refine {wrx:=fun y ys he z hz u u' b hu hu' hb=>?_,chk:=fun _ _ _ h=>(by cases h),old:=fun _ _ h=>(by cases h),known:=fun y ys he=>?_}
     ·cases he
      obtain⟨z',hz1,hz2⟩:=I6 h2 z hz;rw[Fu h1 e]at hu;cases hu;rw[Fu hz1 e]at hu';cases hu';exact hap b hb z' hz2
     ·rcases he with he|⟨_,he⟩
      ·cases he
       exact⟨⟨_,Fu h1 e⟩,fun z hz=>by obtain⟨z',hz1,_⟩:=I6 h2 z hz;exact⟨_,Fu hz1 e⟩⟩
      ·cases he
 |chk old x xs=>
  unfold HG at hr;simp only at hr;cases h1:cO ⟨A,σ⟩ x with
  |none=>simp only[h1]at hr;exact absurd hr.symm hn
  |some x'=>
   cases h2:cOs ⟨A,σ⟩ xs with
   |none=>simp only[h1,h2]at hr;exact absurd hr.symm hn
   |some xs'=>
    simp only[h1,h2]at hr;have hold:Cf x' xs' (kc (opC ty ⟨A,σ⟩ o.op)) F e h=X/\(old=true->∀ b,AEl (x' e)=.ok b->b<h.mark):=by
     cases old with
     |true=>obtain⟨q1,q2⟩:=eF hr hn;exact⟨q1,fun _=>q2⟩
     |false=>exact⟨hr,fun h=>by cases h⟩
    obtain⟨hr,hap⟩:=UM hold.1 hn;refine⟨_,hr,fun v h' hp=>MB hT hF (.inr ⟨_,_,_,rfl⟩) hp,?_⟩;refine {wrx:=fun _ _ h=>(by cases h),chk:=fun _ y ys he z hz u u' b hu hu' hb=>?_,old:=fun y ys he u b hu hb=>?_,known:=fun y ys he=>?_}
    ·cases he
     obtain⟨z',hz1,hz2⟩:=I6 h2 z hz;rw[Fu h1 e]at hu;cases hu;rw[Fu hz1 e]at hu';cases hu';exact hap b hb z' hz2
    ·cases he
     rw[Fu h1 e]at hu;cases hu;exact hold.2 rfl b hb
    ·rcases he with he|⟨_,he⟩
     ·cases he
     ·cases he
      exact⟨⟨_,Fu h1 e⟩,fun z hz=>by obtain⟨z',hz1,_⟩:=I6 h2 z hz;exact⟨_,Fu hz1 e⟩⟩
structure Tr (P:yg)(ty:TTy)(all:List zu)(ahs:List AEo)(l:List zu)(ρ:Nat->Rho)(H:Nat->Hp)(V:Nat->IN)(run:Nat->Bool)(T:Nat->Nat->Prop):Prop where
 sf:∀ j o,l[j]? =some o->SF P ty all o (ahs.getD j .plain) (ρ j) (ρ (j+1)) (H j) (H (j+1)) (V j) (run j) (T j)
def Px{α:Type}(x:α)(f:Nat->α):Nat->α
 |0=>x
 |j+1=>f j
theorem Tr.cons{all:List zu}{ahs:List AEo}{o:zu}{l:List zu}{ρ:Nat->Rho}{H:Nat->Hp}{V:Nat->IN}{run:Nat->Bool}{T:Nat->Nat->Prop}(t:Tr P ty all ahs.tail l ρ H V run T)
  {ρ0:Rho}{h0:Hp}{v0:IN}{r0:Bool}{T0:Nat->Prop}(s:SF P ty all o (ahs.headD .plain) ρ0 (ρ 0) h0 (H 0) v0 r0 T0):Tr P ty all ahs (o::l) (Px ρ0 ρ) (Px h0 H) (Px v0 V) (Px r0 run) (Px T0 T) where
 sf:=fun j o' hj=>by
  cases j with
  |zero=>
   cases hj;have:ahs.getD 0 .plain=ahs.headD .plain:=by cases ahs<;>rfl
   rw[this];exact s
  |succ j=>
   have:ahs.getD (j+1) .plain=ahs.tail.getD j .plain:=by cases ahs<;>rfl
   rw[this];exact t.sf j o' hj
theorem NA{A:List Nat}{σ:Sg}{e:Env}(hS:AFV A σ){d:Nat}(hd:memN d A=false)(hlt:d<160)(v:IN){o:zu}(ho:o.dst=some d)(t:Nat)(u:IN)
  (h:AEZ A (Fy d σ) (Env.set d v e) t=some u):if o.dst=some t then u=v else AEZ A σ e t=some u:=by
 have:=jn hS hd hlt v h;rw[ho];by_cases ht:t=d
 ·rw[if_pos ht]at this;rw[if_pos (by rw[ht])];exact this
 ·rw[if_neg ht]at this;rw[if_neg (fun e=>ht (Option.some.inj e).symm)];exact this
theorem PK(hT:Cx P ty)(hF:DJ P ty F){A:List Nat}{all:List zu}{k:Sg->C}:∀ (l:List zu) (ahs:List AEo) (σ:Sg) (e:Env) (h:Hp) (X:X),(∀ j o,l[j]? =some o->AGk ty o (ahs.getD j .plain))->AFV A σ->
  Gr ty A all k ahs l σ F e h=X->X≠.no->
  ∃ (ρ:Nat->Rho) (H:Nat->Hp) (V:Nat->IN) (run:Nat->Bool) (T:Nat->Nat->Prop) (σ':Sg) (e':Env),Tr P ty all ahs l ρ H V run T/\ρ 0=AEZ A σ e/\H 0=h/\ρ l.length=AEZ A σ' e'/\AFV A σ'/\k σ' F e' (H l.length)=X
 |[],ahs,σ,e,h,X,_,hS,hr,_=>by
  refine⟨fun _=>AEZ A σ e,fun _=>h,fun _=>AEE,fun _=>true,fun _ _=>False,σ,e,⟨fun j o hj=>by cases hj⟩,rfl,rfl,rfl,hS,?_⟩;unfold Gr at hr;exact hr
 |o::l,ahs,σ,e,h,X,hA,hS,hr,hn=>by
  have hA0:AGk ty o (ahs.headD .plain):=by
   have:=hA 0 o rfl;cases ahs<;>exact this
  have hA1:∀ j o',l[j]? =some o'->AGk ty o' (ahs.tail.getD j .plain):=fun j o' hj=>by
   have:=hA (j+1) o' hj;cases ahs<;>exact this
  have fin:∀ {σ1:Sg} {e1:Env} {h1:Hp} {v:IN} {r:Bool} {T0:Nat->Prop},AFV A σ1->Gr ty A all k ahs.tail l σ1 F e1 h1=X->
    SF P ty all o (ahs.headD .plain) (AEZ A σ e) (AEZ A σ1 e1) h h1 v r T0->
    ∃ (ρ:Nat->Rho) (H:Nat->Hp) (V:Nat->IN) (run:Nat->Bool) (T:Nat->Nat->Prop) (σ':Sg) (e':Env),Tr P ty all ahs (o::l) ρ H V run T/\ρ 0=AEZ A σ e/\H 0=h/\ρ (o::l).length=AEZ A σ' e'/\AFV A σ'/\k σ' F e' (H (o::l).length)=X:=by
   intro σ1 e1 h1 v r T0 hS1 hr1 sf;obtain⟨ρ,H,V,run,T,σ',e',t,q1,q2,q3,q4,q5⟩:=PK hT hF l ahs.tail σ1 e1 h1 X hA1 hS1 hr1 hn;exact⟨_,_,_,_,_,σ',e',t.cons (by rw[q1,q2];exact sf),rfl,rfl,q3,q4,q5⟩
  unfold Gr at hr;cases hg:o.guard with
  |none=>
   cases hd:o.dst with
   |none=>
    simp only[hg,hd]at hr;obtain⟨p,hp,AFq,AFy⟩:=Lq hT hF hA0 hr hn;unfold cDo at hp;cases hq:p F e h with
    |no=>rw[hq]at hp;exact absurd hp.symm hn
    |ok v h1=>
     rw[hq]at hp;obtain⟨T0,core⟩:=AFq v h1 hq;exact fin hS hp {slot:=fun t u ht=>(by rw[hd,if_neg (by intro h;cases h)];exact ht),grd:=(by rw[hg]),side:=fun _=>AFy,core:=.inl ⟨rfl,core⟩}
   |some d=>
    simp only[hg,hd]at hr;cases hm:memN d A with
    |true=>
     simp only[hm]at hr;cases hop:o.op with
     |move x=>
      simp only[hop]at hr;cases hs:PS A σ x with
      |none=>simp only[hs]at hr;exact absurd hr.symm hn
      |some s=>
       simp only[hs]at hr;have hlt:∀ n,s=.s n->n<160:=by
        intro n hn;subst hn;cases x with
        |tmp t=>
         have hs:(match Da t σ with|some s=>some s|none=>match memN t A with|true=>none|false=>match ye t 160 with|true=>some (Src.s t)|false=>none)=some (.s n):=hs;cases hf:Da t σ with
         |some s'=>
          rw[hf]at hs;cases hs;exact hS.lt _ (Eh hf) n rfl
         |none=>
          rw[hf]at hs;simp only at hs;cases hm2:memN t A with
          |true=>rw[hm2]at hs;cases hs
          |false=>
           rw[hm2]at hs;simp only at hs;cases hb:ye t 160 with
           |false=>rw[hb]at hs;cases hs
           |true=>rw[hb]at hs;cases hs;exact BW.1 hb
        |const v=>
         have hs:(match Fg v with|true=>some (Src.c v)|false=>none)=some (.s n):=hs;cases hp:Fg v<;>rw[hp]at hs<;>cases hs
        |func g=>cases hs
        |global g=>cases hs
       have hkp:kd ty o.op=.p:=by rw[hop];rfl
       refine fin (hS.alias hm hlt) hr (v:=LQ s e) (r:=true) (T0:=fun _=>False) {slot:=fun t u ht=>?_,grd:=(by rw[hg]),side:=fun h=>absurd hkp h,core:=.inl ⟨rfl,?_⟩}
       ·have:=YJ hS hm s ht
        rw[hd];by_cases htd:t=d
        ·rw[if_pos htd]at this;rw[if_pos (by rw[htd])];exact this
        ·rw[if_neg htd]at this;rw[if_neg (fun e=>htd (Option.some.inj e).symm)];exact this
       ·refine {AGx:=fun φ E w a H hn ht next Q hnx=>?_,AGj:=fun _=>⟨IT _,IT _,fun _ h=>h.elim,rfl⟩,tlt:=fun _ h=>h.elim,tp:=fun _=>⟨fun _ h=>h,rfl⟩,AER:=fun _ _ h=>h,weak:=fun _ _ h=>h.elim,wr:=fun _ _ _ _ h=>h.elim}
        have hv:=hn x (by rw[hop];simp[xh]) _ (cH hs e);have hx:execOp a.eval o=(do pure (.value (<- (pure (a.eval x):Sem IN)))):=by unfold execOp;rw[hop];rfl
        unfold Oper.wp;rw[hx,xO,xQ,If,xQ,Oper.upon_value];exact hnx φ _ w hv H (.refl _ _ _) (.refl _ _ _)
     |_=>simp only[hop]at hr;exact absurd hr.symm hn
    |false=>
     simp only[hm]at hr;cases hb:ye d 160 with
     |false=>simp only[hb]at hr;exact absurd hr.symm hn
     |true=>
      simp only[hb]at hr;have hlt:=BW.1 hb;obtain⟨p,hp,AFq,AFy⟩:=Lq hT hF hA0 hr hn;unfold SR at hp;cases hq:p F e h with
      |no=>rw[hq]at hp;exact absurd hp.symm hn
      |ok v h1=>
       rw[hq]at hp;simp only at hp;rw[Dy d hlt]at hp;obtain⟨T0,core⟩:=AFq v h1 hq;exact fin (hS.sub Ef.1) hp {slot:=NA hS hm hlt v hd,grd:=(by rw[hg]),side:=fun _=>AFy,core:=.inl ⟨rfl,core⟩}
  |some gw=>
   obtain⟨g,want⟩:=gw;cases hd:o.dst with
   |none=>simp only[hg,hd]at hr;exact absurd hr.symm hn
   |some d=>
    simp only[hg,hd]at hr;cases hm:memN d A with
    |true=>simp only[hm]at hr;exact absurd hr.symm hn
    |false=>
     simp only[hm]at hr;rw[Fc]at hr;cases hog:all[g]? with
     |none=>rw[hog]at hr;exact absurd hr.symm hn
     |some og=>
      rw[hog]at hr;simp only at hr;cases hgd:og.dst with
      |none=>simp only[hgd]at hr;exact absurd hr.symm hn
      |some dg=>
       simp only[hgd]at hr;cases hcg:cO ⟨A,σ⟩ (.tmp dg)with
       |none=>simp only[hcg]at hr;exact absurd hr.symm hn
       |some gg=>
        simp only[hcg]at hr;cases hb:ye d 160 with
        |false=>simp only[hb]at hr;exact absurd hr.symm hn
        |true=>
         simp only[hb]at hr;have hlt:=BW.1 hb;obtain⟨p,hp,AFq,AFy⟩:=Lq hT hF hA0 hr hn;have hρ:AEZ A σ e dg=some (gg e):=Fu hcg e;unfold cG at hp;have AF8:FD d (fun e=>Gr ty A all k ahs.tail l (Fy d σ) F e h) AEE e=X->(∀ r:Bool,r=false->(match o.guard with
            |none=>r=true
            |some (g,want)=>∃ og d c,all[g]? =some og/\og.dst=some d/\AEZ A σ e d=some c/\((∃ b,c=.bool b/\r=(want == b))\/(∃ l,c=.tuple l/\r=false))))->
           ∃ (ρ:Nat->Rho) (H:Nat->Hp) (V:Nat->IN) (run:Nat->Bool) (T:Nat->Nat->Prop) (σ':Sg) (e':Env),Tr P ty all ahs (o::l) ρ H V run T/\ρ 0=AEZ A σ e/\H 0=h/\ρ (o::l).length=AEZ A σ' e'/\AFV A σ'/\k σ' F e' (H (o::l).length)=X:=by
          intro hp AJZ;rw[Dy d hlt]at hp;exact fin (hS.sub Ef.1) hp (v:=AEE) (r:=false) (T0:=fun _=>False) {slot:=NA hS hm hlt AEE hd,grd:=AJZ false rfl,side:=fun _=>AFy,core:=.inr ⟨rfl,rfl,rfl,fun _ h=>h⟩}
         split at hp
         ·rename_i b hgb
          cases hwb:want == b with
          |true=>
           rw[hwb]at hp;simp only[cond_true]at hp;unfold SR at hp;cases hq:p F e h with
           |no=>rw[hq]at hp;exact absurd hp.symm hn
           |ok v h1=>
            rw[hq]at hp;simp only at hp;rw[Dy d hlt]at hp;obtain⟨T0,core⟩:=AFq v h1 hq;exact fin (hS.sub Ef.1) hp (r:=true) {slot:=NA hS hm hlt v hd,grd:=(by rw[hg];exact⟨og,dg,_,hog,hgd,hρ,.inl ⟨b,hgb,hwb.symm⟩⟩),side:=fun _=>AFy,core:=.inl ⟨rfl,core⟩}
          |false=>
           rw[hwb]at hp;exact AF8 hp fun r hr=>by rw[hg];exact⟨og,dg,_,hog,hgd,hρ,.inl ⟨b,hgb,by rw[hr,hwb]⟩⟩
         ·rename_i ls hgb
          exact AF8 hp fun r hr=>by rw[hg];exact⟨og,dg,_,hog,hgd,hρ,.inr ⟨ls,hgb,hr⟩⟩
         ·exact absurd hp.symm hn
end
end
noncomputable section
open Go
abbrev nil:Nat->Prop:=fun _=>False
structure AR (N:Nat)(φ:Phi)(ρ:Rho)(a:Act):Prop where
 size:a.tmps.size=N
 defs:a.defers=[]
 rel:∀ t u,ρ t=some u->AED φ u (a.tmps.getD t undef)
theorem AR.ev{N:Nat}{φ:Phi}{ρ:Rho}{a:Act}(h:AR N φ ρ a){x:yF}{u:IN}(hu:evR ρ x=some u):AED φ u (a.eval x):=by
 cases x with
 |tmp t=>exact h.rel t u hu
 |const v=>
  have hu:(if Fg v then some v else none)=some u:=hu;split at hu
  ·rename_i hp;cases hu;exact My hp
  ·cases hu
 |func g=>cases hu;exact .func _ .nil .nil
 |global g=>cases hu
theorem Hl(a:Act)(d:Option Nat)(v:IN)(t:Nat):(a.put d v).tmps.getD t undef=if d=some t/\t<a.tmps.size then v else a.tmps.getD t undef:=by
 cases d with
 |none=>rw[if_neg (fun h=>by cases h.1)];rfl
 |some d=>
  show(a.tmps.setIfInBounds d v).getD t undef=_;rw[yU,Array.getElem?_setIfInBounds,yU];by_cases h:d=t
  ·subst h
   rw[if_pos rfl];by_cases h2:d<a.tmps.size
   ·rw[if_pos h2,if_pos ⟨rfl,h2⟩];rfl
   ·rw[if_neg h2,if_neg (fun h=>h2 h.2),Array.getElem?_eq_none (by omega)]
  ·rw[if_neg h,if_neg (fun h2=>h (Option.some.inj h2.1))]
theorem Fh(a:Act)(d:Option Nat)(v:IN):(a.put d v).tmps.size=a.tmps.size:=by
 cases d with
 |none=>rfl
 |some d=>show(a.tmps.setIfInBounds d v).size=_;simp
theorem GY(a:Act)(d:Option Nat)(v:IN):(a.put d v).defers=a.defers:=by cases d<;>rfl
theorem AR.put{N:Nat}{φ ψ:Phi}{ρ ρ':Rho}{a:Act}(h:AR N φ ρ a)(hle:φ.Le ψ){d:Option Nat}(hd:∀ t,d=some t->t<N){v v':IN}(hv:AED ψ v v')
  (hs:∀ t u,ρ' t=some u->if d=some t then u=v else ρ t=some u):AR N ψ ρ' (a.put d v') where
 size:=by rw[Fh];exact h.size
 defs:=by rw[GY];exact h.defs
 rel:=fun t u hu=>by
  have:=hs t u hu;rw[Hl];by_cases ht:d=some t
  ·rw[if_pos ht]at this
   rw[if_pos ⟨ht,by rw[h.size];exact hd t ht⟩,this];exact hv
  ·rw[if_neg ht]at this
   rw[if_neg (fun h=>ht h.1)];exact(h.rel t u this).mono hle
theorem OR{P:yg}{ty:TTy}{all:List zu}{o:zu}{ah:AEo}{ρ ρ':Rho}{h h':Hp}{v:IN}{run:Bool}{T:Nat->Prop}(s:SF P ty all o ah ρ ρ' h h' v run T){a:Act}{φ:Phi}
  (hr:∀ g want og d u,o.guard=some (g,want)->all[g]? =some og->og.dst=some d->ρ d=some u->AED φ u (a.tmps.getD d undef)):ABI o (yielded all.toArray a.tmps)=run:=by
 have hg:=s.grd;unfold ABI;cases hgd:o.guard with
 |none=>rw[hgd]at hg;exact hg.symm
 |some gw=>
  obtain⟨g,want⟩:=gw;rw[hgd]at hg;obtain⟨og,d,c,h1,h2,h3,h4⟩:=hg;have AEj:=hr g want og d c hgd h1 h2 h3;simp only;have hy:yielded all.toArray a.tmps g=match a.tmps[d]? with|some (.bool b)=>some b|_=>none:=by
   unfold yielded;have:(all.toArray[g]?).bind (·.dst)=some d:=by rw[List.getElem?_toArray,h1];exact h2
   rw[this];rfl
  rw[yU]at AEj;rcases h4 with ⟨b,rfl,hrun⟩|⟨ls,rfl,hrun⟩
  ·have hb:=AEj.AE4
   cases hq:a.tmps[d]? with
   |none=>rw[hq]at hb;cases hb
   |some x=>
    rw[hq]at hb;have hb:x=.bool b:=hb;rw[hy,hq,hb,hrun];cases b<;>cases want<;>rfl
  ·rw[hrun,hy]
   cases hq:a.tmps[d]? with
   |none=>rfl
   |some x=>
    rw[hq]at AEj;have AEj:AED φ (.tuple ls) x:=AEj;cases AEj;rfl
structure Txt (P:yg)(ty:TTy)(N:Nat)(φ0:Phi)(ρ:Nat->Rho)(H:Nat->Hp)(V:Nat->IN)(T:Nat->Nat->Prop)(n:Nat):Prop where
 next:∀ j,j<n->(H j).next<=(H (j+1)).next
 shape:∀ j,j<n->∀ i,i<(H j).next->AEW ((H j).bl.get i) ((H (j+1)).bl.get i)
 kept:∀ j,j<n->∀ i,i<(H j).next->¬ T j i->(H (j+1)).bl.get i=(H j).bl.get i
 fresh:∀ j,j<=n->∀ i,(H j).next<=i->(H j).bl.get i=.dead
 AHW:∀ j,j<=n->∃ (ψ:Phi) (w:yJ) (a:Act),AEI ty ψ nil (H j) w/\AR N ψ (ρ j) a/\φ0.Le ψ/\∀ i,(H 0).next<=i->i<(H j).next->∃ p,ψ i=some p
section
variable {P:yg}{ty:TTy}
theorem PY{N:Nat}{all:List zu}{Q:Exit->Act->yJ->Prop}:∀ (l:List zu) {ahs:List AEo} {ρ:Nat->Rho} {H:Nat->Hp} {V:Nat->IN} {run:Nat->Bool} {T:Nat->Nat->Prop} {a:Act} {w:yJ} {φ:Phi},
  Tr P ty all ahs l ρ H V run T->(∀ o∈l,∀ d,o.dst=some d->d<N)->AEI ty φ nil (H 0) w->AR N φ (ρ 0) a->
  (Txt P ty N φ ρ H V T l.length->∀ ψ a' w',AEI ty ψ nil (H l.length) w'->AR N ψ (ρ l.length) a'->Evo φ (H 0) w ψ (H l.length) w'->Q .normal a' w')->wpList P all.toArray Q l a w
 |[],ahs,ρ,H,V,run,T,a,w,φ,_,_,HW,HA,hq=>by
  refine hq ?_ φ a w HW HA (.refl _ _ _);refine {next:=fun j hj=>absurd hj (ABK _),shape:=fun j hj=>absurd hj (ABK _),kept:=fun j hj=>absurd hj (ABK _),fresh:=fun j hj i hi=>?_,AHW:=fun j hj=>?_}
  ·have:j=0:=AAo.1 hj
   subst this;exact HW.fresh i hi
  ·have:j=0:=AAo.1 hj
   subst this;exact⟨φ,w,a,HW,HA,.refl _,fun i h1 h2=>absurd h2 (ABi.2 h1)⟩
 |o::l,ahs,ρ,H,V,run,T,a,w,φ,tr,hN,HW,HA,hq=>by
  have s:=tr.sf 0 o rfl;have tr':Tr P ty all ahs.tail l (fun j=>ρ (j+1)) (fun j=>H (j+1)) (fun j=>V (j+1)) (fun j=>run (j+1)) (fun j=>T (j+1)):=
   ⟨fun j o' hj=>by
    have:=tr.sf (j+1) o' hj;have e:ahs.getD (j+1) .plain=ahs.tail.getD j .plain:=by cases ahs<;>rfl
    rw[e]at this;exact this⟩
  have hd:∀ d,o.dst=some d->d<N:=hN o xT;have rest:∀ ψ v' w',AED ψ (V 0) v'->AEI ty ψ nil (H 1) w'->Eff (T 0) φ (H 0) w ψ (H 1) w'->Evo φ (H 0) w ψ (H 1) w'->wpList P all.toArray Q l (a.put o.dst v') w':=by
   intro ψ v' w' hv HW' eff evo;refine PY l tr' (fun o ho=>hN o (xS _ ho)) HW' (HA.put eff.le hd hv s.slot) fun txt ψ2 a2 w2 q1 q2 q3=>hq ?_ ψ2 a2 w2 q1 q2 (evo.trans q3)
   refine {next:=fun j hj=>?_,shape:=fun j hj=>?_,kept:=fun j hj=>?_,fresh:=fun j hj i hi=>?_,AHW:=fun j hj=>?_}
   ·cases j with
    |zero=>exact eff.next
    |succ j=>exact txt.next j (by simpa using hj)
   ·cases j with
    |zero=>exact eff.shape
    |succ j=>exact txt.shape j (by simpa using hj)
   ·cases j with
    |zero=>exact eff.kept
    |succ j=>exact txt.kept j (by simpa using hj)
   ·cases j with
    |zero=>exact HW.fresh i hi
    |succ j=>exact txt.fresh j (by simpa using hj) i hi
   ·cases j with
    |zero=>exact⟨φ,w,a,HW,HA,.refl _,fun i h1 h2=>absurd h2 (ABi.2 h1)⟩
    |succ j=>
     obtain⟨χ,w3,a3,r1,r2,r3,r4⟩:=txt.AHW j (by simpa using hj);refine⟨χ,w3,a3,r1,r2,eff.le.trans r3,fun i h1 h2=>?_⟩;rcases xx i (H 1).next with h|h
     ·obtain⟨p,hp⟩:=eff.all i h1 h
      exact⟨p,r3 i p hp⟩
     ·exact r4 i h h2
  have hw:=OR s (a:=a) (φ:=φ) fun g want og d u _ _ _ hu=>HA.rel d u hu
  unfold wpList;rcases s.core with ⟨hrun,core⟩|⟨hrun,hv,hh,hT⟩
  ·rw[hw,hrun,if_pos rfl]
   refine .inl (core.AGx φ nil w a HW (fun x _ u hu=>HA.ev hu) ?_ _ _ fun ψ v' w' hv HW' eff evo=>rest ψ v' w' hv HW' eff evo);unfold TouchR;split<;>first|trivial|exact fun _ h=>h|exact fun _ _ _ _ h=>h
  ·rw[hw,hrun,if_neg (by simp)]
   have hu:AED φ (V 0) undef:=by rw[hv];exact .tuple .nil
   have e1:Evo φ (H 0) w φ (H 1) w:=by
    show Evo φ (H 0) w φ (H (0+1)) w;rw[hh];exact .refl _ _ _
   have e2:Eff (T 0) φ (H 0) w φ (H 1) w:=by
    show Eff (T 0) φ (H 0) w φ (H (0+1)) w;rw[hh];exact {Eff.refl φ (H 0) w with frame:=fun _ _ _=>rfl,back:=fun i p e hl _=>⟨i,p,e,hl,rfl,rfl,.inl rfl⟩,kept:=fun _ _ _=>rfl}
   exact rest φ undef w hu (by show AEI ty φ nil (H (0+1)) w;rw[hh];exact HW) e2 e1
end
end
noncomputable section
open Go
section
variable {φ ψ χ:Phi}
theorem AFT.cut(hx:∀ b p,φ b=some p->(∃ q,ψ b=some q)->χ b=some p){a a' a'':Addr}:AFT φ a a'->AFT ψ a a''->AFT χ a a'
 |⟨s,s',p,hp,r⟩,⟨_,_,q,hq,_⟩=>⟨s,s',p,hx _ _ hp ⟨q,hq⟩,r⟩
theorem AFu.cut(hx:∀ b p,φ b=some p->(∃ q,ψ b=some q)->χ b=some p){a a' a'':Addr}{c c' c'':Nat}:AFu φ a c a' c'->AFu ψ a c a'' c''->AFu χ a c a' c'
 |⟨s,s',p,hp,r⟩,⟨_,_,q,hq,_⟩=>⟨s,s',p,hx _ _ hp ⟨q,hq⟩,r⟩
mutual
theorem AED.cut(hx:∀ b p,φ b=some p->(∃ q,ψ b=some q)->χ b=some p):∀ {v v' v'':IN},AED φ v v'->AED ψ v v''->AED χ v v'
 |_,_,_,.bool b,_=>.bool b
 |_,_,_,.int k n,_=>.int k n
 |_,_,_,.string s,_=>.string s
 |_,_,_,.AGu,_=>.AGu
 |_,_,_,.ptr h,h2=>by cases h2 with|ptr h2=>exact .ptr (h.cut hx h2)
 |_,_,_,.AE2,_=>.AE2
 |_,_,_,.slice hn h,h2=>by cases h2 with|slice _ h2=>exact .slice hn (h.cut hx h2)
 |_,_,_,.AGv,_=>.AGv
 |_,_,_,.map h,h2=>by cases h2 with|map h2=>exact .map (hx _ _ h ⟨_,h2⟩)
 |_,_,_,.func fn h h',h2=>by cases h2 with|func _ h2 h2'=>exact .func fn (AEX.cut hx h h2) (AEX.cut hx h' h2')
 |_,_,_,.nilFunc,_=>.nilFunc
 |_,_,_,.iface t h,h2=>by cases h2 with|iface _ h2=>exact .iface t (AED.cut hx h h2)
 |_,_,_,.nilIface,_=>.nilIface
 |_,_,_,.agg h,h2=>by cases h2 with|agg h2=>exact .agg (AEX.cut hx h h2)
 |_,_,_,.tuple h,h2=>by cases h2 with|tuple h2=>exact .tuple (AEX.cut hx h h2)
 |_,_,_,.unk,_=>.unk
 |_,_,_,.AGR,_=>.AGR
theorem AEX.cut(hx:∀ b p,φ b=some p->(∃ q,ψ b=some q)->χ b=some p):∀ {v v' v'':List IN},AEX φ v v'->AEX ψ v v''->AEX χ v v'
 |_,_,_,.nil,_=>.nil
 |_,_,_,.cons h t,h2=>by cases h2 with|cons h2 t2=>exact .cons (AED.cut hx h h2) (AEX.cut hx t t2)
end
theorem AE7.cut(hx:∀ b p,φ b=some p->(∃ q,ψ b=some q)->χ b=some p):∀ {l:List Ent} {l' l'':List MapEntry},AE7 φ l l'->AE7 ψ l l''->AE7 χ l l'
 |_,_,_,.nil,_=>.nil
 |_,_,_,.cons hk hv t,h2=>by cases h2 with|cons hk2 hv2 t2=>exact .cons (hk.cut hx hk2) (hv.cut hx hv2) (AE7.cut hx t t2)
theorem AFC.cut{ty:TTy}(hx:∀ b p,φ b=some p->(∃ q,ψ b=some q)->χ b=some p){p p2:Pl}{b:Blk}{o o2:Option Obj}(h:AFC ty φ p b o)(h2:AFC ty ψ p2 b o2):AFC ty χ p b o:=by
 cases h with
 |cells h=>cases h2 with
  |cells h2=>exact .cells {h with cell:=fun j hj=>let ⟨v,e,r⟩:=h.cell j hj;let ⟨v2,_,r2⟩:=h2.cell j hj;⟨v,e,r.cut hx r2⟩}
 |map h=>cases h2 with
  |map h2=>exact .map (h.cut hx h2)
 |AFw h=>exact .AFw h
 |iter hp h=>cases h2 with
  |iter _ h2=>exact .iter hp (hx _ _ h ⟨_,h2⟩)
 |cur hp h hl=>cases h2 with
  |cur _ h2 _=>exact .cur hp (hx _ _ h ⟨_,h2⟩) hl
 |dead=>exact .dead
end
structure Laws (ty:TTy)(all:List zu)(ρ:Nat->Rho)(H:Nat->Hp)(T:Nat->Nat->Prop)(B:Nat->Nat->Prop):Prop where
 lt:∀ i j,B i j->i<j
 slots:∀ i j oi oj d,i≠j->all[i]? =some oi->all[j]? =some oj->oi.dst=some d->
  (oj.dst=some d\/.tmp d∈oj.op.operands.toList\/∃ g w og,oj.guard=some (g,w)/\all[g]? =some og/\og.dst=some d)->B i j\/B j i
 kinds:∀ j oj c,all[j]? =some oj->T j c->(∃ x,kd ty oj.op=.w x)\/kd ty oj.op=.q
 fixed:∀ i j oi c,i≠j->all[i]? =some oi->j<all.length->T j c->((∃ x,kd ty oi.op=.w x)\/kd ty oi.op=.q)->B i j\/B j i
 reads:∀ i j oi x c u,i≠j->all[i]? =some oi->j<all.length->T j c->kd ty oi.op=.r x->evR (ρ i) x=some u->AEl u=.ok c->B i j\/B j i
 tlt:∀ j c,j<all.length->T j c->c<(H j).next
 AHX:∀ j c,j<all.length->T j c->(H all.length).low<=c/\c<=(H all.length).high
 low:(H all.length).low<=(H 0).low
 high:(H 0).high<=(H all.length).high
structure Inv (ty:TTy)(N:Nat)(all:List zu)(ρ:Nat->Rho)(H:Nat->Hp)(T:Nat->Nat->Prop)(φ0:Phi)(w0:yJ)(S:Nat->Prop)(φ:Phi)(C:Nat->Blk)(a:Act)(w:yJ):Prop where
 dom:∀ b p,φ b=some p->p.blk<w.heap.size/\(b<(H 0).next\/∃ j,S j/\j<all.length/\(H j).next<=b/\b<(H (j+1)).next)
 inj:∀ b c p q,φ b=some p->φ c=some q->C b≠.dead->C c≠.dead->(p.inp=false\/q.inp=false)->p.blk=q.blk->b=c
 row:∀ b p,φ b=some p->AFC ty φ p (C b) w.heap[p.blk]?
 kind:∀ k,k<=all.length->∀ b p c s e,φ b=some p->b<(H k).next->(H k).bl.get b=.cells c s e->Kind ty p s e
 inp:∀ b p,φ b=some p->p.inp=true->b<256
 link:∀ k,k<=all.length->∀ b p,φ b=some p->b<(H k).next->(∀ j,j<all.length->T j b->(j<k->S j)/\(k<=j->¬ S j))->C b=(H k).bl.get b
 chg:∀ j,S j->j<all.length->∀ b,b<(H j).next->(H (j+1)).bl.get b≠(H j).bl.get b->∃ p,φ b=some p
 full:∀ j,S j->j<all.length->∀ b,(H j).next<=b->b<(H (j+1)).next->∃ p,φ b=some p
 slot:∀ k,k<=all.length->∀ t u,(∀ j o,all[j]? =some o->o.dst=some t->(j<k->S j)/\(k<=j->¬ S j))->ρ k t=some u->AED φ u (a.tmps.getD t undef)
 size:a.tmps.size=N
 defs:a.defers=[]
 le:φ0.Le φ
 new:∀ b p,φ b=some p->φ0 b=some p\/(H 0).next<=b
 sz:w0.heap.size<=w.heap.size
 tape:w.tape=w0.tape
 os:w.os=w0.os
 output:w.output=w0.output
 frame:∀ k,k<w0.heap.size->(∀ c p,φ0 c=some p->p.inp=false->(H all.length).low<=c->c<=(H all.length).high->Live (H 0) c->p.blk≠k)->w.heap[k]? =w0.heap[k]?
 back:∀ b p,φ b=some p->C b≠.dead->p.blk<w0.heap.size->∃ c q,φ0 c=some q/\Live (H 0) c/\q.blk=p.blk/\q.inp=p.inp/\(c=b\/(H all.length).low<=c/\c<=(H all.length).high)
section
variable {P:yg}{ty:TTy}{N:Nat}{all:List zu}{ρ:Nat->Rho}{H:Nat->Hp}{V:Nat->IN}{T:Nat->Nat->Prop}{φ0:Phi}{w0:yJ}
theorem Txt.mono{φ:Phi}{n:Nat}(t:Txt P ty N φ ρ H V T n){i:Nat}:∀ {k:Nat},i<=k->k<=n->(H i).next<=(H k).next:=by
 intro k h hn
 induction k with
 |zero=>have:i=0:=AAo.1 h;subst this;exact IT _
 |succ k ih=>
  rcases xx k i with h2|h2
  ·have:i=k+1:=by omega
   subst this;exact IT _
  ·exact Nat.le_trans (ih h2 (by omega)) (t.next k (by omega))
theorem Txt.AF9{φ:Phi}{n:Nat}(t:Txt P ty N φ ρ H V T n){i:Nat}{b:Nat}(hb:b<(H i).next):∀ {k:Nat},i<=k->k<=n->AEW ((H i).bl.get b) ((H k).bl.get b):=by
 intro k h hn
 induction k with
 |zero=>have:i=0:=AAo.1 h;subst this;exact .refl _
 |succ k ih=>
  rcases xx k i with h2|h2
  ·have:i=k+1:=by omega
   subst this;exact .refl _
  ·exact(ih h2 (by omega)).trans (t.shape k (by omega) b (Nat.lt_of_lt_of_le hb (t.mono h2 (by omega))))
theorem Txt.same{φ:Phi}{n:Nat}(t:Txt P ty N φ ρ H V T n){i:Nat}{b:Nat}:∀ {k:Nat},i<=k->k<=n->(∀ m,i<=m->m<k->(H (m+1)).bl.get b=(H m).bl.get b)->(H k).bl.get b=(H i).bl.get b:=by
 intro k h hn hs
 induction k with
 |zero=>have:i=0:=AAo.1 h;subst this;rfl
 |succ k ih=>
  rcases xx k i with h2|h2
  ·have:i=k+1:=by omega
   subst this;rfl
  ·rw[hs k h2 (by omega)];exact ih h2 (by omega) fun m h1 h2=>hs m h1 (by omega)
theorem Tr.backward{run:Nat->Bool}{ahs:List AEo}(tr:Tr P ty all ahs all ρ H V run T){t:Nat}{u:IN}{i:Nat}:∀ {k:Nat},i<=k->k<=all.length->(∀ m o,i<=m->m<k->all[m]? =some o->o.dst≠some t)->ρ k t=some u->ρ i t=some u:=by
 intro k h hn hs hu
 induction k with
 |zero=>have:i=0:=AAo.1 h;subst this;exact hu
 |succ k ih=>
  rcases xx k i with h2|h2
  ·have:i=k+1:=by omega
   subst this;exact hu
  ·have hk:k<all.length:=by omega
   have ho:all[k]? =some all[k]:=List.getElem?_eq_getElem hk;have:=(tr.sf k all[k] ho).slot t u hu;rw[if_neg (hs k all[k] h2 (Nat.lt_succ_self _) ho)]at this;exact ih h2 (by omega) (fun m o h1 h2=>hs m o h1 (by omega)) this
def Pe(n:Nat)(T:Nat->Nat->Prop)(S:Nat->Prop)(h:Hp)(i:Nat):Nat->Prop:=fun b=>b<h.next/\¬ ∀ j,j<n->T j b->(j<i->S j)/\(i<=j->¬ S j)
def upto(φ:Phi)(n:Nat):Phi:=fun b=>if b<n then φ b else none
theorem Ce{φ:Phi}{n b:Nat}{p:Pl}(h:upto φ n b=some p):b<n/\φ b=some p:=by
 unfold upto at h;split at h
 ·exact⟨‹_›,h⟩
 ·cases h
theorem Inv.AJa{φ:Phi}{C:Nat->Blk}{a:Act}{w:yJ}{S:Nat->Prop}(I:Inv ty N all ρ H T φ0 w0 S φ C a w)(txt:Txt P ty N φ0 ρ H V T all.length){i:Nat}(hi:i<=all.length):
  AEI ty (upto φ (H i).next) (Pe all.length T S (H i) i) (H i) w/\∃ (ψ:Phi) (b:Act),AR N ψ (ρ i) b/\∀ b p,φ b=some p->(∃ q,ψ b=some q)->upto φ (H i).next b=some p:=by
 obtain⟨ψ,wt,at',HW,HA,hle,hall⟩:=txt.AHW i hi;have hx:∀ b p,φ b=some p->(∃ q,ψ b=some q)->upto φ (H i).next b=some p:=by
  rintro b p hp ⟨q,hq⟩;unfold upto;rw[if_pos (HW.dom b q hq).1];exact hp
 have hin:∀ b p,φ b=some p->b<(H i).next->∃ q,ψ b=some q:=by
  intro b p hp hb;rcases I.new b p hp with h|h
  ·exact⟨p,hle b p h⟩
  ·exact hall b h hb
 have lk:∀ b p,φ b=some p->b<(H i).next->¬ Pe all.length T S (H i) i b->C b=(H i).bl.get b:=by
  intro b p hp hb hE;refine I.link i hi b p hp hb fun j hj hT=>?_
  by_cases hh:(j<i->S j)/\(i<=j->¬ S j)
  ·exact hh
  ·exact absurd ⟨hb,fun hall=>hh (hall j hj hT)⟩ hE
 refine⟨{dom:=fun b p e=>?_,inj:=fun b c p q eb ec hEb hEc hb hc hio hpq=>?_,row:=fun b p e hE=>?_,fresh:=txt.fresh i hi,kind:=fun b p c s e' e he=>?_,inp:=fun b p e=>I.inp b p (Ce e).2},ψ,at',HA,hx⟩
 ·obtain⟨h1,h2⟩:=Ce e
  exact⟨h1,(I.dom b p h2).1⟩
 ·obtain⟨h1,h2⟩:=Ce eb
  obtain⟨h3,h4⟩:=Ce ec;exact I.inj b c p q h2 h4 (by rw[lk b p h2 h1 hEb];exact hb) (by rw[lk c q h4 h3 hEc];exact hc) hio hpq
 ·obtain⟨h1,h2⟩:=Ce e
  have r1:=I.row b p h2;rw[lk b p h2 h1 hE]at r1;obtain⟨q,hq⟩:=hin b p h2 h1;exact r1.cut hx (HW.row b q hq fun h=>h)
 ·obtain⟨h1,h2⟩:=Ce e
  exact I.kind i hi b p c s e' h2 h1 he
end
end
end Go.Proofs.YtbjadbhkogcfeaaGreat

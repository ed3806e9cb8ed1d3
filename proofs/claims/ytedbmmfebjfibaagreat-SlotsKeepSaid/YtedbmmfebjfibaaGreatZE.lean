/-
  Part ZE of what Lawke stands on: printed by program, names and spaces cut.
-/
import Derived.Test.YtedbmmfebjfibaaGreatZD
open Go renaming Value→IN,IntKind→wH,Operand→wV,World→wb,Program→xD,Oper→yv
open Nat renaming le_refl→IT,ble→vx,beq→wB,lt_or_ge→wN,mul→wY,blt→wz,add→xc,beq_refl→xu,le_zero→zj,not_lt_zero→AAT,not_lt→AAx
open Go.Result renaming andThen_ok→If
open List renaming mem_cons_self→vp,mem_cons_of_mem→vr,mem_cons→wA,mem_map→wM,map_cons→xV,nodup_cons→xx
open Go.Sem renaming run_bind→vq,run_pure→vt
open Go.Op renaming operands→wL
open Array renaming getD_eq_getD_getElem?→wu,ext'→xG,getElem?_toList→ABi
open Go.Call renaming operands→zi
open Go.Region renaming wanted→AAR
set_option linter.unusedSimpArgs false
set_option linter.unusedVariables false
namespace Go.Proofs.YtedbmmfebjfibaaGreat
noncomputable section
open Go
section
variable {P:xD}{U:TTy}{φ:Phi}{E:Nat->Prop}{h h':Hp}{w:wb}{F:AEB}{e:Env}{v:IN}{f:Fr}
theorem XF{op:Op}{x:wV}(hk:kd U op=.r x)(hE:HS U f e E op){y:O}(hy:cO f x=some y):∀ a,y e=.pointer (some a)->¬ E a.block:=by
 intro a ha;unfold HS at hE;rw[hk]at hE;exact hE y hy a.block (by rw[ha];rfl)
theorem MJ{op:Op}{x:wV}(hk:kd U op=.w x)(hE:HS U f e E op):∀ b,¬ E b:=by
 unfold HS at hE;rw[hk]at hE;exact hE
theorem GF{op:Op}(hk:kd U op=.q)(hE:HS U f e E op):∀ b,¬ E b:=by
 unfold HS at hE;rw[hk]at hE;exact hE
theorem Y6{args:List O}{x:O}(hs:args=[x]){l:List wV}{ρ:wV->IN}(ha:AEX φ (vals e args) (l.map ρ)):∃ x',l.map ρ=[x']/\AED φ (x e) x':=by
 subst hs;generalize l.map ρ=r at ha;cases ha with|cons h t=>cases t;exact⟨_,rfl,h⟩
theorem Qe{args:List O}{x y:O}(hs:args=[x,y]){l:List wV}{ρ:wV->IN}(ha:AEX φ (vals e args) (l.map ρ)):∃ x' y',l.map ρ=[x',y']/\AED φ (x e) x'/\AED φ (y e) y':=by
 subst hs;generalize l.map ρ=r at ha;cases ha with|cons h t=>cases t with|cons h2 t=>cases t;exact⟨_,_,rfl,h,h2⟩
theorem ZJ(hT:Cs P U)(H:AEG U φ E h w){b:Builtin}{c:Call}(hc:c.callee=.builtin b){o:yv}{a:Act}(ho:o.op=.call c){args:List O}
  (ha:AEX φ (vals e args) (c.args.toList.map a.eval))(hE:(∀ b,¬ E b)\/b=.min\/b=.max\/(b=.len/\∀ x,args=[x]->∀ t ti,c.argTypes[0]? =some t->U.get t=some ti->(∃ k q,ti.k=.map k q)->∀ r,x e=.map (some r)->¬ E r))
  (hr:KP U b c.argTypes.toList args F e h=.ok v h'):EZ P U φ E h v h' o a w:=by
 have AHw:c.args.map a.eval=⟨c.args.toList.map a.eval⟩:=by apply xG;simp
 have AGk:∀ t l,c.argTypes.toList=t::l->c.argTypes[0]? =some t:=fun t l hl=>by rw[<- ABi,hl];rfl
 have AJh:∀ t t2 l,c.argTypes.toList=t::t2::l->c.argTypes[1]? =some t2:=fun t t2 l hl=>by rw[<- ABi,hl];rfl
 have hex:∀ s:Sem IN,(∀ cs,builtin b c.argTypes o.type cs ⟨c.args.toList.map a.eval⟩=(do pure (.value (<- s))))->∀ {vv:IN} {hh:Hp},BR U φ E h w vv hh (s.run P w)->EZ P U φ E h vv hh o a w:=by
  intro s hs vv hh hg;refine .AEC (s:=s) ?_ hg;unfold execOp;rw[ho];simp only[resolve,hc,AHw];exact hs _
 cases b with
 |len=>
  match args,ha,hE,hr with
  |[x],ha,hE,hr=>
   obtain⟨x',he,hx⟩:=Y6 rfl ha;cases hl:c.argTypes.toList with
   |nil=>rw[hl]at hr;cases hr
   |cons t l=>
    rw[hl]at hr;obtain⟨ti,hti,hr⟩:=Be hr;have h0:=AGk t l hl;cases hk:ti.k with
    |slice el=>simp only[hk]at hr;exact hex _ (fun cs=>by rw[he];rfl) (cH H h0 (hT t ti hti) hk hx hr)
    |string=>simp only[hk]at hr;exact hex _ (fun cs=>by rw[he];rfl) (cJ H h0 (hT t ti hti) hk hx hr)
    |map k q=>
     simp only[hk]at hr;refine hex _ (fun cs=>by rw[he];rfl) (cE H h0 (hT t ti hti) hk hx (fun r hxr=>?_) hr);rcases hE with hE|hE|hE|⟨_,hE⟩
     ·exact hE r
     ·cases hE
     ·cases hE
     ·exact hE x rfl t ti h0 hti ⟨k,q,hk⟩ r hxr
    |arr n el=>
     simp only[hk]at hr;refine hex (Builtin.len_ c.argTypes o.type #[x']) (fun cs=>by rw[he];rfl) ?_;rw[hJ h0 (hT t ti hti) hk];have:v=.int .i64 (.ofNat n)/\h'=h:=by
      unfold AP kV at hr;rw[E9]at hr;cases hr;exact⟨rfl,rfl⟩
     obtain⟨rfl,rfl⟩:=this;exact .same H (.int _ _)
    |_=>simp only[hk]at hr;cases hr
  |[],_,_,hr=>cases hr
  |_::_::_,_,_,hr=>cases hr
 |cap=>
  match args,ha,hr with
  |[x],ha,hr=>
   obtain⟨x',he,hx⟩:=Y6 rfl ha;cases hl:c.argTypes.toList with
   |nil=>rw[hl]at hr;cases hr
   |cons t l=>
    rw[hl]at hr;obtain⟨ti,hti,hr⟩:=Be hr;have h0:=AGk t l hl;cases hk:ti.k with
    |slice el=>simp only[hk]at hr;exact hex (Builtin.cap_ c.argTypes o.type #[x']) (fun cs=>by rw[he];rfl) (bp H h0 (hT t ti hti) hk hx hr)
    |_=>simp only[hk]at hr;cases hr
  |[],_,hr=>cases hr
  |_::_::_,_,hr=>cases hr
 |min=>
  match args,ha,hr with
  |[x,y],ha,hr=>
   obtain⟨x',y',he,hx,hy⟩:=Qe rfl ha;exact hex _ (fun cs=>by rw[he];rfl) (ir (F:=F) H hx hy hr)
  |[],_,hr=>cases hr
  |[_],_,hr=>cases hr
  |_::_::_::_,_,hr=>cases hr
 |max=>
  match args,ha,hr with
  |[x,y],ha,hr=>
   obtain⟨x',y',he,hx,hy⟩:=Qe rfl ha;exact hex _ (fun cs=>by rw[he];rfl) (ip (F:=F) H hx hy hr)
  |[],_,hr=>cases hr
  |[_],_,hr=>cases hr
  |_::_::_::_,_,hr=>cases hr
 |copy=>
  have hE':∀ b,¬ E b:=by
   rcases hE with h|h|h|⟨h,_⟩
   ·exact h
   all_goals cases h
  match args,ha,hr with
  |[d,x],ha,hr=>
   obtain⟨d',x',he,hd,hx⟩:=Qe rfl ha;cases hl:c.argTypes.toList with
   |nil=>rw[hl]at hr;cases hr
   |cons t l=>
    rw[hl]at hr;obtain⟨ti,hti,hr⟩:=Be hr;cases hk:ti.k with
    |slice el=>
     simp only[hk]at hr;obtain⟨ei,hei,hr⟩:=Be hr;exact hex _ (fun cs=>by rw[he];rfl) (bu H hE' (AGk t l hl) (hT t ti hti) hk (hT el ei hei) hd hx hr)
    |_=>simp only[hk]at hr;cases hr
  |[],_,hr=>cases hr
  |[_],_,hr=>cases hr
  |_::_::_::_,_,hr=>cases hr
 |clear=>
  have hE':∀ b,¬ E b:=by
   rcases hE with h|h|h|⟨h,_⟩
   ·exact h
   all_goals cases h
  match args,ha,hr with
  |[x],ha,hr=>
   obtain⟨x',he,hx⟩:=Y6 rfl ha;cases hl:c.argTypes.toList with
   |nil=>rw[hl]at hr;cases hr
   |cons t l=>
    rw[hl]at hr;obtain⟨ti,hti,hr⟩:=Be hr;cases hk:ti.k with
    |slice el=>
     simp only[hk]at hr;obtain⟨ei,hei,hr⟩:=Be hr;obtain⟨hz,hr⟩:=Ir hr;exact hex _ (fun cs=>by rw[he];rfl) (YJ H hE' (AGk t l hl) (hT t ti hti) hk (hT el ei hei) hz hx hr)
    |map k q=>
     simp only[hk]at hr;exact hex _ (fun cs=>by rw[he];rfl) (P6 H hE' (AGk t l hl) (hT t ti hti) hx hr)
    |_=>simp only[hk]at hr;cases hr
  |[],_,hr=>cases hr
  |_::_::_,_,hr=>cases hr
 |append=>
  have hE':∀ b,¬ E b:=by
   rcases hE with h|h|h|⟨h,_⟩
   ·exact h
   all_goals cases h
  match args,ha,hr with
  |[s,x],ha,hr=>
   obtain⟨s',x',he,hs,hx⟩:=Qe rfl ha;cases hl:c.argTypes.toList with
   |nil=>rw[hl]at hr;cases hr
   |cons t l=>
    cases l with
    |nil=>rw[hl]at hr;cases hr
    |cons t2 l=>
     rw[hl]at hr;obtain⟨ti,hti,hr⟩:=Be hr;obtain⟨xi,hxi,hr⟩:=Be hr;have h0:=AGk t _ hl;have h1:=AJh t t2 l hl;cases hk:ti.k with
     |slice en=>
      cases hk2:xi.k with
      |slice q=>
       simp only[hk,hk2]at hr;obtain⟨ei,hei,hr⟩:=Be hr;cases hsz:ei.size with
       |zero=>simp only[hsz]at hr;cases hr
       |succ n=>
        simp only[hsz]at hr;obtain⟨hz,hr⟩:=Ir hr;have hs2:n.succ=ei.size:=hsz.symm;rw[hs2]at hr;exact hex _ (fun cs=>by rw[he];rfl) (NK H hE' h0 h1 (hT t ti hti) hk (hT t2 xi hxi) (.inl ⟨q,hk2⟩) hei (hT en ei hei) (by omega) hz hs hx hr)
      |string=>
       simp only[hk,hk2]at hr;obtain⟨ei,hei,hr⟩:=Be hr;cases hsz:ei.size with
       |zero=>simp only[hsz]at hr;cases hr
       |succ n=>
        simp only[hsz]at hr;obtain⟨hz,hr⟩:=Ir hr;have hs2:n.succ=ei.size:=hsz.symm;rw[hs2]at hr;exact hex _ (fun cs=>by rw[he];rfl) (NK H hE' h0 h1 (hT t ti hti) hk (hT t2 xi hxi) (.inr hk2) hei (hT en ei hei) (by omega) hz hs hx hr)
      |int q=>
       simp only[hk,hk2]at hr;obtain⟨ei,hei,hr⟩:=Be hr;cases hsz:ei.size with
       |zero=>simp only[hsz]at hr;cases hr
       |succ n=>
        simp only[hsz]at hr;obtain⟨hz,hr⟩:=Ir hr;have hs2:n.succ=ei.size:=hsz.symm;rw[hs2]at hr;exact hex _ (fun cs=>by rw[he];rfl) (SC H hE' h0 h1 (hT t ti hti) hk (hT t2 xi hxi) hk2 hei (hT en ei hei) (by omega) hz hs hx hr)
      |_=>simp only[hk,hk2]at hr;cases hr
     |_=>simp only[hk]at hr;cases hr
  |[],_,hr=>cases hr
  |[_],_,hr=>cases hr
  |_::_::_::_,_,hr=>cases hr
 |delete=>
  have hE':∀ b,¬ E b:=by
   rcases hE with h|h|h|⟨h,_⟩
   ·exact h
   all_goals cases h
  match args,ha,hr with
  |[m,key],ha,hr=>
   obtain⟨m',key',he,hm,hkey⟩:=Qe rfl ha;cases hl:c.argTypes.toList with
   |nil=>rw[hl]at hr;cases hr
   |cons t l=>
    rw[hl]at hr;obtain⟨ti,kt,el,K,hti,hk,hK,hr⟩:=ML (k:=fun ks=>L4 ks m key) hr;exact hex _ (fun cs=>by rw[he];rfl) (Uk hT H hE' (AGk t l hl) (hT t ti hti) hk hK hm hkey hr)
  |[],_,hr=>cases hr
  |[_],_,hr=>cases hr
  |_::_::_::_,_,hr=>cases hr
 |_=>cases hr
theorem qt(hT:Cs P U)(hF:DH P U F)(H:AEG U φ E h w){o:yv}{a:Act}(hst:kC φ f e a.eval o.op)(hE:HS U f e E o.op)(hr:opC U f o.op F e h=.ok v h'):
  EZ P U φ E h v h' o a w:=by
 cases ho:o.op with
 |move x=>
  rw[ho]at hr hst;obtain⟨x',hx',hr⟩:=DG hr;exact .AEC (s:=pure (a.eval x)) (by unfold execOp;rw[ho];rfl) (SK H (hst x (by simp[wL]) x' hx') hr)
 |assign x=>
  rw[ho]at hr hst;obtain⟨x',hx',hr⟩:=DG hr;exact .AEC (s:=pure (a.eval x)) (by unfold execOp;rw[ho];rfl) (SK H (hst x (by simp[wL]) x' hx') hr)
 |pick c x y=>
  rw[ho]at hr hst;obtain⟨c',hc',hr⟩:=DG hr;obtain⟨x',y',hx',hy',hr⟩:=KD hr;refine .AEC (s:=(do pure (if <- asBool (a.eval c)then a.eval x else a.eval y))) ?_ (cR H (hst c (by simp[wL]) c' hc') (hst x (by simp[wL]) x' hx') (hst y (by simp[wL]) y' hy') hr);unfold execOp;rw[ho];simp
 |alloc t=>
  rw[ho]at hr hst;obtain⟨ti,hti,hr⟩:=Be hr;obtain⟨hz,hr⟩:=Ir hr;cases hc:B3 .mt 0 ti.zero with
  |none=>rw[hc]at hr;cases hr
  |some c=>
   rw[hc]at hr;exact .AEC (by unfold execOp;rw[ho]) (YF H (hT t ti hti) hz hc hr)
 |box t x=>
  rw[ho]at hr hst;obtain⟨x',hx',hr⟩:=DG hr;exact .AEC (by unfold execOp;rw[ho]) (iV H (hst x (by simp[wL]) x' hx') hr)
 |build t parts=>
  rw[ho]at hr hst;obtain⟨ti,hti,hr⟩:=Be hr;obtain⟨hz,hr⟩:=Ir hr;have hps:∀ p∈parts.toList,∀ y,cO f p.2=some y->AED φ (y e) (a.eval p.2):=fun p hp=>hst p.2 (by simp only[wL,wM];exact⟨p,hp,rfl⟩)
  cases hk:ti.k with
  |struct fs=>
   simp only[hk]at hr;cases hp:G0 f (Na fs) parts.toList with
   |none=>rw[hp]at hr;cases hr
   |some ps=>
    rw[hp]at hr;exact .AEC (by unfold execOp;rw[ho]) (Uf H (hT t ti hti) hk hz (ps':=parts.map fun (i,x)=>(i,a.eval x)) (by simpa using Jw (ρ:=a.eval) hp hps) hr)
  |arr n el=>
   simp only[hk]at hr;obtain⟨ei,hei,hr⟩:=Be hr;cases hp:G0 f (fun i=>some (wY i ei.size,ei.size)) parts.toList with
   |none=>rw[hp]at hr;cases hr
   |some ps=>
    rw[hp]at hr;exact .AEC (by unfold execOp;rw[ho]) (Ue H (hT t ti hti) hk (hT el ei hei) hz (ps':=parts.map fun (i,x)=>(i,a.eval x)) (by simpa using Jw (ρ:=a.eval) hp hps) hr)
  |_=>simp only[hk]at hr;cases hr
 |buildSlice t len parts=>
  rw[ho]at hr hst;obtain⟨ti,hti,hr⟩:=Be hr;have hps:∀ p∈parts.toList,∀ y,cO f p.2=some y->AED φ (y e) (a.eval p.2):=fun p hp=>hst p.2 (by simp only[wL,wM];exact⟨p,hp,rfl⟩)
  cases hk:ti.k with
  |slice el=>
   simp only[hk]at hr;obtain⟨ei,hei,hr⟩:=Be hr;obtain⟨hz,hr⟩:=Ir hr;cases hp:G0 f (fun i=>some (wY i ei.size,ei.size)) parts.toList with
   |none=>rw[hp]at hr;cases hr
   |some ps=>
    rw[hp]at hr;simp only at hr;cases hb:vx (wY len ei.size) 16777216 with
    |false=>rw[hb]at hr;cases hr
    |true=>
     rw[hb]at hr;exact .AEC (by unfold execOp;rw[ho]) (NL H (hT t ti hti) hk (hT el ei hei) hz (Ac.1 hb) (ps':=parts.map fun (i,x)=>(i,a.eval x)) (by simpa using Jw (ρ:=a.eval) hp hps) hr)
  |_=>simp only[hk]at hr;cases hr
 |load t x=>
  rw[ho]at hr hst hE;obtain⟨ti,hti,hr⟩:=Be hr;obtain⟨x',hx',hr⟩:=DG hr;have hx:=hst x (by simp[wL]) x' hx';cases hk:ti.k.agg with
  |true=>rw[hk]at hr;exact .AEC (by unfold execOp;rw[ho]) (YS H (hT t ti hti) hk hx (XF rfl hE hx') hr)
  |false=>rw[hk]at hr;exact .AEC (by unfold execOp;rw[ho]) (YQ H (hT t ti hti) hk hx (XF rfl hE hx') hr)
 |store t x y=>
  rw[ho]at hr hst hE;obtain⟨ti,hti,hr⟩:=Be hr;obtain⟨x',y',hx',hy',hr⟩:=KD hr;exact .AFg (by unfold execOp;rw[ho]) (YW H (hT t ti hti) (hst x (by simp[wL]) x' hx') (hst y (by simp[wL]) y' hy') (fun a _=>MJ (x:=x) rfl hE _) hr)
 |nilCheck x=>
  rw[ho]at hr hst;obtain⟨x',hx',hr⟩:=DG hr;obtain⟨hv,rfl,hne⟩:=i6 H (hst x (by simp[wL]) x' hx') hr;refine .AEC (s:=pure (a.eval x)) ?_ (.same H hv);unfold execOp;rw[ho];obtain⟨h1,h2,h3,h4⟩:=hne;simp only;generalize a.eval x=z at h1 h2 h3 h4 ⊢;cases z<;>first|rfl|(exact absurd rfl h2)|(exact absurd rfl h3)|skip
 |binOp op t x y yt=>rw[ho]at hr hst;exact nM hT H ho (by rw[ho];exact hst) hr
 |unOp op t x=>
  rw[ho]at hr hst;obtain⟨ti,hti,hr⟩:=Be hr;obtain⟨x',hx',hr⟩:=DG hr;have hx:=hst x (by simp[wL]) x' hx';have hex:execOp a.eval o=(do pure (.value (<- Op.unary op (a.eval x)))):=by unfold execOp;rw[ho]
  cases op with
  |not=>exact .AEC hex (i9 H hx (by revert hr;cases ti.k<;>exact id))
  |neg=>
   cases hk:ti.k with
   |int k=>simp only[hk]at hr;exact .AEC hex (iw H hx hr)
   |_=>simp only[hk]at hr;cases hr
  |plus=>revert hr;cases ti.k<;>intro hr<;>cases hr
  |xor=>
   cases hk:ti.k with
   |int k=>cases k<;>simp only[hk]at hr<;>first|cases hr;done|exact .AEC hex (ib H hx hr)
   |_=>simp only[hk]at hr;cases hr
 |fieldAddr t x i=>
  rw[ho]at hr hst;obtain⟨ti,hti,hr⟩:=Be hr;obtain⟨x',hx',hr⟩:=DG hr;have hx:=hst x (by simp[wL]) x' hx';cases hk:ti.k with
  |struct fs=>
   simp only[hk]at hr;cases hn:nth fs i with
   |none=>rw[hn]at hr;cases hr
   |some q=>
    obtain⟨off,s,ft⟩:=q;rw[hn]at hr;cases s with
    |zero=>cases hr
    |succ s=>exact .AEC (by unfold execOp;rw[ho]) (N0 H (hT t ti hti) hk hn hx hr)
  |_=>simp only[hk]at hr;cases hr
 |field t x i=>
  rw[ho]at hr hst;obtain⟨ti,hti,hr⟩:=Be hr;obtain⟨x',hx',hr⟩:=DG hr;have hx:=hst x (by simp[wL]) x' hx';cases hk:ti.k with
  |struct fs=>
   simp only[hk]at hr;cases hn:nth fs i with
   |none=>rw[hn]at hr;cases hr
   |some q=>
    obtain⟨off,s,ft⟩:=q;rw[hn]at hr;obtain⟨fi,hfi,hr⟩:=Be hr;exact .AEC (by unfold execOp;rw[ho]) (YM H (hT t ti hti) hk hn (hT ft fi hfi) hx hr)
  |_=>simp only[hk]at hr;cases hr
 |indexAddr t x ix=>
  rw[ho]at hr hst;obtain⟨ti,hti,hr⟩:=Be hr;obtain⟨x',y',hx',hy',hr⟩:=KD hr;have hx:=hst x (by simp[wL]) x' hx';have hy:=hst ix (by simp[wL]) y' hy';cases hk:ti.k with
  |arr n el=>
   simp only[hk]at hr;obtain⟨ei,hei,hr⟩:=Be hr;exact .AEC (by unfold execOp;rw[ho]) (Un H (hT t ti hti) hk (hT el ei hei) hx hy hr)
  |slice el=>
   simp only[hk]at hr;obtain⟨ei,hei,hr⟩:=Be hr;exact .AEC (by unfold execOp;rw[ho]) (ik H (hT t ti hti) hk (hT el ei hei) hx hy hr)
  |_=>simp only[hk]at hr;cases hr
 |index t x ix=>
  rw[ho]at hr hst;obtain⟨ti,hti,hr⟩:=Be hr;obtain⟨x',y',hx',hy',hr⟩:=KD hr;have hx:=hst x (by simp[wL]) x' hx';have hy:=hst ix (by simp[wL]) y' hy';cases hk:ti.k with
  |arr n el=>
   simp only[hk]at hr;obtain⟨ei,hei,hr⟩:=Be hr;exact .AEC (by unfold execOp;rw[ho]) (ql H (hT t ti hti) hk (hT el ei hei) hx hy hr)
  |string=>
   simp only[hk]at hr;exact .AEC (by unfold execOp;rw[ho]) (YH H (hT t ti hti) hk hx hy hr)
  |_=>simp only[hk]at hr;cases hr
 |extract x i=>
  rw[ho]at hr hst;obtain⟨x',hx',hr⟩:=DG hr;exact .AEC (by unfold execOp;rw[ho]) (SH H (hst x (by simp[wL]) x' hx') hr)
 |makeInterface t x=>
  rw[ho]at hr hst;obtain⟨ti,hti,hr⟩:=Be hr;obtain⟨x',hx',hr⟩:=DG hr;have hx:=hst x (by simp[wL]) x' hx';have hne:ti.k≠.iface:=by intro hk;rw[hk]at hr;cases hr
  have hr':NP t x' F e h=.ok v h':=by revert hr hne;cases ti.k<;>intro hr hne<;>first|exact hr|exact absurd rfl hne
  exact .AEC (by unfold execOp;rw[ho]) (YO H (hT t ti hti) hne hx hr')
 |makeFunc fn first cap=>
  rw[ho]at hr hst;simp only[opC]at hr;cases h1:cOs f first.toList with
  |none=>simp only[h1]at hr;cases hr
  |some fs=>
   cases h2:cOs f cap.toList with
   |none=>simp only[h1,h2]at hr;cases hr
   |some cs=>
    simp only[h1,h2]at hr;refine .AEC (s:=Instr.makeFunc fn (first.map a.eval) (cap.map a.eval)) (by unfold execOp;rw[ho]) ?_;have e1:first.map a.eval=⟨first.toList.map a.eval⟩:=by apply xG;simp
    have e2:cap.map a.eval=⟨cap.toList.map a.eval⟩:=by apply xG;simp
    rw[e1,e2];exact cC H (PO h1 fun x hx=>hst x (by simp[wL]at hx ⊢;exact .inl hx)) (PO h2 fun x hx=>hst x (by simp[wL]at hx ⊢;exact .inr hx)) hr
 |makeMap t r=>
  rw[ho]at hr hst;cases r with
  |some _=>cases hr
  |none=>exact .AEC (by unfold execOp;rw[ho];rfl) (im (F:=F) (e:=e) H (t:=t) hr)
 |makeSlice t l c=>
  rw[ho]at hr hst;obtain⟨ti,hti,hr⟩:=Be hr;cases hk:ti.k with
  |slice el=>
   simp only[hk]at hr;obtain⟨ei,hei,hr⟩:=Be hr;obtain⟨hz,hr⟩:=Ir hr;obtain⟨l',c',hl',hc',hr⟩:=KD hr;exact .AEC (by unfold execOp;rw[ho]) (cK H (hT t ti hti) hk (hT el ei hei) hz (hst l (by simp[wL]) l' hl') (hst c (by simp[wL]) c' hc') hr)
  |_=>simp only[hk]at hr;cases hr
 |sliceToArrayPointer t x=>
  rw[ho]at hr hst;obtain⟨ti,hti,hr⟩:=Be hr;cases hk:ti.k with
  |arr n el=>
   simp only[hk]at hr;cases n with
   |zero=>cases hr
   |succ n=>
    obtain⟨x',hx',hr⟩:=DG hr;exact .AEC (by unfold execOp;rw[ho]) (iR H (hT t ti hti) hk (Nat.succ_pos _) (hst x (by simp[wL]) x' hx') hr)
  |_=>simp only[hk]at hr;cases hr
 |slice t x lo hi mx=>
  rw[ho]at hr hst;obtain⟨ti,hti,hr⟩:=Be hr;obtain⟨x',hx',hr⟩:=DG hr;have hx:=hst x (by simp[wL]) x' hx';cases h1:cOo f lo with
  |none=>simp only[h1]at hr;cases hr
  |some lo'=>
   cases h2:cOo f hi with
   |none=>simp only[h1,h2]at hr;cases hr
   |some hi'=>
    cases h3:cOo f mx with
    |none=>simp only[h1,h2,h3]at hr;cases hr
    |some mx'=>
     simp only[h1,h2,h3]at hr;have r1:AFl φ e lo' (lo.map a.eval):=Tj h1 fun z hz=>hst z (by rw[hz];simp[wL])
     have r2:AFl φ e hi' (hi.map a.eval):=Tj h2 fun z hz=>hst z (by rw[hz];simp[wL])
     have r3:AFl φ e mx' (mx.map a.eval):=Tj h3 fun z hz=>hst z (by rw[hz];simp[wL])
     cases hk:ti.k with
     |string=>
      simp only[hk]at hr;cases mx' with
      |some _=>cases hr
      |none=>
       have AFp:IX x' lo' hi' F e h=.ok v h':=hr;have hmx:mx=none:=by
        cases mx with
        |none=>rfl
        |some z=>cases r3
       subst hmx;exact .AEC (by unfold execOp;rw[ho];rfl) (Uj H (hT t ti hti) hk hx r1 r2 AFp)
     |slice el=>
      simp only[hk]at hr;obtain⟨ei,hei,hr⟩:=Be hr;exact .AEC (by unfold execOp;rw[ho]) (ie H (hT t ti hti) hk hei (hT el ei hei) hx r1 r2 r3 hr)
     |arr n el=>
      simp only[hk]at hr;obtain⟨ei,hei,hr⟩:=Be hr;exact .AEC (by unfold execOp;rw[ho]) (Uh H (hT t ti hti) hk (hT el ei hei) hx r1 r2 r3 hr)
     |_=>simp only[hk]at hr;cases hr
 |convert src dst x=>
  rw[ho]at hr hst hE;obtain⟨si,hsi,hr⟩:=Be hr;obtain⟨di,hdi,hr⟩:=Be hr;obtain⟨x',hx',hr⟩:=DG hr;have hx:=hst x (by simp[wL]) x' hx';have hex:execOp a.eval o=(do pure (.value (<- convert src dst (a.eval x)))):=by unfold execOp;rw[ho]
  obtain⟨ds,hds,ks⟩:=(hT src si hsi).und;obtain⟨dd,hdd,kd⟩:=(hT dst di hdi).und;cases hk:di.k with
  |int k=>
   cases hk2:si.k with
   |int k2=>
    simp only[hk,hk2]at hr;obtain⟨q,n,hxe,hg⟩:=bt (P:=P) H hx hr;rw[hk]at kd;cases kd;rw[hk2]at ks;cases ks;refine .AEC hex ?_;rw[hxe];have:(convert src dst (.int q n)).run P w=(Conv.intToInt k n).run P w:=by
     simp only[convert,vq,run_underlying hds,run_underlying hdd,If]
    rw[this];exact hg
   |_=>simp only[hk,hk2]at hr;cases hr
  |string=>
   cases hk2:si.k with
   |string=>
    simp only[hk,hk2]at hr;obtain⟨s,hxe,hg⟩:=cU H hx hr;rw[hk]at kd;cases kd;rw[hk2]at ks;cases ks;refine .AEC hex ?_;rw[hxe]at hg ⊢;have:(convert src dst (.string s)).run P w=.ok (.string s) w:=by
     simp only[convert,vq,run_underlying hds,run_underlying hdd,If,vt]
    rw[this];exact hg
   |slice el=>
    simp only[hk,hk2]at hr;obtain⟨ei,hei,hr⟩:=Be hr;cases hk3:ei.k with
    |int k3=>
     cases k3<;>simp only[hk3]at hr<;>first|(cases hr;done)|skip
     refine .AEC hex (YY H (fun a l c hxe=>?_) (hT src si hsi) hk2 (hT dst di hdi) hk (hT el ei hei) hk3 hx hr);cases hb:wB src dst with
     |true=>exact GF (by simp only[Go.Proofs.YtedbmmfebjfibaaGreat.kd,hb]) hE _
     |false=>
      have hi:M6 U src=false:=by unfold M6;rw[hsi];simp only[hk2]
      have hi2:Hn U dst=false:=by unfold Hn;rw[hdi];simp only[hk]
      have hkd:Go.Proofs.YtedbmmfebjfibaaGreat.kd U (.convert src dst x)=.r x:=by simp only[Go.Proofs.YtedbmmfebjfibaaGreat.kd,hb,hi,hi2]
      unfold HS at hE;rw[hkd]at hE;exact hE x' hx' _ (by rw[hxe];rfl)
    |_=>simp only[hk3]at hr;cases hr
   |_=>simp only[hk,hk2]at hr;cases hr
  |slice el=>
   cases hk2:si.k with
   |string=>
    simp only[hk,hk2]at hr;obtain⟨ei,hei,hr⟩:=Be hr;cases hk3:ei.k with
    |int k3=>
     cases k3<;>simp only[hk3]at hr<;>first|(cases hr;done)|skip
     cases hb:wB ei.size 1 with
     |false=>rw[hb]at hr;cases hr
     |true=>
      rw[hb]at hr;exact .AEC hex (SO H (hT src si hsi) hk2 (hT dst di hdi) hk (hT el ei hei) hk3 hei (Am.1 hb) hx hr)
    |_=>simp only[hk3]at hr;cases hr
   |slice el2=>
    simp only[hk,hk2]at hr;cases hb:wB src dst with
    |false=>rw[hb]at hr;cases hr
    |true=>
     rw[hb]at hr;have heq:src=dst:=Am.1 hb;have hE':=GF (by simp only[Go.Proofs.YtedbmmfebjfibaaGreat.kd,hb]) hE;obtain⟨ei,hei,hr⟩:=Be hr;cases hk3:ei.k with
     |int k3=>
      cases k3<;>simp only[hk3]at hr<;>first|(cases hr;done)|skip
      have hg:=YI (P:=P) H hE' (hT dst di hdi) hk (hT el ei hei) hk3 hx hr;rw[heq]at hex;exact .AEC hex hg
     |_=>simp only[hk3]at hr;cases hr
   |_=>simp only[hk,hk2]at hr;cases hr
  |_=>simp only[hk]at hr;cases hr
 |call c=>
  rw[ho]at hr hst hE;simp only[opC]at hr;cases h1:cOs f c.args.toList with
  |none=>simp only[h1]at hr;cases hr
  |some args=>
   simp only[h1]at hr;have ha:AEX φ (vals e args) (c.args.toList.map a.eval):=PO h1 fun x hx=>hst x (by
    unfold wL zi;cases hc:c.callee<;>simp[hc]<;>first|exact Or.inr (by simpa using hx)|exact(by simpa using hx))
   cases hc:c.callee with
   |builtin b=>
    simp only[hc]at hr;refine ZJ hT H hc ho ha ?_ hr;cases b with
    |len=>
     refine .inr (.inr (.inr ⟨rfl,fun x hx t ti ht hti hm r hxr=>?_⟩));subst hx;cases hl:c.args.toList with
     |nil=>rw[hl]at h1;cases h1
     |cons x0 l=>
      cases l with
      |cons x1 l=>
       rw[hl]at h1;unfold cOs at h1;cases hx0:cO f x0 with
       |none=>rw[hx0]at h1;cases h1
       |some y0=>
        rw[hx0]at h1;cases hx1:cOs f (x1::l)with
        |none=>rw[hx1]at h1;cases h1
        |some ys=>
         rw[hx1]at h1;cases h1;unfold cOs at hx1;cases hq:cO f x1 with
         |none=>rw[hq]at hx1;cases hx1
         |some y1=>
          rw[hq]at hx1;cases hq2:cOs f l with
          |none=>rw[hq2]at hx1;cases hx1
          |some ys=>rw[hq2]at hx1;cases hx1
      |nil=>
       rw[hl]at h1;have hx0:cO f x0=some x:=by
        unfold cOs at h1;cases hx0:cO f x0 with
        |none=>rw[hx0]at h1;cases h1
        |some y0=>rw[hx0]at h1;cases h1;rfl
       obtain⟨k,q,hm⟩:=hm;have hmap:UL U (c.argTypes.getD 0 0)=true:=by
        have:c.argTypes.getD 0 0=t:=by rw[wu,ht];rfl
        rw[this];unfold UL;rw[hti];simp only[hm]
       have hk:kd U (.call c)=.r x0:=by simp only[kd,hc,hl,hmap]
       unfold HS at hE;rw[hk]at hE;exact hE x hx0 r (by rw[hxr];rfl)
    |min=>exact .inr (.inl rfl)
    |max=>exact .inr (.inr (.inl rfl))
    |_=>
     refine .inl ?_;cases hl:c.args.toList with
     |nil=>exact GF (by simp only[kd,hc,hl]) hE
     |cons x l=>exact MJ (x:=x) (by simp only[kd,hc,hl]) hE
   |value g=>
    simp only[hc]at hr;have hE':∀ b,¬ E b:=GF (by simp only[kd,hc]) hE;cases g with
    |func g=>exact bn hF H hE' hc ho ha hr
    |tmp t=>
     obtain⟨g',hg',hr⟩:=DG hr;exact K3 hF H hE' hc ho (hst (.tmp t) (by unfold wL zi;simp[hc]) g' hg') ha hr
    |const t=>
     obtain⟨g',hg',hr⟩:=DG hr;exact K3 hF H hE' hc ho (hst (.const t) (by unfold wL zi;simp[hc]) g' hg') ha hr
    |global t=>
     obtain⟨g',hg',hr⟩:=DG hr;exact K3 hF H hE' hc ho (hst (.global t) (by unfold wL zi;simp[hc]) g' hg') ha hr
   |invoke recv name=>
    simp only[hc]at hr;have hE':∀ b,¬ E b:=GF (by simp only[kd,hc]) hE;obtain⟨x',hx',hr⟩:=DG hr;exact Uo hT hF H hE' hc ho (hst recv (by unfold wL zi;simp[hc]) x' hx') ha hr
 |lookup t x ix ok=>
  rw[ho]at hr hst hE;obtain⟨ti,hti,hr⟩:=Be hr;obtain⟨x',ix',hx',AJi,hr⟩:=KD hr;cases hk:ti.k with
  |map kt el=>
   simp only[hk]at hr;obtain⟨ei,hei,hr⟩:=Be hr;obtain⟨hz,hr⟩:=Ir hr;unfold wZero at hr;cases hzv:zeroV ei with
   |none=>rw[hzv]at hr;cases hr
   |some z=>
    rw[hzv]at hr;obtain⟨ti2,kt2,el2,K,AIj,hk2,hK,hr⟩:=ML hr;rw[hti]at AIj;cases AIj;rw[hk]at hk2;cases hk2;refine .AEC (by unfold execOp;rw[ho]) (Uq hT H (hT t ti hti) hk (hT el ei hei) hz hzv hK (hst x (by simp[wL]) x' hx') (hst ix (by simp[wL]) ix' AJi) (fun r hxr=>?_) hr);have hkd:kd U (.lookup t x ix ok)=.r x:=rfl;unfold HS at hE;rw[hkd]at hE;exact hE x' hx' r (by rw[hxr];rfl)
  |_=>simp only[hk]at hr;cases hr
 |mapUpdate t m k x=>
  rw[ho]at hr hst hE;obtain⟨ti,kt,el,K,hti,hk,hK,hr⟩:=ML (k:=fun ks=>w1 f m fun m=>w2 f k x fun key x=>FM ks m key x) hr;obtain⟨m',hm',hr⟩:=DG hr;obtain⟨k',x',hk',hx',hr⟩:=KD hr;exact .AFg (by unfold execOp;rw[ho]) (NS hT H (MJ (x:=m) rfl hE) (hT t ti hti) hk hK (hst m (by simp[wL]) m' hm') (hst k (by simp[wL]) k' hk') (hst x (by simp[wL]) x' hx') hr)
 |insert t m k x=>
  rw[ho]at hr hst hE;obtain⟨ti,kt,el,K,hti,hk,hK,hr⟩:=ML (k:=fun ks=>w1 f m fun m=>w2 f k x fun key x=>FM ks m key x) hr;obtain⟨m',hm',hr⟩:=DG hr;obtain⟨k',x',hk',hx',hr⟩:=KD hr;exact .AFg (by unfold execOp;rw[ho]) (NS hT H (MJ (x:=m) rfl hE) (hT t ti hti) hk hK (hst m (by simp[wL]) m' hm') (hst k (by simp[wL]) k' hk') (hst x (by simp[wL]) x' hx') hr)
 |range t x=>
  rw[ho]at hr hst hE;obtain⟨ti,hti,hr⟩:=Be hr;cases hk:ti.k with
  |map k q=>
   simp only[hk]at hr;obtain⟨x',hx',hr⟩:=DG hr;exact .AEC (by unfold execOp;rw[ho]) (YV H (GF rfl hE) (hT t ti hti) hk (hst x (by simp[wL]) x' hx') hr)
  |_=>simp only[hk]at hr;cases hr
 |next x s=>
  rw[ho]at hr hst hE;cases s with
  |true=>cases hr
  |false=>
   obtain⟨x',hx',hr⟩:=DG hr;exact .AEC (by unfold execOp;rw[ho]) (cM (t:=o.type) H (GF rfl hE) (hst x (by simp[wL]) x' hx') hr)
 |entry x=>
  rw[ho]at hr hst hE;obtain⟨x',hx',hr⟩:=DG hr;exact .AEC (by unfold execOp;rw[ho]) (YK H (GF rfl hE) (hst x (by simp[wL]) x' hx') hr)
 |typeAssert x xt t ok=>
  rw[ho]at hr hst hE;obtain⟨ti,hti,hr⟩:=Be hr;obtain⟨x',hx',hr⟩:=DG hr;have hr2:ti.k≠.iface/\wZ ti (wZero ti fun z=>L3 t ok z x') F e h=.ok v h':=by
   cases hk:ti.k with
   |iface=>simp only[hk]at hr;cases hr
   |_=>simp only[hk]at hr;exact⟨nofun,hr⟩
  obtain⟨hki,hr⟩:=hr2;obtain⟨hz,hr⟩:=Ir hr;unfold wZero at hr;cases hzv:zeroV ti with
  |none=>rw[hzv]at hr;cases hr
  |some z=>
   rw[hzv]at hr;exact .AEC (by unfold execOp;rw[ho]) (Ud H (hT t ti hti) hki hz hzv (hst x (by simp[wL]) x' hx') hr)
 |_=>rw[ho]at hr;cases hr
end
end
noncomputable section
open Go
def uM(h:Hp):R->R
 |.ok v _=>.ok v h
 |.no=>.no
def Kr(g:Hp->R):Prop:=∀ h h2:Hp,h2.bl=h.bl->g h2=uM h2 (g h)
def Kp(g:OpF):Prop:=∀ F e,Kr (g F e)
theorem Kr.same{g:Hp->R}(k:Kr g){h h':Hp}{v:IN}(hr:g h=.ok v h'):h'=h:=by
 have:=k h h rfl;rw[hr]at this;have:(R.ok v h')=.ok v h:=this;cases this;rfl
theorem Kr.at{g:Hp->R}(k:Kr g){h h':Hp}{v:IN}(hr:g h=.ok v h')(h2:Hp)(hb:h2.bl=h.bl):g h2=.ok v h2:=by
 rw[k h h2 hb,hr];rfl
theorem Kr.no:Kr fun _=>.no:=fun _ _ _=>rfl
theorem Kr.ok(v:IN):Kr fun h=>.ok v h:=fun _ _ _=>rfl
theorem Kr.bif{c:Bool}{a b:Hp->R}(ka:Kr a)(kb:Kr b):Kr fun h=>bif c then a h else b h:=by
 cases c
 ·exact kb
 ·exact ka
theorem Kr.AEQ{v:IN}{k:IN->Hp->R}(hk:∀ v,Kr (k v)):Kr fun h=>AEQ v fun v=>k v h:=by
 intro h h2 hb;simp only[BH];exact hk v h h2 hb
theorem Kr.AEr{v:List IN}{k:List IN->Hp->R}(hk:∀ v,Kr (k v)):Kr fun h=>AEr v fun v=>k v h:=by
 intro h h2 hb;simp only[CX];exact hk v h h2 hb
theorem Kr.AEU{v:Nat}{k:Nat->Hp->R}(hk:∀ v,Kr (k v)):Kr fun h=>AEU v fun v=>k v h:=by
 intro h h2 hb;simp only[AZ];exact hk v h h2 hb
theorem Kr.okI(k:wH)(n:Int):Kr fun h=>okI k n h:=fun h h2 _=>by simp only[El];rfl
theorem Kr.AFX(v:IN):Kr fun h=>AFX v h:=fun h h2 _=>by simp only[E9];rfl
theorem Kr.okB(b:Bool):Kr fun h=>okB b h:=by cases b<;>exact .ok _
theorem Kr.row{b:Nat}{k:VT->Nat->Nat->Hp->R}{z:Hp->R}(hk:∀ c s e,Kr (k c s e))(hz:Kr z):Kr fun h=>match rowOf h b with
  |.ok c s e=>k c s e h
  |.no=>z h:=by
 intro h h2 hb;have:rowOf h2 b=rowOf h b:=by unfold rowOf;rw[hb]
 simp only[this];cases rowOf h b with
 |ok c s e=>exact hk c s e h h2 hb
 |no=>exact hz h h2 hb
theorem Kr.ents{b:Nat}{k:List Ent->Nat->Hp->R}{z:Hp->R}(hk:∀ c s,Kr (k c s))(hz:Kr z):Kr fun h=>match BV h b with
  |.ok c s=>k c s h
  |.no=>z h:=by
 intro h h2 hb;have:BV h2 b=BV h b:=by unfold BV;rw[hb]
 simp only[this];cases BV h b with
 |ok c s=>exact hk c s h h2 hb
 |no=>exact hz h h2 hb
theorem V8{c:VT}{off:Nat}{k:List IN->Hp->R}(hk:∀ l,Kr (k l))(n:Nat)(acc:List IN):Kr fun h=>UH c off (fun l=>k l h) n acc:=by
 intro h h2 hb;simp only[F6];exact hk _ h h2 hb
theorem HX{e:Env}{x:Option O}{d y:Nat}{k:Nat->Hp->R}(hk:∀ n,Kr (k n)):Kr fun h=>Ck e x d y fun n=>k n h:=by
 unfold Ck;cases x with
 |none=>exact hk d
 |some o=>
  simp only;cases DE (o e)with
  |no=>exact .no
  |ok n=>exact .bif (hk n) .no
theorem KL{e:Env}{l c:Nat}{lo hi mx:Option O}{k:Nat->Nat->Nat->Hp->R}(hk:∀ a b c,Kr (k a b c)):Kr fun h=>DR e l c lo hi mx fun a b c=>k a b c h:=by
 unfold DR;cases mx with
 |none=>exact HX (k:=fun hh h=>Ck e lo 0 hh fun l=>k l hh c h) fun hh=>HX (k:=fun l h=>k l hh c h) fun l=>hk l hh c
 |some m=>
  refine HX (k:=fun m h=>_) fun m=>?_
  cases hi with
  |none=>exact .no
  |some hh=>exact HX (k:=fun hh h=>Ck e lo 0 hh fun l=>k l hh m h) fun hh=>HX (k:=fun l h=>k l hh m h) fun l=>hk l hh m
theorem G9{a:Option Addr}{s l hh m:Nat}:Kr fun h=>Bn a s l hh m h:=by
 unfold Bn;refine .AEU (k:=fun n h=>_) fun n=>.AEU (k:=fun c h=>_) fun c=>?_
 cases wB m l with
 |true=>exact .ok _
 |false=>
  cases a with
  |none=>exact .ok _
  |some a=>
   simp only;cases wY l s with
   |zero=>exact .ok _
   |succ m=>exact .AEU (k:=fun o h=>_) fun o=>.ok _
theorem Sd{g:Bool}{s:Nat}{cs:List IN}{off:Nat}:Kr fun h=>Oq g s cs off h:=by
 unfold Oq;cases g with
 |true=>exact .AEr (k:=fun l h=>_) fun l=>.ok _
 |false=>
  simp only;cases nth cs off with
  |none=>exact .no
  |some v=>exact .AEQ (k:=fun l h=>_) fun l=>.ok _
theorem Q4{e:Env}{k:List IN->Hp->R}(hk:∀ l,Kr (k l)):∀ (ps:List (Nat×Nat×O)) (cs:List IN),Kr fun h=>EX cs e (fun l=>k l h) ps
 |[],cs=>by
  unfold EX;exact .AEr (k:=k) hk
 |(off,size,x)::ps,cs=>by
  unfold EX;exact .AEQ (k:=fun v h=>_) fun v=>.bif (.bif (.bif (Q4 hk ps _) .no) .no) .no
theorem NC{ok:Bool}{v:IN}{b:Bool}:Kr fun h=>DV ok v b h:=by
 unfold DV;cases ok
 ·exact .AEQ (k:=fun v h=>_) fun v=>.ok _
 ·exact .AEQ (k:=fun v h=>_) fun v=>.ok _
theorem Sj{a:Addr}{n:Nat}:Kr fun h=>Ou a n h:=.AEU (k:=fun o h=>_) fun o=>.ok _
theorem TB{size:Nat}{v:IN}{n:Nat}{k:List IN->Hp->R}(hk:∀ l,Kr (k l)):Kr fun h=>BJ h size v n fun l=>k l h:=by
 unfold BJ;cases v with
 |slice a l c=>
  cases a with
  |none=>exact hk []
  |some a=>exact .row (k:=fun c s _ h=>bif vx (xc a.off (wY n size)) s then UH c a.off (fun l=>k l h) (wY n size) []else .no) (z:=fun _=>.no) (fun c s _=>.bif (V8 hk _ _) .no) .no
 |string s=>exact .bif (hk _) .no
 |chan c=>
  cases c with
  |none=>exact .no
  |some r=>exact hk []
 |_=>exact .no
end
noncomputable section
open Go
theorem Kp.oNo:Kp oNo:=fun _ _=>.no
theorem Kp.w1{f:Fr}{x:wV}{k:O->OpF}(hk:∀ y,Kp (k y)):Kp (w1 f x k):=by
 unfold Go.Proofs.YtedbmmfebjfibaaGreat.w1;split
 ·exact hk _
 ·exact .oNo
theorem Kp.w2{f:Fr}{x y:wV}{k:O->O->OpF}(hk:∀ x y,Kp (k x y)):Kp (w2 f x y k):=.w1 fun x=>.w1 fun y=>hk x y
theorem Kp.wTy{U:TTy}{t:Nat}{k:TI->OpF}(hk:∀ ti,U.get t=some ti->Kp (k ti)):Kp (wTy U t k):=by
 unfold Go.Proofs.YtedbmmfebjfibaaGreat.wTy;split
 ·rename_i ti h;exact hk ti h
 ·exact .oNo
theorem Kp.wZ{ti:TI}{k:OpF}(hk:Kp k):Kp (wZ ti k):=by
 unfold Go.Proofs.YtedbmmfebjfibaaGreat.wZ;split
 ·exact hk
 ·exact .oNo
theorem Kp.wZero{ti:TI}{k:IN->OpF}(hk:∀ z,Kp (k z)):Kp (wZero ti k):=by
 unfold Go.Proofs.YtedbmmfebjfibaaGreat.wZero;split
 ·exact hk _
 ·exact .oNo
theorem Kp.wKey{U:TTy}{t:Nat}{k:KS->OpF}(hk:∀ z,Kp (k z)):Kp (wKey U t k):=by
 unfold Go.Proofs.YtedbmmfebjfibaaGreat.wKey;refine .wTy fun ti _=>?_
 split
 ·refine .wTy fun ki _=>?_
  split
  ·exact hk _
  ·exact .oNo
 ·exact .oNo
section
variable {x y z:O}
theorem NQ:Kp (AP x):=fun F e=>.AFX _
theorem cQ:Kp (A0 x y z):=fun F e=>by
 show Kr fun h=>cw (x e) (y e) (z e) h
 cases x e with
 |bool t=>cases t<;>exact .AFX _
 |_=>exact .no
theorem Ok{zs:List IN}{ps:List (Nat×Nat×O)}:Kp (B5 zs ps):=fun F e=>Q4 (k:=fun cs h=>.ok (.agg ⟨cs⟩) h) (fun l=>.ok _) ps zs
theorem iz:Kp (Bl x):=fun F e=>by
 show Kr fun h=>YD (x e) h
 unfold YD;cases x e with
 |pointer a=>cases a;exact .no;exact .ok _
 |func f a b=>cases f<;>first|exact .ok _|exact .no
 |slice a n c=>exact .ok _
 |map m=>exact .ok _
 |iface t v=>exact .AEQ (k:=fun v h=>.ok (.iface t v) h) fun v=>.ok _
 |_=>exact .no
theorem iZ{f:Int->Int->Bool}{k:wH}:Kp (Ai f k x y):=fun F e=>by
 show Kr fun h=>fT f (Ce k (x e)) (Ce k (y e)) h
 cases Ce k (x e)with
 |no=>exact .no
 |ok a=>cases Ce k (y e)with
  |no=>exact .no
  |ok b=>exact .okB _
theorem iP{f:Int->Int->Int}{k:wH}:Kp (Cr f k x y):=fun F e=>by
 show Kr fun h=>lH f k (Ce k (x e)) (Ce k (y e)) h
 cases Ce k (x e)with
 |no=>exact .no
 |ok a=>cases Ce k (y e)with
  |no=>exact .no
  |ok b=>exact .okI _ _
theorem iM{k:wH}{top:Nat}:Kp (CG k top x y):=fun F e=>by
 show Kr fun h=>eU k top (Ce k (x e)) (Ce k (y e)) h
 cases Ce k (x e)with
 |no=>exact .no
 |ok a=>cases Ce k (y e)with
  |no=>exact .no
  |ok b=>
   cases a with
   |negSucc _=>exact .okI _ _
   |ofNat a=>cases b with
    |negSucc _=>exact .okI _ _
    |ofNat b=>
     unfold eU;simp only;cases vx (xc a b) top with
     |true=>exact .AEU (k:=fun n h=>.ok (.int k (.ofNat n)) h) fun n=>.ok _
     |false=>exact .okI _ _
theorem ig{k:wH}:Kp (Lj k x y):=fun F e=>by
 show Kr fun h=>aJ k (Ce k (x e)) (Ce k (y e)) h
 unfold aJ;cases Ce k (x e)with
 |no=>exact .no
 |ok a=>cases Ce k (y e)with
  |no=>exact .no
  |ok b=>exact .bif .no (.okI _ _)
theorem jA{k:wH}:Kp (N1 k x y):=fun F e=>by
 show Kr fun h=>dG k (Ce k (x e)) (Ce k (y e)) h
 unfold dG;cases Ce k (x e)with
 |no=>exact .no
 |ok a=>cases Ce k (y e)with
  |no=>exact .no
  |ok b=>exact .bif .no (.okI _ _)
theorem iU{f:Nat->Nat->Nat}{k:wH}:Kp (K4 f k x y):=fun F e=>by
 show Kr fun h=>ZE f k (Fw k (x e)) (Fw k (y e)) h
 unfold ZE;cases Fw k (x e)with
 |no=>exact .no
 |ok a=>cases Fw k (y e)with
  |no=>exact .no
  |ok b=>exact .bif (.bif (.okI _ _) .no) .no
theorem jC{k:wH}:Kp (N2 k x y):=fun F e=>by
 show Kr fun h=>dQ k (Fw k (x e)) (DE (y e)) h
 unfold dQ;cases Fw k (x e)with
 |no=>exact .no
 |ok a=>cases DE (y e)with
  |no=>exact .no
  |ok b=>exact .okI _ _
theorem jE{k:wH}:Kp (Lk k x y):=fun F e=>by
 show Kr fun h=>dR k (Fw k (x e)) (DE (y e)) h
 unfold dR;cases Fw k (x e)with
 |no=>exact .no
 |ok a=>cases DE (y e)with
  |no=>exact .no
  |ok b=>exact .okI _ _
theorem jG{f:List UInt8->List UInt8->Bool}:Kp (Jt f x y):=fun F e=>by
 show Kr fun h=>da f (x e) (y e) h
 unfold da;cases x e with
 |string a=>cases y e with
  |string b=>exact .okB _
  |_=>exact .no
 |_=>exact .no
theorem iX:Kp (iW x y):=fun F e=>by
 show Kr fun h=>fO (x e) (y e) h
 unfold fO;cases x e with
 |string a=>cases y e with
  |string b=>exact .bif (.ok _) .no
  |_=>exact .no
 |_=>exact .no
theorem qn{k:TK}{n:Bool}:Kp (oEq k n x y):=fun F e=>by
 unfold oEq;cases eqV k (x e) (y e)with
 |some r=>exact .okB _
 |none=>exact .no
theorem cP{n:Bool}:Kp (Ol n x):=fun F e=>by
 show Kr fun h=>be n (x e) h
 unfold be;cases x e<;>first|exact .okB _|exact .no
theorem Wa{k:KS}{n:Bool}:Kp (SE k n x y):=fun F e=>by
 unfold SE;cases eqC k (x e) (y e)with
 |some r=>exact .okB _
 |none=>exact .no
theorem i7:Kp (Ds x):=fun F e=>by
 unfold Ds;cases x e with
 |bool b=>exact .okB _
 |_=>exact .no
theorem ia:Kp (bz x):=fun F e=>by
 unfold bz;cases Fw .u8 (x e)with
 |no=>exact .no
 |ok n=>exact .bif (.okI _ _) .no
theorem iu{k:wH}:Kp (cL k x):=fun F e=>by
 unfold cL;cases Ce k (x e)with
 |no=>exact .no
 |ok n=>exact .okI _ _
theorem br{k:wH}:Kp (Cm k x):=fun F e=>by
 unfold Cm;cases X0 (x e)with
 |no=>exact .no
 |ok n=>exact .okI _ _
theorem cT:Kp (SN x):=fun F e=>by
 unfold SN;cases x e with
 |string b=>exact .ok _
 |_=>exact .no
theorem YX:Kp (Fe x):=fun F e=>by
 unfold Fe;cases x e with
 |slice a n c=>
  refine TB (k:=fun cs h=>match Et cs with|some bs=>.ok (.string ⟨⟨bs⟩⟩) h|none=>.no) fun l=>?_
  cases Et l with
  |some bs=>exact .ok _
  |none=>exact .no
 |_=>exact .no
theorem YN{t:Nat}:Kp (NP t x):=fun F e=>.AEQ (k:=fun v h=>.ok (.iface t v) h) fun v=>.ok _
theorem cB{fn:Fn}{a b:List O}:Kp (FA fn a b):=fun F e=>.AEr (k:=fun f h=>AEr (vals e b) fun c=>.ok (.func fn ⟨f⟩ ⟨c⟩) h) fun f=>.AEr (k:=fun c h=>.ok (.func fn ⟨f⟩ ⟨c⟩) h) fun c=>.ok _
theorem Ui{lo hi:Option O}:Kp (IX x lo hi):=fun F e=>by
 unfold IX;cases x e with
 |string s=>exact KL (k:=fun l hh _ h=>.ok (.string ⟨⟨Lb (Nat.sub hh l) (Ml l s.data.toList)⟩⟩) h) fun a b c=>.ok _
 |_=>exact .no
theorem fY{el s:Nat}{a:Option Addr}{mx:Bool}{l hh m:Nat}:Kr fun h=>EL el s a mx l hh m h:=by
 unfold EL;cases mx with
 |true=>exact G9
 |false=>
  cases l with
  |zero=>exact G9
  |succ l=>
   intro h h2 hb;have:E0 el a h2=E0 el a h:=by
    unfold E0;cases a with
    |none=>rfl
    |some a=>
     have:rowOf h2 a.block=rowOf h a.block:=by unfold rowOf;rw[hb]
     simp only[this]
   simp only[this];cases E0 el a h with
   |true=>exact G9 h h2 hb
   |false=>rfl
theorem ic{el s:Nat}{lo hi mx:Option O}:Kp (D5 el s x lo hi mx):=fun F e=>by
 unfold D5;cases x e with
 |slice a n c=>exact KL (k:=fun l hh m h=>EL el s a mx.isSome l hh m h) fun _ _ _=>fY
 |_=>exact .no
theorem Ug{n s:Nat}{lo hi mx:Option O}:Kp (GA n s x lo hi mx):=fun F e=>by
 unfold GA;cases Dq (x e)with
 |ok a=>exact KL (k:=fun l hh m h=>Bn (some a) s l hh m h) fun _ _ _=>G9
 |no=>exact .no
theorem Nz{o:Nat}:Kp (AF o x):=fun F e=>by
 unfold AF;cases Dq (x e)with
 |ok a=>exact Sj
 |no=>exact .no
theorem YL{g:Bool}{s o:Nat}:Kp (NO g s o x):=fun F e=>by
 unfold NO;cases x e with
 |agg cs=>exact Sd
 |_=>exact .no
theorem WG{n s:Nat}{a:AA}{i:NN}:Kr fun h=>My n s a i h:=by
 unfold My;cases i with
 |no=>exact .no
 |ok i=>
  simp only;cases wz i n with
  |false=>exact .no
  |true=>
   cases a with
   |no=>exact .no
   |ok a=>exact Sj
theorem Um{n s:Nat}:Kp (Cb n s x y):=fun F e=>WG
theorem ij{s:Nat}:Kp (CB s x y):=fun F e=>by
 unfold CB;cases x e with
 |slice a n c=>cases a;exact .no;exact WG
 |_=>exact .no
theorem qk{g:Bool}{n s:Nat}:Kp (oAt g n s x y):=fun F e=>by
 show Kr fun h=>atF g n s (x e) (DE (y e)) h
 unfold atF;cases DE (y e)with
 |no=>exact .no
 |ok i=>
  refine .bif ?_ .no;cases x e with
  |agg cs=>exact Sd
  |_=>exact .no
theorem YG:Kp (I7 x y):=fun F e=>by
 show Kr fun h=>KH (x e) (DE (y e)) h
 unfold KH;cases DE (y e)with
 |no=>exact .no
 |ok i=>
  simp only;cases x e with
  |string s=>
   simp only;cases nth s.data.toList i with
   |some b=>exact .okI _ _
   |none=>exact .no
  |_=>exact .no
theorem SG{i:Nat}:Kp (Af i x):=fun F e=>by
 unfold Af;cases x e with
 |tuple vs=>
  simp only;cases nth vs.toList i with
  |some v=>exact .AEQ (k:=fun v h=>.ok v h) fun v=>.ok v
  |none=>exact .no
 |_=>exact .no
theorem iQ{n:Nat}:Kp (SD n x):=fun F e=>by
 unfold SD;cases x e with
 |slice a l c=>cases a;exact .no;exact .bif (.ok _) .no
 |_=>exact .no
theorem cF:Kp (Bf x):=fun F e=>by
 unfold Bf;cases x e with
 |slice a n c=>exact .ok _
 |chan o=>cases o;exact .no;exact .ok _
 |_=>exact .no
theorem cI:Kp (SJ x):=fun F e=>by
 unfold SJ;cases x e with
 |string s=>exact .AEU (k:=fun n h=>.ok (.int .i64 (.ofNat n)) h) fun n=>.ok _
 |_=>exact .no
theorem cD:Kp (SI x):=fun F e=>by
 unfold SI;cases x e with
 |map r=>
  cases r with
  |none=>exact .ok _
  |some r=>exact .ents (k:=fun es _ h=>AEU (BA es) fun n=>.ok (.int .i64 (.ofNat n)) h) (z:=fun _=>.no) (fun es _=>.AEU (k:=fun n h=>.ok (.int .i64 (.ofNat n)) h) fun n=>.ok _) .no
 |_=>exact .no
theorem Of{l:Bool}{a b:IN}:Kr fun h=>Ht l a b h:=by
 unfold Ht;cases a with
 |int k a=>
  simp only;cases X0 b with
  |no=>exact .no
  |ok b=>exact .bif (.ok _) (.ok _)
 |_=>exact .no
theorem iq:Kp (YU x y):=fun F e=>Of
theorem io:Kp (Ur x y):=fun F e=>Of
theorem YP:Kp (AN x):=fun F e=>by
 unfold AN;cases Dq (x e)with
 |no=>exact .no
 |ok a=>
  intro h h2 hb;show AEF a h2=uM h2 (AEF a h);have:rowOf h2 a.block=rowOf h a.block:=by unfold rowOf;rw[hb]
  unfold AEF;rw[this];cases rowOf h a.block with
  |no=>rfl
  |ok c s t=>
   simp only;cases wz a.off s with
   |false=>rfl
   |true=>simp only[BH];rfl
theorem YR{n:Nat}:Kp (Bd n x):=fun F e=>by
 unfold Bd;cases Dq (x e)with
 |no=>exact .no
 |ok a=>exact .row (k:=fun c s _ h=>bif vx (xc a.off n) s then UH c a.off (fun l=>.ok (.agg ⟨l⟩) h) n []else .no) (z:=fun _=>.no) (fun c s _=>.bif (V8 (k:=fun l h=>.ok (.agg ⟨l⟩) h) (fun l=>.ok _) _ _) .no) .no
theorem Up{K:KS}{zv:IN}{ok:Bool}:Kp (FL K zv ok x y):=fun F e=>by
 show Kr fun h=>F7 K zv (x e) (y e) ok h
 unfold F7;cases Fu K (y e)with
 |false=>exact .no
 |true=>
  simp only;cases x e with
  |map r=>
   cases r with
   |none=>exact NC
   |some r=>
    refine .ents (k:=fun es _ h=>match Ip K (y e) es with
     |some (some en)=>DV ok en.val true h
     |some none=>DV ok zv false h
     |none=>.no) (z:=fun _=>.no) (fun es _=>?_) .no
    cases Ip K (y e) es with
    |none=>exact .no
    |some o=>cases o<;>exact NC
  |_=>exact .no
end
section
variable {U:TTy}{f:Fr}
theorem fA{op:BinOp}{t:Nat}{x y:wV}:Kp (ZC U f op t x y):=by
 unfold ZC;refine .wTy fun ti _=>.w2 fun x y=>?_
 split
 ·split
  ·cases op<;>first|exact cP|exact .oNo
  ·exact .oNo
 ·cases op<;>first|exact iM|exact iP|exact ig|exact jA|exact iU|exact jC|exact jE|exact iZ|exact .oNo
 ·cases op<;>first|exact iX|exact jG|exact .oNo
 ·split
  ·cases op<;>first|exact Wa|exact .oNo
  ·exact .oNo
 ·split
  ·cases op<;>first|exact Wa|exact .oNo
  ·exact .oNo
 ·cases op<;>first|exact qn|exact .oNo
theorem qq{op:Op}(hk:kd U op=.p\/∃ x,kd U op=.r x):Kp (opC U f op):=by
 cases op with
 |move x=>exact .w1 fun x=>NQ
 |assign x=>exact .w1 fun x=>NQ
 |pick c a b=>exact .w1 fun c=>.w2 fun a b=>cQ
 |build t ps=>
  refine .wTy fun ti _=>.wZ ?_
  split
  ·split
   ·exact Ok
   ·exact .oNo
  ·refine .wTy fun ei _=>?_
   split
   ·exact Ok
   ·exact .oNo
  ·exact .oNo
 |load t x=>
  refine .wTy fun ti _=>.w1 fun x=>?_
  split
  ·exact YR
  ·exact YP
 |nilCheck x=>exact .w1 fun x=>iz
 |binOp op t x y u=>exact fA
 |unOp op t x=>
  refine .wTy fun ti _=>.w1 fun x=>?_
  split<;>first|exact i7|exact iu|exact ia|exact .oNo
 |convert src dst x=>
  refine .wTy fun si hsi=>.wTy fun di hdi=>.w1 fun x=>?_
  split
  ·exact br
  ·exact cT
  ·refine .wTy fun ei _=>?_
   split
   ·exact YX
   ·exact .oNo
  ·rename_i hd hs
   exfalso
   simp only[kd]at hk;cases hb:wB src dst with
   |true=>simp only[hb]at hk;rcases hk with hk|⟨_,hk⟩<;>cases hk
   |false=>
    have h1:M6 U src=false:=by unfold M6;rw[hsi];simp only[hs]
    have h2:Hn U dst=true:=by unfold Hn;rw[hdi];simp only[hd]
    simp only[hb,h1,h2]at hk;rcases hk with hk|⟨_,hk⟩<;>cases hk
  ·rename_i hs hd
   split
   ·rename_i hb
    exfalso
    simp only[kd,hb]at hk;rcases hk with hk|⟨_,hk⟩<;>cases hk
   ·exact .oNo
  ·exact .oNo
 |makeInterface t x=>
  refine .wTy fun ti _=>.w1 fun x=>?_
  split
  ·exact .oNo
  ·exact YN
 |makeFunc fn a b=>
  show Kp (match cOs f a.toList,cOs f b.toList with
   |some fs,some c=>FA fn fs c
   |_,_=>oNo)
  split
  ·exact cB
  ·exact .oNo
 |slice t x lo hi mx=>
  refine .wTy fun ti _=>.w1 fun x=>?_
  split
  ·split
   ·split
    ·exact Ui
    ·exact .oNo
   ·exact .wTy fun ei _=>ic
   ·exact .wTy fun ei _=>Ug
   ·exact .oNo
  ·exact .oNo
 |fieldAddr t x i=>
  refine .wTy fun ti _=>.w1 fun x=>?_
  split
  ·split<;>first|exact Nz|exact .oNo
  ·exact .oNo
 |field t x i=>
  refine .wTy fun ti _=>.w1 fun x=>?_
  split
  ·split
   ·exact .wTy fun fi _=>YL
   ·exact .oNo
  ·exact .oNo
 |indexAddr t x i=>
  refine .wTy fun ti _=>.w2 fun x y=>?_
  split
  ·exact .wTy fun fi _=>Um
  ·exact .wTy fun fi _=>ij
  ·exact .oNo
 |index t x i=>
  refine .wTy fun ti _=>.w2 fun x y=>?_
  split
  ·exact .wTy fun fi _=>qk
  ·exact YG
  ·exact .oNo
 |lookup t x i ok=>
  refine .wTy fun ti _=>.w2 fun x y=>?_
  split
  ·exact .wTy fun ei _=>.wZ (.wZero fun z=>.wKey fun ks=>Up)
  ·exact .oNo
 |extract t i=>exact .w1 fun t=>SG
 |sliceToArrayPointer t x=>
  refine .wTy fun ti _=>?_
  split
  ·exact .w1 fun x=>iQ
  ·exact .oNo
 |call c=>
  simp only[kd]at hk;cases hc:c.callee with
  |builtin b=>
   show Kp (match cOs f c.args.toList with
    |some args=>match c.callee with
     |.builtin b=>KP U b c.argTypes.toList args
     |.value g=>match g with
      |.func g=>AS g args
      |g=>w1 f g fun g=>Ei g args
     |.invoke recv name=>w1 f recv fun x=>L8 (U.meths name fun k=>k) x args
    |none=>oNo)
   split
   ·rename_i args ha
    simp only[hc];cases b with
    |len=>
     unfold KP;split<;>rename_i h1<;>first|(cases h1;done)|skip
     all_goals (try (exact .oNo))
     split
     ·refine .wTy fun ti _=>?_
      split
      ·exact cF
      ·exact cI
      ·exact cD
      ·exact NQ
      ·exact .oNo
     ·exact .oNo
    |min=>
     unfold KP;split<;>rename_i h1<;>first|(cases h1;done)|exact iq|exact .oNo
    |max=>
     unfold KP;split<;>rename_i h1<;>first|(cases h1;done)|exact io|exact .oNo
    |_=>
     exfalso
     simp only[hc]at hk;cases hl:c.args.toList with
     |nil=>simp only[hl]at hk;rcases hk with hk|⟨_,hk⟩<;>cases hk
     |cons _ _=>simp only[hl]at hk;rcases hk with hk|⟨_,hk⟩<;>cases hk
   ·exact .oNo
  |_=>
   exfalso
   simp only[hc]at hk;rcases hk with hk|⟨_,hk⟩<;>cases hk
 |_=>first|exact .oNo|(exfalso;rcases hk with hk|⟨_,hk⟩<;>cases hk)
end
end
noncomputable section
open Go
abbrev Rho:=Nat->Option IN
def AEY(A:List Nat)(σ:Sg)(e:Env):Rho:=fun t=>match QN A σ (.tmp t)with
 |some s=>some (Ln s e)
 |none=>none
def evR(ρ:Rho):wV->Option IN
 |.tmp t=>ρ t
 |.const v=>if Fg v then some v else none
 |.func g=>some (.func (.func g) #[] #[])
 |.global _=>none
theorem ET(A:List Nat)(σ:Sg)(e:Env)(t:Nat):AEY A σ e t=match DU t σ with
  |some s=>some (Ln s e)
  |none=>match memN t A with
   |true=>none
   |false=>match wz t 160 with
    |true=>some (J t e)
    |false=>none:=by
 show(match QN A σ (.tmp t)with|some s=>some (Ln s e)|none=>none)=_;show(match (match DU t σ with|some s=>some s|none=>match memN t A with|true=>none|false=>match wz t 160 with|true=>some (Src.s t)|false=>none)with|some s=>some (Ln s e)|none=>none)=_;cases DU t σ with
 |some s=>rfl
 |none=>
  cases memN t A with
  |true=>rfl
  |false=>cases wz t 160<;>rfl
theorem dY{A:List Nat}{σ:Sg}{x:wV}{s:Src}(h:QN A σ x=some s)(e:Env):evR (AEY A σ e) x=some (Ln s e):=by
 cases x with
 |tmp t=>show(match QN A σ (.tmp t)with|some s=>some (Ln s e)|none=>none)=_;rw[h]
 |const v=>
  have h:(match Fg v with|true=>some (Src.c v)|false=>none)=some s:=h;cases hp:Fg v with
  |true=>rw[hp]at h;cases h;show(if Fg v then some v else none)=_;rw[if_pos hp];rfl
  |false=>rw[hp]at h;cases h
 |func g=>cases h;rfl
 |global _=>cases h
theorem nP{f:Fr}{x:wV}{y:O}(h:cO f x=some y):∃ s,QN f.A f.σ x=some s/\y=Ln s:=by
 unfold cO at h;split at h
 ·rename_i s hs;cases h;exact⟨s,hs,rfl⟩
 ·cases h
theorem F1{A:List Nat}{σ:Sg}{x:wV}{y:O}(h:cO ⟨A,σ⟩ x=some y)(e:Env):evR (AEY A σ e) x=some (y e):=by
 obtain⟨s,hs,rfl⟩:=nP h;exact dY hs e
theorem Nb{φ:Phi}{v:IN}(h:Fg v=true):AED φ v v:=by
 unfold Fg at h;split at h
 ·rename_i cs
  exact .agg (l:=cs.toList) (l':=cs.toList) (.plain h)
 ·exact .plain h
structure AFa (A:List Nat)(σ:Sg):Prop where
 mem:∀ p∈σ,memN p.1 A=true
 nodup:(σ.map (·.1)).Nodup
 lt:∀ p∈σ,∀ n,p.2=.s n->n<160
theorem AFa.nil(A:List Nat):AFa A [] where
 mem:=fun p hp=>by cases hp
 nodup:=List.nodup_nil
 lt:=fun p hp=>by cases hp
theorem FO{a b:Nat}(h:wB a b=false):a≠b:=fun e=>by rw[e,xu]at h;cases h
theorem Ec:∀ {σ:Sg} {t:Nat} {s:Src},DU t σ=some s->(t,s)∈σ
 |(d,s')::l,t,s,h=>by
  unfold DU at h;split at h
  ·rename_i hb
   cases h;have:=Am.1 hb;subst this;exact vp
  ·exact vr _ (Ec h)
theorem FJ:∀ {σ:Sg} {t:Nat} {s:Src},(σ.map (·.1)).Nodup->(t,s)∈σ->DU t σ=some s
 |(d,s')::l,t,s,hn,h=>by
  unfold DU;rw[xV,xx]at hn;rcases wA.1 h with h|h
  ·cases h
   rw[xu]
  ·have:d≠t:=by
    intro e;subst e;exact hn.1 (wM.2 ⟨_,h,rfl⟩)
   have hb:wB d t=false:=by
    cases hb:wB d t with
    |true=>exact absurd (Am.1 hb) this
    |false=>rfl
   rw[hb];exact FJ hn.2 h
theorem Ea:∀ {σ:Sg} {d:Nat},(F4 d σ).Sublist σ/\∀ p∈F4 d σ,p.2≠.s d
 |[],d=>⟨.slnil,fun p hp=>by cases hp⟩
 |(t,.s n)::l,d=>by
  obtain⟨h1,h2⟩:=Ea (σ:=l) (d:=d);unfold F4;split
  ·exact⟨h1.cons _,h2⟩
  ·rename_i hb
   refine⟨h1.cons_cons _,fun p hp=>?_⟩;rcases wA.1 hp with rfl|hp
   ·intro e;cases e;exact FO hb rfl
   ·exact h2 p hp
 |(t,.c v)::l,d=>by
  obtain⟨h1,h2⟩:=Ea (σ:=l) (d:=d);unfold F4;refine⟨h1.cons_cons _,fun p hp=>?_⟩;rcases wA.1 hp with rfl|hp
  ·intro e;cases e
  ·exact h2 p hp
theorem Gj:∀ {σ:Sg} {d:Nat},(Fo d σ).Sublist σ/\∀ p∈Fo d σ,p.1≠d
 |[],d=>⟨.slnil,fun p hp=>by cases hp⟩
 |(t,s)::l,d=>by
  obtain⟨h1,h2⟩:=Gj (σ:=l) (d:=d);unfold Fo;split
  ·exact⟨h1.cons _,h2⟩
  ·rename_i hb
   refine⟨h1.cons_cons _,fun p hp=>?_⟩;rcases wA.1 hp with rfl|hp
   ·exact FO hb
   ·exact h2 p hp
theorem AFa.sub{A:List Nat}{σ σ':Sg}(h:AFa A σ)(hs:σ'.Sublist σ):AFa A σ':=
 ⟨fun p hp=>h.mem p (hs.subset hp),(hs.map (·.1)).nodup h.nodup,fun p hp=>h.lt p (hs.subset hp)⟩
theorem AFa.alias{A:List Nat}{σ:Sg}(h:AFa A σ){d:Nat}(hd:memN d A=true){s:Src}(hs:∀ n,s=.s n->n<160):AFa A ((d,s)::Fo d σ):=by
 have h':=h.sub (Gj (d:=d)).1;refine⟨fun p hp=>?_,?_,fun p hp=>?_⟩
 ·rcases wA.1 hp with rfl|hp
  ·exact hd
  ·exact h'.mem p hp
 rotate_left
 ·rcases wA.1 hp with rfl|hp
  ·exact hs
  ·exact h'.lt p hp
 ·rw[xV,xx]
  refine⟨fun hm=>?_,h'.nodup⟩;obtain⟨p,hp,e⟩:=wM.1 hm;exact(Gj (d:=d)).2 p hp e
theorem jY{A:List Nat}{σ:Sg}{e:Env}(hS:AFa A σ){d:Nat}(hd:memN d A=false)(hlt:d<160)(v:IN){t:Nat}{u:IN}
  (h:AEY A (F4 d σ) (Env.set d v e) t=some u):if t=d then u=v else AEY A σ e t=some u:=by
 rw[ET]at h;cases hf:DU t (F4 d σ)with
 |some s=>
  simp only[hf]at h;cases h;have hm:=Ec hf;have hm':=Ea.1.subset hm;have hne:=(Ea (σ:=σ) (d:=d)).2 _ hm;have hA:=hS.mem _ hm';have ht:t≠d:=by intro e;subst e;simp only at hA;rw[hd]at hA;cases hA
  rw[if_neg ht,ET,FJ hS.nodup hm'];simp only
  congr 1
  cases s with
  |c v=>rfl
  |s n=>
   have hn:n≠d:=fun e=>hne (by rw[e])
   show J n e=J n (Env.set d v e);have h3:n<160:=hS.lt _ hm' n rfl;rw[C0 n h3,C0 n h3,Env.AES _ _ _ _ hlt h3,if_neg hn]
 |none=>
  simp only[hf]at h;cases hm:memN t A with
  |true=>simp only[hm]at h;cases h
  |false=>
   simp only[hm]at h;cases hb:wz t 160 with
   |false=>simp only[hb]at h;cases h
   |true=>
    simp only[hb]at h;have h3:=BD.1 hb;cases h;have hg:J t (Env.set d v e)=if t=d then v else e.get t:=by
     rw[C0 t h3,Env.AES _ _ _ _ hlt h3]
    rw[hg];split
    ·rfl
    ·have hf2:DU t σ=none:=by
      cases hf2:DU t σ with
      |none=>rfl
      |some s=>
       have:=hS.mem _ (Ec hf2);simp only at this;rw[hm]at this;cases this
     rw[ET];simp only[hf2,hm,hb];rw[C0 t h3]
theorem Yf{A:List Nat}{σ:Sg}{e:Env}(hS:AFa A σ){d:Nat}(hd:memN d A=true)(s:Src){t:Nat}{u:IN}
  (h:AEY A ((d,s)::Fo d σ) e t=some u):if t=d then u=Ln s e else AEY A σ e t=some u:=by
 rw[ET]at h;by_cases ht:t=d
 ·rw[if_pos ht]
  subst ht;have:DU t ((t,s)::Fo t σ)=some s:=by unfold DU;rw[xu]
  simp only[this]at h;cases h;rfl
 ·rw[if_neg ht]
  have hb:wB d t=false:=by
   cases hb:wB d t with
   |true=>exact absurd (Am.1 hb).symm ht
   |false=>rfl
  have h1:DU t ((d,s)::Fo d σ)=DU t (Fo d σ):=by conv=>lhs;unfold DU;rw[hb]
  have h2:DU t (Fo d σ)=DU t σ:=by
   cases hf:DU t (Fo d σ)with
   |some s'=>exact(FJ hS.nodup (Gj.1.subset (Ec hf))).symm
   |none=>
    cases hf2:DU t σ with
    |none=>rfl
    |some s'=>
     have hm:=Ec hf2;have:∀ {σ:Sg},(t,s')∈σ->(t,s')∈Fo d σ:=by
      intro σ hm
      induction σ with
      |nil=>cases hm
      |cons p l ih=>
       obtain⟨a,b⟩:=p;unfold Fo;rcases wA.1 hm with h|h
       ·cases h
        have hb2:wB t d=false:=by
         cases hb:wB t d with
         |true=>exact absurd (Am.1 hb) ht
         |false=>rfl
        rw[hb2];exact vp
       ·split
        ·exact ih h
        ·exact vr _ (ih h)
     have:=FJ (hS.sub (Gj (d:=d)).1).nodup (this hm);rw[hf]at this;cases this
  rw[h1,h2]at h;rw[ET];exact h
structure Eff (T:Nat->Prop)(φ:Phi)(h:Hp)(w:wb)(φ':Phi)(h':Hp)(w':wb):Prop where
 le:φ.Le φ'
 new:∀ i p,φ' i=some p->φ i=some p\/h.next<=i
 next:h.next<=h'.next
 size:w.heap.size<=w'.heap.size
 tape:w'.tape=w.tape
 os:w'.os=w.os
 output:w'.output=w.output
 frame:∀ k,k<w.heap.size->(∀ i p,φ i=some p->p.inp=false->T i->Live h i->p.blk≠k)->w'.heap[k]? =w.heap[k]?
 back:∀ i p,φ' i=some p->Live h' i->p.blk<w.heap.size->∃ j q,φ j=some q/\Live h j/\q.blk=p.blk/\q.inp=p.inp/\(j=i\/T j)
 kept:∀ i,i<h.next->¬ T i->h'.bl.get i=h.bl.get i
 shape:∀ i,i<h.next->AEW (h.bl.get i) (h'.bl.get i)
 only:∀ i,i<h.next->φ i=none->h'.bl.get i=h.bl.get i
 all:∀ i,h.next<=i->i<h'.next->∃ p,φ' i=some p
theorem Evo.eff{φ ψ:Phi}{h h':Hp}{w w':wb}(ev:Evo φ h w ψ h' w'):Eff (fun c=>h'.low<=c/\c<=h'.high) φ h w ψ h' w' where
 le:=ev.le
 new:=ev.new
 next:=ev.next
 size:=ev.size
 tape:=ev.tape
 os:=ev.os
 output:=ev.output
 frame:=fun k hk hf=>ev.frame k hk fun i p e hn h1 h2 hl=>hf i p e hn ⟨h1,h2⟩ hl
 back:=ev.back
 kept:=fun i hi ht=>ev.kept i hi (by
  rcases wN i h'.low with h|h
  ·exact .inl h
  ·rcases wN h'.high i with h2|h2
   ·exact .inr h2
   ·exact absurd ⟨h,h2⟩ ht)
 shape:=ev.shape
 only:=ev.only
 all:=ev.all
theorem Eff.AFh{T:Nat->Prop}{φ ψ:Phi}{h h' g g':Hp}{w w':wb}(ev:Eff T φ h w ψ h' w')(h1:g.bl=h.bl)(h2:g.next=h.next)(h3:g'.bl=h'.bl)(h4:g'.next=h'.next):Eff T φ g w ψ g' w' where
 le:=ev.le
 new:=by rw[h2];exact ev.new
 next:=by rw[h2,h4];exact ev.next
 size:=ev.size
 tape:=ev.tape
 os:=ev.os
 output:=ev.output
 frame:=by unfold Live;rw[h1];exact ev.frame
 back:=by unfold Live;rw[h1,h3];exact ev.back
 kept:=by rw[h1,h2,h3];exact ev.kept
 shape:=by rw[h1,h2,h3];exact ev.shape
 only:=by rw[h1,h2,h3];exact ev.only
 all:=by rw[h2,h4];exact ev.all
theorem Eff.evo{T:Nat->Prop}{φ ψ:Phi}{h h':Hp}{w w':wb}(ev:Eff T φ h w ψ h' w')(hT:∀ c,T c->h'.low<=c/\c<=h'.high)(hl:h'.low<=h.low)(hh:h.high<=h'.high):Evo φ h w ψ h' w' where
 le:=ev.le
 new:=ev.new
 next:=ev.next
 size:=ev.size
 tape:=ev.tape
 os:=ev.os
 output:=ev.output
 frame:=fun k hk hf=>ev.frame k hk fun i p e hn ht hl=>hf i p e hn (hT i ht).1 (hT i ht).2 hl
 back:=fun i p e hl hp=>by
  obtain⟨j,q,e1,e2,e3,e5,e4⟩:=ev.back i p e hl hp;exact⟨j,q,e1,e2,e3,e5,e4.imp id (hT j)⟩
 kept:=fun i hi ho=>ev.kept i hi fun ht=>by have:=hT i ht;omega
 low:=hl
 high:=hh
 shape:=ev.shape
 only:=ev.only
 all:=ev.all
theorem AEG.AFh{U:TTy}{φ:Phi}{E:Nat->Prop}{h g:Hp}{w:wb}(H:AEG U φ E h w)(h1:g.bl=h.bl)(h2:g.next=h.next):AEG U φ E g w where
 dom:=by rw[h2];exact H.dom
 inj:=by unfold Live;rw[h1];exact H.inj
 row:=by rw[h1];exact H.row
 fresh:=by rw[h1,h2];exact H.fresh
 kind:=by rw[h1];exact H.kind
 inp:=H.inp
def TouchR(U:TTy)(ρ:Rho)(E:Nat->Prop)(op:Op):Prop:=match kd U op with
 |.p=>True
 |.a=>True
 |.r x=>∀ u,evR ρ x=some u->∀ b,AEn u=.ok b->¬ E b
 |.w _=>∀ b,¬ E b
 |.q=>∀ b,¬ E b
theorem Eff.cut{T:Nat->Prop}{φ ψ:Phi}{h h':Hp}{w w':wb}(ev:Eff T φ h w ψ h' w')(hd:∀ i p,φ i=some p->i<h.next):Eff (fun c=>T c/\c<h.next) φ h w ψ h' w' where
 le:=ev.le
 new:=ev.new
 next:=ev.next
 size:=ev.size
 tape:=ev.tape
 os:=ev.os
 output:=ev.output
 frame:=fun k hk hf=>ev.frame k hk fun i p e hn ht hl=>hf i p e hn ⟨ht,hd i p e⟩ hl
 back:=fun i p e hl hp=>by
  obtain⟨j,q,e1,e2,e3,e5,e4⟩:=ev.back i p e hl hp;exact⟨j,q,e1,e2,e3,e5,e4.imp id fun ht=>⟨ht,hd j q e1⟩⟩
 kept:=fun i hi ho=>ev.kept i hi fun ht=>ho ⟨ht,hi⟩
 shape:=ev.shape
 only:=ev.only
 all:=ev.all
theorem Eff.refl(φ:Phi)(h:Hp)(w:wb):Eff (fun _=>False) φ h w φ h w where
 le:=.refl φ
 new:=fun _ _ e=>.inl e
 next:=IT _
 size:=IT _
 tape:=rfl
 os:=rfl
 output:=rfl
 frame:=fun _ _ _=>rfl
 back:=fun i p e hl _=>⟨i,p,e,hl,rfl,rfl,.inl rfl⟩
 kept:=fun _ _ _=>rfl
 shape:=fun _ _=>.refl _
 only:=fun _ _ _=>rfl
 all:=fun _ h1 h2=>absurd h2 (AAx.2 h1)
def AIk(U:TTy)(o:yv)(ah:AEo):Prop:=(kd U o.op=.p\/∃ x,kd U o.op=.r x)\/(ah≠.plain/\∀ old x xs,ah≠.chk old x xs)
structure Core (P:xD)(U:TTy)(o:yv)(ah:AEo)(ρ:Rho)(h h':Hp)(v:IN)(T:Nat->Prop):Prop where
 AG1:∀ (φ:Phi) (E:Nat->Prop) (w:wb) (a:Act),AEG U φ E h w->(∀ x∈o.op.operands.toList,∀ u,evR ρ x=some u->AED φ u (a.eval x))->TouchR U ρ E o.op->
  ∀ (next:Act->wb->Prop) (Q:Exit->Act->wb->Prop),(∀ ψ v' w',AED ψ v v'->AEG U ψ E h' w'->Eff T φ h w ψ h' w'->Evo φ h w ψ h' w'->next (a.put o.dst v') w')->o.wp P a w next Q
 AGl:AIk U o ah->h'.low<=h.low/\h.high<=h'.high/\(∀ c,T c->h'.low<=c/\c<=h'.high)/\h'.mark=h.mark
 tlt:∀ c,T c->c<h.next
 tp:(kd U o.op=.p\/∃ x,kd U o.op=.r x)->(∀ c,¬ T c)/\h'=h
 AEV:ah=.quiet .AEV->∀ c,¬ T c
 weak:ah=.quiet .weak->∀ c,T c->h.mark<=c
 wr:∀ x xs,ah=.wr x xs->∀ c,T c->∃ u,evR ρ x=some u/\AEn u=.ok c
structure AHY (ah:AEo)(ρ:Rho)(h:Hp):Prop where
 wrx:∀ x xs,ah=.wr x xs->∀ y∈xs,∀ u u' b,evR ρ x=some u->evR ρ y=some u'->AEn u=.ok b->AEn u'≠.ok b
 chk:∀ old x xs,ah=.chk old x xs->∀ y∈xs,∀ u u' b,evR ρ x=some u->evR ρ y=some u'->AEn u=.ok b->AEn u'≠.ok b
 old:∀ x xs,ah=.chk true x xs->∀ u b,evR ρ x=some u->AEn u=.ok b->b<h.mark
 known:∀ x xs,(ah=.wr x xs\/∃ old,ah=.chk old x xs)->(∃ u,evR ρ x=some u)/\∀ y∈xs,∃ u,evR ρ y=some u
structure SF (P:xD)(U:TTy)(ops:List yv)(o:yv)(ah:AEo)(ρ ρ':Rho)(h h':Hp)(v:IN)(run:Bool)(T:Nat->Prop):Prop where
 slot:∀ t u,ρ' t=some u->if o.dst=some t then u=v else ρ t=some u
 grd:match o.guard with
  |none=>run=true
  |some (g,want)=>∃ og d c,ops[g]? =some og/\og.dst=some d/\ρ d=some c/\((∃ b,c=.bool b/\run=(want == b))\/(∃ l,c=.tuple l/\run=false))
 side:kd U o.op≠.p->AHY ah ρ h
 core:(run=true/\Core P U o ah ρ h h' v T)\/(run=false/\v=AEE/\h'=h/\∀ c,¬ T c)
section
variable {P:xD}{U:TTy}{F:AEB}
theorem Mj(hT:Cs P U)(hF:DH P U F){A:List Nat}{σ:Sg}{e:Env}{o:yv}{g g':Hp}{v:IN}(hr:opC U ⟨A,σ⟩ o.op F e g=.ok v g')(φ:Phi)(E:Nat->Prop)(w:wb)(a:Act)(H:AEG U φ E g w)
  (hn:∀ x∈o.op.operands.toList,∀ u,evR (AEY A σ e) x=some u->AED φ u (a.eval x))(ht:TouchR U (AEY A σ e) E o.op):EZ P U φ E g v g' o a w:=by
 refine qt hT hF H (f:=⟨A,σ⟩) (e:=e) (F:=F) (fun x hx y hy=>hn x hx _ (F1 hy e)) ?_ hr;unfold HS;unfold TouchR at ht;cases hk:kd U o.op with
 |p=>trivial
 |a=>trivial
 |r x=>rw[hk]at ht;exact fun y hy b hb=>ht _ (F1 hy e) b hb
 |w x=>rw[hk]at ht;exact ht
 |q=>rw[hk]at ht;exact ht
def J9(h:Hp):Hp:={next:=h.next,low:=h.next,high:=0,mark:=h.mark,bl:=h.bl}
theorem Mf(hT:Cs P U)(hF:DH P U F){A:List Nat}{σ:Sg}{e:Env}{o:yv}{ah:AEo}(hah:ah=.plain\/∃ old x xs,ah=.chk old x xs){h h':Hp}{v:IN}(hr:opC U ⟨A,σ⟩ o.op F e h=.ok v h'):∃ T,Core P U o ah (AEY A σ e) h h' v T:=by
 have hns:ah≠.quiet .AEV:=by rcases hah with rfl|⟨_,_,_,rfl⟩<;>exact fun h=>by cases h
 have hnw:ah≠.quiet .weak:=by rcases hah with rfl|⟨_,_,_,rfl⟩<;>exact fun h=>by cases h
 have hnr:∀ x xs,ah≠.wr x xs:=by rcases hah with rfl|⟨_,_,_,rfl⟩<;>exact fun _ _ h=>by cases h
 have hnm:¬ (ah≠.plain/\∀ old x xs,ah≠.chk old x xs):=by
  rcases hah with rfl|⟨_,_,_,rfl⟩
  ·exact fun h=>h.1 rfl
  ·exact fun h=>h.2 _ _ _ rfl
 by_cases hk:kd U o.op=.p\/∃ x,kd U o.op=.r x
 ·have K:=qq (U:=U) (f:=⟨A,σ⟩) hk F e
  have hh:=K.same hr;have hr2:=K.at hr (J9 h) rfl;subst hh;refine⟨fun _=>False,{AG1:=fun φ E w a H hn ht next Q hnx=>?_,AGl:=fun _=>⟨IT _,IT _,fun _ h=>h.elim,rfl⟩,tlt:=fun _ h=>h.elim,tp:=fun _=>⟨fun _ h=>h,rfl⟩,AEV:=fun h=>absurd h hns,weak:=fun h=>absurd h hnw,wr:=fun _ _ h=>absurd h (hnr _ _)}⟩;have key:∀ ψ v' w',AED ψ v v'->AEG U ψ E (J9 h') w'->Evo φ (J9 h') w ψ (J9 h') w'->Eff (fun _=>False) φ h' w ψ h' w':=?_
  ·exact Mj hT hF hr2 φ E w a (H.AFh rfl rfl) hn ht next Q fun ψ v' w' hv H' ev=>hnx ψ v' w' hv (H'.AFh rfl rfl) (key ψ v' w' hv H' ev) ((key ψ v' w' hv H' ev).evo (fun _ h=>h.elim) (IT _) (IT _))
  intro ψ v' w' hv H' ev;have e1:Eff (fun c=>h'.next<=c/\c<=0) φ h' w ψ h' w':=ev.eff.AFh rfl rfl rfl rfl;have hd:∀ i p,φ i=some p->i<h'.next:=fun i p e=>(H.dom i p e).1
  have e2:=e1.cut hd;exact {e2 with
   frame:=fun k hk hf=>e2.frame k hk fun i p e hn ht=>by omega
   back:=fun i p e hl hp=>by
    obtain⟨j,q,e1,e2,e3,e5,e4⟩:=e2.back i p e hl hp;exact⟨j,q,e1,e2,e3,e5,e4.imp id fun ht=>by omega⟩
   kept:=fun i hi _=>e2.kept i hi fun ht=>by omega}
 ·refine⟨fun c=>(h'.low<=c/\c<=h'.high)/\c<h.next,{AG1:=fun φ E w a H hn ht next Q hnx=>?_,AGl:=fun h=>absurd h (fun h=>h.elim hk hnm),tlt:=fun _ h=>h.2,tp:=fun h=>absurd h hk,AEV:=fun h=>absurd h hns,weak:=fun h=>absurd h hnw,wr:=fun _ _ h=>absurd h (hnr _ _)}⟩
  exact Mj hT hF hr φ E w a H hn ht next Q fun ψ v' w' hv H' ev=>hnx ψ v' w' hv H' (ev.eff.cut fun i p e=>(H.dom i p e).1) ev
theorem JR(hT:Cs P U)(hF:DH P U F){A:List Nat}{σ:Sg}{e:Env}{o:yv}{ah:AEo}{h h' g':Hp}{v:IN}(hr:opC U ⟨A,σ⟩ o.op F e (J9 h)=.ok v g')
  (h1:h'.bl=g'.bl)(h2:h'.next=g'.next)(h3:h'.low=min h.low g'.low)(h4:h'.high=max h.high g'.high)(h5:h'.mark=h.mark)
  (hs:ah=.quiet .AEV->h.next<=g'.low)(hw:ah=.quiet .weak->h.mark<=g'.low)
  (hx:∀ x xs,ah=.wr x xs->∀ c,g'.low<=c->c<=g'.high->c<h.next->∃ u,evR (AEY A σ e) x=some u/\AEn u=.ok c)(hnk:¬ (kd U o.op=.p\/∃ x,kd U o.op=.r x)):∃ T,Core P U o ah (AEY A σ e) h h' v T:=by
 refine⟨fun c=>(g'.low<=c/\c<=g'.high)/\c<h.next,{AG1:=fun φ E w a H hn ht next Q hnx=>?_,AGl:=fun _=>⟨by omega,by omega,fun c h=>by omega,h5⟩,tlt:=fun _ h=>h.2,tp:=fun h=>absurd h hnk,AEV:=fun h c hc=>?_,weak:=fun h c hc=>?_,wr:=fun x xs h c hc=>hx x xs h c hc.1.1 hc.1.2 hc.2}⟩
 ·refine Mj hT hF hr φ E w a (H.AFh rfl rfl) hn ht next Q fun ψ v' w' hv H' ev=>?_
  have e1:Eff (fun c=>g'.low<=c/\c<=g'.high) φ h w ψ h' w':=ev.eff.AFh rfl rfl h1 h2;exact hnx ψ v' w' hv (H'.AFh h1 h2) (e1.cut fun i p e=>(H.dom i p e).1) (e1.evo (fun c h=>by omega) (by omega) (by omega))
 ·have:=hs h;omega
 ·have:=hw h;omega
end
end
noncomputable section
open Go
section
variable {P:xD}{U:TTy}{F:AEB}
structure AGm (U:TTy)(o:yv)(ah:AEo):Prop where
 quiet:∀ m,ah=.quiet m->¬ (kd U o.op=.p\/∃ x,kd U o.op=.r x)
 wr:∀ x xs,ah=.wr x xs->kd U o.op=.w x
 chk:∀ old x xs,ah=.chk old x xs->kd U o.op=.r x
theorem AGm.plain(U:TTy)(o:yv):AGm U o .plain:=⟨(fun _ h=>by cases h),(fun _ _ h=>by cases h),(fun _ _ _ h=>by cases h)⟩
theorem KQ{b:Nat}{e:Env}:∀ {rs:List (Env->IN)},DZ b e rs=true->∀ g∈rs,AEn (g e)≠.ok b
 |[],_,g,hg=>by cases hg
 |x::l,h,g,hg=>by
  unfold DZ at h;cases hb:AEn (x e)with
  |no=>
   rw[hb]at h;rcases wA.1 hg with rfl|hg
   ·rw[hb];exact fun h=>by cases h
   ·exact KQ h g hg
  |ok a=>
   rw[hb]at h;simp only at h;cases hq:wB a b with
   |true=>rw[hq]at h;cases h
   |false=>
    rw[hq]at h;rcases wA.1 hg with rfl|hg
    ·rw[hb];exact fun h=>by cases h;exact FO hq rfl
    ·exact KQ h g hg
theorem VW{w:Env->IN}{rs:List (Env->IN)}{k:C}{e:Env}{h:Hp}{X:X}(hr:DI w rs k F e h=X)(hn:X≠.no):k F e h=X/\∀ b,AEn (w e)=.ok b->∀ g∈rs,AEn (g e)≠.ok b:=by
 unfold DI at hr;cases hb:AEn (w e)with
 |no=>rw[hb]at hr;exact⟨hr,fun b h=>by cases h⟩
 |ok b=>
  rw[hb]at hr;simp only at hr;cases hc:DZ b e rs with
  |false=>rw[hc]at hr;exact absurd hr.symm hn
  |true=>rw[hc]at hr;exact⟨hr,fun b' h=>by cases h;exact KQ hc⟩
theorem fH{x:O}{k:C}{e:Env}{h:Hp}{X:X}(hr:FE x k F e h=X)(hn:X≠.no):k F e h=X/\∀ b,AEn (x e)=.ok b->b<h.mark:=by
 unfold FE at hr;cases hb:AEn (x e)with
 |no=>rw[hb]at hr;exact⟨hr,fun b h=>by cases h⟩
 |ok b=>
  rw[hb]at hr;simp only at hr;cases hc:wz b h.mark with
  |false=>rw[hc]at hr;exact absurd hr.symm hn
  |true=>rw[hc]at hr;exact⟨hr,fun b' h=>by cases h;exact BD.1 hc⟩
theorem JM{f:Fr}:∀ {l:List wV} {ys:List O},cOs f l=some ys->∀ x∈l,∃ y,cO f x=some y/\y∈ys
 |[],ys,h,x,hx=>by cases hx
 |z::l,ys,h,x,hx=>by
  unfold cOs at h;split at h
  ·rename_i y hy
   split at h
   ·rename_i r hr
    cases h;rcases wA.1 hx with rfl|hx
    ·exact⟨y,hy,vp⟩
    ·obtain⟨y',h1,h2⟩:=JM hr x hx
     exact⟨y',h1,vr _ h2⟩
   ·cases h
  ·cases h
theorem Qh{h g' h':Hp}{v u:IN}(hr:EG h v g'=.ok u h'):u=v/\h'.bl=g'.bl/\h'.next=g'.next/\h'.low=min h.low g'.low/\h'.high=max h.high g'.high/\h'.mark=h.mark:=by
 unfold EG at hr;rw[AZ,AZ,BM,B4]at hr;cases hr;exact⟨rfl,rfl,rfl,rfl,rfl,rfl⟩
theorem AHY.none{ah:AEo}{ρ:Rho}{h:Hp}(h1:∀ x xs,ah≠.wr x xs)(h2:∀ old x xs,ah≠.chk old x xs):AHY ah ρ h where
 wrx:=fun x xs e=>absurd e (h1 x xs)
 chk:=fun old x xs e=>absurd e (h2 old x xs)
 old:=fun x xs e=>absurd e (h2 true x xs)
 known:=fun x xs e=>by
  rcases e with e|⟨old,e⟩
  ·exact absurd e (h1 x xs)
  ·exact absurd e (h2 old x xs)
theorem MO(hT:Cs P U)(hF:DH P U F){A:List Nat}{σ:Sg}{e:Env}{h:Hp}{o:yv}{ah:AEo}(hA:AGm U o ah){kc:OpF->C}{X:X}(hr:HT ⟨A,σ⟩ ah (opC U ⟨A,σ⟩ o.op) kc F e h=X)(hn:X≠.no):
  ∃ p,kc p F e h=X/\(∀ v h',p F e h=.ok v h'->∃ T,Core P U o ah (AEY A σ e) h h' v T)/\AHY ah (AEY A σ e) h:=by
 cases ah with
 |plain=>exact⟨_,hr,fun v h' hp=>Mf hT hF (.inl rfl) hp,.none (fun _ _ h=>by cases h) (fun _ _ _ h=>by cases h)⟩
 |quiet m=>
  refine⟨_,hr,fun v h' hp=>?_,.none (fun _ _ h=>by cases h) (fun _ _ _ h=>by cases h)⟩;have hk:=hA.quiet m rfl;unfold Al at hp;have hp:(match opC U ⟨A,σ⟩ o.op F e (J9 h)with|.ok v h'=>bif qOk m h h'.low then EG h v h' else .no|.no=>.no)=.ok v h':=hp;cases hq:opC U ⟨A,σ⟩ o.op F e (J9 h)with
  |no=>rw[hq]at hp;cases hp
  |ok u g'=>
   rw[hq]at hp;obtain⟨hc,hp⟩:=Bp hp;obtain⟨rfl,h1,h2,h3,h4,h5⟩:=Qh hp;refine JR hT hF hq h1 h2 h3 h4 h5 (fun e=>?_) (fun e=>?_) (fun _ _ e=>by cases e) hk
   ·cases e;exact Ac.1 hc
   ·cases e;exact Ac.1 hc
 |wr x xs=>
  have hk:=hA.wr x xs rfl;unfold HT at hr;simp only at hr;cases h1:cO ⟨A,σ⟩ x with
  |none=>simp only[h1]at hr;exact absurd hr.symm hn
  |some x'=>
   cases h2:cOs ⟨A,σ⟩ xs with
   |none=>simp only[h1,h2]at hr;exact absurd hr.symm hn
   |some xs'=>
    simp only[h1,h2]at hr;obtain⟨hr,hap⟩:=VW hr hn;refine⟨_,hr,fun v h' hp=>?_,?_⟩
    ·unfold Nx at hp
     have hp:(match opC U ⟨A,σ⟩ o.op F e (J9 h)with|.ok v h'=>bif Lg (AEn (x' e)) h h'.low h'.high then EG h v h' else .no|.no=>.no)=.ok v h':=hp;cases hq:opC U ⟨A,σ⟩ o.op F e (J9 h)with
     |no=>rw[hq]at hp;cases hp
     |ok u g'=>
      rw[hq]at hp;obtain⟨hc,hp⟩:=Bp hp;obtain⟨rfl,q1,q2,q3,q4,q5⟩:=Qh hp;refine JR hT hF hq q1 q2 q3 q4 q5 (fun e=>by cases e) (fun e=>by cases e) (fun y ys he c c1 c2 c3=>?_) (by rw[hk];rintro (h|⟨_,h⟩)<;>cases h);cases he;refine⟨x' e,F1 h1 e,?_⟩;unfold Lg at hc;cases hb:AEn (x' e)with
      |no=>rw[hb]at hc;have hc:=Ac.1 hc;omega
      |ok b=>
       rw[hb]at hc;simp only at hc;cases hb1:vx b g'.low with
       |false=>rw[hb1]at hc;cases hc
       |true=>
        rw[hb1]at hc;have c4:=Ac.1 hb1;have c5:=Ac.1 hc
        congr 1;omega
    ·refine {wrx:=fun y ys he z hz u u' b hu hu' hb=>?_,chk:=fun _ _ _ h=>(by cases h),old:=fun _ _ h=>(by cases h),known:=fun y ys he=>?_}
     ·cases he
      obtain⟨z',hz1,hz2⟩:=JM h2 z hz;rw[F1 h1 e]at hu;cases hu;rw[F1 hz1 e]at hu';cases hu';exact hap b hb z' hz2
     ·rcases he with he|⟨_,he⟩
      ·cases he
       exact⟨⟨_,F1 h1 e⟩,fun z hz=>by obtain⟨z',hz1,_⟩:=JM h2 z hz;exact⟨_,F1 hz1 e⟩⟩
      ·cases he
 |chk old x xs=>
  unfold HT at hr;simp only at hr;cases h1:cO ⟨A,σ⟩ x with
  |none=>simp only[h1]at hr;exact absurd hr.symm hn
  |some x'=>
   cases h2:cOs ⟨A,σ⟩ xs with
   |none=>simp only[h1,h2]at hr;exact absurd hr.symm hn
   |some xs'=>
    simp only[h1,h2]at hr;have hold:DI x' xs' (kc (opC U ⟨A,σ⟩ o.op)) F e h=X/\(old=true->∀ b,AEn (x' e)=.ok b->b<h.mark):=by
     cases old with
     |true=>obtain⟨q1,q2⟩:=fH hr hn;exact⟨q1,fun _=>q2⟩
     |false=>exact⟨hr,fun h=>by cases h⟩
    obtain⟨hr,hap⟩:=VW hold.1 hn;refine⟨_,hr,fun v h' hp=>Mf hT hF (.inr ⟨_,_,_,rfl⟩) hp,?_⟩;refine {wrx:=fun _ _ h=>(by cases h),chk:=fun _ y ys he z hz u u' b hu hu' hb=>?_,old:=fun y ys he u b hu hb=>?_,known:=fun y ys he=>?_}
    ·cases he
     obtain⟨z',hz1,hz2⟩:=JM h2 z hz;rw[F1 h1 e]at hu;cases hu;rw[F1 hz1 e]at hu';cases hu';exact hap b hb z' hz2
    ·cases he
     rw[F1 h1 e]at hu;cases hu;exact hold.2 rfl b hb
    ·rcases he with he|⟨_,he⟩
     ·cases he
     ·cases he
      exact⟨⟨_,F1 h1 e⟩,fun z hz=>by obtain⟨z',hz1,_⟩:=JM h2 z hz;exact⟨_,F1 hz1 e⟩⟩
structure Tr (P:xD)(U:TTy)(all:List yv)(ahs:List AEo)(l:List yv)(ρ:Nat->Rho)(H:Nat->Hp)(V:Nat->IN)(run:Nat->Bool)(T:Nat->Nat->Prop):Prop where
 sf:∀ j o,l[j]? =some o->SF P U all o (ahs.getD j .plain) (ρ j) (ρ (j+1)) (H j) (H (j+1)) (V j) (run j) (T j)
def Qr{α:Type}(x:α)(f:Nat->α):Nat->α
 |0=>x
 |j+1=>f j
theorem Tr.cons{all:List yv}{ahs:List AEo}{o:yv}{l:List yv}{ρ:Nat->Rho}{H:Nat->Hp}{V:Nat->IN}{run:Nat->Bool}{T:Nat->Nat->Prop}(t:Tr P U all ahs.tail l ρ H V run T)
  {ρ0:Rho}{h0:Hp}{v0:IN}{r0:Bool}{T0:Nat->Prop}(s:SF P U all o (ahs.headD .plain) ρ0 (ρ 0) h0 (H 0) v0 r0 T0):Tr P U all ahs (o::l) (Qr ρ0 ρ) (Qr h0 H) (Qr v0 V) (Qr r0 run) (Qr T0 T) where
 sf:=fun j o' hj=>by
  cases j with
  |zero=>
   cases hj;have:ahs.getD 0 .plain=ahs.headD .plain:=by cases ahs<;>rfl
   rw[this];exact s
  |succ j=>
   have:ahs.getD (j+1) .plain=ahs.tail.getD j .plain:=by cases ahs<;>rfl
   rw[this];exact t.sf j o' hj
theorem Nl{A:List Nat}{σ:Sg}{e:Env}(hS:AFa A σ){d:Nat}(hd:memN d A=false)(hlt:d<160)(v:IN){o:yv}(ho:o.dst=some d)(t:Nat)(u:IN)
  (h:AEY A (F4 d σ) (Env.set d v e) t=some u):if o.dst=some t then u=v else AEY A σ e t=some u:=by
 have:=jY hS hd hlt v h;rw[ho];by_cases ht:t=d
 ·rw[if_pos ht]at this;rw[if_pos (by rw[ht])];exact this
 ·rw[if_neg ht]at this;rw[if_neg (fun e=>ht (Option.some.inj e).symm)];exact this
theorem QC(hT:Cs P U)(hF:DH P U F){A:List Nat}{all:List yv}{k:Sg->C}:∀ (l:List yv) (ahs:List AEo) (σ:Sg) (e:Env) (h:Hp) (X:X),(∀ j o,l[j]? =some o->AGm U o (ahs.getD j .plain))->AFa A σ->
  Gy U A all k ahs l σ F e h=X->X≠.no->
  ∃ (ρ:Nat->Rho) (H:Nat->Hp) (V:Nat->IN) (run:Nat->Bool) (T:Nat->Nat->Prop) (σ':Sg) (e':Env),Tr P U all ahs l ρ H V run T/\ρ 0=AEY A σ e/\H 0=h/\ρ l.length=AEY A σ' e'/\AFa A σ'/\k σ' F e' (H l.length)=X
 |[],ahs,σ,e,h,X,_,hS,hr,_=>by
  refine⟨fun _=>AEY A σ e,fun _=>h,fun _=>AEE,fun _=>true,fun _ _=>False,σ,e,⟨fun j o hj=>by cases hj⟩,rfl,rfl,rfl,hS,?_⟩;unfold Gy at hr;exact hr
 |o::l,ahs,σ,e,h,X,hA,hS,hr,hn=>by
  have hA0:AGm U o (ahs.headD .plain):=by
   have:=hA 0 o rfl;cases ahs<;>exact this
  have hA1:∀ j o',l[j]? =some o'->AGm U o' (ahs.tail.getD j .plain):=fun j o' hj=>by
   have:=hA (j+1) o' hj;cases ahs<;>exact this
  have fin:∀ {σ1:Sg} {e1:Env} {h1:Hp} {v:IN} {r:Bool} {T0:Nat->Prop},AFa A σ1->Gy U A all k ahs.tail l σ1 F e1 h1=X->
    SF P U all o (ahs.headD .plain) (AEY A σ e) (AEY A σ1 e1) h h1 v r T0->
    ∃ (ρ:Nat->Rho) (H:Nat->Hp) (V:Nat->IN) (run:Nat->Bool) (T:Nat->Nat->Prop) (σ':Sg) (e':Env),Tr P U all ahs (o::l) ρ H V run T/\ρ 0=AEY A σ e/\H 0=h/\ρ (o::l).length=AEY A σ' e'/\AFa A σ'/\k σ' F e' (H (o::l).length)=X:=by
   intro σ1 e1 h1 v r T0 hS1 hr1 sf;obtain⟨ρ,H,V,run,T,σ',e',t,q1,q2,q3,q4,q5⟩:=QC hT hF l ahs.tail σ1 e1 h1 X hA1 hS1 hr1 hn;exact⟨_,_,_,_,_,σ',e',t.cons (by rw[q1,q2];exact sf),rfl,rfl,q3,q4,q5⟩
  unfold Gy at hr;cases hg:o.guard with
  |none=>
   cases hd:o.dst with
   |none=>
    simp only[hg,hd]at hr;obtain⟨p,hp,AFt,AF4⟩:=MO hT hF hA0 hr hn;unfold cDo at hp;cases hq:p F e h with
    |no=>rw[hq]at hp;exact absurd hp.symm hn
    |ok v h1=>
     rw[hq]at hp;obtain⟨T0,core⟩:=AFt v h1 hq;exact fin hS hp {slot:=fun t u ht=>(by rw[hd,if_neg (by intro h;cases h)];exact ht),grd:=(by rw[hg]),side:=fun _=>AF4,core:=.inl ⟨rfl,core⟩}
   |some d=>
    simp only[hg,hd]at hr;cases hm:memN d A with
    |true=>
     simp only[hm]at hr;cases hop:o.op with
     |move x=>
      simp only[hop]at hr;cases hs:QN A σ x with
      |none=>simp only[hs]at hr;exact absurd hr.symm hn
      |some s=>
       simp only[hs]at hr;have hlt:∀ n,s=.s n->n<160:=by
        intro n hn;subst hn;cases x with
        |tmp t=>
         have hs:(match DU t σ with|some s=>some s|none=>match memN t A with|true=>none|false=>match wz t 160 with|true=>some (Src.s t)|false=>none)=some (.s n):=hs;cases hf:DU t σ with
         |some s'=>
          rw[hf]at hs;cases hs;exact hS.lt _ (Ec hf) n rfl
         |none=>
          rw[hf]at hs;simp only at hs;cases hm2:memN t A with
          |true=>rw[hm2]at hs;cases hs
          |false=>
           rw[hm2]at hs;simp only at hs;cases hb:wz t 160 with
           |false=>rw[hb]at hs;cases hs
           |true=>rw[hb]at hs;cases hs;exact BD.1 hb
        |const v=>
         have hs:(match Fg v with|true=>some (Src.c v)|false=>none)=some (.s n):=hs;cases hp:Fg v<;>rw[hp]at hs<;>cases hs
        |func g=>cases hs
        |global g=>cases hs
       have hkp:kd U o.op=.p:=by rw[hop];rfl
       refine fin (hS.alias hm hlt) hr (v:=Ln s e) (r:=true) (T0:=fun _=>False) {slot:=fun t u ht=>?_,grd:=(by rw[hg]),side:=fun h=>absurd hkp h,core:=.inl ⟨rfl,?_⟩}
       ·have:=Yf hS hm s ht
        rw[hd];by_cases htd:t=d
        ·rw[if_pos htd]at this;rw[if_pos (by rw[htd])];exact this
        ·rw[if_neg htd]at this;rw[if_neg (fun e=>htd (Option.some.inj e).symm)];exact this
       ·refine {AG1:=fun φ E w a H hn ht next Q hnx=>?_,AGl:=fun _=>⟨IT _,IT _,fun _ h=>h.elim,rfl⟩,tlt:=fun _ h=>h.elim,tp:=fun _=>⟨fun _ h=>h,rfl⟩,AEV:=fun _ _ h=>h,weak:=fun _ _ h=>h.elim,wr:=fun _ _ _ _ h=>h.elim}
        have hv:=hn x (by rw[hop];simp[wL]) _ (dY hs e);have hx:execOp a.eval o=(do pure (.value (<- (pure (a.eval x):Sem IN)))):=by unfold execOp;rw[hop];rfl
        unfold Oper.wp;rw[hx,vq,vt,If,vt,Oper.upon_value];exact hnx φ _ w hv H (.refl _ _ _) (.refl _ _ _)
     |_=>simp only[hop]at hr;exact absurd hr.symm hn
    |false=>
     simp only[hm]at hr;cases hb:wz d 160 with
     |false=>simp only[hb]at hr;exact absurd hr.symm hn
     |true=>
      simp only[hb]at hr;have hlt:=BD.1 hb;obtain⟨p,hp,AFt,AF4⟩:=MO hT hF hA0 hr hn;unfold TZ at hp;cases hq:p F e h with
      |no=>rw[hq]at hp;exact absurd hp.symm hn
      |ok v h1=>
       rw[hq]at hp;simp only at hp;rw[Dx d hlt]at hp;obtain⟨T0,core⟩:=AFt v h1 hq;exact fin (hS.sub Ea.1) hp {slot:=Nl hS hm hlt v hd,grd:=(by rw[hg]),side:=fun _=>AF4,core:=.inl ⟨rfl,core⟩}
  |some gw=>
   obtain⟨g,want⟩:=gw;cases hd:o.dst with
   |none=>simp only[hg,hd]at hr;exact absurd hr.symm hn
   |some d=>
    simp only[hg,hd]at hr;cases hm:memN d A with
    |true=>simp only[hm]at hr;exact absurd hr.symm hn
    |false=>
     simp only[hm]at hr;rw[Fc]at hr;cases hog:all[g]? with
     |none=>rw[hog]at hr;exact absurd hr.symm hn
     |some og=>
      rw[hog]at hr;simp only at hr;cases hgd:og.dst with
      |none=>simp only[hgd]at hr;exact absurd hr.symm hn
      |some dg=>
       simp only[hgd]at hr;cases hcg:cO ⟨A,σ⟩ (.tmp dg)with
       |none=>simp only[hcg]at hr;exact absurd hr.symm hn
       |some gg=>
        simp only[hcg]at hr;cases hb:wz d 160 with
        |false=>simp only[hb]at hr;exact absurd hr.symm hn
        |true=>
         simp only[hb]at hr;have hlt:=BD.1 hb;obtain⟨p,hp,AFt,AF4⟩:=MO hT hF hA0 hr hn;have hρ:AEY A σ e dg=some (gg e):=F1 hcg e;unfold cG at hp;have AGD:FI d (fun e=>Gy U A all k ahs.tail l (F4 d σ) F e h) AEE e=X->(∀ r:Bool,r=false->(match o.guard with
            |none=>r=true
            |some (g,want)=>∃ og d c,all[g]? =some og/\og.dst=some d/\AEY A σ e d=some c/\((∃ b,c=.bool b/\r=(want == b))\/(∃ l,c=.tuple l/\r=false))))->
           ∃ (ρ:Nat->Rho) (H:Nat->Hp) (V:Nat->IN) (run:Nat->Bool) (T:Nat->Nat->Prop) (σ':Sg) (e':Env),Tr P U all ahs (o::l) ρ H V run T/\ρ 0=AEY A σ e/\H 0=h/\ρ (o::l).length=AEY A σ' e'/\AFa A σ'/\k σ' F e' (H (o::l).length)=X:=by
          intro hp AJj;rw[Dx d hlt]at hp;exact fin (hS.sub Ea.1) hp (v:=AEE) (r:=false) (T0:=fun _=>False) {slot:=Nl hS hm hlt AEE hd,grd:=AJj false rfl,side:=fun _=>AF4,core:=.inr ⟨rfl,rfl,rfl,fun _ h=>h⟩}
         split at hp
         ·rename_i b hgb
          cases hwb:want == b with
          |true=>
           rw[hwb]at hp;simp only[cond_true]at hp;unfold TZ at hp;cases hq:p F e h with
           |no=>rw[hq]at hp;exact absurd hp.symm hn
           |ok v h1=>
            rw[hq]at hp;simp only at hp;rw[Dx d hlt]at hp;obtain⟨T0,core⟩:=AFt v h1 hq;exact fin (hS.sub Ea.1) hp (r:=true) {slot:=Nl hS hm hlt v hd,grd:=(by rw[hg];exact⟨og,dg,_,hog,hgd,hρ,.inl ⟨b,hgb,hwb.symm⟩⟩),side:=fun _=>AF4,core:=.inl ⟨rfl,core⟩}
          |false=>
           rw[hwb]at hp;exact AGD hp fun r hr=>by rw[hg];exact⟨og,dg,_,hog,hgd,hρ,.inl ⟨b,hgb,by rw[hr,hwb]⟩⟩
         ·rename_i ls hgb
          exact AGD hp fun r hr=>by rw[hg];exact⟨og,dg,_,hog,hgd,hρ,.inr ⟨ls,hgb,hr⟩⟩
         ·exact absurd hp.symm hn
end
end
noncomputable section
open Go
abbrev nil:Nat->Prop:=fun _=>False
structure AR (N:Nat)(φ:Phi)(ρ:Rho)(a:Act):Prop where
 size:a.tmps.size=N
 defs:a.defers=[]
 rel:∀ t u,ρ t=some u->AED φ u (a.tmps.getD t undef)
theorem AR.ev{N:Nat}{φ:Phi}{ρ:Rho}{a:Act}(h:AR N φ ρ a){x:wV}{u:IN}(hu:evR ρ x=some u):AED φ u (a.eval x):=by
 cases x with
 |tmp t=>exact h.rel t u hu
 |const v=>
  have hu:(if Fg v then some v else none)=some u:=hu;split at hu
  ·rename_i hp;cases hu;exact Nb hp
  ·cases hu
 |func g=>cases hu;exact .func _ .nil .nil
 |global g=>cases hu
theorem H0(a:Act)(d:Option Nat)(v:IN)(t:Nat):(a.put d v).tmps.getD t undef=if d=some t/\t<a.tmps.size then v else a.tmps.getD t undef:=by
 cases d with
 |none=>rw[if_neg (fun h=>by cases h.1)];rfl
 |some d=>
  show(a.tmps.setIfInBounds d v).getD t undef=_;rw[wu,Array.getElem?_setIfInBounds,wu];by_cases h:d=t
  ·subst h
   rw[if_pos rfl];by_cases h2:d<a.tmps.size
   ·rw[if_pos h2,if_pos ⟨rfl,h2⟩];rfl
   ·rw[if_neg h2,if_neg (fun h=>h2 h.2),Array.getElem?_eq_none (by omega)]
  ·rw[if_neg h,if_neg (fun h2=>h (Option.some.inj h2.1))]
theorem Fi(a:Act)(d:Option Nat)(v:IN):(a.put d v).tmps.size=a.tmps.size:=by
 cases d with
 |none=>rfl
 |some d=>show(a.tmps.setIfInBounds d v).size=_;simp
theorem Gd(a:Act)(d:Option Nat)(v:IN):(a.put d v).defers=a.defers:=by cases d<;>rfl
theorem AR.put{N:Nat}{φ ψ:Phi}{ρ ρ':Rho}{a:Act}(h:AR N φ ρ a)(hle:φ.Le ψ){d:Option Nat}(hd:∀ t,d=some t->t<N){v v':IN}(hv:AED ψ v v')
  (hs:∀ t u,ρ' t=some u->if d=some t then u=v else ρ t=some u):AR N ψ ρ' (a.put d v') where
 size:=by rw[Fi];exact h.size
 defs:=by rw[Gd];exact h.defs
 rel:=fun t u hu=>by
  have:=hs t u hu;rw[H0];by_cases ht:d=some t
  ·rw[if_pos ht]at this
   rw[if_pos ⟨ht,by rw[h.size];exact hd t ht⟩,this];exact hv
  ·rw[if_neg ht]at this
   rw[if_neg (fun h=>ht h.1)];exact(h.rel t u this).mono hle
theorem PC{P:xD}{U:TTy}{all:List yv}{o:yv}{ah:AEo}{ρ ρ':Rho}{h h':Hp}{v:IN}{run:Bool}{T:Nat->Prop}(s:SF P U all o ah ρ ρ' h h' v run T){a:Act}{φ:Phi}
  (hr:∀ g want og d u,o.guard=some (g,want)->all[g]? =some og->og.dst=some d->ρ d=some u->AED φ u (a.tmps.getD d undef)):AAR o (yielded all.toArray a.tmps)=run:=by
 have hg:=s.grd;unfold AAR;cases hgd:o.guard with
 |none=>rw[hgd]at hg;exact hg.symm
 |some gw=>
  obtain⟨g,want⟩:=gw;rw[hgd]at hg;obtain⟨og,d,c,h1,h2,h3,h4⟩:=hg;have AEh:=hr g want og d c hgd h1 h2 h3;simp only;have hy:yielded all.toArray a.tmps g=match a.tmps[d]? with|some (.bool b)=>some b|_=>none:=by
   unfold yielded;have:(all.toArray[g]?).bind (·.dst)=some d:=by rw[List.getElem?_toArray,h1];exact h2
   rw[this];rfl
  rw[wu]at AEh;rcases h4 with ⟨b,rfl,hrun⟩|⟨ls,rfl,hrun⟩
  ·have hb:=AEh.AE7
   cases hq:a.tmps[d]? with
   |none=>rw[hq]at hb;cases hb
   |some x=>
    rw[hq]at hb;have hb:x=.bool b:=hb;rw[hy,hq,hb,hrun];cases b<;>cases want<;>rfl
  ·rw[hrun,hy]
   cases hq:a.tmps[d]? with
   |none=>rfl
   |some x=>
    rw[hq]at AEh;have AEh:AED φ (.tuple ls) x:=AEh;cases AEh;rfl
structure Txt (P:xD)(U:TTy)(N:Nat)(φ0:Phi)(ρ:Nat->Rho)(H:Nat->Hp)(V:Nat->IN)(T:Nat->Nat->Prop)(n:Nat):Prop where
 next:∀ j,j<n->(H j).next<=(H (j+1)).next
 shape:∀ j,j<n->∀ i,i<(H j).next->AEW ((H j).bl.get i) ((H (j+1)).bl.get i)
 kept:∀ j,j<n->∀ i,i<(H j).next->¬ T j i->(H (j+1)).bl.get i=(H j).bl.get i
 fresh:∀ j,j<=n->∀ i,(H j).next<=i->(H j).bl.get i=.dead
 AHZ:∀ j,j<=n->∃ (ψ:Phi) (w:wb) (a:Act),AEG U ψ nil (H j) w/\AR N ψ (ρ j) a/\φ0.Le ψ/\∀ i,(H 0).next<=i->i<(H j).next->∃ p,ψ i=some p
section
variable {P:xD}{U:TTy}
theorem QS{N:Nat}{all:List yv}{Q:Exit->Act->wb->Prop}:∀ (l:List yv) {ahs:List AEo} {ρ:Nat->Rho} {H:Nat->Hp} {V:Nat->IN} {run:Nat->Bool} {T:Nat->Nat->Prop} {a:Act} {w:wb} {φ:Phi},
  Tr P U all ahs l ρ H V run T->(∀ o∈l,∀ d,o.dst=some d->d<N)->AEG U φ nil (H 0) w->AR N φ (ρ 0) a->
  (Txt P U N φ ρ H V T l.length->∀ ψ a' w',AEG U ψ nil (H l.length) w'->AR N ψ (ρ l.length) a'->Evo φ (H 0) w ψ (H l.length) w'->Q .normal a' w')->wpList P all.toArray Q l a w
 |[],ahs,ρ,H,V,run,T,a,w,φ,_,_,HW,HA,hq=>by
  refine hq ?_ φ a w HW HA (.refl _ _ _);refine {next:=fun j hj=>absurd hj (AAT _),shape:=fun j hj=>absurd hj (AAT _),kept:=fun j hj=>absurd hj (AAT _),fresh:=fun j hj i hi=>?_,AHZ:=fun j hj=>?_}
  ·have:j=0:=zj.1 hj
   subst this;exact HW.fresh i hi
  ·have:j=0:=zj.1 hj
   subst this;exact⟨φ,w,a,HW,HA,.refl _,fun i h1 h2=>absurd h2 (AAx.2 h1)⟩
 |o::l,ahs,ρ,H,V,run,T,a,w,φ,tr,hN,HW,HA,hq=>by
  have s:=tr.sf 0 o rfl;have tr':Tr P U all ahs.tail l (fun j=>ρ (j+1)) (fun j=>H (j+1)) (fun j=>V (j+1)) (fun j=>run (j+1)) (fun j=>T (j+1)):=
   ⟨fun j o' hj=>by
    have:=tr.sf (j+1) o' hj;have e:ahs.getD (j+1) .plain=ahs.tail.getD j .plain:=by cases ahs<;>rfl
    rw[e]at this;exact this⟩
  have hd:∀ d,o.dst=some d->d<N:=hN o vp;have rest:∀ ψ v' w',AED ψ (V 0) v'->AEG U ψ nil (H 1) w'->Eff (T 0) φ (H 0) w ψ (H 1) w'->Evo φ (H 0) w ψ (H 1) w'->wpList P all.toArray Q l (a.put o.dst v') w':=by
   intro ψ v' w' hv HW' eff evo;refine QS l tr' (fun o ho=>hN o (vr _ ho)) HW' (HA.put eff.le hd hv s.slot) fun txt ψ2 a2 w2 q1 q2 q3=>hq ?_ ψ2 a2 w2 q1 q2 (evo.trans q3)
   refine {next:=fun j hj=>?_,shape:=fun j hj=>?_,kept:=fun j hj=>?_,fresh:=fun j hj i hi=>?_,AHZ:=fun j hj=>?_}
   ·cases j with
    |zero=>exact eff.next
    |succ j=>exact txt.next j (by simpa using hj)
   ·cases j with
    |zero=>exact eff.shape
    |succ j=>exact txt.shape j (by simpa using hj)
   ·cases j with
    |zero=>exact eff.kept
    |succ j=>exact txt.kept j (by simpa using hj)
   ·cases j with
    |zero=>exact HW.fresh i hi
    |succ j=>exact txt.fresh j (by simpa using hj) i hi
   ·cases j with
    |zero=>exact⟨φ,w,a,HW,HA,.refl _,fun i h1 h2=>absurd h2 (AAx.2 h1)⟩
    |succ j=>
     obtain⟨χ,w3,a3,r1,r2,r3,r4⟩:=txt.AHZ j (by simpa using hj);refine⟨χ,w3,a3,r1,r2,eff.le.trans r3,fun i h1 h2=>?_⟩;rcases wN i (H 1).next with h|h
     ·obtain⟨p,hp⟩:=eff.all i h1 h
      exact⟨p,r3 i p hp⟩
     ·exact r4 i h h2
  have hw:=PC s (a:=a) (φ:=φ) fun g want og d u _ _ _ hu=>HA.rel d u hu
  unfold wpList;rcases s.core with ⟨hrun,core⟩|⟨hrun,hv,hh,hT⟩
  ·rw[hw,hrun,if_pos rfl]
   refine .inl (core.AG1 φ nil w a HW (fun x _ u hu=>HA.ev hu) ?_ _ _ fun ψ v' w' hv HW' eff evo=>rest ψ v' w' hv HW' eff evo);unfold TouchR;split<;>first|trivial|exact fun _ h=>h|exact fun _ _ _ _ h=>h
  ·rw[hw,hrun,if_neg (by simp)]
   have hu:AED φ (V 0) undef:=by rw[hv];exact .tuple .nil
   have e1:Evo φ (H 0) w φ (H 1) w:=by
    show Evo φ (H 0) w φ (H (0+1)) w;rw[hh];exact .refl _ _ _
   have e2:Eff (T 0) φ (H 0) w φ (H 1) w:=by
    show Eff (T 0) φ (H 0) w φ (H (0+1)) w;rw[hh];exact {Eff.refl φ (H 0) w with frame:=fun _ _ _=>rfl,back:=fun i p e hl _=>⟨i,p,e,hl,rfl,rfl,.inl rfl⟩,kept:=fun _ _ _=>rfl}
   exact rest φ undef w hu (by show AEG U φ nil (H (0+1)) w;rw[hh];exact HW) e2 e1
end
end
noncomputable section
open Go
section
variable {φ ψ χ:Phi}
theorem AFY.cut(hx:∀ b p,φ b=some p->(∃ q,ψ b=some q)->χ b=some p){a a' a'':Addr}:AFY φ a a'->AFY ψ a a''->AFY χ a a'
 |⟨s,s',p,hp,r⟩,⟨_,_,q,hq,_⟩=>⟨s,s',p,hx _ _ hp ⟨q,hq⟩,r⟩
theorem AF0.cut(hx:∀ b p,φ b=some p->(∃ q,ψ b=some q)->χ b=some p){a a' a'':Addr}{c c' c'':Nat}:AF0 φ a c a' c'->AF0 ψ a c a'' c''->AF0 χ a c a' c'
 |⟨s,s',p,hp,r⟩,⟨_,_,q,hq,_⟩=>⟨s,s',p,hx _ _ hp ⟨q,hq⟩,r⟩
mutual
theorem AED.cut(hx:∀ b p,φ b=some p->(∃ q,ψ b=some q)->χ b=some p):∀ {v v' v'':IN},AED φ v v'->AED ψ v v''->AED χ v v'
 |_,_,_,.bool b,_=>.bool b
 |_,_,_,.int k n,_=>.int k n
 |_,_,_,.string s,_=>.string s
 |_,_,_,.AGy,_=>.AGy
 |_,_,_,.ptr h,h2=>by cases h2 with|ptr h2=>exact .ptr (h.cut hx h2)
 |_,_,_,.AEz,_=>.AEz
 |_,_,_,.slice hn h,h2=>by cases h2 with|slice _ h2=>exact .slice hn (h.cut hx h2)
 |_,_,_,.AGz,_=>.AGz
 |_,_,_,.map h,h2=>by cases h2 with|map h2=>exact .map (hx _ _ h ⟨_,h2⟩)
 |_,_,_,.func fn h h',h2=>by cases h2 with|func _ h2 h2'=>exact .func fn (AEX.cut hx h h2) (AEX.cut hx h' h2')
 |_,_,_,.nilFunc,_=>.nilFunc
 |_,_,_,.iface t h,h2=>by cases h2 with|iface _ h2=>exact .iface t (AED.cut hx h h2)
 |_,_,_,.nilIface,_=>.nilIface
 |_,_,_,.agg h,h2=>by cases h2 with|agg h2=>exact .agg (AEX.cut hx h h2)
 |_,_,_,.tuple h,h2=>by cases h2 with|tuple h2=>exact .tuple (AEX.cut hx h h2)
 |_,_,_,.unk,_=>.unk
 |_,_,_,.AGV,_=>.AGV
theorem AEX.cut(hx:∀ b p,φ b=some p->(∃ q,ψ b=some q)->χ b=some p):∀ {v v' v'':List IN},AEX φ v v'->AEX ψ v v''->AEX χ v v'
 |_,_,_,.nil,_=>.nil
 |_,_,_,.cons h t,h2=>by cases h2 with|cons h2 t2=>exact .cons (AED.cut hx h h2) (AEX.cut hx t t2)
end
theorem AE8.cut(hx:∀ b p,φ b=some p->(∃ q,ψ b=some q)->χ b=some p):∀ {l:List Ent} {l' l'':List MapEntry},AE8 φ l l'->AE8 ψ l l''->AE8 χ l l'
 |_,_,_,.nil,_=>.nil
 |_,_,_,.cons hk hv t,h2=>by cases h2 with|cons hk2 hv2 t2=>exact .cons (hk.cut hx hk2) (hv.cut hx hv2) (AE8.cut hx t t2)
theorem AFA.cut{U:TTy}(hx:∀ b p,φ b=some p->(∃ q,ψ b=some q)->χ b=some p){p p2:Pl}{b:Blk}{o o2:Option Obj}(h:AFA U φ p b o)(h2:AFA U ψ p2 b o2):AFA U χ p b o:=by
 cases h with
 |cells h=>cases h2 with
  |cells h2=>exact .cells {h with cell:=fun j hj=>let ⟨v,e,r⟩:=h.cell j hj;let ⟨v2,_,r2⟩:=h2.cell j hj;⟨v,e,r.cut hx r2⟩}
 |map h=>cases h2 with
  |map h2=>exact .map (h.cut hx h2)
 |AF2 h=>exact .AF2 h
 |iter hp h=>cases h2 with
  |iter _ h2=>exact .iter hp (hx _ _ h ⟨_,h2⟩)
 |cur hp h hl=>cases h2 with
  |cur _ h2 _=>exact .cur hp (hx _ _ h ⟨_,h2⟩) hl
 |dead=>exact .dead
end
structure Laws (U:TTy)(all:List yv)(ρ:Nat->Rho)(H:Nat->Hp)(T:Nat->Nat->Prop)(B:Nat->Nat->Prop):Prop where
 lt:∀ i j,B i j->i<j
 slots:∀ i j oi oj d,i≠j->all[i]? =some oi->all[j]? =some oj->oi.dst=some d->
  (oj.dst=some d\/.tmp d∈oj.op.operands.toList\/∃ g w og,oj.guard=some (g,w)/\all[g]? =some og/\og.dst=some d)->B i j\/B j i
 kinds:∀ j oj c,all[j]? =some oj->T j c->(∃ x,kd U oj.op=.w x)\/kd U oj.op=.q
 fixed:∀ i j oi c,i≠j->all[i]? =some oi->j<all.length->T j c->((∃ x,kd U oi.op=.w x)\/kd U oi.op=.q)->B i j\/B j i
 reads:∀ i j oi x c u,i≠j->all[i]? =some oi->j<all.length->T j c->kd U oi.op=.r x->evR (ρ i) x=some u->AEn u=.ok c->B i j\/B j i
 tlt:∀ j c,j<all.length->T j c->c<(H j).next
 AHa:∀ j c,j<all.length->T j c->(H all.length).low<=c/\c<=(H all.length).high
 low:(H all.length).low<=(H 0).low
 high:(H 0).high<=(H all.length).high
structure Inv (U:TTy)(N:Nat)(all:List yv)(ρ:Nat->Rho)(H:Nat->Hp)(T:Nat->Nat->Prop)(φ0:Phi)(w0:wb)(S:Nat->Prop)(φ:Phi)(C:Nat->Blk)(a:Act)(w:wb):Prop where
 dom:∀ b p,φ b=some p->p.blk<w.heap.size/\(b<(H 0).next\/∃ j,S j/\j<all.length/\(H j).next<=b/\b<(H (j+1)).next)
 inj:∀ b c p q,φ b=some p->φ c=some q->C b≠.dead->C c≠.dead->(p.inp=false\/q.inp=false)->p.blk=q.blk->b=c
 row:∀ b p,φ b=some p->AFA U φ p (C b) w.heap[p.blk]?
 kind:∀ k,k<=all.length->∀ b p c s e,φ b=some p->b<(H k).next->(H k).bl.get b=.cells c s e->Kind U p s e
 inp:∀ b p,φ b=some p->p.inp=true->b<256
 link:∀ k,k<=all.length->∀ b p,φ b=some p->b<(H k).next->(∀ j,j<all.length->T j b->(j<k->S j)/\(k<=j->¬ S j))->C b=(H k).bl.get b
 chg:∀ j,S j->j<all.length->∀ b,b<(H j).next->(H (j+1)).bl.get b≠(H j).bl.get b->∃ p,φ b=some p
 full:∀ j,S j->j<all.length->∀ b,(H j).next<=b->b<(H (j+1)).next->∃ p,φ b=some p
 slot:∀ k,k<=all.length->∀ t u,(∀ j o,all[j]? =some o->o.dst=some t->(j<k->S j)/\(k<=j->¬ S j))->ρ k t=some u->AED φ u (a.tmps.getD t undef)
 size:a.tmps.size=N
 defs:a.defers=[]
 le:φ0.Le φ
 new:∀ b p,φ b=some p->φ0 b=some p\/(H 0).next<=b
 sz:w0.heap.size<=w.heap.size
 tape:w.tape=w0.tape
 os:w.os=w0.os
 output:w.output=w0.output
 frame:∀ k,k<w0.heap.size->(∀ c p,φ0 c=some p->p.inp=false->(H all.length).low<=c->c<=(H all.length).high->Live (H 0) c->p.blk≠k)->w.heap[k]? =w0.heap[k]?
 back:∀ b p,φ b=some p->C b≠.dead->p.blk<w0.heap.size->∃ c q,φ0 c=some q/\Live (H 0) c/\q.blk=p.blk/\q.inp=p.inp/\(c=b\/(H all.length).low<=c/\c<=(H all.length).high)
section
variable {P:xD}{U:TTy}{N:Nat}{all:List yv}{ρ:Nat->Rho}{H:Nat->Hp}{V:Nat->IN}{T:Nat->Nat->Prop}{φ0:Phi}{w0:wb}
theorem Txt.mono{φ:Phi}{n:Nat}(t:Txt P U N φ ρ H V T n){i:Nat}:∀ {k:Nat},i<=k->k<=n->(H i).next<=(H k).next:=by
 intro k h hn
 induction k with
 |zero=>have:i=0:=zj.1 h;subst this;exact IT _
 |succ k ih=>
  rcases wN k i with h2|h2
  ·have:i=k+1:=by omega
   subst this;exact IT _
  ·exact Nat.le_trans (ih h2 (by omega)) (t.next k (by omega))
theorem Txt.AGE{φ:Phi}{n:Nat}(t:Txt P U N φ ρ H V T n){i:Nat}{b:Nat}(hb:b<(H i).next):∀ {k:Nat},i<=k->k<=n->AEW ((H i).bl.get b) ((H k).bl.get b):=by
 intro k h hn
 induction k with
 |zero=>have:i=0:=zj.1 h;subst this;exact .refl _
 |succ k ih=>
  rcases wN k i with h2|h2
  ·have:i=k+1:=by omega
   subst this;exact .refl _
  ·exact(ih h2 (by omega)).trans (t.shape k (by omega) b (Nat.lt_of_lt_of_le hb (t.mono h2 (by omega))))
theorem Txt.same{φ:Phi}{n:Nat}(t:Txt P U N φ ρ H V T n){i:Nat}{b:Nat}:∀ {k:Nat},i<=k->k<=n->(∀ m,i<=m->m<k->(H (m+1)).bl.get b=(H m).bl.get b)->(H k).bl.get b=(H i).bl.get b:=by
 intro k h hn hs
 induction k with
 |zero=>have:i=0:=zj.1 h;subst this;rfl
 |succ k ih=>
  rcases wN k i with h2|h2
  ·have:i=k+1:=by omega
   subst this;rfl
  ·rw[hs k h2 (by omega)];exact ih h2 (by omega) fun m h1 h2=>hs m h1 (by omega)
theorem Tr.backward{run:Nat->Bool}{ahs:List AEo}(tr:Tr P U all ahs all ρ H V run T){t:Nat}{u:IN}{i:Nat}:∀ {k:Nat},i<=k->k<=all.length->(∀ m o,i<=m->m<k->all[m]? =some o->o.dst≠some t)->ρ k t=some u->ρ i t=some u:=by
 intro k h hn hs hu
 induction k with
 |zero=>have:i=0:=zj.1 h;subst this;exact hu
 |succ k ih=>
  rcases wN k i with h2|h2
  ·have:i=k+1:=by omega
   subst this;exact hu
  ·have hk:k<all.length:=by omega
   have ho:all[k]? =some all[k]:=List.getElem?_eq_getElem hk;have:=(tr.sf k all[k] ho).slot t u hu;rw[if_neg (hs k all[k] h2 (Nat.lt_succ_self _) ho)]at this;exact ih h2 (by omega) (fun m o h1 h2=>hs m o h1 (by omega)) this
def QZ(n:Nat)(T:Nat->Nat->Prop)(S:Nat->Prop)(h:Hp)(i:Nat):Nat->Prop:=fun b=>b<h.next/\¬ ∀ j,j<n->T j b->(j<i->S j)/\(i<=j->¬ S j)
def upto(φ:Phi)(n:Nat):Phi:=fun b=>if b<n then φ b else none
theorem Cc{φ:Phi}{n b:Nat}{p:Pl}(h:upto φ n b=some p):b<n/\φ b=some p:=by
 unfold upto at h;split at h
 ·exact⟨‹_›,h⟩
 ·cases h
theorem Inv.AJk{φ:Phi}{C:Nat->Blk}{a:Act}{w:wb}{S:Nat->Prop}(I:Inv U N all ρ H T φ0 w0 S φ C a w)(txt:Txt P U N φ0 ρ H V T all.length){i:Nat}(hi:i<=all.length):
  AEG U (upto φ (H i).next) (QZ all.length T S (H i) i) (H i) w/\∃ (ψ:Phi) (b:Act),AR N ψ (ρ i) b/\∀ b p,φ b=some p->(∃ q,ψ b=some q)->upto φ (H i).next b=some p:=by
 obtain⟨ψ,wt,at',HW,HA,hle,hall⟩:=txt.AHZ i hi;have hx:∀ b p,φ b=some p->(∃ q,ψ b=some q)->upto φ (H i).next b=some p:=by
  rintro b p hp ⟨q,hq⟩;unfold upto;rw[if_pos (HW.dom b q hq).1];exact hp
 have hin:∀ b p,φ b=some p->b<(H i).next->∃ q,ψ b=some q:=by
  intro b p hp hb;rcases I.new b p hp with h|h
  ·exact⟨p,hle b p h⟩
  ·exact hall b h hb
 have lk:∀ b p,φ b=some p->b<(H i).next->¬ QZ all.length T S (H i) i b->C b=(H i).bl.get b:=by
  intro b p hp hb hE;refine I.link i hi b p hp hb fun j hj hT=>?_
  by_cases hh:(j<i->S j)/\(i<=j->¬ S j)
  ·exact hh
  ·exact absurd ⟨hb,fun hall=>hh (hall j hj hT)⟩ hE
 refine⟨{dom:=fun b p e=>?_,inj:=fun b c p q eb ec hEb hEc hb hc hio hpq=>?_,row:=fun b p e hE=>?_,fresh:=txt.fresh i hi,kind:=fun b p c s e' e he=>?_,inp:=fun b p e=>I.inp b p (Cc e).2},ψ,at',HA,hx⟩
 ·obtain⟨h1,h2⟩:=Cc e
  exact⟨h1,(I.dom b p h2).1⟩
 ·obtain⟨h1,h2⟩:=Cc eb
  obtain⟨h3,h4⟩:=Cc ec;exact I.inj b c p q h2 h4 (by rw[lk b p h2 h1 hEb];exact hb) (by rw[lk c q h4 h3 hEc];exact hc) hio hpq
 ·obtain⟨h1,h2⟩:=Cc e
  have r1:=I.row b p h2;rw[lk b p h2 h1 hE]at r1;obtain⟨q,hq⟩:=hin b p h2 h1;exact r1.cut hx (HW.row b q hq fun h=>h)
 ·obtain⟨h1,h2⟩:=Cc e
  exact I.kind i hi b p c s e' h2 h1 he
end
end
end Go.Proofs.YtedbmmfebjfibaaGreat

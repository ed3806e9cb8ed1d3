/-
  Part ZE of what Lawap stands on: printed by program, names and spaces cut.
-/
import Derived.Test.YtedbmmfebjfibaaGreatZD
set_option linter.unusedSimpArgs false
set_option linter.unusedVariables false
namespace Go.Proofs.YtedbmmfebjfibaaGreat
noncomputable section
open Go
section
variable {P:Program}{ty:TTy}{φ:Phi}{E:Nat→Prop}{h h':Hp}{w:World}{F:CallF}{e:Env}{v:Value}{f:Fr}
theorem UI{op:Op}{x:Operand}(hk:kd ty op=.r x)(hE:Gk ty f e E op){y:O}(hy:cO f x=some y):∀ a,y e=.pointer (some a)→¬ E a.block:=by
 intro a ha
 unfold Gk at hE
 rw[hk]at hE
 exact hE y hy a.block (by rw[ha];rfl)
theorem K7{op:Op}{x:Operand}(hk:kd ty op=.w x)(hE:Gk ty f e E op):∀ b,¬ E b:=by
 unfold Gk at hE;rw[hk]at hE;exact hE
theorem Fj{op:Op}(hk:kd ty op=.q)(hE:Gk ty f e E op):∀ b,¬ E b:=by
 unfold Gk at hE;rw[hk]at hE;exact hE
theorem WE{args:List O}{x:O}(hs:args=[x]){l:List Operand}{ρ:Operand→Value}(ha:RelL φ (vals e args) (l.map ρ)):∃ x',l.map ρ=[x']∧RelV φ (x e) x':=by
 subst hs
 generalize l.map ρ=r at ha
 cases ha with|cons h t=>cases t;exact⟨_,rfl,h⟩
theorem Ox{args:List O}{x y:O}(hs:args=[x,y]){l:List Operand}{ρ:Operand→Value}(ha:RelL φ (vals e args) (l.map ρ)):∃ x' y',l.map ρ=[x',y']∧RelV φ (x e) x'∧RelV φ (y e) y':=by
 subst hs
 generalize l.map ρ=r at ha
 cases ha with|cons h t=>cases t with|cons h2 t=>cases t;exact⟨_,_,rfl,h,h2⟩
theorem WT(hT:Cc P ty)(H:RelW ty φ E h w){b:Builtin}{c:Call}(hc:c.callee=.builtin b){o:Oper}{a:Act}(ho:o.op=.call c){args:List O}
  (ha:RelL φ (vals e args) (c.args.toList.map a.eval))(hE:(∀ b,¬ E b)∨b=.min∨b=.max∨(b=.len∧∀ x,args=[x]→∀ t ti,c.argTypes[0]? =some t→ty.get t=some ti→(∃ k q,ti.k=.map k q)→∀ r,x e=.map (some r)→¬ E r))
  (hr:JY ty b c.argTypes.toList args F e h=.ok v h'):EC P ty φ E h v h' o a w:=by
 have earr:c.args.map a.eval=⟨c.args.toList.map a.eval⟩:=by apply Array.ext';simp
 have hat0:∀ t l,c.argTypes.toList=t::l→c.argTypes[0]? =some t:=fun t l hl=>by rw[← Array.getElem?_toList,hl];rfl
 have hat1:∀ t t2 l,c.argTypes.toList=t::t2::l→c.argTypes[1]? =some t2:=fun t t2 l hl=>by rw[← Array.getElem?_toList,hl];rfl
 have hex:∀ s:Sem Value,(∀ cs,builtin b c.argTypes o.type cs ⟨c.args.toList.map a.eval⟩=(do pure (.value (← s))))→∀ {vv:Value} {hh:Hp},BI ty φ E h w vv hh (s.run P w)→EC P ty φ E h vv hh o a w:=by
  intro s hs vv hh hg
  refine .of_gives (s:=s) ?_ hg
  unfold execOp
  rw[ho]
  simp only[resolve,hc,earr]
  exact hs _
 cases b with
 |len=>
  match args,ha,hE,hr with
  |[x],ha,hE,hr=>
   obtain⟨x',he,hx⟩:=WE rfl ha
   cases hl:c.argTypes.toList with
   |nil=>rw[hl]at hr;cases hr
   |cons t l=>
    rw[hl]at hr
    obtain⟨ti,hti,hr⟩:=BU hr
    have h0:=hat0 t l hl
    cases hk:ti.k with
    |slice el=>simp only[hk]at hr;exact hex _ (fun cs=>by rw[he];rfl) (YI H h0 (hT t ti hti) hk hx hr)
    |string=>simp only[hk]at hr;exact hex _ (fun cs=>by rw[he];rfl) (YK H h0 (hT t ti hti) hk hx hr)
    |map k q=>
     simp only[hk]at hr
     refine hex _ (fun cs=>by rw[he];rfl) (YG H h0 (hT t ti hti) hk hx (fun r hxr=>?_) hr)
     rcases hE with hE|hE|hE|⟨_,hE⟩
     ·exact hE r
     ·cases hE
     ·cases hE
     ·exact hE x rfl t ti h0 hti ⟨k,q,hk⟩ r hxr
    |arr n el=>
     simp only[hk]at hr
     refine hex (Builtin.len_ c.argTypes o.type #[x']) (fun cs=>by rw[he];rfl) ?_
     rw[bV h0 (hT t ti hti) hk]
     have:v=.int .i64 (.ofNat n)∧h'=h:=by
      unfold AE kV at hr;rw[Ef]at hr;cases hr;exact⟨rfl,rfl⟩
     obtain⟨rfl,rfl⟩:=this
     exact .same H (.int _ _)
    |_=>simp only[hk]at hr;cases hr
  |[],_,_,hr=>cases hr
  |_::_::_,_,_,hr=>cases hr
 |cap=>
  match args,ha,hr with
  |[x],ha,hr=>
   obtain⟨x',he,hx⟩:=WE rfl ha
   cases hl:c.argTypes.toList with
   |nil=>rw[hl]at hr;cases hr
   |cons t l=>
    rw[hl]at hr
    obtain⟨ti,hti,hr⟩:=BU hr
    have h0:=hat0 t l hl
    cases hk:ti.k with
    |slice el=>simp only[hk]at hr;exact hex (Builtin.cap_ c.argTypes o.type #[x']) (fun cs=>by rw[he];rfl) (X7 H h0 (hT t ti hti) hk hx hr)
    |_=>simp only[hk]at hr;cases hr
  |[],_,hr=>cases hr
  |_::_::_,_,hr=>cases hr
 |min=>
  match args,ha,hr with
  |[x,y],ha,hr=>
   obtain⟨x',y',he,hx,hy⟩:=Ox rfl ha
   exact hex _ (fun cs=>by rw[he];rfl) (cX (F:=F) H hx hy hr)
  |[],_,hr=>cases hr
  |[_],_,hr=>cases hr
  |_::_::_::_,_,hr=>cases hr
 |max=>
  match args,ha,hr with
  |[x,y],ha,hr=>
   obtain⟨x',y',he,hx,hy⟩:=Ox rfl ha
   exact hex _ (fun cs=>by rw[he];rfl) (cV (F:=F) H hx hy hr)
  |[],_,hr=>cases hr
  |[_],_,hr=>cases hr
  |_::_::_::_,_,hr=>cases hr
 |copy=>
  have hE':∀ b,¬ E b:=by
   rcases hE with h|h|h|⟨h,_⟩
   ·exact h
   all_goals cases h
  match args,ha,hr with
  |[d,x],ha,hr=>
   obtain⟨d',x',he,hd,hx⟩:=Ox rfl ha
   cases hl:c.argTypes.toList with
   |nil=>rw[hl]at hr;cases hr
   |cons t l=>
    rw[hl]at hr
    obtain⟨ti,hti,hr⟩:=BU hr
    cases hk:ti.k with
    |slice el=>
     simp only[hk]at hr
     obtain⟨ei,hei,hr⟩:=BU hr
     exact hex _ (fun cs=>by rw[he];rfl) (YA H hE' (hat0 t l hl) (hT t ti hti) hk (hT el ei hei) hd hx hr)
    |_=>simp only[hk]at hr;cases hr
  |[],_,hr=>cases hr
  |[_],_,hr=>cases hr
  |_::_::_::_,_,hr=>cases hr
 |clear=>
  have hE':∀ b,¬ E b:=by
   rcases hE with h|h|h|⟨h,_⟩
   ·exact h
   all_goals cases h
  match args,ha,hr with
  |[x],ha,hr=>
   obtain⟨x',he,hx⟩:=WE rfl ha
   cases hl:c.argTypes.toList with
   |nil=>rw[hl]at hr;cases hr
   |cons t l=>
    rw[hl]at hr
    obtain⟨ti,hti,hr⟩:=BU hr
    cases hk:ti.k with
    |slice el=>
     simp only[hk]at hr
     obtain⟨ei,hei,hr⟩:=BU hr
     obtain⟨hz,hr⟩:=Hy hr
     exact hex _ (fun cs=>by rw[he];rfl) (VH H hE' (hat0 t l hl) (hT t ti hti) hk (hT el ei hei) hz hx hr)
    |map k q=>
     simp only[hk]at hr
     exact hex _ (fun cs=>by rw[he];rfl) (OU H hE' (hat0 t l hl) (hT t ti hti) hx hr)
    |_=>simp only[hk]at hr;cases hr
  |[],_,hr=>cases hr
  |_::_::_,_,hr=>cases hr
 |append=>
  have hE':∀ b,¬ E b:=by
   rcases hE with h|h|h|⟨h,_⟩
   ·exact h
   all_goals cases h
  match args,ha,hr with
  |[s,x],ha,hr=>
   obtain⟨s',x',he,hs,hx⟩:=Ox rfl ha
   cases hl:c.argTypes.toList with
   |nil=>rw[hl]at hr;cases hr
   |cons t l=>
    cases l with
    |nil=>rw[hl]at hr;cases hr
    |cons t2 l=>
     rw[hl]at hr
     obtain⟨ti,hti,hr⟩:=BU hr
     obtain⟨xi,hxi,hr⟩:=BU hr
     have h0:=hat0 t _ hl
     have h1:=hat1 t t2 l hl
     cases hk:ti.k with
     |slice en=>
      cases hk2:xi.k with
      |slice q=>
       simp only[hk,hk2]at hr
       obtain⟨ei,hei,hr⟩:=BU hr
       cases hsz:ei.size with
       |zero=>simp only[hsz]at hr;cases hr
       |succ n=>
        simp only[hsz]at hr
        obtain⟨hz,hr⟩:=Hy hr
        have hs2:n.succ=ei.size:=hsz.symm
        rw[hs2]at hr
        exact hex _ (fun cs=>by rw[he];rfl) (L9 H hE' h0 h1 (hT t ti hti) hk (hT t2 xi hxi) (.inl ⟨q,hk2⟩) hei (hT en ei hei) (by omega) hz hs hx hr)
      |string=>
       simp only[hk,hk2]at hr
       obtain⟨ei,hei,hr⟩:=BU hr
       cases hsz:ei.size with
       |zero=>simp only[hsz]at hr;cases hr
       |succ n=>
        simp only[hsz]at hr
        obtain⟨hz,hr⟩:=Hy hr
        have hs2:n.succ=ei.size:=hsz.symm
        rw[hs2]at hr
        exact hex _ (fun cs=>by rw[he];rfl) (L9 H hE' h0 h1 (hT t ti hti) hk (hT t2 xi hxi) (.inr hk2) hei (hT en ei hei) (by omega) hz hs hx hr)
      |int q=>
       simp only[hk,hk2]at hr
       obtain⟨ei,hei,hr⟩:=BU hr
       cases hsz:ei.size with
       |zero=>simp only[hsz]at hr;cases hr
       |succ n=>
        simp only[hsz]at hr
        obtain⟨hz,hr⟩:=Hy hr
        have hs2:n.succ=ei.size:=hsz.symm
        rw[hs2]at hr
        exact hex _ (fun cs=>by rw[he];rfl) (QD H hE' h0 h1 (hT t ti hti) hk (hT t2 xi hxi) hk2 hei (hT en ei hei) (by omega) hz hs hx hr)
      |_=>simp only[hk,hk2]at hr;cases hr
     |_=>simp only[hk]at hr;cases hr
  |[],_,hr=>cases hr
  |[_],_,hr=>cases hr
  |_::_::_::_,_,hr=>cases hr
 |delete=>
  have hE':∀ b,¬ E b:=by
   rcases hE with h|h|h|⟨h,_⟩
   ·exact h
   all_goals cases h
  match args,ha,hr with
  |[m,key],ha,hr=>
   obtain⟨m',key',he,hm,hkey⟩:=Ox rfl ha
   cases hl:c.argTypes.toList with
   |nil=>rw[hl]at hr;cases hr
   |cons t l=>
    rw[hl]at hr
    obtain⟨ti,kt,el,K,hti,hk,hK,hr⟩:=K9 (k:=fun ks=>Kw ks m key) hr
    exact hex _ (fun cs=>by rw[he];rfl) (SM hT H hE' (hat0 t l hl) (hT t ti hti) hk hK hm hkey hr)
  |[],_,hr=>cases hr
  |[_],_,hr=>cases hr
  |_::_::_::_,_,hr=>cases hr
 |_=>cases hr
theorem km(hT:Cc P ty)(hF:Cw P ty F)(H:RelW ty φ E h w){o:Oper}{a:Act}(hst:eA φ f e a.eval o.op)(hE:Gk ty f e E o.op)(hr:opC ty f o.op F e h=.ok v h'):
  EC P ty φ E h v h' o a w:=by
 cases ho:o.op with
 |move x=>
  rw[ho]at hr hst
  obtain⟨x',hx',hr⟩:=Cv hr
  exact .of_gives (s:=pure (a.eval x)) (by unfold execOp;rw[ho];rfl) (QK H (hst x (by simp[Op.operands]) x' hx') hr)
 |assign x=>
  rw[ho]at hr hst
  obtain⟨x',hx',hr⟩:=Cv hr
  exact .of_gives (s:=pure (a.eval x)) (by unfold execOp;rw[ho];rfl) (QK H (hst x (by simp[Op.operands]) x' hx') hr)
 |pick c x y=>
  rw[ho]at hr hst
  obtain⟨c',hc',hr⟩:=Cv hr
  obtain⟨x',y',hx',hy',hr⟩:=JO hr
  refine .of_gives (s:=(do pure (if ← asBool (a.eval c)then a.eval x else a.eval y))) ?_ (YQ H (hst c (by simp[Op.operands]) c' hc') (hst x (by simp[Op.operands]) x' hx') (hst y (by simp[Op.operands]) y' hy') hr)
  unfold execOp;rw[ho];simp
 |alloc t=>
  rw[ho]at hr hst
  obtain⟨ti,hti,hr⟩:=BU hr
  obtain⟨hz,hr⟩:=Hy hr
  cases hc:Bv .mt 0 ti.zero with
  |none=>rw[hc]at hr;cases hr
  |some c=>
   rw[hc]at hr
   exact .of_gives (by unfold execOp;rw[ho]) (VC H (hT t ti hti) hz hc hr)
 |box t x=>
  rw[ho]at hr hst
  obtain⟨x',hx',hr⟩:=Cv hr
  exact .of_gives (by unfold execOp;rw[ho]) (cD H (hst x (by simp[Op.operands]) x' hx') hr)
 |build t parts=>
  rw[ho]at hr hst
  obtain⟨ti,hti,hr⟩:=BU hr
  obtain⟨hz,hr⟩:=Hy hr
  have hps:∀ p∈parts.toList,∀ y,cO f p.2=some y→RelV φ (y e) (a.eval p.2):=fun p hp=>hst p.2 (by simp only[Op.operands,List.mem_map];exact⟨p,hp,rfl⟩)
  cases hk:ti.k with
  |struct fs=>
   simp only[hk]at hr
   cases hp:GS f (MM fs) parts.toList with
   |none=>rw[hp]at hr;cases hr
   |some ps=>
    rw[hp]at hr
    exact .of_gives (by unfold execOp;rw[ho]) (SH H (hT t ti hti) hk hz (ps':=parts.map fun (i,x)=>(i,a.eval x)) (by simpa using I9 (ρ:=a.eval) hp hps) hr)
  |arr n el=>
   simp only[hk]at hr
   obtain⟨ei,hei,hr⟩:=BU hr
   cases hp:GS f (fun i=>some (Nat.mul i ei.size,ei.size)) parts.toList with
   |none=>rw[hp]at hr;cases hr
   |some ps=>
    rw[hp]at hr
    exact .of_gives (by unfold execOp;rw[ho]) (SG H (hT t ti hti) hk (hT el ei hei) hz (ps':=parts.map fun (i,x)=>(i,a.eval x)) (by simpa using I9 (ρ:=a.eval) hp hps) hr)
  |_=>simp only[hk]at hr;cases hr
 |buildSlice t len parts=>
  rw[ho]at hr hst
  obtain⟨ti,hti,hr⟩:=BU hr
  have hps:∀ p∈parts.toList,∀ y,cO f p.2=some y→RelV φ (y e) (a.eval p.2):=fun p hp=>hst p.2 (by simp only[Op.operands,List.mem_map];exact⟨p,hp,rfl⟩)
  cases hk:ti.k with
  |slice el=>
   simp only[hk]at hr
   obtain⟨ei,hei,hr⟩:=BU hr
   obtain⟨hz,hr⟩:=Hy hr
   cases hp:GS f (fun i=>some (Nat.mul i ei.size,ei.size)) parts.toList with
   |none=>rw[hp]at hr;cases hr
   |some ps=>
    rw[hp]at hr
    simp only at hr
    cases hb:Nat.ble (Nat.mul len ei.size) 16777216 with
    |false=>rw[hb]at hr;cases hr
    |true=>
     rw[hb]at hr
     exact .of_gives (by unfold execOp;rw[ho]) (MA H (hT t ti hti) hk (hT el ei hei) hz (Af.1 hb) (ps':=parts.map fun (i,x)=>(i,a.eval x)) (by simpa using I9 (ρ:=a.eval) hp hps) hr)
  |_=>simp only[hk]at hr;cases hr
 |load t x=>
  rw[ho]at hr hst hE
  obtain⟨ti,hti,hr⟩:=BU hr
  obtain⟨x',hx',hr⟩:=Cv hr
  have hx:=hst x (by simp[Op.operands]) x' hx'
  cases hk:ti.k.agg with
  |true=>rw[hk]at hr;exact .of_gives (by unfold execOp;rw[ho]) (VQ H (hT t ti hti) hk hx (UI rfl hE hx') hr)
  |false=>rw[hk]at hr;exact .of_gives (by unfold execOp;rw[ho]) (VO H (hT t ti hti) hk hx (UI rfl hE hx') hr)
 |store t x y=>
  rw[ho]at hr hst hE
  obtain⟨ti,hti,hr⟩:=BU hr
  obtain⟨x',y',hx',hy',hr⟩:=JO hr
  exact .of_skips (by unfold execOp;rw[ho]) (VX H (hT t ti hti) (hst x (by simp[Op.operands]) x' hx') (hst y (by simp[Op.operands]) y' hy') (fun a _=>K7 (x:=x) rfl hE _) hr)
 |nilCheck x=>
  rw[ho]at hr hst
  obtain⟨x',hx',hr⟩:=Cv hr
  obtain⟨hv,rfl,hne⟩:=ce H (hst x (by simp[Op.operands]) x' hx') hr
  refine .of_gives (s:=pure (a.eval x)) ?_ (.same H hv)
  unfold execOp;rw[ho]
  obtain⟨h1,h2,h3,h4⟩:=hne
  simp only
  generalize a.eval x=z at h1 h2 h3 h4 ⊢
  cases z<;>first|rfl|(exact absurd rfl h2)|(exact absurd rfl h3)|skip
 |binOp op t x y yt=>rw[ho]at hr hst;exact gz hT H ho (by rw[ho];exact hst) hr
 |unOp op t x=>
  rw[ho]at hr hst
  obtain⟨ti,hti,hr⟩:=BU hr
  obtain⟨x',hx',hr⟩:=Cv hr
  have hx:=hst x (by simp[Op.operands]) x' hx'
  have hex:execOp a.eval o=(do pure (.value (← Op.unary op (a.eval x)))):=by unfold execOp;rw[ho]
  cases op with
  |not=>exact .of_gives hex (cg H hx (by revert hr;cases ti.k<;>exact id))
  |neg=>
   cases hk:ti.k with
   |int k=>simp only[hk]at hr;exact .of_gives hex (cZ H hx hr)
   |_=>simp only[hk]at hr;cases hr
  |plus=>revert hr;cases ti.k<;>intro hr<;>cases hr
  |xor=>
   cases hk:ti.k with
   |int k=>cases k<;>simp only[hk]at hr<;>first|cases hr;done|exact .of_gives hex (cK H hx hr)
   |_=>simp only[hk]at hr;cases hr
 |fieldAddr t x i=>
  rw[ho]at hr hst
  obtain⟨ti,hti,hr⟩:=BU hr
  obtain⟨x',hx',hr⟩:=Cv hr
  have hx:=hst x (by simp[Op.operands]) x' hx'
  cases hk:ti.k with
  |struct fs=>
   simp only[hk]at hr
   cases hn:nth fs i with
   |none=>rw[hn]at hr;cases hr
   |some q=>
    obtain⟨off,s,ft⟩:=q
    rw[hn]at hr
    cases s with
    |zero=>cases hr
    |succ s=>exact .of_gives (by unfold execOp;rw[ho]) (Mn H (hT t ti hti) hk hn hx hr)
  |_=>simp only[hk]at hr;cases hr
 |field t x i=>
  rw[ho]at hr hst
  obtain⟨ti,hti,hr⟩:=BU hr
  obtain⟨x',hx',hr⟩:=Cv hr
  have hx:=hst x (by simp[Op.operands]) x' hx'
  cases hk:ti.k with
  |struct fs=>
   simp only[hk]at hr
   cases hn:nth fs i with
   |none=>rw[hn]at hr;cases hr
   |some q=>
    obtain⟨off,s,ft⟩:=q
    rw[hn]at hr
    obtain⟨fi,hfi,hr⟩:=BU hr
    exact .of_gives (by unfold execOp;rw[ho]) (VK H (hT t ti hti) hk hn (hT ft fi hfi) hx hr)
  |_=>simp only[hk]at hr;cases hr
 |indexAddr t x ix=>
  rw[ho]at hr hst
  obtain⟨ti,hti,hr⟩:=BU hr
  obtain⟨x',y',hx',hy',hr⟩:=JO hr
  have hx:=hst x (by simp[Op.operands]) x' hx'
  have hy:=hst ix (by simp[Op.operands]) y' hy'
  cases hk:ti.k with
  |arr n el=>
   simp only[hk]at hr
   obtain⟨ei,hei,hr⟩:=BU hr
   exact .of_gives (by unfold execOp;rw[ho]) (SO H (hT t ti hti) hk (hT el ei hei) hx hy hr)
  |slice el=>
   simp only[hk]at hr
   obtain⟨ei,hei,hr⟩:=BU hr
   exact .of_gives (by unfold execOp;rw[ho]) (cS H (hT t ti hti) hk (hT el ei hei) hx hy hr)
  |_=>simp only[hk]at hr;cases hr
 |index t x ix=>
  rw[ho]at hr hst
  obtain⟨ti,hti,hr⟩:=BU hr
  obtain⟨x',y',hx',hy',hr⟩:=JO hr
  have hx:=hst x (by simp[Op.operands]) x' hx'
  have hy:=hst ix (by simp[Op.operands]) y' hy'
  cases hk:ti.k with
  |arr n el=>
   simp only[hk]at hr
   obtain⟨ei,hei,hr⟩:=BU hr
   exact .of_gives (by unfold execOp;rw[ho]) (kZ H (hT t ti hti) hk (hT el ei hei) hx hy hr)
  |string=>
   simp only[hk]at hr
   exact .of_gives (by unfold execOp;rw[ho]) (VF H (hT t ti hti) hk hx hy hr)
  |_=>simp only[hk]at hr;cases hr
 |extract x i=>
  rw[ho]at hr hst
  obtain⟨x',hx',hr⟩:=Cv hr
  exact .of_gives (by unfold execOp;rw[ho]) (QH H (hst x (by simp[Op.operands]) x' hx') hr)
 |makeInterface t x=>
  rw[ho]at hr hst
  obtain⟨ti,hti,hr⟩:=BU hr
  obtain⟨x',hx',hr⟩:=Cv hr
  have hx:=hst x (by simp[Op.operands]) x' hx'
  have hne:ti.k≠.iface:=by intro hk;rw[hk]at hr;cases hr
  have hr':MD t x' F e h=.ok v h':=by revert hr hne;cases ti.k<;>intro hr hne<;>first|exact hr|exact absurd rfl hne
  exact .of_gives (by unfold execOp;rw[ho]) (VM H (hT t ti hti) hne hx hr')
 |makeFunc fn first cap=>
  rw[ho]at hr hst
  simp only[opC]at hr
  cases h1:cOs f first.toList with
  |none=>simp only[h1]at hr;cases hr
  |some fs=>
   cases h2:cOs f cap.toList with
   |none=>simp only[h1,h2]at hr;cases hr
   |some cs=>
    simp only[h1,h2]at hr
    refine .of_gives (s:=Instr.makeFunc fn (first.map a.eval) (cap.map a.eval)) (by unfold execOp;rw[ho]) ?_
    have e1:first.map a.eval=⟨first.toList.map a.eval⟩:=by apply Array.ext';simp
    have e2:cap.map a.eval=⟨cap.toList.map a.eval⟩:=by apply Array.ext';simp
    rw[e1,e2]
    exact YE H (Nx h1 fun x hx=>hst x (by simp[Op.operands]at hx ⊢;exact .inl hx)) (Nx h2 fun x hx=>hst x (by simp[Op.operands]at hx ⊢;exact .inr hx)) hr
 |makeMap t r=>
  rw[ho]at hr hst
  cases r with
  |some _=>cases hr
  |none=>exact .of_gives (by unfold execOp;rw[ho];rfl) (cT (F:=F) (e:=e) H (t:=t) hr)
 |makeSlice t l c=>
  rw[ho]at hr hst
  obtain⟨ti,hti,hr⟩:=BU hr
  cases hk:ti.k with
  |slice el=>
   simp only[hk]at hr
   obtain⟨ei,hei,hr⟩:=BU hr
   obtain⟨hz,hr⟩:=Hy hr
   obtain⟨l',c',hl',hc',hr⟩:=JO hr
   exact .of_gives (by unfold execOp;rw[ho]) (YL H (hT t ti hti) hk (hT el ei hei) hz (hst l (by simp[Op.operands]) l' hl') (hst c (by simp[Op.operands]) c' hc') hr)
  |_=>simp only[hk]at hr;cases hr
 |sliceToArrayPointer t x=>
  rw[ho]at hr hst
  obtain⟨ti,hti,hr⟩:=BU hr
  cases hk:ti.k with
  |arr n el=>
   simp only[hk]at hr
   cases n with
   |zero=>cases hr
   |succ n=>
    obtain⟨x',hx',hr⟩:=Cv hr
    exact .of_gives (by unfold execOp;rw[ho]) (bz H (hT t ti hti) hk (Nat.succ_pos _) (hst x (by simp[Op.operands]) x' hx') hr)
  |_=>simp only[hk]at hr;cases hr
 |slice t x lo hi mx=>
  rw[ho]at hr hst
  obtain⟨ti,hti,hr⟩:=BU hr
  obtain⟨x',hx',hr⟩:=Cv hr
  have hx:=hst x (by simp[Op.operands]) x' hx'
  cases h1:cOo f lo with
  |none=>simp only[h1]at hr;cases hr
  |some lo'=>
   cases h2:cOo f hi with
   |none=>simp only[h1,h2]at hr;cases hr
   |some hi'=>
    cases h3:cOo f mx with
    |none=>simp only[h1,h2,h3]at hr;cases hr
    |some mx'=>
     simp only[h1,h2,h3]at hr
     have r1:RelO φ e lo' (lo.map a.eval):=RP h1 fun z hz=>hst z (by rw[hz];simp[Op.operands])
     have r2:RelO φ e hi' (hi.map a.eval):=RP h2 fun z hz=>hst z (by rw[hz];simp[Op.operands])
     have r3:RelO φ e mx' (mx.map a.eval):=RP h3 fun z hz=>hst z (by rw[hz];simp[Op.operands])
     cases hk:ti.k with
     |string=>
      simp only[hk]at hr
      cases mx' with
      |some _=>cases hr
      |none=>
       have hcut:Hf x' lo' hi' F e h=.ok v h':=hr
       have hmx:mx=none:=by
        cases mx with
        |none=>rfl
        |some z=>cases r3
       subst hmx
       exact .of_gives (by unfold execOp;rw[ho];rfl) (SL H (hT t ti hti) hk hx r1 r2 hcut)
     |slice el=>
      simp only[hk]at hr
      obtain⟨ei,hei,hr⟩:=BU hr
      exact .of_gives (by unfold execOp;rw[ho]) (cM H (hT t ti hti) hk hei (hT el ei hei) hx r1 r2 r3 hr)
     |arr n el=>
      simp only[hk]at hr
      obtain⟨ei,hei,hr⟩:=BU hr
      exact .of_gives (by unfold execOp;rw[ho]) (SJ H (hT t ti hti) hk (hT el ei hei) hx r1 r2 r3 hr)
     |_=>simp only[hk]at hr;cases hr
 |convert src dst x=>
  rw[ho]at hr hst hE
  obtain⟨si,hsi,hr⟩:=BU hr
  obtain⟨di,hdi,hr⟩:=BU hr
  obtain⟨x',hx',hr⟩:=Cv hr
  have hx:=hst x (by simp[Op.operands]) x' hx'
  have hex:execOp a.eval o=(do pure (.value (← convert src dst (a.eval x)))):=by unfold execOp;rw[ho]
  obtain⟨ds,hds,ks⟩:=(hT src si hsi).und
  obtain⟨dd,hdd,kd⟩:=(hT dst di hdi).und
  cases hk:di.k with
  |int k=>
   cases hk2:si.k with
   |int k2=>
    simp only[hk,hk2]at hr
    obtain⟨q,n,hxe,hg⟩:=X9 (P:=P) H hx hr
    rw[hk]at kd;cases kd
    rw[hk2]at ks;cases ks
    refine .of_gives hex ?_
    rw[hxe]
    have:(convert src dst (.int q n)).run P w=(Conv.intToInt k n).run P w:=by
     simp only[convert,Sem.run_bind,run_underlying hds,run_underlying hdd,Result.andThen_ok]
    rw[this];exact hg
   |_=>simp only[hk,hk2]at hr;cases hr
  |string=>
   cases hk2:si.k with
   |string=>
    simp only[hk,hk2]at hr
    obtain⟨s,hxe,hg⟩:=YS H hx hr
    rw[hk]at kd;cases kd
    rw[hk2]at ks;cases ks
    refine .of_gives hex ?_
    rw[hxe]at hg ⊢
    have:(convert src dst (.string s)).run P w=.ok (.string s) w:=by
     simp only[convert,Sem.run_bind,run_underlying hds,run_underlying hdd,Result.andThen_ok,Sem.run_pure]
    rw[this];exact hg
   |slice el=>
    simp only[hk,hk2]at hr
    obtain⟨ei,hei,hr⟩:=BU hr
    cases hk3:ei.k with
    |int k3=>
     cases k3<;>simp only[hk3]at hr<;>first|(cases hr;done)|skip
     refine .of_gives hex (VZ H (fun a l c hxe=>?_) (hT src si hsi) hk2 (hT dst di hdi) hk (hT el ei hei) hk3 hx hr)
     cases hb:Nat.beq src dst with
     |true=>exact Fj (by simp only[Go.Proofs.YtedbmmfebjfibaaGreat.kd,hb]) hE _
     |false=>
      have hi:Lt ty src=false:=by unfold Lt;rw[hsi];simp only[hk2]
      have hi2:G0 ty dst=false:=by unfold G0;rw[hdi];simp only[hk]
      have hkd:Go.Proofs.YtedbmmfebjfibaaGreat.kd ty (.convert src dst x)=.r x:=by simp only[Go.Proofs.YtedbmmfebjfibaaGreat.kd,hb,hi,hi2]
      unfold Gk at hE
      rw[hkd]at hE
      exact hE x' hx' _ (by rw[hxe];rfl)
    |_=>simp only[hk3]at hr;cases hr
   |_=>simp only[hk,hk2]at hr;cases hr
  |slice el=>
   cases hk2:si.k with
   |string=>
    simp only[hk,hk2]at hr
    obtain⟨ei,hei,hr⟩:=BU hr
    cases hk3:ei.k with
    |int k3=>
     cases k3<;>simp only[hk3]at hr<;>first|(cases hr;done)|skip
     cases hb:Nat.beq ei.size 1 with
     |false=>rw[hb]at hr;cases hr
     |true=>
      rw[hb]at hr
      exact .of_gives hex (QQ H (hT src si hsi) hk2 (hT dst di hdi) hk (hT el ei hei) hk3 hei (Al.1 hb) hx hr)
    |_=>simp only[hk3]at hr;cases hr
   |slice el2=>
    simp only[hk,hk2]at hr
    cases hb:Nat.beq src dst with
    |false=>rw[hb]at hr;cases hr
    |true=>
     rw[hb]at hr
     have heq:src=dst:=Al.1 hb
     have hE':=Fj (by simp only[Go.Proofs.YtedbmmfebjfibaaGreat.kd,hb]) hE
     obtain⟨ei,hei,hr⟩:=BU hr
     cases hk3:ei.k with
     |int k3=>
      cases k3<;>simp only[hk3]at hr<;>first|(cases hr;done)|skip
      have hg:=VG (P:=P) H hE' (hT dst di hdi) hk (hT el ei hei) hk3 hx hr
      rw[heq]at hex
      exact .of_gives hex hg
     |_=>simp only[hk3]at hr;cases hr
   |_=>simp only[hk,hk2]at hr;cases hr
  |_=>simp only[hk]at hr;cases hr
 |call c=>
  rw[ho]at hr hst hE
  simp only[opC]at hr
  cases h1:cOs f c.args.toList with
  |none=>simp only[h1]at hr;cases hr
  |some args=>
   simp only[h1]at hr
   have ha:RelL φ (vals e args) (c.args.toList.map a.eval):=Nx h1 fun x hx=>hst x (by
    unfold Op.operands Call.operands
    cases hc:c.callee<;>simp[hc]<;>first|exact Or.inr (by simpa using hx)|exact(by simpa using hx))
   cases hc:c.callee with
   |builtin b=>
    simp only[hc]at hr
    refine WT hT H hc ho ha ?_ hr
    cases b with
    |len=>
     refine .inr (.inr (.inr ⟨rfl,fun x hx t ti ht hti hm r hxr=>?_⟩))
     subst hx
     cases hl:c.args.toList with
     |nil=>rw[hl]at h1;cases h1
     |cons x0 l=>
      cases l with
      |cons x1 l=>
       rw[hl]at h1
       unfold cOs at h1
       cases hx0:cO f x0 with
       |none=>rw[hx0]at h1;cases h1
       |some y0=>
        rw[hx0]at h1
        cases hx1:cOs f (x1::l)with
        |none=>rw[hx1]at h1;cases h1
        |some ys=>
         rw[hx1]at h1
         cases h1
         unfold cOs at hx1
         cases hq:cO f x1 with
         |none=>rw[hq]at hx1;cases hx1
         |some y1=>
          rw[hq]at hx1
          cases hq2:cOs f l with
          |none=>rw[hq2]at hx1;cases hx1
          |some ys=>rw[hq2]at hx1;cases hx1
      |nil=>
       rw[hl]at h1
       have hx0:cO f x0=some x:=by
        unfold cOs at h1
        cases hx0:cO f x0 with
        |none=>rw[hx0]at h1;cases h1
        |some y0=>rw[hx0]at h1;cases h1;rfl
       obtain⟨k,q,hm⟩:=hm
       have hmap:Rr ty (c.argTypes.getD 0 0)=true:=by
        have:c.argTypes.getD 0 0=t:=by rw[Array.getD_eq_getD_getElem?,ht];rfl
        rw[this];unfold Rr;rw[hti];simp only[hm]
       have hk:kd ty (.call c)=.r x0:=by simp only[kd,hc,hl,hmap]
       unfold Gk at hE
       rw[hk]at hE
       exact hE x hx0 r (by rw[hxr];rfl)
    |min=>exact .inr (.inl rfl)
    |max=>exact .inr (.inr (.inl rfl))
    |_=>
     refine .inl ?_
     cases hl:c.args.toList with
     |nil=>exact Fj (by simp only[kd,hc,hl]) hE
     |cons x l=>exact K7 (x:=x) (by simp only[kd,hc,hl]) hE
   |value g=>
    simp only[hc]at hr
    have hE':∀ b,¬ E b:=Fj (by simp only[kd,hc]) hE
    cases g with
    |func g=>exact X5 hF H hE' hc ho ha hr
    |tmp t=>
     obtain⟨g',hg',hr⟩:=Cv hr
     exact Jv hF H hE' hc ho (hst (.tmp t) (by unfold Op.operands Call.operands;simp[hc]) g' hg') ha hr
    |const t=>
     obtain⟨g',hg',hr⟩:=Cv hr
     exact Jv hF H hE' hc ho (hst (.const t) (by unfold Op.operands Call.operands;simp[hc]) g' hg') ha hr
    |global t=>
     obtain⟨g',hg',hr⟩:=Cv hr
     exact Jv hF H hE' hc ho (hst (.global t) (by unfold Op.operands Call.operands;simp[hc]) g' hg') ha hr
   |invoke recv name=>
    simp only[hc]at hr
    have hE':∀ b,¬ E b:=Fj (by simp only[kd,hc]) hE
    obtain⟨x',hx',hr⟩:=Cv hr
    exact SP hT hF H hE' hc ho (hst recv (by unfold Op.operands Call.operands;simp[hc]) x' hx') ha hr
 |lookup t x ix ok=>
  rw[ho]at hr hst hE
  obtain⟨ti,hti,hr⟩:=BU hr
  obtain⟨x',ix',hx',hix',hr⟩:=JO hr
  cases hk:ti.k with
  |map kt el=>
   simp only[hk]at hr
   obtain⟨ei,hei,hr⟩:=BU hr
   obtain⟨hz,hr⟩:=Hy hr
   unfold wZero at hr
   cases hzv:zeroV ei with
   |none=>rw[hzv]at hr;cases hr
   |some z=>
    rw[hzv]at hr
    obtain⟨ti2,kt2,el2,K,hti2,hk2,hK,hr⟩:=K9 hr
    rw[hti]at hti2;cases hti2
    rw[hk]at hk2;cases hk2
    refine .of_gives (by unfold execOp;rw[ho]) (SR hT H (hT t ti hti) hk (hT el ei hei) hz hzv hK (hst x (by simp[Op.operands]) x' hx') (hst ix (by simp[Op.operands]) ix' hix') (fun r hxr=>?_) hr)
    have hkd:kd ty (.lookup t x ix ok)=.r x:=rfl
    unfold Gk at hE
    rw[hkd]at hE
    exact hE x' hx' r (by rw[hxr];rfl)
  |_=>simp only[hk]at hr;cases hr
 |mapUpdate t m k x=>
  rw[ho]at hr hst hE
  obtain⟨ti,kt,el,K,hti,hk,hK,hr⟩:=K9 (k:=fun ks=>w1 f m fun m=>w2 f k x fun key x=>Ep ks m key x) hr
  obtain⟨m',hm',hr⟩:=Cv hr
  obtain⟨k',x',hk',hx',hr⟩:=JO hr
  exact .of_skips (by unfold execOp;rw[ho]) (MG hT H (K7 (x:=m) rfl hE) (hT t ti hti) hk hK (hst m (by simp[Op.operands]) m' hm') (hst k (by simp[Op.operands]) k' hk') (hst x (by simp[Op.operands]) x' hx') hr)
 |insert t m k x=>
  rw[ho]at hr hst hE
  obtain⟨ti,kt,el,K,hti,hk,hK,hr⟩:=K9 (k:=fun ks=>w1 f m fun m=>w2 f k x fun key x=>Ep ks m key x) hr
  obtain⟨m',hm',hr⟩:=Cv hr
  obtain⟨k',x',hk',hx',hr⟩:=JO hr
  exact .of_skips (by unfold execOp;rw[ho]) (MG hT H (K7 (x:=m) rfl hE) (hT t ti hti) hk hK (hst m (by simp[Op.operands]) m' hm') (hst k (by simp[Op.operands]) k' hk') (hst x (by simp[Op.operands]) x' hx') hr)
 |range t x=>
  rw[ho]at hr hst hE
  obtain⟨ti,hti,hr⟩:=BU hr
  cases hk:ti.k with
  |map k q=>
   simp only[hk]at hr
   obtain⟨x',hx',hr⟩:=Cv hr
   exact .of_gives (by unfold execOp;rw[ho]) (VW H (Fj rfl hE) (hT t ti hti) hk (hst x (by simp[Op.operands]) x' hx') hr)
  |_=>simp only[hk]at hr;cases hr
 |next x s=>
  rw[ho]at hr hst hE
  cases s with
  |true=>cases hr
  |false=>
   obtain⟨x',hx',hr⟩:=Cv hr
   exact .of_gives (by unfold execOp;rw[ho]) (YN (t:=o.type) H (Fj rfl hE) (hst x (by simp[Op.operands]) x' hx') hr)
 |entry x=>
  rw[ho]at hr hst hE
  obtain⟨x',hx',hr⟩:=Cv hr
  exact .of_gives (by unfold execOp;rw[ho]) (VI H (Fj rfl hE) (hst x (by simp[Op.operands]) x' hx') hr)
 |typeAssert x xt t ok=>
  rw[ho]at hr hst hE
  obtain⟨ti,hti,hr⟩:=BU hr
  obtain⟨x',hx',hr⟩:=Cv hr
  have hr2:ti.k≠.iface∧wZ ti (wZero ti fun z=>Kv t ok z x') F e h=.ok v h':=by
   cases hk:ti.k with
   |iface=>simp only[hk]at hr;cases hr
   |_=>simp only[hk]at hr;exact⟨nofun,hr⟩
  obtain⟨hki,hr⟩:=hr2
  obtain⟨hz,hr⟩:=Hy hr
  unfold wZero at hr
  cases hzv:zeroV ti with
  |none=>rw[hzv]at hr;cases hr
  |some z=>
   rw[hzv]at hr
   exact .of_gives (by unfold execOp;rw[ho]) (SE H (hT t ti hti) hki hz hzv (hst x (by simp[Op.operands]) x' hx') hr)
 |_=>rw[ho]at hr;cases hr
end
end
noncomputable section
open Go
def oB(h:Hp):R→R
 |.ok v _=>.ok v h
 |.no=>.no
def Kr(g:Hp→R):Prop:=∀ h h2:Hp,h2.bl=h.bl→g h2=oB h2 (g h)
def Kp(g:OpF):Prop:=∀ F e,Kr (g F e)
theorem Kr.same{g:Hp→R}(k:Kr g){h h':Hp}{v:Value}(hr:g h=.ok v h'):h'=h:=by
 have:=k h h rfl
 rw[hr]at this
 have:(R.ok v h')=.ok v h:=this
 cases this;rfl
theorem Kr.at{g:Hp→R}(k:Kr g){h h':Hp}{v:Value}(hr:g h=.ok v h')(h2:Hp)(hb:h2.bl=h.bl):g h2=.ok v h2:=by
 rw[k h h2 hb,hr];rfl
theorem Kr.no:Kr fun _=>.no:=fun _ _ _=>rfl
theorem Kr.ok(v:Value):Kr fun h=>.ok v h:=fun _ _ _=>rfl
theorem Kr.bif{c:Bool}{a b:Hp→R}(ka:Kr a)(kb:Kr b):Kr fun h=>bif c then a h else b h:=by
 cases c
 ·exact kb
 ·exact ka
theorem Kr.forceV{v:Value}{k:Value→Hp→R}(hk:∀ v,Kr (k v)):Kr fun h=>forceV v fun v=>k v h:=by
 intro h h2 hb;simp only[A8];exact hk v h h2 hb
theorem Kr.forceL{v:List Value}{k:List Value→Hp→R}(hk:∀ v,Kr (k v)):Kr fun h=>forceL v fun v=>k v h:=by
 intro h h2 hb;simp only[CM];exact hk v h h2 hb
theorem Kr.forceN{v:Nat}{k:Nat→Hp→R}(hk:∀ v,Kr (k v)):Kr fun h=>forceN v fun v=>k v h:=by
 intro h h2 hb;simp only[Aa];exact hk v h h2 hb
theorem Kr.okI(k:IntKind)(n:Int):Kr fun h=>okI k n h:=fun h h2 _=>by simp only[EO];rfl
theorem Kr.moveR(v:Value):Kr fun h=>moveR v h:=fun h h2 _=>by simp only[Ef];rfl
theorem Kr.okB(b:Bool):Kr fun h=>okB b h:=by cases b<;>exact .ok _
theorem Kr.row{b:Nat}{k:VT→Nat→Nat→Hp→R}{z:Hp→R}(hk:∀ c s e,Kr (k c s e))(hz:Kr z):Kr fun h=>match rowOf h b with
  |.ok c s e=>k c s e h
  |.no=>z h:=by
 intro h h2 hb
 have:rowOf h2 b=rowOf h b:=by unfold rowOf;rw[hb]
 simp only[this]
 cases rowOf h b with
 |ok c s e=>exact hk c s e h h2 hb
 |no=>exact hz h h2 hb
theorem Kr.ents{b:Nat}{k:List Ent→Nat→Hp→R}{z:Hp→R}(hk:∀ c s,Kr (k c s))(hz:Kr z):Kr fun h=>match BR h b with
  |.ok c s=>k c s h
  |.no=>z h:=by
 intro h h2 hb
 have:BR h2 b=BR h b:=by unfold BR;rw[hb]
 simp only[this]
 cases BR h b with
 |ok c s=>exact hk c s h h2 hb
 |no=>exact hz h h2 hb
theorem TG{c:VT}{off:Nat}{k:List Value→Hp→R}(hk:∀ l,Kr (k l))(n:Nat)(acc:List Value):Kr fun h=>Rk c off (fun l=>k l h) n acc:=by
 intro h h2 hb;simp only[FZ];exact hk _ h h2 hb
theorem Gn{e:Env}{x:Option O}{d y:Nat}{k:Nat→Hp→R}(hk:∀ n,Kr (k n)):Kr fun h=>CY e x d y fun n=>k n h:=by
 unfold CY
 cases x with
 |none=>exact hk d
 |some o=>
  simp only
  cases Cu (o e)with
  |no=>exact .no
  |ok n=>exact .bif (hk n) .no
theorem JW{e:Env}{l c:Nat}{lo hi mx:Option O}{k:Nat→Nat→Nat→Hp→R}(hk:∀ a b c,Kr (k a b c)):Kr fun h=>DB e l c lo hi mx fun a b c=>k a b c h:=by
 unfold DB
 cases mx with
 |none=>exact Gn (k:=fun hh h=>CY e lo 0 hh fun l=>k l hh c h) fun hh=>Gn (k:=fun l h=>k l hh c h) fun l=>hk l hh c
 |some m=>
  refine Gn (k:=fun m h=>_) fun m=>?_
  cases hi with
  |none=>exact .no
  |some hh=>exact Gn (k:=fun hh h=>CY e lo 0 hh fun l=>k l hh m h) fun hh=>Gn (k:=fun l h=>k l hh m h) fun l=>hk l hh m
theorem GX{a:Option Addr}{s l hh m:Nat}:Kr fun h=>Bc a s l hh m h:=by
 unfold Bc
 refine .forceN (k:=fun n h=>_) fun n=>.forceN (k:=fun c h=>_) fun c=>?_
 cases Nat.beq m l with
 |true=>exact .ok _
 |false=>
  cases a with
  |none=>exact .ok _
  |some a=>
   simp only
   cases Nat.mul l s with
   |zero=>exact .ok _
   |succ m=>exact .forceN (k:=fun o h=>_) fun o=>.ok _
theorem Qb{g:Bool}{s:Nat}{cs:List Value}{off:Nat}:Kr fun h=>Nd g s cs off h:=by
 unfold Nd
 cases g with
 |true=>exact .forceL (k:=fun l h=>_) fun l=>.ok _
 |false=>
  simp only
  cases nth cs off with
  |none=>exact .no
  |some v=>exact .forceV (k:=fun l h=>_) fun l=>.ok _
theorem PO{e:Env}{k:List Value→Hp→R}(hk:∀ l,Kr (k l)):∀ (ps:List (Nat×Nat×O)) (cs:List Value),Kr fun h=>D9 cs e (fun l=>k l h) ps
 |[],cs=>by
  unfold D9;exact .forceL (k:=k) hk
 |(off,size,x)::ps,cs=>by
  unfold D9
  exact .forceV (k:=fun v h=>_) fun v=>.bif (.bif (.bif (PO hk ps _) .no) .no) .no
theorem L1{ok:Bool}{v:Value}{b:Bool}:Kr fun h=>DP ok v b h:=by
 unfold DP
 cases ok
 ·exact .forceV (k:=fun v h=>_) fun v=>.ok _
 ·exact .forceV (k:=fun v h=>_) fun v=>.ok _
theorem Qf{a:Addr}{n:Nat}:Kr fun h=>Nf a n h:=.forceN (k:=fun o h=>_) fun o=>.ok _
theorem Q2{size:Nat}{v:Value}{n:Nat}{k:List Value→Hp→R}(hk:∀ l,Kr (k l)):Kr fun h=>BF h size v n fun l=>k l h:=by
 unfold BF
 cases v with
 |slice a l c=>
  cases a with
  |none=>exact hk []
  |some a=>exact .row (k:=fun c s _ h=>bif Nat.ble (Nat.add a.off (Nat.mul n size)) s then Rk c a.off (fun l=>k l h) (Nat.mul n size) []else .no) (z:=fun _=>.no) (fun c s _=>.bif (TG hk _ _) .no) .no
 |string s=>exact .bif (hk _) .no
 |chan c=>
  cases c with
  |none=>exact .no
  |some r=>exact hk []
 |_=>exact .no
end
noncomputable section
open Go
theorem Kp.oNo:Kp oNo:=fun _ _=>.no
theorem Kp.w1{f:Fr}{x:Operand}{k:O→OpF}(hk:∀ y,Kp (k y)):Kp (w1 f x k):=by
 unfold Go.Proofs.YtedbmmfebjfibaaGreat.w1;split
 ·exact hk _
 ·exact .oNo
theorem Kp.w2{f:Fr}{x y:Operand}{k:O→O→OpF}(hk:∀ x y,Kp (k x y)):Kp (w2 f x y k):=.w1 fun x=>.w1 fun y=>hk x y
theorem Kp.wTy{ty:TTy}{t:Nat}{k:TI→OpF}(hk:∀ ti,ty.get t=some ti→Kp (k ti)):Kp (wTy ty t k):=by
 unfold Go.Proofs.YtedbmmfebjfibaaGreat.wTy;split
 ·rename_i ti h;exact hk ti h
 ·exact .oNo
theorem Kp.wZ{ti:TI}{k:OpF}(hk:Kp k):Kp (wZ ti k):=by
 unfold Go.Proofs.YtedbmmfebjfibaaGreat.wZ;split
 ·exact hk
 ·exact .oNo
theorem Kp.wZero{ti:TI}{k:Value→OpF}(hk:∀ z,Kp (k z)):Kp (wZero ti k):=by
 unfold Go.Proofs.YtedbmmfebjfibaaGreat.wZero;split
 ·exact hk _
 ·exact .oNo
theorem Kp.wKey{ty:TTy}{t:Nat}{k:KS→OpF}(hk:∀ z,Kp (k z)):Kp (wKey ty t k):=by
 unfold Go.Proofs.YtedbmmfebjfibaaGreat.wKey
 refine .wTy fun ti _=>?_
 split
 ·refine .wTy fun ki _=>?_
  split
  ·exact hk _
  ·exact .oNo
 ·exact .oNo
section
variable {x y z:O}
theorem ME:Kp (AE x):=fun F e=>.moveR _
theorem YP:Kp (Av x y z):=fun F e=>by
 show Kr fun h=>Yl (x e) (y e) (z e) h
 cases x e with
 |bool t=>cases t<;>exact .moveR _
 |_=>exact .no
theorem NZ{zs:List Value}{ps:List (Nat×Nat×O)}:Kp (Bp zs ps):=fun F e=>PO (k:=fun cs h=>.ok (.agg ⟨cs⟩) h) (fun l=>.ok _) ps zs
theorem cd:Kp (Bj x):=fun F e=>by
 show Kr fun h=>VA (x e) h
 unfold VA
 cases x e with
 |pointer a=>cases a;exact .no;exact .ok _
 |func f a b=>cases f<;>first|exact .ok _|exact .no
 |slice a n c=>exact .ok _
 |map m=>exact .ok _
 |iface t v=>exact .forceV (k:=fun v h=>.ok (.iface t v) h) fun v=>.ok _
 |_=>exact .no
theorem cI{f:Int→Int→Bool}{k:IntKind}:Kp (Ad f k x y):=fun F e=>by
 show Kr fun h=>Z6 f (CR k (x e)) (CR k (y e)) h
 cases CR k (x e)with
 |no=>exact .no
 |ok a=>cases CR k (y e)with
  |no=>exact .no
  |ok b=>exact .okB _
theorem bt{f:Int→Int→Int}{k:IntKind}:Kp (Cg f k x y):=fun F e=>by
 show Kr fun h=>fI f k (CR k (x e)) (CR k (y e)) h
 cases CR k (x e)with
 |no=>exact .no
 |ok a=>cases CR k (y e)with
  |no=>exact .no
  |ok b=>exact .okI _ _
theorem bp{k:IntKind}{top:Nat}:Kp (CC k top x y):=fun F e=>by
 show Kr fun h=>ZZ k top (CR k (x e)) (CR k (y e)) h
 cases CR k (x e)with
 |no=>exact .no
 |ok a=>cases CR k (y e)with
  |no=>exact .no
  |ok b=>
   cases a with
   |negSucc _=>exact .okI _ _
   |ofNat a=>cases b with
    |negSucc _=>exact .okI _ _
    |ofNat b=>
     unfold ZZ
     simp only
     cases Nat.ble (Nat.add a b) top with
     |true=>exact .forceN (k:=fun n h=>.ok (.int k (.ofNat n)) h) fun n=>.ok _
     |false=>exact .okI _ _
theorem cP{k:IntKind}:Kp (Ka k x y):=fun F e=>by
 show Kr fun h=>XN k (CR k (x e)) (CR k (y e)) h
 unfold XN
 cases CR k (x e)with
 |no=>exact .no
 |ok a=>cases CR k (y e)with
  |no=>exact .no
  |ok b=>exact .bif .no (.okI _ _)
theorem ch{k:IntKind}:Kp (QO k x y):=fun F e=>by
 show Kr fun h=>Ys k (CR k (x e)) (CR k (y e)) h
 unfold Ys
 cases CR k (x e)with
 |no=>exact .no
 |ok a=>cases CR k (y e)with
  |no=>exact .no
  |ok b=>exact .bif .no (.okI _ _)
theorem cC{f:Nat→Nat→Nat}{k:IntKind}:Kp (Jw f k x y):=fun F e=>by
 show Kr fun h=>WN f k (FN k (x e)) (FN k (y e)) h
 unfold WN
 cases FN k (x e)with
 |no=>exact .no
 |ok a=>cases FN k (y e)with
  |no=>exact .no
  |ok b=>exact .bif (.bif (.okI _ _) .no) .no
theorem cj{k:IntKind}:Kp (Mo k x y):=fun F e=>by
 show Kr fun h=>Y0 k (FN k (x e)) (Cu (y e)) h
 unfold Y0
 cases FN k (x e)with
 |no=>exact .no
 |ok a=>cases Cu (y e)with
  |no=>exact .no
  |ok b=>exact .okI _ _
theorem co{k:IntKind}:Kp (Kb k x y):=fun F e=>by
 show Kr fun h=>Y1 k (FN k (x e)) (Cu (y e)) h
 unfold Y1
 cases FN k (x e)with
 |no=>exact .no
 |ok a=>cases Cu (y e)with
  |no=>exact .no
  |ok b=>exact .okI _ _
theorem cr{f:List UInt8→List UInt8→Bool}:Kp (I6 f x y):=fun F e=>by
 show Kr fun h=>Y9 f (x e) (y e) h
 unfold Y9
 cases x e with
 |string a=>cases y e with
  |string b=>exact .okB _
  |_=>exact .no
 |_=>exact .no
theorem cF:Kp (cE x y):=fun F e=>by
 show Kr fun h=>Z3 (x e) (y e) h
 unfold Z3
 cases x e with
 |string a=>cases y e with
  |string b=>exact .bif (.ok _) .no
  |_=>exact .no
 |_=>exact .no
theorem kh{k:TK}{n:Bool}:Kp (oEq k n x y):=fun F e=>by
 unfold oEq
 cases eqV k (x e) (y e)with
 |some r=>exact .okB _
 |none=>exact .no
theorem YO{n:Bool}:Kp (Na n x):=fun F e=>by
 show Kr fun h=>Xy n (x e) h
 unfold Xy
 cases x e<;>first|exact .okB _|exact .no
theorem Tk{k:KS}{n:Bool}:Kp (QF k n x y):=fun F e=>by
 unfold QF
 cases eqC k (x e) (y e)with
 |some r=>exact .okB _
 |none=>exact .no
theorem cf:Kp (DY x):=fun F e=>by
 unfold DY
 cases x e with
 |bool b=>exact .okB _
 |_=>exact .no
theorem cJ:Kp (YB x):=fun F e=>by
 unfold YB
 cases FN .u8 (x e)with
 |no=>exact .no
 |ok n=>exact .bif (.okI _ _) .no
theorem cY{k:IntKind}:Kp (YM k x):=fun F e=>by
 unfold YM
 cases CR k (x e)with
 |no=>exact .no
 |ok n=>exact .okI _ _
theorem X8{k:IntKind}:Kp (Cn k x):=fun F e=>by
 unfold Cn
 cases U0 (x e)with
 |no=>exact .no
 |ok n=>exact .okI _ _
theorem YR:Kp (QP x):=fun F e=>by
 unfold QP
 cases x e with
 |string b=>exact .ok _
 |_=>exact .no
theorem VY:Kp (FB x):=fun F e=>by
 unfold FB
 cases x e with
 |slice a n c=>
  refine Q2 (k:=fun cs h=>match ET cs with|some bs=>.ok (.string ⟨⟨bs⟩⟩) h|none=>.no) fun l=>?_
  cases ET l with
  |some bs=>exact .ok _
  |none=>exact .no
 |_=>exact .no
theorem VL{t:Nat}:Kp (MD t x):=fun F e=>.forceV (k:=fun v h=>.ok (.iface t v) h) fun v=>.ok _
theorem YD{fn:Fn}{a b:List O}:Kp (Em fn a b):=fun F e=>.forceL (k:=fun f h=>forceL (vals e b) fun c=>.ok (.func fn ⟨f⟩ ⟨c⟩) h) fun f=>.forceL (k:=fun c h=>.ok (.func fn ⟨f⟩ ⟨c⟩) h) fun c=>.ok _
theorem SK{lo hi:Option O}:Kp (Hf x lo hi):=fun F e=>by
 unfold Hf
 cases x e with
 |string s=>exact JW (k:=fun l hh _ h=>.ok (.string ⟨⟨KR (Nat.sub hh l) (Lc l s.data.toList)⟩⟩) h) fun a b c=>.ok _
 |_=>exact .no
theorem aA{el s:Nat}{a:Option Addr}{mx:Bool}{l hh m:Nat}:Kr fun h=>Dn el s a mx l hh m h:=by
 unfold Dn
 cases mx with
 |true=>exact GX
 |false=>
  cases l with
  |zero=>exact GX
  |succ l=>
   intro h h2 hb
   have:Eb el a h2=Eb el a h:=by
    unfold Eb
    cases a with
    |none=>rfl
    |some a=>
     have:rowOf h2 a.block=rowOf h a.block:=by unfold rowOf;rw[hb]
     simp only[this]
   simp only[this]
   cases Eb el a h with
   |true=>exact GX h h2 hb
   |false=>rfl
theorem cL{el s:Nat}{lo hi mx:Option O}:Kp (Db el s x lo hi mx):=fun F e=>by
 unfold Db
 cases x e with
 |slice a n c=>exact JW (k:=fun l hh m h=>Dn el s a mx.isSome l hh m h) fun _ _ _=>aA
 |_=>exact .no
theorem SI{n s:Nat}{lo hi mx:Option O}:Kp (Ff n s x lo hi mx):=fun F e=>by
 unfold Ff
 cases DT (x e)with
 |ok a=>exact JW (k:=fun l hh m h=>Bc (some a) s l hh m h) fun _ _ _=>GX
 |no=>exact .no
theorem Mm{o:Nat}:Kp (AF o x):=fun F e=>by
 unfold AF
 cases DT (x e)with
 |ok a=>exact Qf
 |no=>exact .no
theorem VJ{g:Bool}{s o:Nat}:Kp (MC g s o x):=fun F e=>by
 unfold MC
 cases x e with
 |agg cs=>exact Qb
 |_=>exact .no
theorem TP{n s:Nat}{a:AA}{i:NN}:Kr fun h=>Lp n s a i h:=by
 unfold Lp
 cases i with
 |no=>exact .no
 |ok i=>
  simp only
  cases Nat.blt i n with
  |false=>exact .no
  |true=>
   cases a with
   |no=>exact .no
   |ok a=>exact Qf
theorem SN{n s:Nat}:Kp (CO n s x y):=fun F e=>TP
theorem cR{s:Nat}:Kp (CA s x y):=fun F e=>by
 unfold CA
 cases x e with
 |slice a n c=>cases a;exact .no;exact TP
 |_=>exact .no
theorem kY{g:Bool}{n s:Nat}:Kp (oAt g n s x y):=fun F e=>by
 show Kr fun h=>atF g n s (x e) (Cu (y e)) h
 unfold atF
 cases Cu (y e)with
 |no=>exact .no
 |ok i=>
  refine .bif ?_ .no
  cases x e with
  |agg cs=>exact Qb
  |_=>exact .no
theorem VD:Kp (II x y):=fun F e=>by
 show Kr fun h=>JT (x e) (Cu (y e)) h
 unfold JT
 cases Cu (y e)with
 |no=>exact .no
 |ok i=>
  simp only
  cases x e with
  |string s=>
   simp only
   cases nth s.data.toList i with
   |some b=>exact .okI _ _
   |none=>exact .no
  |_=>exact .no
theorem QG{i:Nat}:Kp (AZ i x):=fun F e=>by
 unfold AZ
 cases x e with
 |tuple vs=>
  simp only
  cases nth vs.toList i with
  |some v=>exact .forceV (k:=fun v h=>.ok v h) fun v=>.ok v
  |none=>exact .no
 |_=>exact .no
theorem bu{n:Nat}:Kp (QE n x):=fun F e=>by
 unfold QE
 cases x e with
 |slice a l c=>cases a;exact .no;exact .bif (.ok _) .no
 |_=>exact .no
theorem YH:Kp (Bi x):=fun F e=>by
 unfold Bi
 cases x e with
 |slice a n c=>exact .ok _
 |chan o=>cases o;exact .no;exact .ok _
 |_=>exact .no
theorem YJ:Kp (QJ x):=fun F e=>by
 unfold QJ
 cases x e with
 |string s=>exact .forceN (k:=fun n h=>.ok (.int .i64 (.ofNat n)) h) fun n=>.ok _
 |_=>exact .no
theorem YF:Kp (QI x):=fun F e=>by
 unfold QI
 cases x e with
 |map r=>
  cases r with
  |none=>exact .ok _
  |some r=>exact .ents (k:=fun es _ h=>forceN (A9 es) fun n=>.ok (.int .i64 (.ofNat n)) h) (z:=fun _=>.no) (fun es _=>.forceN (k:=fun n h=>.ok (.int .i64 (.ofNat n)) h) fun n=>.ok _) .no
 |_=>exact .no
theorem NU{l:Bool}{a b:Value}:Kr fun h=>G8 l a b h:=by
 unfold G8
 cases a with
 |int k a=>
  simp only
  cases U0 b with
  |no=>exact .no
  |ok b=>exact .bif (.ok _) (.ok _)
 |_=>exact .no
theorem cW:Kp (VV x y):=fun F e=>NU
theorem cU:Kp (VU x y):=fun F e=>NU
theorem VN:Kp (AO x):=fun F e=>by
 unfold AO
 cases DT (x e)with
 |no=>exact .no
 |ok a=>
  intro h h2 hb
  show load1 a h2=oB h2 (load1 a h)
  have:rowOf h2 a.block=rowOf h a.block:=by unfold rowOf;rw[hb]
  unfold load1
  rw[this]
  cases rowOf h a.block with
  |no=>rfl
  |ok c s t=>
   simp only
   cases Nat.blt a.off s with
   |false=>rfl
   |true=>simp only[A8];rfl
theorem VP{n:Nat}:Kp (Bh n x):=fun F e=>by
 unfold Bh
 cases DT (x e)with
 |no=>exact .no
 |ok a=>exact .row (k:=fun c s _ h=>bif Nat.ble (Nat.add a.off n) s then Rk c a.off (fun l=>.ok (.agg ⟨l⟩) h) n []else .no) (z:=fun _=>.no) (fun c s _=>.bif (TG (k:=fun l h=>.ok (.agg ⟨l⟩) h) (fun l=>.ok _) _ _) .no) .no
theorem SQ{K:KS}{zv:Value}{ok:Bool}:Kp (GP K zv ok x y):=fun F e=>by
 show Kr fun h=>Ha K zv (x e) (y e) ok h
 unfold Ha
 cases FL K (y e)with
 |false=>exact .no
 |true=>
  simp only
  cases x e with
  |map r=>
   cases r with
   |none=>exact L1
   |some r=>
    refine .ents (k:=fun es _ h=>match Lh K (y e) es with
     |some (some en)=>DP ok en.val true h
     |some none=>DP ok zv false h
     |none=>.no) (z:=fun _=>.no) (fun es _=>?_) .no
    cases Lh K (y e) es with
    |none=>exact .no
    |some o=>cases o<;>exact L1
  |_=>exact .no
end
section
variable {ty:TTy}{f:Fr}
theorem Zq{op:BinOp}{t:Nat}{x y:Operand}:Kp (WL ty f op t x y):=by
 unfold WL
 refine .wTy fun ti _=>.w2 fun x y=>?_
 split
 ·split
  ·cases op<;>first|exact YO|exact .oNo
  ·exact .oNo
 ·cases op<;>first|exact bp|exact bt|exact cP|exact ch|exact cC|exact cj|exact co|exact cI|exact .oNo
 ·cases op<;>first|exact cF|exact cr|exact .oNo
 ·split
  ·cases op<;>first|exact Tk|exact .oNo
  ·exact .oNo
 ·split
  ·cases op<;>first|exact Tk|exact .oNo
  ·exact .oNo
 ·cases op<;>first|exact kh|exact .oNo
theorem kl{op:Op}(hk:kd ty op=.p∨∃ x,kd ty op=.r x):Kp (opC ty f op):=by
 cases op with
 |move x=>exact .w1 fun x=>ME
 |assign x=>exact .w1 fun x=>ME
 |pick c a b=>exact .w1 fun c=>.w2 fun a b=>YP
 |build t ps=>
  refine .wTy fun ti _=>.wZ ?_
  split
  ·split
   ·exact NZ
   ·exact .oNo
  ·refine .wTy fun ei _=>?_
   split
   ·exact NZ
   ·exact .oNo
  ·exact .oNo
 |load t x=>
  refine .wTy fun ti _=>.w1 fun x=>?_
  split
  ·exact VP
  ·exact VN
 |nilCheck x=>exact .w1 fun x=>cd
 |binOp op t x y u=>exact Zq
 |unOp op t x=>
  refine .wTy fun ti _=>.w1 fun x=>?_
  split<;>first|exact cf|exact cY|exact cJ|exact .oNo
 |convert src dst x=>
  refine .wTy fun si hsi=>.wTy fun di hdi=>.w1 fun x=>?_
  split
  ·exact X8
  ·exact YR
  ·refine .wTy fun ei _=>?_
   split
   ·exact VY
   ·exact .oNo
  ·rename_i hd hs
   exfalso
   simp only[kd]at hk
   cases hb:Nat.beq src dst with
   |true=>simp only[hb]at hk;rcases hk with hk|⟨_,hk⟩<;>cases hk
   |false=>
    have h1:Lt ty src=false:=by unfold Lt;rw[hsi];simp only[hs]
    have h2:G0 ty dst=true:=by unfold G0;rw[hdi];simp only[hd]
    simp only[hb,h1,h2]at hk
    rcases hk with hk|⟨_,hk⟩<;>cases hk
  ·rename_i hs hd
   split
   ·rename_i hb
    exfalso
    simp only[kd,hb]at hk
    rcases hk with hk|⟨_,hk⟩<;>cases hk
   ·exact .oNo
  ·exact .oNo
 |makeInterface t x=>
  refine .wTy fun ti _=>.w1 fun x=>?_
  split
  ·exact .oNo
  ·exact VL
 |makeFunc fn a b=>
  show Kp (match cOs f a.toList,cOs f b.toList with
   |some fs,some c=>Em fn fs c
   |_,_=>oNo)
  split
  ·exact YD
  ·exact .oNo
 |slice t x lo hi mx=>
  refine .wTy fun ti _=>.w1 fun x=>?_
  split
  ·split
   ·split
    ·exact SK
    ·exact .oNo
   ·exact .wTy fun ei _=>cL
   ·exact .wTy fun ei _=>SI
   ·exact .oNo
  ·exact .oNo
 |fieldAddr t x i=>
  refine .wTy fun ti _=>.w1 fun x=>?_
  split
  ·split<;>first|exact Mm|exact .oNo
  ·exact .oNo
 |field t x i=>
  refine .wTy fun ti _=>.w1 fun x=>?_
  split
  ·split
   ·exact .wTy fun fi _=>VJ
   ·exact .oNo
  ·exact .oNo
 |indexAddr t x i=>
  refine .wTy fun ti _=>.w2 fun x y=>?_
  split
  ·exact .wTy fun fi _=>SN
  ·exact .wTy fun fi _=>cR
  ·exact .oNo
 |index t x i=>
  refine .wTy fun ti _=>.w2 fun x y=>?_
  split
  ·exact .wTy fun fi _=>kY
  ·exact VD
  ·exact .oNo
 |lookup t x i ok=>
  refine .wTy fun ti _=>.w2 fun x y=>?_
  split
  ·exact .wTy fun ei _=>.wZ (.wZero fun z=>.wKey fun ks=>SQ)
  ·exact .oNo
 |extract t i=>exact .w1 fun t=>QG
 |sliceToArrayPointer t x=>
  refine .wTy fun ti _=>?_
  split
  ·exact .w1 fun x=>bu
  ·exact .oNo
 |call c=>
  simp only[kd]at hk
  cases hc:c.callee with
  |builtin b=>
   show Kp (match cOs f c.args.toList with
    |some args=>match c.callee with
     |.builtin b=>JY ty b c.argTypes.toList args
     |.value g=>match g with
      |.func g=>AS g args
      |g=>w1 f g fun g=>EM g args
     |.invoke recv name=>w1 f recv fun x=>Ky (ty.meths name fun k=>k) x args
    |none=>oNo)
   split
   ·rename_i args ha
    simp only[hc]
    cases b with
    |len=>
     unfold JY
     split<;>rename_i h1<;>first|(cases h1;done)|skip
     all_goals (try (exact .oNo))
     split
     ·refine .wTy fun ti _=>?_
      split
      ·exact YH
      ·exact YJ
      ·exact YF
      ·exact ME
      ·exact .oNo
     ·exact .oNo
    |min=>
     unfold JY
     split<;>rename_i h1<;>first|(cases h1;done)|exact cW|exact .oNo
    |max=>
     unfold JY
     split<;>rename_i h1<;>first|(cases h1;done)|exact cU|exact .oNo
    |_=>
     exfalso
     simp only[hc]at hk
     cases hl:c.args.toList with
     |nil=>simp only[hl]at hk;rcases hk with hk|⟨_,hk⟩<;>cases hk
     |cons _ _=>simp only[hl]at hk;rcases hk with hk|⟨_,hk⟩<;>cases hk
   ·exact .oNo
  |_=>
   exfalso
   simp only[hc]at hk
   rcases hk with hk|⟨_,hk⟩<;>cases hk
 |_=>first|exact .oNo|(exfalso;rcases hk with hk|⟨_,hk⟩<;>cases hk)
end
end
noncomputable section
open Go
abbrev Rho:=Nat→Option Value
def rhoOf(A:List Nat)(σ:Sg)(e:Env):Rho:=fun t=>match Oh A σ (.tmp t)with
 |some s=>some (Kh s e)
 |none=>none
def evR(ρ:Rho):Operand→Option Value
 |.tmp t=>ρ t
 |.const v=>if FC v then some v else none
 |.func g=>some (.func (.func g) #[] #[])
 |.global _=>none
theorem D5(A:List Nat)(σ:Sg)(e:Env)(t:Nat):rhoOf A σ e t=match DC t σ with
  |some s=>some (Kh s e)
  |none=>match memN t A with
   |true=>none
   |false=>match Nat.blt t 160 with
    |true=>some (AB t e)
    |false=>none:=by
 show(match Oh A σ (.tmp t)with|some s=>some (Kh s e)|none=>none)=_
 show(match (match DC t σ with|some s=>some s|none=>match memN t A with|true=>none|false=>match Nat.blt t 160 with|true=>some (Src.s t)|false=>none)with|some s=>some (Kh s e)|none=>none)=_
 cases DC t σ with
 |some s=>rfl
 |none=>
  cases memN t A with
  |true=>rfl
  |false=>cases Nat.blt t 160<;>rfl
theorem Y7{A:List Nat}{σ:Sg}{x:Operand}{s:Src}(h:Oh A σ x=some s)(e:Env):evR (rhoOf A σ e) x=some (Kh s e):=by
 cases x with
 |tmp t=>show(match Oh A σ (.tmp t)with|some s=>some (Kh s e)|none=>none)=_;rw[h]
 |const v=>
  have h:(match FC v with|true=>some (Src.c v)|false=>none)=some s:=h
  cases hp:FC v with
  |true=>rw[hp]at h;cases h;show(if FC v then some v else none)=_;rw[if_pos hp];rfl
  |false=>rw[hp]at h;cases h
 |func g=>cases h;rfl
 |global _=>cases h
theorem iA{f:Fr}{x:Operand}{y:O}(h:cO f x=some y):∃ s,Oh f.A f.σ x=some s∧y=Kh s:=by
 unfold cO at h
 split at h
 ·rename_i s hs;cases h;exact⟨s,hs,rfl⟩
 ·cases h
theorem FS{A:List Nat}{σ:Sg}{x:Operand}{y:O}(h:cO ⟨A,σ⟩ x=some y)(e:Env):evR (rhoOf A σ e) x=some (y e):=by
 obtain⟨s,hs,rfl⟩:=iA h
 exact Y7 hs e
theorem MN{φ:Phi}{v:Value}(h:FC v=true):RelV φ v v:=by
 unfold FC at h
 split at h
 ·rename_i cs
  exact .agg (l:=cs.toList) (l':=cs.toList) (.plain h)
 ·exact .plain h
structure SgOk (A:List Nat)(σ:Sg):Prop where
 mem:∀ p∈σ,memN p.1 A=true
 nodup:(σ.map (·.1)).Nodup
 lt:∀ p∈σ,∀ n,p.2=.s n→n<160
theorem SgOk.nil(A:List Nat):SgOk A [] where
 mem:=fun p hp=>by cases hp
 nodup:=List.nodup_nil
 lt:=fun p hp=>by cases hp
theorem Et{a b:Nat}(h:Nat.beq a b=false):a≠b:=fun e=>by rw[e,Nat.beq_refl]at h;cases h
theorem EF:∀ {σ:Sg} {t:Nat} {s:Src},DC t σ=some s→(t,s)∈σ
 |(d,s')::l,t,s,h=>by
  unfold DC at h
  split at h
  ·rename_i hb
   cases h
   have:=Al.1 hb
   subst this;exact List.mem_cons_self
  ·exact List.mem_cons_of_mem _ (EF h)
theorem En:∀ {σ:Sg} {t:Nat} {s:Src},(σ.map (·.1)).Nodup→(t,s)∈σ→DC t σ=some s
 |(d,s')::l,t,s,hn,h=>by
  unfold DC
  rw[List.map_cons,List.nodup_cons]at hn
  rcases List.mem_cons.1 h with h|h
  ·cases h
   rw[Nat.beq_refl]
  ·have:d≠t:=by
    intro e;subst e
    exact hn.1 (List.mem_map.2 ⟨_,h,rfl⟩)
   have hb:Nat.beq d t=false:=by
    cases hb:Nat.beq d t with
    |true=>exact absurd (Al.1 hb) this
    |false=>rfl
   rw[hb];exact En hn.2 h
theorem ED:∀ {σ:Sg} {d:Nat},(FW d σ).Sublist σ∧∀ p∈FW d σ,p.2≠.s d
 |[],d=>⟨.slnil,fun p hp=>by cases hp⟩
 |(t,.s n)::l,d=>by
  obtain⟨h1,h2⟩:=ED (σ:=l) (d:=d)
  unfold FW
  split
  ·exact⟨h1.cons _,h2⟩
  ·rename_i hb
   refine⟨h1.cons_cons _,fun p hp=>?_⟩
   rcases List.mem_cons.1 hp with rfl|hp
   ·intro e;cases e;exact Et hb rfl
   ·exact h2 p hp
 |(t,.c v)::l,d=>by
  obtain⟨h1,h2⟩:=ED (σ:=l) (d:=d)
  unfold FW
  refine⟨h1.cons_cons _,fun p hp=>?_⟩
  rcases List.mem_cons.1 hp with rfl|hp
  ·intro e;cases e
  ·exact h2 p hp
theorem GG:∀ {σ:Sg} {d:Nat},(FI d σ).Sublist σ∧∀ p∈FI d σ,p.1≠d
 |[],d=>⟨.slnil,fun p hp=>by cases hp⟩
 |(t,s)::l,d=>by
  obtain⟨h1,h2⟩:=GG (σ:=l) (d:=d)
  unfold FI
  split
  ·exact⟨h1.cons _,h2⟩
  ·rename_i hb
   refine⟨h1.cons_cons _,fun p hp=>?_⟩
   rcases List.mem_cons.1 hp with rfl|hp
   ·exact Et hb
   ·exact h2 p hp
theorem SgOk.sub{A:List Nat}{σ σ':Sg}(h:SgOk A σ)(hs:σ'.Sublist σ):SgOk A σ':=
 ⟨fun p hp=>h.mem p (hs.subset hp),(hs.map (·.1)).nodup h.nodup,fun p hp=>h.lt p (hs.subset hp)⟩
theorem SgOk.alias{A:List Nat}{σ:Sg}(h:SgOk A σ){d:Nat}(hd:memN d A=true){s:Src}(hs:∀ n,s=.s n→n<160):SgOk A ((d,s)::FI d σ):=by
 have h':=h.sub (GG (d:=d)).1
 refine⟨fun p hp=>?_,?_,fun p hp=>?_⟩
 ·rcases List.mem_cons.1 hp with rfl|hp
  ·exact hd
  ·exact h'.mem p hp
 rotate_left
 ·rcases List.mem_cons.1 hp with rfl|hp
  ·exact hs
  ·exact h'.lt p hp
 ·rw[List.map_cons,List.nodup_cons]
  refine⟨fun hm=>?_,h'.nodup⟩
  obtain⟨p,hp,e⟩:=List.mem_map.1 hm
  exact(GG (d:=d)).2 p hp e
theorem dN{A:List Nat}{σ:Sg}{e:Env}(hS:SgOk A σ){d:Nat}(hd:memN d A=false)(hlt:d<160)(v:Value){t:Nat}{u:Value}
  (h:rhoOf A (FW d σ) (Env.set d v e) t=some u):if t=d then u=v else rhoOf A σ e t=some u:=by
 rw[D5]at h
 cases hf:DC t (FW d σ)with
 |some s=>
  simp only[hf]at h
  cases h
  have hm:=EF hf
  have hm':=ED.1.subset hm
  have hne:=(ED (σ:=σ) (d:=d)).2 _ hm
  have hA:=hS.mem _ hm'
  have ht:t≠d:=by intro e;subst e;simp only at hA;rw[hd]at hA;cases hA
  rw[if_neg ht,D5,En hS.nodup hm']
  simp only
  congr 1
  cases s with
  |c v=>rfl
  |s n=>
   have hn:n≠d:=fun e=>hne (by rw[e])
   show AB n e=AB n (Env.set d v e)
   have h3:n<160:=hS.lt _ hm' n rfl
   rw[Cp n h3,Cp n h3,Env.get_set _ _ _ _ hlt h3,if_neg hn]
 |none=>
  simp only[hf]at h
  cases hm:memN t A with
  |true=>simp only[hm]at h;cases h
  |false=>
   simp only[hm]at h
   cases hb:Nat.blt t 160 with
   |false=>simp only[hb]at h;cases h
   |true=>
    simp only[hb]at h
    have h3:=BD.1 hb
    cases h
    have hg:AB t (Env.set d v e)=if t=d then v else e.get t:=by
     rw[Cp t h3,Env.get_set _ _ _ _ hlt h3]
    rw[hg]
    split
    ·rfl
    ·have hf2:DC t σ=none:=by
      cases hf2:DC t σ with
      |none=>rfl
      |some s=>
       have:=hS.mem _ (EF hf2)
       simp only at this;rw[hm]at this;cases this
     rw[D5]
     simp only[hf2,hm,hb]
     rw[Cp t h3]
theorem Vf{A:List Nat}{σ:Sg}{e:Env}(hS:SgOk A σ){d:Nat}(hd:memN d A=true)(s:Src){t:Nat}{u:Value}
  (h:rhoOf A ((d,s)::FI d σ) e t=some u):if t=d then u=Kh s e else rhoOf A σ e t=some u:=by
 rw[D5]at h
 by_cases ht:t=d
 ·rw[if_pos ht]
  subst ht
  have:DC t ((t,s)::FI t σ)=some s:=by unfold DC;rw[Nat.beq_refl]
  simp only[this]at h
  cases h;rfl
 ·rw[if_neg ht]
  have hb:Nat.beq d t=false:=by
   cases hb:Nat.beq d t with
   |true=>exact absurd (Al.1 hb).symm ht
   |false=>rfl
  have h1:DC t ((d,s)::FI d σ)=DC t (FI d σ):=by conv=>lhs;unfold DC;rw[hb]
  have h2:DC t (FI d σ)=DC t σ:=by
   cases hf:DC t (FI d σ)with
   |some s'=>exact(En hS.nodup (GG.1.subset (EF hf))).symm
   |none=>
    cases hf2:DC t σ with
    |none=>rfl
    |some s'=>
     have hm:=EF hf2
     have:∀ {σ:Sg},(t,s')∈σ→(t,s')∈FI d σ:=by
      intro σ hm
      induction σ with
      |nil=>cases hm
      |cons p l ih=>
       obtain⟨a,b⟩:=p
       unfold FI
       rcases List.mem_cons.1 hm with h|h
       ·cases h
        have hb2:Nat.beq t d=false:=by
         cases hb:Nat.beq t d with
         |true=>exact absurd (Al.1 hb) ht
         |false=>rfl
        rw[hb2];exact List.mem_cons_self
       ·split
        ·exact ih h
        ·exact List.mem_cons_of_mem _ (ih h)
     have:=En (hS.sub (GG (d:=d)).1).nodup (this hm)
     rw[hf]at this;cases this
  rw[h1,h2]at h
  rw[D5];exact h
structure Eff (T:Nat→Prop)(φ:Phi)(h:Hp)(w:World)(φ':Phi)(h':Hp)(w':World):Prop where
 le:φ.Le φ'
 new:∀ i p,φ' i=some p→φ i=some p∨h.next≤i
 next:h.next≤h'.next
 size:w.heap.size≤w'.heap.size
 tape:w'.tape=w.tape
 os:w'.os=w.os
 output:w'.output=w.output
 frame:∀ k,k<w.heap.size→(∀ i p,φ i=some p→p.inp=false→T i→Live h i→p.blk≠k)→w'.heap[k]? =w.heap[k]?
 back:∀ i p,φ' i=some p→Live h' i→p.blk<w.heap.size→∃ j q,φ j=some q∧Live h j∧q.blk=p.blk∧q.inp=p.inp∧(j=i∨T j)
 kept:∀ i,i<h.next→¬ T i→h'.bl.get i=h.bl.get i
 shape:∀ i,i<h.next→ShapeLe (h.bl.get i) (h'.bl.get i)
 only:∀ i,i<h.next→φ i=none→h'.bl.get i=h.bl.get i
 all:∀ i,h.next≤i→i<h'.next→∃ p,φ' i=some p
theorem Evo.eff{φ ψ:Phi}{h h':Hp}{w w':World}(ev:Evo φ h w ψ h' w'):Eff (fun c=>h'.low≤c∧c≤h'.high) φ h w ψ h' w' where
 le:=ev.le
 new:=ev.new
 next:=ev.next
 size:=ev.size
 tape:=ev.tape
 os:=ev.os
 output:=ev.output
 frame:=fun k hk hf=>ev.frame k hk fun i p e hn h1 h2 hl=>hf i p e hn ⟨h1,h2⟩ hl
 back:=ev.back
 kept:=fun i hi ht=>ev.kept i hi (by
  rcases Nat.lt_or_ge i h'.low with h|h
  ·exact .inl h
  ·rcases Nat.lt_or_ge h'.high i with h2|h2
   ·exact .inr h2
   ·exact absurd ⟨h,h2⟩ ht)
 shape:=ev.shape
 only:=ev.only
 all:=ev.all
theorem Eff.of_bl{T:Nat→Prop}{φ ψ:Phi}{h h' g g':Hp}{w w':World}(ev:Eff T φ h w ψ h' w')(h1:g.bl=h.bl)(h2:g.next=h.next)(h3:g'.bl=h'.bl)(h4:g'.next=h'.next):Eff T φ g w ψ g' w' where
 le:=ev.le
 new:=by rw[h2];exact ev.new
 next:=by rw[h2,h4];exact ev.next
 size:=ev.size
 tape:=ev.tape
 os:=ev.os
 output:=ev.output
 frame:=by unfold Live;rw[h1];exact ev.frame
 back:=by unfold Live;rw[h1,h3];exact ev.back
 kept:=by rw[h1,h2,h3];exact ev.kept
 shape:=by rw[h1,h2,h3];exact ev.shape
 only:=by rw[h1,h2,h3];exact ev.only
 all:=by rw[h2,h4];exact ev.all
theorem Eff.evo{T:Nat→Prop}{φ ψ:Phi}{h h':Hp}{w w':World}(ev:Eff T φ h w ψ h' w')(hT:∀ c,T c→h'.low≤c∧c≤h'.high)(hl:h'.low≤h.low)(hh:h.high≤h'.high):Evo φ h w ψ h' w' where
 le:=ev.le
 new:=ev.new
 next:=ev.next
 size:=ev.size
 tape:=ev.tape
 os:=ev.os
 output:=ev.output
 frame:=fun k hk hf=>ev.frame k hk fun i p e hn ht hl=>hf i p e hn (hT i ht).1 (hT i ht).2 hl
 back:=fun i p e hl hp=>by
  obtain⟨j,q,e1,e2,e3,e5,e4⟩:=ev.back i p e hl hp
  exact⟨j,q,e1,e2,e3,e5,e4.imp id (hT j)⟩
 kept:=fun i hi ho=>ev.kept i hi fun ht=>by have:=hT i ht;omega
 low:=hl
 high:=hh
 shape:=ev.shape
 only:=ev.only
 all:=ev.all
theorem RelW.of_bl{ty:TTy}{φ:Phi}{E:Nat→Prop}{h g:Hp}{w:World}(H:RelW ty φ E h w)(h1:g.bl=h.bl)(h2:g.next=h.next):RelW ty φ E g w where
 dom:=by rw[h2];exact H.dom
 inj:=by unfold Live;rw[h1];exact H.inj
 row:=by rw[h1];exact H.row
 fresh:=by rw[h1,h2];exact H.fresh
 kind:=by rw[h1];exact H.kind
 inp:=H.inp
def TouchR(ty:TTy)(ρ:Rho)(E:Nat→Prop)(op:Op):Prop:=match kd ty op with
 |.p=>True
 |.a=>True
 |.r x=>∀ u,evR ρ x=some u→∀ b,blkOf u=.ok b→¬ E b
 |.w _=>∀ b,¬ E b
 |.q=>∀ b,¬ E b
theorem Eff.cut{T:Nat→Prop}{φ ψ:Phi}{h h':Hp}{w w':World}(ev:Eff T φ h w ψ h' w')(hd:∀ i p,φ i=some p→i<h.next):Eff (fun c=>T c∧c<h.next) φ h w ψ h' w' where
 le:=ev.le
 new:=ev.new
 next:=ev.next
 size:=ev.size
 tape:=ev.tape
 os:=ev.os
 output:=ev.output
 frame:=fun k hk hf=>ev.frame k hk fun i p e hn ht hl=>hf i p e hn ⟨ht,hd i p e⟩ hl
 back:=fun i p e hl hp=>by
  obtain⟨j,q,e1,e2,e3,e5,e4⟩:=ev.back i p e hl hp
  exact⟨j,q,e1,e2,e3,e5,e4.imp id fun ht=>⟨ht,hd j q e1⟩⟩
 kept:=fun i hi ho=>ev.kept i hi fun ht=>ho ⟨ht,hi⟩
 shape:=ev.shape
 only:=ev.only
 all:=ev.all
theorem Eff.refl(φ:Phi)(h:Hp)(w:World):Eff (fun _=>False) φ h w φ h w where
 le:=.refl φ
 new:=fun _ _ e=>.inl e
 next:=Nat.le_refl _
 size:=Nat.le_refl _
 tape:=rfl
 os:=rfl
 output:=rfl
 frame:=fun _ _ _=>rfl
 back:=fun i p e hl _=>⟨i,p,e,hl,rfl,rfl,.inl rfl⟩
 kept:=fun _ _ _=>rfl
 shape:=fun _ _=>.refl _
 only:=fun _ _ _=>rfl
 all:=fun _ h1 h2=>absurd h2 (Nat.not_lt.2 h1)
def Tame(ty:TTy)(o:Oper)(ah:Ahead):Prop:=(kd ty o.op=.p∨∃ x,kd ty o.op=.r x)∨(ah≠.plain∧∀ old x xs,ah≠.chk old x xs)
structure Core (P:Program)(ty:TTy)(o:Oper)(ah:Ahead)(ρ:Rho)(h h':Hp)(v:Value)(T:Nat→Prop):Prop where
 does:∀ (φ:Phi) (E:Nat→Prop) (w:World) (a:Act),RelW ty φ E h w→(∀ x∈o.op.operands.toList,∀ u,evR ρ x=some u→RelV φ u (a.eval x))→TouchR ty ρ E o.op→
  ∀ (next:Act→World→Prop) (Q:Exit→Act→World→Prop),(∀ ψ v' w',RelV ψ v v'→RelW ty ψ E h' w'→Eff T φ h w ψ h' w'→Evo φ h w ψ h' w'→next (a.put o.dst v') w')→o.wp P a w next Q
 tame:Tame ty o ah→h'.low≤h.low∧h.high≤h'.high∧(∀ c,T c→h'.low≤c∧c≤h'.high)∧h'.mark=h.mark
 tlt:∀ c,T c→c<h.next
 tp:(kd ty o.op=.p∨∃ x,kd ty o.op=.r x)→(∀ c,¬ T c)∧h'=h
 strong:ah=.quiet .strong→∀ c,¬ T c
 weak:ah=.quiet .weak→∀ c,T c→h.mark≤c
 wr:∀ x xs,ah=.wr x xs→∀ c,T c→∃ u,evR ρ x=some u∧blkOf u=.ok c
structure Side (ah:Ahead)(ρ:Rho)(h:Hp):Prop where
 wrx:∀ x xs,ah=.wr x xs→∀ y∈xs,∀ u u' b,evR ρ x=some u→evR ρ y=some u'→blkOf u=.ok b→blkOf u'≠.ok b
 chk:∀ old x xs,ah=.chk old x xs→∀ y∈xs,∀ u u' b,evR ρ x=some u→evR ρ y=some u'→blkOf u=.ok b→blkOf u'≠.ok b
 old:∀ x xs,ah=.chk true x xs→∀ u b,evR ρ x=some u→blkOf u=.ok b→b<h.mark
 known:∀ x xs,(ah=.wr x xs∨∃ old,ah=.chk old x xs)→(∃ u,evR ρ x=some u)∧∀ y∈xs,∃ u,evR ρ y=some u
structure SF (P:Program)(ty:TTy)(ops:List Oper)(o:Oper)(ah:Ahead)(ρ ρ':Rho)(h h':Hp)(v:Value)(run:Bool)(T:Nat→Prop):Prop where
 slot:∀ t u,ρ' t=some u→if o.dst=some t then u=v else ρ t=some u
 grd:match o.guard with
  |none=>run=true
  |some (g,want)=>∃ og d c,ops[g]? =some og∧og.dst=some d∧ρ d=some c∧((∃ b,c=.bool b∧run=(want == b))∨(∃ l,c=.tuple l∧run=false))
 side:kd ty o.op≠.p→Side ah ρ h
 core:(run=true∧Core P ty o ah ρ h h' v T)∨(run=false∧v=noRes∧h'=h∧∀ c,¬ T c)
section
variable {P:Program}{ty:TTy}{F:CallF}
theorem Lb(hT:Cc P ty)(hF:Cw P ty F){A:List Nat}{σ:Sg}{e:Env}{o:Oper}{g g':Hp}{v:Value}(hr:opC ty ⟨A,σ⟩ o.op F e g=.ok v g')(φ:Phi)(E:Nat→Prop)(w:World)(a:Act)(H:RelW ty φ E g w)
  (hn:∀ x∈o.op.operands.toList,∀ u,evR (rhoOf A σ e) x=some u→RelV φ u (a.eval x))(ht:TouchR ty (rhoOf A σ e) E o.op):EC P ty φ E g v g' o a w:=by
 refine km hT hF H (f:=⟨A,σ⟩) (e:=e) (F:=F) (fun x hx y hy=>hn x hx _ (FS hy e)) ?_ hr
 unfold Gk
 unfold TouchR at ht
 cases hk:kd ty o.op with
 |p=>trivial
 |a=>trivial
 |r x=>rw[hk]at ht;exact fun y hy b hb=>ht _ (FS hy e) b hb
 |w x=>rw[hk]at ht;exact ht
 |q=>rw[hk]at ht;exact ht
def JJ(h:Hp):Hp:={next:=h.next,low:=h.next,high:=0,mark:=h.mark,bl:=h.bl}
theorem LX(hT:Cc P ty)(hF:Cw P ty F){A:List Nat}{σ:Sg}{e:Env}{o:Oper}{ah:Ahead}(hah:ah=.plain∨∃ old x xs,ah=.chk old x xs){h h':Hp}{v:Value}(hr:opC ty ⟨A,σ⟩ o.op F e h=.ok v h'):∃ T,Core P ty o ah (rhoOf A σ e) h h' v T:=by
 have hns:ah≠.quiet .strong:=by rcases hah with rfl|⟨_,_,_,rfl⟩<;>exact fun h=>by cases h
 have hnw:ah≠.quiet .weak:=by rcases hah with rfl|⟨_,_,_,rfl⟩<;>exact fun h=>by cases h
 have hnr:∀ x xs,ah≠.wr x xs:=by rcases hah with rfl|⟨_,_,_,rfl⟩<;>exact fun _ _ h=>by cases h
 have hnm:¬ (ah≠.plain∧∀ old x xs,ah≠.chk old x xs):=by
  rcases hah with rfl|⟨_,_,_,rfl⟩
  ·exact fun h=>h.1 rfl
  ·exact fun h=>h.2 _ _ _ rfl
 by_cases hk:kd ty o.op=.p∨∃ x,kd ty o.op=.r x
 ·have K:=kl (ty:=ty) (f:=⟨A,σ⟩) hk F e
  have hh:=K.same hr
  have hr2:=K.at hr (JJ h) rfl
  subst hh
  refine⟨fun _=>False,{does:=fun φ E w a H hn ht next Q hnx=>?_,tame:=fun _=>⟨Nat.le_refl _,Nat.le_refl _,fun _ h=>h.elim,rfl⟩,tlt:=fun _ h=>h.elim,tp:=fun _=>⟨fun _ h=>h,rfl⟩,strong:=fun h=>absurd h hns,weak:=fun h=>absurd h hnw,wr:=fun _ _ h=>absurd h (hnr _ _)}⟩
  have key:∀ ψ v' w',RelV ψ v v'→RelW ty ψ E (JJ h') w'→Evo φ (JJ h') w ψ (JJ h') w'→Eff (fun _=>False) φ h' w ψ h' w':=?_
  ·exact Lb hT hF hr2 φ E w a (H.of_bl rfl rfl) hn ht next Q fun ψ v' w' hv H' ev=>hnx ψ v' w' hv (H'.of_bl rfl rfl) (key ψ v' w' hv H' ev) ((key ψ v' w' hv H' ev).evo (fun _ h=>h.elim) (Nat.le_refl _) (Nat.le_refl _))
  intro ψ v' w' hv H' ev
  have e1:Eff (fun c=>h'.next≤c∧c≤0) φ h' w ψ h' w':=ev.eff.of_bl rfl rfl rfl rfl
  have hd:∀ i p,φ i=some p→i<h'.next:=fun i p e=>(H.dom i p e).1
  have e2:=e1.cut hd
  exact {e2 with
   frame:=fun k hk hf=>e2.frame k hk fun i p e hn ht=>by omega
   back:=fun i p e hl hp=>by
    obtain⟨j,q,e1,e2,e3,e5,e4⟩:=e2.back i p e hl hp
    exact⟨j,q,e1,e2,e3,e5,e4.imp id fun ht=>by omega⟩
   kept:=fun i hi _=>e2.kept i hi fun ht=>by omega}
 ·refine⟨fun c=>(h'.low≤c∧c≤h'.high)∧c<h.next,{does:=fun φ E w a H hn ht next Q hnx=>?_,tame:=fun h=>absurd h (fun h=>h.elim hk hnm),tlt:=fun _ h=>h.2,tp:=fun h=>absurd h hk,strong:=fun h=>absurd h hns,weak:=fun h=>absurd h hnw,wr:=fun _ _ h=>absurd h (hnr _ _)}⟩
  exact Lb hT hF hr φ E w a H hn ht next Q fun ψ v' w' hv H' ev=>hnx ψ v' w' hv H' (ev.eff.cut fun i p e=>(H.dom i p e).1) ev
theorem Id(hT:Cc P ty)(hF:Cw P ty F){A:List Nat}{σ:Sg}{e:Env}{o:Oper}{ah:Ahead}{h h' g':Hp}{v:Value}(hr:opC ty ⟨A,σ⟩ o.op F e (JJ h)=.ok v g')
  (h1:h'.bl=g'.bl)(h2:h'.next=g'.next)(h3:h'.low=min h.low g'.low)(h4:h'.high=max h.high g'.high)(h5:h'.mark=h.mark)
  (hs:ah=.quiet .strong→h.next≤g'.low)(hw:ah=.quiet .weak→h.mark≤g'.low)
  (hx:∀ x xs,ah=.wr x xs→∀ c,g'.low≤c→c≤g'.high→c<h.next→∃ u,evR (rhoOf A σ e) x=some u∧blkOf u=.ok c)(hnk:¬ (kd ty o.op=.p∨∃ x,kd ty o.op=.r x)):∃ T,Core P ty o ah (rhoOf A σ e) h h' v T:=by
 refine⟨fun c=>(g'.low≤c∧c≤g'.high)∧c<h.next,{does:=fun φ E w a H hn ht next Q hnx=>?_,tame:=fun _=>⟨by omega,by omega,fun c h=>by omega,h5⟩,tlt:=fun _ h=>h.2,tp:=fun h=>absurd h hnk,strong:=fun h c hc=>?_,weak:=fun h c hc=>?_,wr:=fun x xs h c hc=>hx x xs h c hc.1.1 hc.1.2 hc.2}⟩
 ·refine Lb hT hF hr φ E w a (H.of_bl rfl rfl) hn ht next Q fun ψ v' w' hv H' ev=>?_
  have e1:Eff (fun c=>g'.low≤c∧c≤g'.high) φ h w ψ h' w':=ev.eff.of_bl rfl rfl h1 h2
  exact hnx ψ v' w' hv (H'.of_bl h1 h2) (e1.cut fun i p e=>(H.dom i p e).1) (e1.evo (fun c h=>by omega) (by omega) (by omega))
 ·have:=hs h;omega
 ·have:=hw h;omega
end
end
noncomputable section
open Go
section
variable {P:Program}{ty:TTy}{F:CallF}
structure AhOk (ty:TTy)(o:Oper)(ah:Ahead):Prop where
 quiet:∀ m,ah=.quiet m→¬ (kd ty o.op=.p∨∃ x,kd ty o.op=.r x)
 wr:∀ x xs,ah=.wr x xs→kd ty o.op=.w x
 chk:∀ old x xs,ah=.chk old x xs→kd ty o.op=.r x
theorem AhOk.plain(ty:TTy)(o:Oper):AhOk ty o .plain:=⟨(fun _ h=>by cases h),(fun _ _ h=>by cases h),(fun _ _ _ h=>by cases h)⟩
theorem JZ{b:Nat}{e:Env}:∀ {rs:List (Env→Value)},DF b e rs=true→∀ g∈rs,blkOf (g e)≠.ok b
 |[],_,g,hg=>by cases hg
 |x::l,h,g,hg=>by
  unfold DF at h
  cases hb:blkOf (x e)with
  |no=>
   rw[hb]at h
   rcases List.mem_cons.1 hg with rfl|hg
   ·rw[hb];exact fun h=>by cases h
   ·exact JZ h g hg
  |ok a=>
   rw[hb]at h
   simp only at h
   cases hq:Nat.beq a b with
   |true=>rw[hq]at h;cases h
   |false=>
    rw[hq]at h
    rcases List.mem_cons.1 hg with rfl|hg
    ·rw[hb];exact fun h=>by cases h;exact Et hq rfl
    ·exact JZ h g hg
theorem Sr{w:Env→Value}{rs:List (Env→Value)}{k:C}{e:Env}{h:Hp}{X:X}(hr:Cx w rs k F e h=X)(hn:X≠.no):k F e h=X∧∀ b,blkOf (w e)=.ok b→∀ g∈rs,blkOf (g e)≠.ok b:=by
 unfold Cx at hr
 cases hb:blkOf (w e)with
 |no=>rw[hb]at hr;exact⟨hr,fun b h=>by cases h⟩
 |ok b=>
  rw[hb]at hr
  simp only at hr
  cases hc:DF b e rs with
  |false=>rw[hc]at hr;exact absurd hr.symm hn
  |true=>rw[hc]at hr;exact⟨hr,fun b' h=>by cases h;exact JZ hc⟩
theorem Zv{x:O}{k:C}{e:Env}{h:Hp}{X:X}(hr:El x k F e h=X)(hn:X≠.no):k F e h=X∧∀ b,blkOf (x e)=.ok b→b<h.mark:=by
 unfold El at hr
 cases hb:blkOf (x e)with
 |no=>rw[hb]at hr;exact⟨hr,fun b h=>by cases h⟩
 |ok b=>
  rw[hb]at hr
  simp only at hr
  cases hc:Nat.blt b h.mark with
  |false=>rw[hc]at hr;exact absurd hr.symm hn
  |true=>rw[hc]at hr;exact⟨hr,fun b' h=>by cases h;exact BD.1 hc⟩
theorem IZ{f:Fr}:∀ {l:List Operand} {ys:List O},cOs f l=some ys→∀ x∈l,∃ y,cO f x=some y∧y∈ys
 |[],ys,h,x,hx=>by cases hx
 |z::l,ys,h,x,hx=>by
  unfold cOs at h
  split at h
  ·rename_i y hy
   split at h
   ·rename_i r hr
    cases h
    rcases List.mem_cons.1 hx with rfl|hx
    ·exact⟨y,hy,List.mem_cons_self⟩
    ·obtain⟨y',h1,h2⟩:=IZ hr x hx
     exact⟨y',h1,List.mem_cons_of_mem _ h2⟩
   ·cases h
  ·cases h
theorem O4{h g' h':Hp}{v u:Value}(hr:Dj h v g'=.ok u h'):u=v∧h'.bl=g'.bl∧h'.next=g'.next∧h'.low=min h.low g'.low∧h'.high=max h.high g'.high∧h'.mark=h.mark:=by
 unfold Dj at hr
 rw[Aa,Aa,BC,Bw]at hr
 cases hr
 exact⟨rfl,rfl,rfl,rfl,rfl,rfl⟩
theorem Side.none{ah:Ahead}{ρ:Rho}{h:Hp}(h1:∀ x xs,ah≠.wr x xs)(h2:∀ old x xs,ah≠.chk old x xs):Side ah ρ h where
 wrx:=fun x xs e=>absurd e (h1 x xs)
 chk:=fun old x xs e=>absurd e (h2 old x xs)
 old:=fun x xs e=>absurd e (h2 true x xs)
 known:=fun x xs e=>by
  rcases e with e|⟨old,e⟩
  ·exact absurd e (h1 x xs)
  ·exact absurd e (h2 old x xs)
theorem LD(hT:Cc P ty)(hF:Cw P ty F){A:List Nat}{σ:Sg}{e:Env}{h:Hp}{o:Oper}{ah:Ahead}(hA:AhOk ty o ah){kc:OpF→C}{X:X}(hr:Gl ⟨A,σ⟩ ah (opC ty ⟨A,σ⟩ o.op) kc F e h=X)(hn:X≠.no):
  ∃ p,kc p F e h=X∧(∀ v h',p F e h=.ok v h'→∃ T,Core P ty o ah (rhoOf A σ e) h h' v T)∧Side ah (rhoOf A σ e) h:=by
 cases ah with
 |plain=>exact⟨_,hr,fun v h' hp=>LX hT hF (.inl rfl) hp,.none (fun _ _ h=>by cases h) (fun _ _ _ h=>by cases h)⟩
 |quiet m=>
  refine⟨_,hr,fun v h' hp=>?_,.none (fun _ _ h=>by cases h) (fun _ _ _ h=>by cases h)⟩
  have hk:=hA.quiet m rfl
  unfold Am at hp
  have hp:(match opC ty ⟨A,σ⟩ o.op F e (JJ h)with|.ok v h'=>bif qOk m h h'.low then Dj h v h' else .no|.no=>.no)=.ok v h':=hp
  cases hq:opC ty ⟨A,σ⟩ o.op F e (JJ h)with
  |no=>rw[hq]at hp;cases hp
  |ok u g'=>
   rw[hq]at hp
   obtain⟨hc,hp⟩:=Bf hp
   obtain⟨rfl,h1,h2,h3,h4,h5⟩:=O4 hp
   refine Id hT hF hq h1 h2 h3 h4 h5 (fun e=>?_) (fun e=>?_) (fun _ _ e=>by cases e) hk
   ·cases e;exact Af.1 hc
   ·cases e;exact Af.1 hc
 |wr x xs=>
  have hk:=hA.wr x xs rfl
  unfold Gl at hr
  simp only at hr
  cases h1:cO ⟨A,σ⟩ x with
  |none=>simp only[h1]at hr;exact absurd hr.symm hn
  |some x'=>
   cases h2:cOs ⟨A,σ⟩ xs with
   |none=>simp only[h1,h2]at hr;exact absurd hr.symm hn
   |some xs'=>
    simp only[h1,h2]at hr
    obtain⟨hr,hap⟩:=Sr hr hn
    refine⟨_,hr,fun v h' hp=>?_,?_⟩
    ·unfold Mj at hp
     have hp:(match opC ty ⟨A,σ⟩ o.op F e (JJ h)with|.ok v h'=>bif KX (blkOf (x' e)) h h'.low h'.high then Dj h v h' else .no|.no=>.no)=.ok v h':=hp
     cases hq:opC ty ⟨A,σ⟩ o.op F e (JJ h)with
     |no=>rw[hq]at hp;cases hp
     |ok u g'=>
      rw[hq]at hp
      obtain⟨hc,hp⟩:=Bf hp
      obtain⟨rfl,q1,q2,q3,q4,q5⟩:=O4 hp
      refine Id hT hF hq q1 q2 q3 q4 q5 (fun e=>by cases e) (fun e=>by cases e) (fun y ys he c c1 c2 c3=>?_) (by rw[hk];rintro (h|⟨_,h⟩)<;>cases h)
      cases he
      refine⟨x' e,FS h1 e,?_⟩
      unfold KX at hc
      cases hb:blkOf (x' e)with
      |no=>rw[hb]at hc;have hc:=Af.1 hc;omega
      |ok b=>
       rw[hb]at hc
       simp only at hc
       cases hb1:Nat.ble b g'.low with
       |false=>rw[hb1]at hc;cases hc
       |true=>
        rw[hb1]at hc
        have c4:=Af.1 hb1
        have c5:=Af.1 hc
        congr 1;omega
    ·refine {wrx:=fun y ys he z hz u u' b hu hu' hb=>?_,chk:=fun _ _ _ h=>(by cases h),old:=fun _ _ h=>(by cases h),known:=fun y ys he=>?_}
     ·cases he
      obtain⟨z',hz1,hz2⟩:=IZ h2 z hz
      rw[FS h1 e]at hu;cases hu
      rw[FS hz1 e]at hu';cases hu'
      exact hap b hb z' hz2
     ·rcases he with he|⟨_,he⟩
      ·cases he
       exact⟨⟨_,FS h1 e⟩,fun z hz=>by obtain⟨z',hz1,_⟩:=IZ h2 z hz;exact⟨_,FS hz1 e⟩⟩
      ·cases he
 |chk old x xs=>
  unfold Gl at hr
  simp only at hr
  cases h1:cO ⟨A,σ⟩ x with
  |none=>simp only[h1]at hr;exact absurd hr.symm hn
  |some x'=>
   cases h2:cOs ⟨A,σ⟩ xs with
   |none=>simp only[h1,h2]at hr;exact absurd hr.symm hn
   |some xs'=>
    simp only[h1,h2]at hr
    have hold:Cx x' xs' (kc (opC ty ⟨A,σ⟩ o.op)) F e h=X∧(old=true→∀ b,blkOf (x' e)=.ok b→b<h.mark):=by
     cases old with
     |true=>obtain⟨q1,q2⟩:=Zv hr hn;exact⟨q1,fun _=>q2⟩
     |false=>exact⟨hr,fun h=>by cases h⟩
    obtain⟨hr,hap⟩:=Sr hold.1 hn
    refine⟨_,hr,fun v h' hp=>LX hT hF (.inr ⟨_,_,_,rfl⟩) hp,?_⟩
    refine {wrx:=fun _ _ h=>(by cases h),chk:=fun _ y ys he z hz u u' b hu hu' hb=>?_,old:=fun y ys he u b hu hb=>?_,known:=fun y ys he=>?_}
    ·cases he
     obtain⟨z',hz1,hz2⟩:=IZ h2 z hz
     rw[FS h1 e]at hu;cases hu
     rw[FS hz1 e]at hu';cases hu'
     exact hap b hb z' hz2
    ·cases he
     rw[FS h1 e]at hu;cases hu
     exact hold.2 rfl b hb
    ·rcases he with he|⟨_,he⟩
     ·cases he
     ·cases he
      exact⟨⟨_,FS h1 e⟩,fun z hz=>by obtain⟨z',hz1,_⟩:=IZ h2 z hz;exact⟨_,FS hz1 e⟩⟩
structure Tr (P:Program)(ty:TTy)(all:List Oper)(ahs:List Ahead)(l:List Oper)(ρ:Nat→Rho)(H:Nat→Hp)(V:Nat→Value)(run:Nat→Bool)(T:Nat→Nat→Prop):Prop where
 sf:∀ j o,l[j]? =some o→SF P ty all o (ahs.getD j .plain) (ρ j) (ρ (j+1)) (H j) (H (j+1)) (V j) (run j) (T j)
def PB{α:Type}(x:α)(f:Nat→α):Nat→α
 |0=>x
 |j+1=>f j
theorem Tr.cons{all:List Oper}{ahs:List Ahead}{o:Oper}{l:List Oper}{ρ:Nat→Rho}{H:Nat→Hp}{V:Nat→Value}{run:Nat→Bool}{T:Nat→Nat→Prop}(t:Tr P ty all ahs.tail l ρ H V run T)
  {ρ0:Rho}{h0:Hp}{v0:Value}{r0:Bool}{T0:Nat→Prop}(s:SF P ty all o (ahs.headD .plain) ρ0 (ρ 0) h0 (H 0) v0 r0 T0):Tr P ty all ahs (o::l) (PB ρ0 ρ) (PB h0 H) (PB v0 V) (PB r0 run) (PB T0 T) where
 sf:=fun j o' hj=>by
  cases j with
  |zero=>
   cases hj
   have:ahs.getD 0 .plain=ahs.headD .plain:=by cases ahs<;>rfl
   rw[this];exact s
  |succ j=>
   have:ahs.getD (j+1) .plain=ahs.tail.getD j .plain:=by cases ahs<;>rfl
   rw[this];exact t.sf j o' hj
theorem MZ{A:List Nat}{σ:Sg}{e:Env}(hS:SgOk A σ){d:Nat}(hd:memN d A=false)(hlt:d<160)(v:Value){o:Oper}(ho:o.dst=some d)(t:Nat)(u:Value)
  (h:rhoOf A (FW d σ) (Env.set d v e) t=some u):if o.dst=some t then u=v else rhoOf A σ e t=some u:=by
 have:=dN hS hd hlt v h
 rw[ho]
 by_cases ht:t=d
 ·rw[if_pos ht]at this;rw[if_pos (by rw[ht])];exact this
 ·rw[if_neg ht]at this;rw[if_neg (fun e=>ht (Option.some.inj e).symm)];exact this
theorem Ob(hT:Cc P ty)(hF:Cw P ty F){A:List Nat}{all:List Oper}{k:Sg→C}:∀ (l:List Oper) (ahs:List Ahead) (σ:Sg) (e:Env) (h:Hp) (X:X),(∀ j o,l[j]? =some o→AhOk ty o (ahs.getD j .plain))→SgOk A σ→
  GR ty A all k ahs l σ F e h=X→X≠.no→
  ∃ (ρ:Nat→Rho) (H:Nat→Hp) (V:Nat→Value) (run:Nat→Bool) (T:Nat→Nat→Prop) (σ':Sg) (e':Env),Tr P ty all ahs l ρ H V run T∧ρ 0=rhoOf A σ e∧H 0=h∧ρ l.length=rhoOf A σ' e'∧SgOk A σ'∧k σ' F e' (H l.length)=X
 |[],ahs,σ,e,h,X,_,hS,hr,_=>by
  refine⟨fun _=>rhoOf A σ e,fun _=>h,fun _=>noRes,fun _=>true,fun _ _=>False,σ,e,⟨fun j o hj=>by cases hj⟩,rfl,rfl,rfl,hS,?_⟩
  unfold GR at hr;exact hr
 |o::l,ahs,σ,e,h,X,hA,hS,hr,hn=>by
  have hA0:AhOk ty o (ahs.headD .plain):=by
   have:=hA 0 o rfl
   cases ahs<;>exact this
  have hA1:∀ j o',l[j]? =some o'→AhOk ty o' (ahs.tail.getD j .plain):=fun j o' hj=>by
   have:=hA (j+1) o' hj
   cases ahs<;>exact this
  have fin:∀ {σ1:Sg} {e1:Env} {h1:Hp} {v:Value} {r:Bool} {T0:Nat→Prop},SgOk A σ1→GR ty A all k ahs.tail l σ1 F e1 h1=X→
    SF P ty all o (ahs.headD .plain) (rhoOf A σ e) (rhoOf A σ1 e1) h h1 v r T0→
    ∃ (ρ:Nat→Rho) (H:Nat→Hp) (V:Nat→Value) (run:Nat→Bool) (T:Nat→Nat→Prop) (σ':Sg) (e':Env),Tr P ty all ahs (o::l) ρ H V run T∧ρ 0=rhoOf A σ e∧H 0=h∧ρ (o::l).length=rhoOf A σ' e'∧SgOk A σ'∧k σ' F e' (H (o::l).length)=X:=by
   intro σ1 e1 h1 v r T0 hS1 hr1 sf
   obtain⟨ρ,H,V,run,T,σ',e',t,q1,q2,q3,q4,q5⟩:=Ob hT hF l ahs.tail σ1 e1 h1 X hA1 hS1 hr1 hn
   exact⟨_,_,_,_,_,σ',e',t.cons (by rw[q1,q2];exact sf),rfl,rfl,q3,q4,q5⟩
  unfold GR at hr
  cases hg:o.guard with
  |none=>
   cases hd:o.dst with
   |none=>
    simp only[hg,hd]at hr
    obtain⟨p,hp,hcore,hside⟩:=LD hT hF hA0 hr hn
    unfold cDo at hp
    cases hq:p F e h with
    |no=>rw[hq]at hp;exact absurd hp.symm hn
    |ok v h1=>
     rw[hq]at hp
     obtain⟨T0,core⟩:=hcore v h1 hq
     exact fin hS hp {slot:=fun t u ht=>(by rw[hd,if_neg (by intro h;cases h)];exact ht),grd:=(by rw[hg]),side:=fun _=>hside,core:=.inl ⟨rfl,core⟩}
   |some d=>
    simp only[hg,hd]at hr
    cases hm:memN d A with
    |true=>
     simp only[hm]at hr
     cases hop:o.op with
     |move x=>
      simp only[hop]at hr
      cases hs:Oh A σ x with
      |none=>simp only[hs]at hr;exact absurd hr.symm hn
      |some s=>
       simp only[hs]at hr
       have hlt:∀ n,s=.s n→n<160:=by
        intro n hn
        subst hn
        cases x with
        |tmp t=>
         have hs:(match DC t σ with|some s=>some s|none=>match memN t A with|true=>none|false=>match Nat.blt t 160 with|true=>some (Src.s t)|false=>none)=some (.s n):=hs
         cases hf:DC t σ with
         |some s'=>
          rw[hf]at hs;cases hs
          exact hS.lt _ (EF hf) n rfl
         |none=>
          rw[hf]at hs
          simp only at hs
          cases hm2:memN t A with
          |true=>rw[hm2]at hs;cases hs
          |false=>
           rw[hm2]at hs
           simp only at hs
           cases hb:Nat.blt t 160 with
           |false=>rw[hb]at hs;cases hs
           |true=>rw[hb]at hs;cases hs;exact BD.1 hb
        |const v=>
         have hs:(match FC v with|true=>some (Src.c v)|false=>none)=some (.s n):=hs
         cases hp:FC v<;>rw[hp]at hs<;>cases hs
        |func g=>cases hs
        |global g=>cases hs
       have hkp:kd ty o.op=.p:=by rw[hop];rfl
       refine fin (hS.alias hm hlt) hr (v:=Kh s e) (r:=true) (T0:=fun _=>False) {slot:=fun t u ht=>?_,grd:=(by rw[hg]),side:=fun h=>absurd hkp h,core:=.inl ⟨rfl,?_⟩}
       ·have:=Vf hS hm s ht
        rw[hd]
        by_cases htd:t=d
        ·rw[if_pos htd]at this;rw[if_pos (by rw[htd])];exact this
        ·rw[if_neg htd]at this;rw[if_neg (fun e=>htd (Option.some.inj e).symm)];exact this
       ·refine {does:=fun φ E w a H hn ht next Q hnx=>?_,tame:=fun _=>⟨Nat.le_refl _,Nat.le_refl _,fun _ h=>h.elim,rfl⟩,tlt:=fun _ h=>h.elim,tp:=fun _=>⟨fun _ h=>h,rfl⟩,strong:=fun _ _ h=>h,weak:=fun _ _ h=>h.elim,wr:=fun _ _ _ _ h=>h.elim}
        have hv:=hn x (by rw[hop];simp[Op.operands]) _ (Y7 hs e)
        have hx:execOp a.eval o=(do pure (.value (← (pure (a.eval x):Sem Value)))):=by unfold execOp;rw[hop];rfl
        unfold Oper.wp
        rw[hx,Sem.run_bind,Sem.run_pure,Result.andThen_ok,Sem.run_pure,Oper.upon_value]
        exact hnx φ _ w hv H (.refl _ _ _) (.refl _ _ _)
     |_=>simp only[hop]at hr;exact absurd hr.symm hn
    |false=>
     simp only[hm]at hr
     cases hb:Nat.blt d 160 with
     |false=>simp only[hb]at hr;exact absurd hr.symm hn
     |true=>
      simp only[hb]at hr
      have hlt:=BD.1 hb
      obtain⟨p,hp,hcore,hside⟩:=LD hT hF hA0 hr hn
      unfold AH at hp
      cases hq:p F e h with
      |no=>rw[hq]at hp;exact absurd hp.symm hn
      |ok v h1=>
       rw[hq]at hp
       simp only at hp
       rw[DZ d hlt]at hp
       obtain⟨T0,core⟩:=hcore v h1 hq
       exact fin (hS.sub ED.1) hp {slot:=MZ hS hm hlt v hd,grd:=(by rw[hg]),side:=fun _=>hside,core:=.inl ⟨rfl,core⟩}
  |some gw=>
   obtain⟨g,want⟩:=gw
   cases hd:o.dst with
   |none=>simp only[hg,hd]at hr;exact absurd hr.symm hn
   |some d=>
    simp only[hg,hd]at hr
    cases hm:memN d A with
    |true=>simp only[hm]at hr;exact absurd hr.symm hn
    |false=>
     simp only[hm]at hr
     rw[E9]at hr
     cases hog:all[g]? with
     |none=>rw[hog]at hr;exact absurd hr.symm hn
     |some og=>
      rw[hog]at hr
      simp only at hr
      cases hgd:og.dst with
      |none=>simp only[hgd]at hr;exact absurd hr.symm hn
      |some dg=>
       simp only[hgd]at hr
       cases hcg:cO ⟨A,σ⟩ (.tmp dg)with
       |none=>simp only[hcg]at hr;exact absurd hr.symm hn
       |some gg=>
        simp only[hcg]at hr
        cases hb:Nat.blt d 160 with
        |false=>simp only[hb]at hr;exact absurd hr.symm hn
        |true=>
         simp only[hb]at hr
         have hlt:=BD.1 hb
         obtain⟨p,hp,hcore,hside⟩:=LD hT hF hA0 hr hn
         have hρ:rhoOf A σ e dg=some (gg e):=FS hcg e
         unfold cG at hp
         have not_run:AC d (fun e=>GR ty A all k ahs.tail l (FW d σ) F e h) noRes e=X→(∀ r:Bool,r=false→(match o.guard with
            |none=>r=true
            |some (g,want)=>∃ og d c,all[g]? =some og∧og.dst=some d∧rhoOf A σ e d=some c∧((∃ b,c=.bool b∧r=(want == b))∨(∃ l,c=.tuple l∧r=false))))→
           ∃ (ρ:Nat→Rho) (H:Nat→Hp) (V:Nat→Value) (run:Nat→Bool) (T:Nat→Nat→Prop) (σ':Sg) (e':Env),Tr P ty all ahs (o::l) ρ H V run T∧ρ 0=rhoOf A σ e∧H 0=h∧ρ (o::l).length=rhoOf A σ' e'∧SgOk A σ'∧k σ' F e' (H (o::l).length)=X:=by
          intro hp hgrd
          rw[DZ d hlt]at hp
          exact fin (hS.sub ED.1) hp (v:=noRes) (r:=false) (T0:=fun _=>False) {slot:=MZ hS hm hlt noRes hd,grd:=hgrd false rfl,side:=fun _=>hside,core:=.inr ⟨rfl,rfl,rfl,fun _ h=>h⟩}
         split at hp
         ·rename_i b hgb
          cases hwb:want == b with
          |true=>
           rw[hwb]at hp
           simp only[cond_true]at hp
           unfold AH at hp
           cases hq:p F e h with
           |no=>rw[hq]at hp;exact absurd hp.symm hn
           |ok v h1=>
            rw[hq]at hp
            simp only at hp
            rw[DZ d hlt]at hp
            obtain⟨T0,core⟩:=hcore v h1 hq
            exact fin (hS.sub ED.1) hp (r:=true) {slot:=MZ hS hm hlt v hd,grd:=(by rw[hg];exact⟨og,dg,_,hog,hgd,hρ,.inl ⟨b,hgb,hwb.symm⟩⟩),side:=fun _=>hside,core:=.inl ⟨rfl,core⟩}
          |false=>
           rw[hwb]at hp
           exact not_run hp fun r hr=>by rw[hg];exact⟨og,dg,_,hog,hgd,hρ,.inl ⟨b,hgb,by rw[hr,hwb]⟩⟩
         ·rename_i ls hgb
          exact not_run hp fun r hr=>by rw[hg];exact⟨og,dg,_,hog,hgd,hρ,.inr ⟨ls,hgb,hr⟩⟩
         ·exact absurd hp.symm hn
end
end
noncomputable section
open Go
abbrev nil:Nat→Prop:=fun _=>False
structure AR (N:Nat)(φ:Phi)(ρ:Rho)(a:Act):Prop where
 size:a.tmps.size=N
 defs:a.defers=[]
 rel:∀ t u,ρ t=some u→RelV φ u (a.tmps.getD t undef)
theorem AR.ev{N:Nat}{φ:Phi}{ρ:Rho}{a:Act}(h:AR N φ ρ a){x:Operand}{u:Value}(hu:evR ρ x=some u):RelV φ u (a.eval x):=by
 cases x with
 |tmp t=>exact h.rel t u hu
 |const v=>
  have hu:(if FC v then some v else none)=some u:=hu
  split at hu
  ·rename_i hp;cases hu;exact MN hp
  ·cases hu
 |func g=>cases hu;exact .func _ .nil .nil
 |global g=>cases hu
theorem HF(a:Act)(d:Option Nat)(v:Value)(t:Nat):(a.put d v).tmps.getD t undef=if d=some t∧t<a.tmps.size then v else a.tmps.getD t undef:=by
 cases d with
 |none=>rw[if_neg (fun h=>by cases h.1)];rfl
 |some d=>
  show(a.tmps.setIfInBounds d v).getD t undef=_
  rw[Array.getD_eq_getD_getElem?,Array.getElem?_setIfInBounds,Array.getD_eq_getD_getElem?]
  by_cases h:d=t
  ·subst h
   rw[if_pos rfl]
   by_cases h2:d<a.tmps.size
   ·rw[if_pos h2,if_pos ⟨rfl,h2⟩];rfl
   ·rw[if_neg h2,if_neg (fun h=>h2 h.2),Array.getElem?_eq_none (by omega)]
  ·rw[if_neg h,if_neg (fun h2=>h (Option.some.inj h2.1))]
theorem FD(a:Act)(d:Option Nat)(v:Value):(a.put d v).tmps.size=a.tmps.size:=by
 cases d with
 |none=>rfl
 |some d=>show(a.tmps.setIfInBounds d v).size=_;simp
theorem F8(a:Act)(d:Option Nat)(v:Value):(a.put d v).defers=a.defers:=by cases d<;>rfl
theorem AR.put{N:Nat}{φ ψ:Phi}{ρ ρ':Rho}{a:Act}(h:AR N φ ρ a)(hle:φ.Le ψ){d:Option Nat}(hd:∀ t,d=some t→t<N){v v':Value}(hv:RelV ψ v v')
  (hs:∀ t u,ρ' t=some u→if d=some t then u=v else ρ t=some u):AR N ψ ρ' (a.put d v') where
 size:=by rw[FD];exact h.size
 defs:=by rw[F8];exact h.defs
 rel:=fun t u hu=>by
  have:=hs t u hu
  rw[HF]
  by_cases ht:d=some t
  ·rw[if_pos ht]at this
   rw[if_pos ⟨ht,by rw[h.size];exact hd t ht⟩,this];exact hv
  ·rw[if_neg ht]at this
   rw[if_neg (fun h=>ht h.1)]
   exact(h.rel t u this).mono hle
theorem Nq{P:Program}{ty:TTy}{all:List Oper}{o:Oper}{ah:Ahead}{ρ ρ':Rho}{h h':Hp}{v:Value}{run:Bool}{T:Nat→Prop}(s:SF P ty all o ah ρ ρ' h h' v run T){a:Act}{φ:Phi}
  (hr:∀ g want og d u,o.guard=some (g,want)→all[g]? =some og→og.dst=some d→ρ d=some u→RelV φ u (a.tmps.getD d undef)):Region.wanted o (yielded all.toArray a.tmps)=run:=by
 have hg:=s.grd
 unfold Region.wanted
 cases hgd:o.guard with
 |none=>rw[hgd]at hg;exact hg.symm
 |some gw=>
  obtain⟨g,want⟩:=gw
  rw[hgd]at hg
  obtain⟨og,d,c,h1,h2,h3,h4⟩:=hg
  have hrel:=hr g want og d c hgd h1 h2 h3
  simp only
  have hy:yielded all.toArray a.tmps g=match a.tmps[d]? with|some (.bool b)=>some b|_=>none:=by
   unfold yielded
   have:(all.toArray[g]?).bind (·.dst)=some d:=by rw[List.getElem?_toArray,h1];exact h2
   rw[this];rfl
  rw[Array.getD_eq_getD_getElem?]at hrel
  rcases h4 with ⟨b,rfl,hrun⟩|⟨ls,rfl,hrun⟩
  ·have hb:=hrel.bool_inv
   cases hq:a.tmps[d]? with
   |none=>rw[hq]at hb;cases hb
   |some x=>
    rw[hq]at hb
    have hb:x=.bool b:=hb
    rw[hy,hq,hb,hrun]
    cases b<;>cases want<;>rfl
  ·rw[hrun,hy]
   cases hq:a.tmps[d]? with
   |none=>rfl
   |some x=>
    rw[hq]at hrel
    have hrel:RelV φ (.tuple ls) x:=hrel
    cases hrel;rfl
structure Txt (P:Program)(ty:TTy)(N:Nat)(φ0:Phi)(ρ:Nat→Rho)(H:Nat→Hp)(V:Nat→Value)(T:Nat→Nat→Prop)(n:Nat):Prop where
 next:∀ j,j<n→(H j).next≤(H (j+1)).next
 shape:∀ j,j<n→∀ i,i<(H j).next→ShapeLe ((H j).bl.get i) ((H (j+1)).bl.get i)
 kept:∀ j,j<n→∀ i,i<(H j).next→¬ T j i→(H (j+1)).bl.get i=(H j).bl.get i
 fresh:∀ j,j≤n→∀ i,(H j).next≤i→(H j).bl.get i=.dead
 well:∀ j,j≤n→∃ (ψ:Phi) (w:World) (a:Act),RelW ty ψ nil (H j) w∧AR N ψ (ρ j) a∧φ0.Le ψ∧∀ i,(H 0).next≤i→i<(H j).next→∃ p,ψ i=some p
section
variable {P:Program}{ty:TTy}
theorem Om{N:Nat}{all:List Oper}{Q:Exit→Act→World→Prop}:∀ (l:List Oper) {ahs:List Ahead} {ρ:Nat→Rho} {H:Nat→Hp} {V:Nat→Value} {run:Nat→Bool} {T:Nat→Nat→Prop} {a:Act} {w:World} {φ:Phi},
  Tr P ty all ahs l ρ H V run T→(∀ o∈l,∀ d,o.dst=some d→d<N)→RelW ty φ nil (H 0) w→AR N φ (ρ 0) a→
  (Txt P ty N φ ρ H V T l.length→∀ ψ a' w',RelW ty ψ nil (H l.length) w'→AR N ψ (ρ l.length) a'→Evo φ (H 0) w ψ (H l.length) w'→Q .normal a' w')→wpList P all.toArray Q l a w
 |[],ahs,ρ,H,V,run,T,a,w,φ,_,_,HW,HA,hq=>by
  refine hq ?_ φ a w HW HA (.refl _ _ _)
  refine {next:=fun j hj=>absurd hj (Nat.not_lt_zero _),shape:=fun j hj=>absurd hj (Nat.not_lt_zero _),kept:=fun j hj=>absurd hj (Nat.not_lt_zero _),fresh:=fun j hj i hi=>?_,well:=fun j hj=>?_}
  ·have:j=0:=Nat.le_zero.1 hj
   subst this;exact HW.fresh i hi
  ·have:j=0:=Nat.le_zero.1 hj
   subst this;exact⟨φ,w,a,HW,HA,.refl _,fun i h1 h2=>absurd h2 (Nat.not_lt.2 h1)⟩
 |o::l,ahs,ρ,H,V,run,T,a,w,φ,tr,hN,HW,HA,hq=>by
  have s:=tr.sf 0 o rfl
  have tr':Tr P ty all ahs.tail l (fun j=>ρ (j+1)) (fun j=>H (j+1)) (fun j=>V (j+1)) (fun j=>run (j+1)) (fun j=>T (j+1)):=
   ⟨fun j o' hj=>by
    have:=tr.sf (j+1) o' hj
    have e:ahs.getD (j+1) .plain=ahs.tail.getD j .plain:=by cases ahs<;>rfl
    rw[e]at this;exact this⟩
  have hd:∀ d,o.dst=some d→d<N:=hN o List.mem_cons_self
  have rest:∀ ψ v' w',RelV ψ (V 0) v'→RelW ty ψ nil (H 1) w'→Eff (T 0) φ (H 0) w ψ (H 1) w'→Evo φ (H 0) w ψ (H 1) w'→wpList P all.toArray Q l (a.put o.dst v') w':=by
   intro ψ v' w' hv HW' eff evo
   refine Om l tr' (fun o ho=>hN o (List.mem_cons_of_mem _ ho)) HW' (HA.put eff.le hd hv s.slot) fun txt ψ2 a2 w2 q1 q2 q3=>hq ?_ ψ2 a2 w2 q1 q2 (evo.trans q3)
   refine {next:=fun j hj=>?_,shape:=fun j hj=>?_,kept:=fun j hj=>?_,fresh:=fun j hj i hi=>?_,well:=fun j hj=>?_}
   ·cases j with
    |zero=>exact eff.next
    |succ j=>exact txt.next j (by simpa using hj)
   ·cases j with
    |zero=>exact eff.shape
    |succ j=>exact txt.shape j (by simpa using hj)
   ·cases j with
    |zero=>exact eff.kept
    |succ j=>exact txt.kept j (by simpa using hj)
   ·cases j with
    |zero=>exact HW.fresh i hi
    |succ j=>exact txt.fresh j (by simpa using hj) i hi
   ·cases j with
    |zero=>exact⟨φ,w,a,HW,HA,.refl _,fun i h1 h2=>absurd h2 (Nat.not_lt.2 h1)⟩
    |succ j=>
     obtain⟨χ,w3,a3,r1,r2,r3,r4⟩:=txt.well j (by simpa using hj)
     refine⟨χ,w3,a3,r1,r2,eff.le.trans r3,fun i h1 h2=>?_⟩
     rcases Nat.lt_or_ge i (H 1).next with h|h
     ·obtain⟨p,hp⟩:=eff.all i h1 h
      exact⟨p,r3 i p hp⟩
     ·exact r4 i h h2
  have hw:=Nq s (a:=a) (φ:=φ) fun g want og d u _ _ _ hu=>HA.rel d u hu
  unfold wpList
  rcases s.core with ⟨hrun,core⟩|⟨hrun,hv,hh,hT⟩
  ·rw[hw,hrun,if_pos rfl]
   refine .inl (core.does φ nil w a HW (fun x _ u hu=>HA.ev hu) ?_ _ _ fun ψ v' w' hv HW' eff evo=>rest ψ v' w' hv HW' eff evo)
   unfold TouchR
   split<;>first|trivial|exact fun _ h=>h|exact fun _ _ _ _ h=>h
  ·rw[hw,hrun,if_neg (by simp)]
   have hu:RelV φ (V 0) undef:=by rw[hv];exact .tuple .nil
   have e1:Evo φ (H 0) w φ (H 1) w:=by
    show Evo φ (H 0) w φ (H (0+1)) w
    rw[hh];exact .refl _ _ _
   have e2:Eff (T 0) φ (H 0) w φ (H 1) w:=by
    show Eff (T 0) φ (H 0) w φ (H (0+1)) w
    rw[hh]
    exact {Eff.refl φ (H 0) w with frame:=fun _ _ _=>rfl,back:=fun i p e hl _=>⟨i,p,e,hl,rfl,rfl,.inl rfl⟩,kept:=fun _ _ _=>rfl}
   exact rest φ undef w hu (by show RelW ty φ nil (H (0+1)) w;rw[hh];exact HW) e2 e1
end
end
noncomputable section
open Go
section
variable {φ ψ χ:Phi}
theorem RelA.cut(hx:∀ b p,φ b=some p→(∃ q,ψ b=some q)→χ b=some p){a a' a'':Addr}:RelA φ a a'→RelA ψ a a''→RelA χ a a'
 |⟨s,s',p,hp,r⟩,⟨_,_,q,hq,_⟩=>⟨s,s',p,hx _ _ hp ⟨q,hq⟩,r⟩
theorem RelS.cut(hx:∀ b p,φ b=some p→(∃ q,ψ b=some q)→χ b=some p){a a' a'':Addr}{c c' c'':Nat}:RelS φ a c a' c'→RelS ψ a c a'' c''→RelS χ a c a' c'
 |⟨s,s',p,hp,r⟩,⟨_,_,q,hq,_⟩=>⟨s,s',p,hx _ _ hp ⟨q,hq⟩,r⟩
mutual
theorem RelV.cut(hx:∀ b p,φ b=some p→(∃ q,ψ b=some q)→χ b=some p):∀ {v v' v'':Value},RelV φ v v'→RelV ψ v v''→RelV χ v v'
 |_,_,_,.bool b,_=>.bool b
 |_,_,_,.int k n,_=>.int k n
 |_,_,_,.string s,_=>.string s
 |_,_,_,.ptr0,_=>.ptr0
 |_,_,_,.ptr h,h2=>by cases h2 with|ptr h2=>exact .ptr (h.cut hx h2)
 |_,_,_,.slice0,_=>.slice0
 |_,_,_,.slice hn h,h2=>by cases h2 with|slice _ h2=>exact .slice hn (h.cut hx h2)
 |_,_,_,.map0,_=>.map0
 |_,_,_,.map h,h2=>by cases h2 with|map h2=>exact .map (hx _ _ h ⟨_,h2⟩)
 |_,_,_,.func fn h h',h2=>by cases h2 with|func _ h2 h2'=>exact .func fn (RelL.cut hx h h2) (RelL.cut hx h' h2')
 |_,_,_,.nilFunc,_=>.nilFunc
 |_,_,_,.iface t h,h2=>by cases h2 with|iface _ h2=>exact .iface t (RelV.cut hx h h2)
 |_,_,_,.nilIface,_=>.nilIface
 |_,_,_,.agg h,h2=>by cases h2 with|agg h2=>exact .agg (RelL.cut hx h h2)
 |_,_,_,.tuple h,h2=>by cases h2 with|tuple h2=>exact .tuple (RelL.cut hx h h2)
 |_,_,_,.unk,_=>.unk
 |_,_,_,.slcE,_=>.slcE
theorem RelL.cut(hx:∀ b p,φ b=some p→(∃ q,ψ b=some q)→χ b=some p):∀ {v v' v'':List Value},RelL φ v v'→RelL ψ v v''→RelL χ v v'
 |_,_,_,.nil,_=>.nil
 |_,_,_,.cons h t,h2=>by cases h2 with|cons h2 t2=>exact .cons (RelV.cut hx h h2) (RelL.cut hx t t2)
end
theorem RelE.cut(hx:∀ b p,φ b=some p→(∃ q,ψ b=some q)→χ b=some p):∀ {l:List Ent} {l' l'':List MapEntry},RelE φ l l'→RelE ψ l l''→RelE χ l l'
 |_,_,_,.nil,_=>.nil
 |_,_,_,.cons hk hv t,h2=>by cases h2 with|cons hk2 hv2 t2=>exact .cons (hk.cut hx hk2) (hv.cut hx hv2) (RelE.cut hx t t2)
theorem RelB.cut{ty:TTy}(hx:∀ b p,φ b=some p→(∃ q,ψ b=some q)→χ b=some p){p p2:Pl}{b:Blk}{o o2:Option Obj}(h:RelB ty φ p b o)(h2:RelB ty ψ p2 b o2):RelB ty χ p b o:=by
 cases h with
 |cells h=>cases h2 with
  |cells h2=>exact .cells {h with cell:=fun j hj=>let ⟨v,e,r⟩:=h.cell j hj;let ⟨v2,_,r2⟩:=h2.cell j hj;⟨v,e,r.cut hx r2⟩}
 |map h=>cases h2 with
  |map h2=>exact .map (h.cut hx h2)
 |iter0 h=>exact .iter0 h
 |iter hp h=>cases h2 with
  |iter _ h2=>exact .iter hp (hx _ _ h ⟨_,h2⟩)
 |cur hp h hl=>cases h2 with
  |cur _ h2 _=>exact .cur hp (hx _ _ h ⟨_,h2⟩) hl
 |dead=>exact .dead
end
structure Laws (ty:TTy)(all:List Oper)(ρ:Nat→Rho)(H:Nat→Hp)(T:Nat→Nat→Prop)(B:Nat→Nat→Prop):Prop where
 lt:∀ i j,B i j→i<j
 slots:∀ i j oi oj d,i≠j→all[i]? =some oi→all[j]? =some oj→oi.dst=some d→
  (oj.dst=some d∨.tmp d∈oj.op.operands.toList∨∃ g w og,oj.guard=some (g,w)∧all[g]? =some og∧og.dst=some d)→B i j∨B j i
 kinds:∀ j oj c,all[j]? =some oj→T j c→(∃ x,kd ty oj.op=.w x)∨kd ty oj.op=.q
 fixed:∀ i j oi c,i≠j→all[i]? =some oi→j<all.length→T j c→((∃ x,kd ty oi.op=.w x)∨kd ty oi.op=.q)→B i j∨B j i
 reads:∀ i j oi x c u,i≠j→all[i]? =some oi→j<all.length→T j c→kd ty oi.op=.r x→evR (ρ i) x=some u→blkOf u=.ok c→B i j∨B j i
 tlt:∀ j c,j<all.length→T j c→c<(H j).next
 tout:∀ j c,j<all.length→T j c→(H all.length).low≤c∧c≤(H all.length).high
 low:(H all.length).low≤(H 0).low
 high:(H 0).high≤(H all.length).high
structure Inv (ty:TTy)(N:Nat)(all:List Oper)(ρ:Nat→Rho)(H:Nat→Hp)(T:Nat→Nat→Prop)(φ0:Phi)(w0:World)(S:Nat→Prop)(φ:Phi)(C:Nat→Blk)(a:Act)(w:World):Prop where
 dom:∀ b p,φ b=some p→p.blk<w.heap.size∧(b<(H 0).next∨∃ j,S j∧j<all.length∧(H j).next≤b∧b<(H (j+1)).next)
 inj:∀ b c p q,φ b=some p→φ c=some q→C b≠.dead→C c≠.dead→(p.inp=false∨q.inp=false)→p.blk=q.blk→b=c
 row:∀ b p,φ b=some p→RelB ty φ p (C b) w.heap[p.blk]?
 kind:∀ k,k≤all.length→∀ b p c s e,φ b=some p→b<(H k).next→(H k).bl.get b=.cells c s e→Kind ty p s e
 inp:∀ b p,φ b=some p→p.inp=true→b<256
 link:∀ k,k≤all.length→∀ b p,φ b=some p→b<(H k).next→(∀ j,j<all.length→T j b→(j<k→S j)∧(k≤j→¬ S j))→C b=(H k).bl.get b
 chg:∀ j,S j→j<all.length→∀ b,b<(H j).next→(H (j+1)).bl.get b≠(H j).bl.get b→∃ p,φ b=some p
 full:∀ j,S j→j<all.length→∀ b,(H j).next≤b→b<(H (j+1)).next→∃ p,φ b=some p
 slot:∀ k,k≤all.length→∀ t u,(∀ j o,all[j]? =some o→o.dst=some t→(j<k→S j)∧(k≤j→¬ S j))→ρ k t=some u→RelV φ u (a.tmps.getD t undef)
 size:a.tmps.size=N
 defs:a.defers=[]
 le:φ0.Le φ
 new:∀ b p,φ b=some p→φ0 b=some p∨(H 0).next≤b
 sz:w0.heap.size≤w.heap.size
 tape:w.tape=w0.tape
 os:w.os=w0.os
 output:w.output=w0.output
 frame:∀ k,k<w0.heap.size→(∀ c p,φ0 c=some p→p.inp=false→(H all.length).low≤c→c≤(H all.length).high→Live (H 0) c→p.blk≠k)→w.heap[k]? =w0.heap[k]?
 back:∀ b p,φ b=some p→C b≠.dead→p.blk<w0.heap.size→∃ c q,φ0 c=some q∧Live (H 0) c∧q.blk=p.blk∧q.inp=p.inp∧(c=b∨(H all.length).low≤c∧c≤(H all.length).high)
section
variable {P:Program}{ty:TTy}{N:Nat}{all:List Oper}{ρ:Nat→Rho}{H:Nat→Hp}{V:Nat→Value}{T:Nat→Nat→Prop}{φ0:Phi}{w0:World}
theorem Txt.mono{φ:Phi}{n:Nat}(t:Txt P ty N φ ρ H V T n){i:Nat}:∀ {k:Nat},i≤k→k≤n→(H i).next≤(H k).next:=by
 intro k h hn
 induction k with
 |zero=>have:i=0:=Nat.le_zero.1 h;subst this;exact Nat.le_refl _
 |succ k ih=>
  rcases Nat.lt_or_ge k i with h2|h2
  ·have:i=k+1:=by omega
   subst this;exact Nat.le_refl _
  ·exact Nat.le_trans (ih h2 (by omega)) (t.next k (by omega))
theorem Txt.shapes{φ:Phi}{n:Nat}(t:Txt P ty N φ ρ H V T n){i:Nat}{b:Nat}(hb:b<(H i).next):∀ {k:Nat},i≤k→k≤n→ShapeLe ((H i).bl.get b) ((H k).bl.get b):=by
 intro k h hn
 induction k with
 |zero=>have:i=0:=Nat.le_zero.1 h;subst this;exact .refl _
 |succ k ih=>
  rcases Nat.lt_or_ge k i with h2|h2
  ·have:i=k+1:=by omega
   subst this;exact .refl _
  ·exact(ih h2 (by omega)).trans (t.shape k (by omega) b (Nat.lt_of_lt_of_le hb (t.mono h2 (by omega))))
theorem Txt.same{φ:Phi}{n:Nat}(t:Txt P ty N φ ρ H V T n){i:Nat}{b:Nat}:∀ {k:Nat},i≤k→k≤n→(∀ m,i≤m→m<k→(H (m+1)).bl.get b=(H m).bl.get b)→(H k).bl.get b=(H i).bl.get b:=by
 intro k h hn hs
 induction k with
 |zero=>have:i=0:=Nat.le_zero.1 h;subst this;rfl
 |succ k ih=>
  rcases Nat.lt_or_ge k i with h2|h2
  ·have:i=k+1:=by omega
   subst this;rfl
  ·rw[hs k h2 (by omega)];exact ih h2 (by omega) fun m h1 h2=>hs m h1 (by omega)
theorem Tr.backward{run:Nat→Bool}{ahs:List Ahead}(tr:Tr P ty all ahs all ρ H V run T){t:Nat}{u:Value}{i:Nat}:∀ {k:Nat},i≤k→k≤all.length→(∀ m o,i≤m→m<k→all[m]? =some o→o.dst≠some t)→ρ k t=some u→ρ i t=some u:=by
 intro k h hn hs hu
 induction k with
 |zero=>have:i=0:=Nat.le_zero.1 h;subst this;exact hu
 |succ k ih=>
  rcases Nat.lt_or_ge k i with h2|h2
  ·have:i=k+1:=by omega
   subst this;exact hu
  ·have hk:k<all.length:=by omega
   have ho:all[k]? =some all[k]:=List.getElem?_eq_getElem hk
   have:=(tr.sf k all[k] ho).slot t u hu
   rw[if_neg (hs k all[k] h2 (Nat.lt_succ_self _) ho)]at this
   exact ih h2 (by omega) (fun m o h1 h2=>hs m o h1 (by omega)) this
def Oq(n:Nat)(T:Nat→Nat→Prop)(S:Nat→Prop)(h:Hp)(i:Nat):Nat→Prop:=fun b=>b<h.next∧¬ ∀ j,j<n→T j b→(j<i→S j)∧(i≤j→¬ S j)
def upto(φ:Phi)(n:Nat):Phi:=fun b=>if b<n then φ b else none
theorem CP{φ:Phi}{n b:Nat}{p:Pl}(h:upto φ n b=some p):b<n∧φ b=some p:=by
 unfold upto at h
 split at h
 ·exact⟨‹_›,h⟩
 ·cases h
theorem Inv.relw{φ:Phi}{C:Nat→Blk}{a:Act}{w:World}{S:Nat→Prop}(I:Inv ty N all ρ H T φ0 w0 S φ C a w)(txt:Txt P ty N φ0 ρ H V T all.length){i:Nat}(hi:i≤all.length):
  RelW ty (upto φ (H i).next) (Oq all.length T S (H i) i) (H i) w∧∃ (ψ:Phi) (b:Act),AR N ψ (ρ i) b∧∀ b p,φ b=some p→(∃ q,ψ b=some q)→upto φ (H i).next b=some p:=by
 obtain⟨ψ,wt,at',HW,HA,hle,hall⟩:=txt.well i hi
 have hx:∀ b p,φ b=some p→(∃ q,ψ b=some q)→upto φ (H i).next b=some p:=by
  rintro b p hp ⟨q,hq⟩
  unfold upto
  rw[if_pos (HW.dom b q hq).1];exact hp
 have hin:∀ b p,φ b=some p→b<(H i).next→∃ q,ψ b=some q:=by
  intro b p hp hb
  rcases I.new b p hp with h|h
  ·exact⟨p,hle b p h⟩
  ·exact hall b h hb
 have lk:∀ b p,φ b=some p→b<(H i).next→¬ Oq all.length T S (H i) i b→C b=(H i).bl.get b:=by
  intro b p hp hb hE
  refine I.link i hi b p hp hb fun j hj hT=>?_
  by_cases hh:(j<i→S j)∧(i≤j→¬ S j)
  ·exact hh
  ·exact absurd ⟨hb,fun hall=>hh (hall j hj hT)⟩ hE
 refine⟨{dom:=fun b p e=>?_,inj:=fun b c p q eb ec hEb hEc hb hc hio hpq=>?_,row:=fun b p e hE=>?_,fresh:=txt.fresh i hi,kind:=fun b p c s e' e he=>?_,inp:=fun b p e=>I.inp b p (CP e).2},ψ,at',HA,hx⟩
 ·obtain⟨h1,h2⟩:=CP e
  exact⟨h1,(I.dom b p h2).1⟩
 ·obtain⟨h1,h2⟩:=CP eb
  obtain⟨h3,h4⟩:=CP ec
  exact I.inj b c p q h2 h4 (by rw[lk b p h2 h1 hEb];exact hb) (by rw[lk c q h4 h3 hEc];exact hc) hio hpq
 ·obtain⟨h1,h2⟩:=CP e
  have r1:=I.row b p h2
  rw[lk b p h2 h1 hE]at r1
  obtain⟨q,hq⟩:=hin b p h2 h1
  exact r1.cut hx (HW.row b q hq fun h=>h)
 ·obtain⟨h1,h2⟩:=CP e
  exact I.kind i hi b p c s e' h2 h1 he
end
end
end Go.Proofs.YtedbmmfebjfibaaGreat

/-
  Part ZL of what Lawru stands on: printed by program, names and spaces cut.
-/
import Derived.Test.YtedbmmfebjfibaaGreatZK
open Nat renaming reduceEqDiff→AI,reduceLT→AT,reduceAdd→By,le_refl→IN,zero_add→sh,succ→vD,ble→vJ,beq→vO,zero_le→vi,mul_comm→wj,beq_refl→wz,add_zero→xM,min_eq_left→yz,succ_pos→AAk,add_assoc→ACX,add_comm→ACo
open Go renaming Value→BY
open List renaming length_append→IT,length_map→If,getElem?_eq_getElem→No,getD_eq_getElem?_getD→OF,mem_cons_self→vG,mem_cons_of_mem→vH,length_cons→vI,replicate→vL,mem_singleton→vM,mem_of_getElem?→vN,getElem?_append_left→vP,append_nil→vR,mem_cons→vS,mem_append_right→vV,getElem?_eq_some_iff→vW,append_assoc→vX,mem_append→va,getElem?_append_right→ve,mem_append_left→vk,length_take→vp,map_append→v8,length_nil→wB,getElem?_cons_succ→wE,length_drop→wG,nil_append→wL,drop_zero→wM,getElem?_map→wN,length_singleton→wU,take_length→wh,mem_of_mem_take→wu,length_replicate→xC,getElem?_take→yA,getElem?_drop→yj,mem_iff_getElem?→zX,length→zY,mem_of_mem_drop→ze,take_take→AA8,map_take→ACO
open Bool renaming not_true→wQ,not_false→wm,eq_iff_iff→xI,not_not→ACd
open Classical renaming choose→ACt,choose_spec→AC6,byContradiction→ADP
set_option linter.unusedVariables false
set_option linter.unusedSimpArgs false
namespace Go.Proofs.YtedbmmfebjfibaaGreat
noncomputable section
open Go
set_option maxRecDepth 100000
section
variable {F:ADS}{e:Env}{h h':Hp}{S:Nat→Prop}{bd bm bc n c0:Nat}{M:List Nat}{cs:List (Nat×List Nat)}{arm:Int}{dn:Bool}
theorem dK{n:Nat}(hn:n≤9223372036854775807):Fd ⟨false,[.i .i64]⟩ (.int .i64 (n:Int))=true:=by
 show(match (match FW .i64 .i64 with|true=>vJ n (BB .i64)|false=>false)with|true=>true|false=>false)=true;have h1:FW .i64 .i64=true:=rfl;have h2:vJ n (BB .i64)=true:=Ab.2 hn;simp only[h1,h2]
theorem qV{n m:Nat}(hm:m≤9223372036854775807):Gx ⟨false,[.i .i64]⟩ (.int .i64 (n:Int)) (.int .i64 (m:Int))=some (decide (n=m)):=by
 unfold Gx;rw[dK hm];show(match (match FW .i64 .i64 with|true=>some (iEq (n:Int) (m:Int))|false=>none)with|some true=>some true|some false=>some false|none=>none)=_;have h1:FW .i64 .i64=true:=rfl;simp only[h1,D9];by_cases h:n=m
 ·subst h;simp
 ·have:((n:Int) == (m:Int))=false:=by rw[beq_eq_false_iff_ne];omega
  rw[this,decide_eq_false h]
theorem RT{k:Nat}{v:BY}:∀ (cs:List (Nat×List Nat)) (i:Nat),(∀ x∈cs,x.1≠k∧x.1≤65536)→NH ⟨false,[.i .i64]⟩ (.int .i64 (k:Int)) v (ADd i cs)=some none
 |[],_,_=>rfl
 |x::l,i,hx=>by
  obtain⟨h1,h2⟩:=hx x vG;show(match Gx ⟨false,[.i .i64]⟩ (.int .i64 (k:Int)) (.int .i64 (x.1:Int))with|some true=>some (some ((⟨.int .i64 (k:Int),v,i⟩:Ent)::ADd (i+1) l))|some false=>(match NH ⟨false,[.i .i64]⟩ (.int .i64 (k:Int)) v (ADd (i+1) l)with|some (some l')=>some (some ((⟨.int .i64 (x.1:Int),Cy x.2,i⟩:Ent)::l'))|some none=>some none|none=>none)|none=>none)=some none;rw[qV (by omega),decide_eq_false (fun h=>h1 h.symm)];simp only;rw[RT l (i+1) fun y hy=>hx y (vH _ hy)]
theorem Tc{k:Nat}{l:List Nat}:∀ (cs:List (Nat×List Nat)) (i:Nat),VQ ⟨.int .i64 (k:Int),Cy l,i+cs.length⟩ (ADd i cs)=ADd i (cs++[(k,l)])
 |[],i=>rfl
 |x::cs,i=>by
  show(⟨.int .i64 (x.1:Int),Cy x.2,i⟩:Ent)::VQ ⟨.int .i64 (k:Int),Cy l,i+(cs.length+1)⟩ (ADd (i+1) cs)=_::ADd (i+1) (cs++[(k,l)]);rw[← Tc cs (i+1),ACX,ACo 1]
theorem VM:F0.zero=(vL 64 0).map bv:=by
 have:F0.zero=BO ty5.zero 64:=by kernel_rfl
 rw[this,LV]
theorem SC:Bx .mt 0 ((vL 64 0).map bv)=some Fb:=by kernel_rfl
theorem du(R:h.Row bm 0 (M.map bv))(hM:M.length=64*n){i:Nat}(hi:i<n):loadN 64 ⟨bm,0+i*64,none⟩ h=.ok (Cy (sec M i)) h:=by
 rw[R.loadN (by rw[If];omega),← List.map_drop,← ACO,sh,wj i 64];rfl
theorem Y6(d:Dk h bd bm bc n M c0 [] arm dn){z:BY}{x y:O}{i:Nat}(hx:x e=.map (some bc))(hy:y e=.int .i64 (i:Int))(hi:i<n):E7 ⟨false,[.i .i64]⟩ z true x y F e h=.ok (.tuple ⟨[z,.bool false]⟩) h:=by
 have:=d.n1;show Fp ⟨false,[.i .i64]⟩ z (x e) (y e) true h=_;rw[hx,hy];have he:BP h bc=.ok [] (c0+0):=by unfold BP;rw[d.map];rfl
 unfold Fp;rw[dK (by omega)];simp only[he,IH];unfold DN;simp only[BC]
theorem Vm{g:O}{r:Nat}(hg:g e=pt r):Ft 64 1 g none none none F e h=.ok (.slice (some ⟨r,0,none⟩) 64 64) h:=by
 show(match Dh (g e)with|.ok a=>DG e 64 64 none none none fun l hh m=>Bg (some a) 1 l hh m h|.no=>.no)=_;rw[hg];rfl
theorem U3{m:Nat}(W:h.Wf)(d:Dk h bd bm bc n M c0 [] arm false){i:Nat}(hi:i<n):
  ∃ h' v,call AD (m+3) 84 [pt bd,.int .i64 (i:Int)] h=.ok (.tuple ⟨[v,.int .i64 0]⟩) h'∧h.Ext h'∧Mk h' h.next v (sec M i)∧h'.next=h.next+1∧h'.mark=h.mark∧h.low=h.low:=by
 have k1:=Hf (m:=m) d hi;obtain⟨l0,l1,_,_⟩:=CL d.disk;have c0':iNe 0 0=false:=CV rfl;have lk:∀ e:Env,AB 19 e=.map (some bc)→AB 1 e=.int .i64 (i:Int)→E7 ⟨false,[.i .i64]⟩ (.agg ⟨F0.zero⟩) true (AB 19) (AB 1) (call AD (m+2)) e h=.ok (.tuple ⟨[.agg ⟨F0.zero⟩,.bool false]⟩) h:=fun e h1 h2=>Y6 d h1 h2 hi
 have al:=fun (F:ADS) (e:Env)=>Bm (F:=F) (e:=e) W (n:=64) (t:=Fb)
 have R1:=Hp.Row.alloc W SC (by rw[If,xC]);have x1:h.Ext (h.push (.cells Fb 64 0)):=(Hp.Ext.refl W).push _;have n1:(h.push (.cells Fb 64 0)).next=h.next+1:=rfl;have m1:(h.push (.cells Fb 64 0)).mark=h.mark:=rfl;generalize h.push (.cells Fb 64 0)=h1 at al R1 x1 n1 m1;have hz:((vL 64 0).map bv).length=64:=by rw[If,xC]
 have big:=W.big;have st:ADl 64 (pt h.next) (.agg ⟨F0.zero⟩) h1=.ok ADV (h1.wr h.next 0 ((vL 64 0).map bv)):=by
  rw[VM];exact R1.ADl (n:=64) (off:=0) x1.wf big (v:=.agg ⟨(vL 64 0).map bv⟩) hz (by show 0+((vL 64 0).map bv).length≤_;omega) (Ct _)
 have x2:=R1.AD5 x1 (IN _) (off:=0) (vs:=(vL 64 0).map bv) (by omega);have R2:=R1.ADm x1.wf (off:=0) (vs:=(vL 64 0).map bv) (by omega);rw[KT rfl]at R2;have n2:(h1.wr h.next 0 ((vL 64 0).map bv)).next=h.next+1:=(R1.AD9 (by omega)).trans n1;have m2:(h1.wr h.next 0 ((vL 64 0).map bv)).mark=h.mark:=by
  obtain⟨_,_,e,_⟩:=R1.AEh (off:=0) (vs:=(vL 64 0).map bv) (by omega);rw[e];exact m1
 generalize h1.wr h.next 0 ((vL 64 0).map bv)=h2 at st x2 R2 n2 m2;have d2:=d.ext W x2;obtain⟨l0,_,_,_⟩:=CL d2.disk;have ix:AEP 64 (.slice (some ⟨bm,0,none⟩) n n) (.int .i64 (i:Int)) h2=.ok (.pointer (some ⟨bm,0+i * 64,none⟩)) h2:=DD hi;have ld:=du d2.med d2.len hi;have hsl:=Jb d2.len hi;have hsm:((sec M i).map bv).length=64:=by rw[If,hsl]
 have st2:ADl 64 (pt h.next) (Cy (sec M i)) h2=.ok ADV (h2.wr h.next 0 ((sec M i).map bv)):=R2.ADl (n:=64) (off:=0) x2.wf big (v:=Cy (sec M i)) hsm (by show 0+((sec M i).map bv).length≤_;omega) (Ct _);have x3:=R2.AD5 x2 (IN _) (off:=0) (vs:=(sec M i).map bv) (by omega);have R3:=R2.ADm x2.wf (off:=0) (vs:=(sec M i).map bv) (by omega);rw[KT (by omega)]at R3;have n3:(h2.wr h.next 0 ((sec M i).map bv)).next=h.next+1:=(R2.AD9 (by omega)).trans n2;have m3:(h2.wr h.next 0 ((sec M i).map bv)).mark=h.mark:=by
  obtain⟨_,_,e,_⟩:=R2.AEh (off:=0) (vs:=(sec M i).map bv) (by omega);rw[e];exact m2
 generalize h2.wr h.next 0 ((sec M i).map bv)=h3 at st2 x3 R3 n3 m3;have ct:∀ e:Env,AB 7 e=pt h.next→Ft 64 1 (AB 7) none none none (call AD (m+2)) e h3=.ok (.slice (some ⟨h.next,0,none⟩) 64 64) h3:=fun e he=>Vm he
 refine⟨h3,.slice (some ⟨h.next,0,none⟩) 64 64,?_,x3,⟨h.next,0,by rw[hsl],.inl rfl,R3,IN _⟩,n3,m3,rfl⟩;obtain⟨_,l1,_,_⟩:=CL d.disk;rw[lH rfl];unfold d84;simp only[iN,By,sT,AT,AI,reduceIte,cA0,k1,AM,AK,c0',Ao,Ae,AJ,AO,AN,AQ,sh,l1,lk,BL,BR,Ba,al,Aa,st,Bj,Bh,wm,l0,A1,ix,Aw,Ar,ld,st2,ct,Be,DB];simp only[sh]at ld;simp only[ld,sT,AT,AI,reduceIte,Aa,st2,ct,Be,DB]
theorem nu(W:h.Wf)(d:Dk h bd bm bc n M c0 cs arm dn){i:Nat}(hi:i<n)(hc:∀ x∈cs,x.1≠i∧x.1<n){l:List Nat}{g1 g2 g3:O}(h1:g1 e=.map (some bc))(h2:g2 e=.int .i64 (i:Int))(h3:g3 e=Cy l):
  E8 ⟨false,[.i .i64]⟩ g1 g2 g3 F e h=.ok ADV (h.put bc (.map (ADd c0 (cs++[(i,l)])) (vD (c0+cs.length))))∧Fx (fun b=>b=bc) h (h.put bc (.map (ADd c0 (cs++[(i,l)])) (vD (c0+cs.length))))∧Dk (h.put bc (.map (ADd c0 (cs++[(i,l)])) (vD (c0+cs.length)))) bd bm bc n M c0 (cs++[(i,l)]) arm dn:=by
 have hn:=d.n1;have hlt:=(d.lt W).2.2;have he:BP h bc=.ok (ADd c0 cs) (c0+cs.length):=by unfold BP;rw[d.map];rfl
 have fx:Fx (fun b=>b=bc) h (h.put bc (.map (ADd c0 (cs++[(i,l)])) (vD (c0+cs.length)))):=Fx.put (S:=fun b=>b=bc) W hlt rfl _;refine⟨?_,fx,⟨fx.row W d.disk d.bdc,fx.row W d.med d.bmc,d.len,d.byt,?_,d.big,d.n1⟩⟩
 ·show ADf (g2 e) (fun key=>ADf (g3 e) fun v=>La ⟨false,[.i .i64]⟩ (g1 e) key v h)=_
  rw[BC,BC,h1,h2,h3];unfold La;rw[dK (by omega)];simp only[he,RT cs c0 fun x hx=>⟨(hc x hx).1,by have:=(hc x hx).2;omega⟩,Tc];rw[Df W d.big.2.2 hlt];rfl
 ·rw[W.AD0 hlt,if_pos rfl,IT];rfl
theorem iS{g:O}{a:Addr}{c:Nat}(hg:g e=.slice (some a) 64 c):Qo 64 g F e h=.ok (.pointer (some a)) h:=by
 show(match g e with|.slice (some a) l _=>bif vJ 64 l then R.ok (.pointer (some a)) h else .no|_=>.no)=_;rw[hg];rfl
theorem SB{m:Nat}(W:h.Wf)(d:Dk h bd bm bc n M c0 cs arm false){k:Nat}(ha:Gs arm (k+1)){i:Nat}(hi:i<n)(hc:∀ x∈cs,x.1≠i∧x.1<n){u:BY}{l:List Nat}(U:h.VS (fun b=>b≠bd) u (l.map bv))(hl:l.length=64):
  ∃ h',call AD (m+3) 75 [pt bd,.int .i64 (i:Int),u] h=.ok (.int .i64 0) h'∧Fx (fun b=>b=bd∨b=bc) h h'∧Dk h' bd bm bc n M c0 (cs++[(i,l)]) (AEe arm) false:=by
 have k1:=Hf (m:=m) d hi;have Ul:=U.vals.bl h;rw[hl]at Ul;obtain⟨h1,k2,f1,d1⟩:=Uw (m:=m+1) W d ha;have U1:=U.fx W f1 (fun b h1 h2=>h1 h2);have c1:iNe 0 0=false:=CV rfl;have c2:iNe ((64:Nat):Int) 64=false:=CV rfl;rcases U1 with ⟨_,hx⟩|⟨b,off,c,el,L,hu,_,R1,ho,hL,_⟩
 ·have:=congrArg zY hx
  rw[If,hl]at this;cases this
 rw[If,hl]at hu ho hL;have d1m:=d1.same (h':=h1.marked) rfl;obtain⟨_,l1,_,_⟩:=CL d1m.disk;have Rm:h1.marked.Row b el L:=R1.same rfl;have ld:loadN 64 ⟨b,off,none⟩ h1.marked=.ok (Cy l) h1.marked:=by rw[Rm.loadN ho,hL];rfl
 have ar:∀ (F:ADS) (e:Env),AB 2 e=u→Qo 64 (AB 2) F e h1.marked=.ok (.pointer (some ⟨b,off,none⟩)) h1.marked:=fun F e he=>iS (he.trans hu)
 have up:=fun (F:ADS) (e:Env) (g1 g2 g3:O) (e1:g1 e=.map (some bc)) (e2:g2 e=.int .i64 (i:Int)) (e3:g3 e=Cy l)=>nu (F:=F) f1.wf.marked.quiet (d1m.same (h':=h1.marked.quiet) rfl) hi hc e1 e2 e3
 obtain⟨_,f2,d2⟩:=up (call AD m) e0 (kV (.map (some bc))) (kV (.int .i64 (i:Int))) (kV (Cy l)) rfl rfl rfl;have up:=fun F e g1 g2 g3 e1 e2 e3=>(up F e g1 g2 g3 e1 e2 e3).1
 generalize h1.marked.quiet.put bc (.map (ADd c0 (cs++[(i,l)])) (vD (c0+cs.length)))=h2 at up f2 d2;have u2:∀ (F:ADS) (e:Env),AB 26 e=.map (some bc)→AB 1 e=.int .i64 (i:Int)→AB 30 e=Cy l→Al .free (E8 ⟨false,[.i .i64]⟩ (AB 26) (AB 1) (AB 30)) F e h1.marked=.ok ADV (h1.marked.back h2):=fun F e e1 e2 e3=>BQ (up F e _ _ _ e1 e2 e3)
 refine⟨h1.marked.back h2,?_,?_,d2.same rfl⟩
 ·rw[Xk rfl]
  unfold d75;simp only[iN,By,sT,AT,AI,reduceIte,cA0,k1,AM,AK,c1,Af,Ul,c2,k2,A3,Ao,Ae,AJ,AO,AN,AQ,sh,l1,ar,Aw,Ar,ld,u2,lV0]
 ·exact(f1.mono fun i h=>.inl h).trans (((f2.mono fun i h=>.inr h).from (h:=h1.marked) rfl rfl).same (h2:=h1.marked.back h2) rfl rfl |>.from (h:=h1) rfl rfl)
theorem aA:∀ n:Nat,BO F0.zero n=(vL (64*n) 0).map bv
 |0=>rfl
 |n+1=>by
  show F0.zero++BO F0.zero n=_;rw[aA n,VM,← v8,List.replicate_append_replicate]
  congr 2;omega
theorem oF:gP.zero=[.slice none 0 0,.map none,.int .i64 0,.bool false]:=by kernel_rfl
theorem cz{m:Nat}(W:h.Wf)(hn:1≤n∧n≤65536):
  ∃ h' bd bm bc,call AD (m+1) 35 [.int .i64 (n:Int)] h=.ok (.tuple ⟨[pt bd,.int .i64 0]⟩) h'∧h.Ext h'∧Dk h' bd bm bc n (vL (64*n) 0) 0 [] (-1) false∧h.next≤bd∧h.next≤bm∧h.next≤bc:=by
 have big:=W.big;have c1:iLt (n:Int) 1=false:=HI (by omega);have c2:iGt (n:Int) 65536=false:=Eq (by omega);have mk:∀ (F:ADS) (e:Env),AB 0 e=.int .i64 (n:Int)→GJ 64 F0.zero (AB 0) (AB 0) F e h=.ok (.slice (some ⟨h.next,0,none⟩) n n) (h.ADR 0 ((vL (64*n) 0).map bv)):=fun F e he=>by
  show Qf 64 F0.zero (Cz (AB 0 e)) (Cz (AB 0 e)) h=_;rw[he,Cu];unfold Qf;simp only;have e1:vJ n n=true:=Ab.2 (IN _);have e2:vJ (Nat.mul (vD n) (vD 64)) most=true:=Ab.2 (by show(n+1)*65≤1099511627776;omega);rw[e1,e2,aA];simp only[cond_true];rw[Cv W];rfl
 have x1:=(Hp.Ext.refl W).ADR 0 ((vL (64 * n) 0).map bv);have R1:=Hp.Row.new W 0 ((vL (64 * n) 0).map bv);have n1:(h.ADR 0 ((vL (64 * n) 0).map bv)).next=h.next+1:=rfl;generalize h.ADR 0 ((vL (64 * n) 0).map bv)=h1 at mk x1 R1 n1;have mp:∀ (F:ADS) (e:Env),We F e h1=.ok (.map (some h1.next)) (h1.push (.map [] 0)):=fun F e=>by
  unfold We;rw[Cp x1.wf]
 have y2:h1.Ext (h1.push (.map [] 0)):=(Hp.Ext.refl x1.wf).push _;have M2:(h1.push (.map [] 0)).bl.get h1.next=.map [] 0:=by rw[x1.wf.ADs,if_pos rfl]
 have n2:(h1.push (.map [] 0)).next=h1.next+1:=rfl;generalize h1.push (.map [] 0)=h2 at mp y2 M2 n2;have x2:=x1.trans y2;have bl:∀ (F:ADS) (e:Env),AB 11 e=.slice (some ⟨h.next,0,none⟩) n n→AB 12 e=.map (some h1.next)→Bs gP.zero [(0,1,AB 11),(1,1,AB 12),(2,1,kV (.int .i64 (-1)))] F e h2=.ok (.agg ⟨dkL h.next h1.next n (-1) false⟩) h2:=fun F e e1 e2=>by
  rw[EZ,oF,BD (hk:=by rw[e1];rfl),e1,BD (hk:=by rw[e2];rfl),e2,BD];simp only[show cellsOf (.slice (some ⟨h.next,0,none⟩) n n)=[.slice (some ⟨h.next,0,none⟩) n n]from rfl,show cellsOf (.map (some h1.next))=[.map (some h1.next)]from rfl,HN,Dc,wU,vI,wB,over,List.take,List.drop,List.append_eq,wL,List.cons_append,By,Nat.reduceLeDiff,if_true,CP,reduceIte];rfl
 have bx:∀ (F:ADS) (e:Env),AB 13 e=.agg ⟨dkL h.next h1.next n (-1) false⟩→C7 (AB 13) F e h2=.ok (pt h2.next) (h2.ADR 0 (dkL h.next h1.next n (-1) false)):=fun F e he=>by
  rw[E6,he,E3 x2.wf];rfl
 have y3:=(Hp.Ext.refl x2.wf).ADR 0 (dkL h.next h1.next n (-1) false);have R3:=Hp.Row.new x2.wf 0 (dkL h.next h1.next n (-1) false);generalize h2.ADR 0 (dkL h.next h1.next n (-1) false)=h3 at bx y3 R3;refine⟨h3,h2.next,h.next,h1.next,?_,x2.trans y3,⟨R3,(R1.ext x1.wf y2).ext x2.wf y3,xC,fun x hx=>by rw[List.eq_of_mem_replicate hx];decide,?_,⟨by omega,by omega,by omega⟩,hn⟩,by omega,IN _,by omega⟩
 ·rw[kH rfl]
  unfold d35;simp only[iN,By,sT,AT,AI,reduceIte,gD,AM,AK,c1,c2,mk,mp,bl,bx,Be,DB]
 ·rw[y3.get _ (by omega),M2];rfl
end
end
noncomputable section
open Go
set_option maxRecDepth 100000
theorem VT.ext:∀ (a b:VT),(∀ j,a.has j↔b.has j)→(∀ j,a.get j=b.get j)→a=b
 |.mt,.mt,_,_=>rfl
 |.mt,.nd v l r,h,_=>by
  have:=(h 0).2 (by unfold VT.has;trivial);unfold VT.has at this;exact this.elim
 |.nd v l r,.mt,h,_=>by
  have:=(h 0).1 (by unfold VT.has;trivial);unfold VT.has at this;exact this.elim
 |.nd v l r,.nd v' l' r',h,g=>by
  have e1:v=v':=g 0;have lo:∀ j,(2*j) % 2=0∧2*j/2=j:=fun j=>by omega
  have hi:∀ j,¬ (2*j+1) % 2=0∧(2*j+1)/2=j:=fun j=>by omega
  have e2:l=l':=VT.ext l l' (fun j=>by
   have:=h (2*j+1);rw[VT.ADb,VT.ADb,if_pos (lo j).1,if_pos (lo j).1,(lo j).2]at this;exact this) (fun j=>by
   have:=g (2*j+1);rw[VT.ADZ,VT.ADZ,if_pos (lo j).1,if_pos (lo j).1,(lo j).2]at this;exact this)
  have e3:r=r':=VT.ext r r' (fun j=>by
   have:=h (2*j+1+1);rw[VT.ADb,VT.ADb,if_neg (hi j).1,if_neg (hi j).1,(hi j).2]at this;exact this) (fun j=>by
   have:=g (2*j+1+1);rw[VT.ADZ,VT.ADZ,if_neg (hi j).1,if_neg (hi j).1,(hi j).2]at this;exact this)
  rw[e1,e2,e3]
theorem VT.AEw:∀ (t:VT) (i:Nat) (x:BY) (t':VT),t.set i x=some t'→t.has i→∀ j,t'.has j→t.has j
 |.mt,i,x,t',_,h,_,_=>by unfold VT.has at h;exact h.elim
 |.nd v l r,0,x,t',hs,_,j,hj=>by
  have hs:some (VT.nd x l r)=some t':=hs;cases hs;cases j with
  |zero=>unfold VT.has;trivial
  |succ k=>rw[VT.ADb]at hj ⊢;exact hj
 |.nd v l r,k+1,x,t',hs,h,j,hj=>by
  rw[VT.ADw]at hs;rw[VT.ADb]at h;by_cases hk:k % 2=0
  ·rw[if_pos hk]at hs h
   cases hl:l.set (k/2) x with
   |none=>rw[hl]at hs;cases hs
   |some l'=>
    rw[hl]at hs;cases hs;cases j with
    |zero=>unfold VT.has;trivial
    |succ m=>
     rw[VT.ADb]at hj ⊢;by_cases hm:m % 2=0
     ·rw[if_pos hm]at hj ⊢;exact VT.AEw l _ x l' hl h _ hj
     ·rw[if_neg hm]at hj ⊢;exact hj
  ·rw[if_neg hk]at hs h
   cases hl:r.set (k/2) x with
   |none=>rw[hl]at hs;cases hs
   |some l'=>
    rw[hl]at hs;cases hs;cases j with
    |zero=>unfold VT.has;trivial
    |succ m=>
     rw[VT.ADb]at hj ⊢;by_cases hm:m % 2=0
     ·rw[if_pos hm]at hj ⊢;exact hj
     ·rw[if_neg hm]at hj ⊢;exact VT.AEw r _ x l' hl h _ hj
theorem Kw:∀ (vs:List BY) (t:VT) (i:Nat),(∀ j,j<i+vs.length→t.has j)→∃ t',Bx t i vs=some t'∧(∀ j,t'.has j↔t.has j)∧∀ j,t'.get j=if i≤j∧j<i+vs.length then vs.getD (j - i) ADV else t.get j
 |[],t,i,h=>⟨t,rfl,fun _=>Iff.rfl,fun j=>by rw[if_neg (by simp only[wB];omega)]⟩
 |v::vs,t,i,h=>by
  simp only[vI]at h;have hh:∀ j,j<i→t.has j:=fun j hj=>h j (by omega)
  have hs:=VT.AD8 (x:=v) hh;have h1:∀ j,(t.lay i v).has j↔t.has j:=fun j=>⟨VT.AEw t i v _ hs (h i (by omega)) j,fun hj=>VT.AEb hh j (.inr hj)⟩
  obtain⟨t',a1,a2,a3⟩:=Kw vs (t.lay i v) (i+1) fun j hj=>(h1 j).2 (h j (by omega))
  refine⟨t',?_,fun j=>(a2 j).trans (h1 j),fun j=>?_⟩
  ·show(match t.set i v with|some t'=>Bx t' (vD i) vs|none=>none)=_
   rw[hs];exact a1
  ·rw[a3 j,VT.AEV hh]
   simp only[vI];by_cases c1:i+1≤j∧j<i+1+vs.length
   ·rw[if_pos c1,if_pos (by omega),show j - i=(j - (i+1))+1 by omega];rfl
   ·rw[if_neg c1]
    by_cases c2:j=i
    ·rw[if_pos c2,if_pos (by omega),c2,Nat.sub_self];rfl
    ·rw[if_neg c2,if_neg (by omega)]
section
variable {F:ADS}{e:Env}{h r:Hp}{k:Walk}{body:C}{b:Nat}
theorem OS{b n0:Nat}{r h1:Hp}{tr:Rds}:Vs b n0 r h1 tr=true↔Ye b n0 r h1:=by
 unfold Vs;split
 ·rename_i h _;exact⟨fun _=>h,fun _=>rfl⟩
 ·rename_i h _;exact⟨fun e=>(by cases e),fun e=>absurd e h⟩
theorem PS{f:Ent→Bool}:∀ {l:List Ent},(∀ x∈l,f x=true)→PR f l=true
 |[],_=>rfl
 |x::l,h=>by
  show(bif f x then PR f l else false)=true;rw[h x vG,PS fun y hy=>h y (vH _ hy)];rfl
theorem IV{fin:Hp→Rds→Bool}:∀ (n:Nat) (h:Hp) (tr:Rds),Kh k body F e b fin n h tr=true→∃ p,Sa k body F e b n h tr=some p∧fin p.1 p.2=true
 |0,h,tr,hx=>by cases hx
 |n+1,h,tr,hx=>by
  unfold Kh NZ at hx;unfold Sa NZ;cases hi:EA (h.bl.get b)with
  |no=>rw[hi]at hx;cases hx
  |cur _ _ _=>rw[hi]at hx;cases hx
  |pick _ _ _ _=>rw[hi]at hx;cases hx
  |ok m since seen last=>
   rw[hi]at hx;cases m with
   |none=>cases hx
   |some m=>
    simp only at hx ⊢;cases he:BP h m with
    |no=>rw[he]at hx;cases hx
    |ok es c=>
     rw[he]at hx;simp only at hx ⊢;cases q1:vO c since with
     |false=>rw[q1]at hx;cases hx
     |true=>
      cases q2:vO c last with
      |false=>rw[q1,q2]at hx;cases hx
      |true=>
       cases q3:E9 c 0 es with
       |false=>rw[q1,q2,q3]at hx;cases hx
       |true=>
        rw[q1,q2,q3]at hx;simp only[cond_true]at hx ⊢;cases hr:AD1 seen es with
        |nil=>rw[hr]at hx;exact⟨_,rfl,hx⟩
        |cons y l=>
         rw[hr]at hx;have hy:=Lf hx y vG;simp only;cases hst:N7 k body F e b m c seen h y with
         |none=>rw[hst]at hy;cases hy
         |some h1=>
          rw[hst]at hy;exact IV n h1 _ hy
theorem ST(W:h.Wf)(S:OG k body F e h b r)(hn:h.next≤r.next):
  ∃ h',Fk k body F e h b=.exit k.out (Env.set k.more (.bool false) (Cn e k.ws)) h'∧h'.Wf∧h'.next=r.next∧(∀ i,i<h.next→i≠b→h'.bl.get i=r.bl.get i)∧h'.mark=h.mark∧h'.low=min h.low r.low:=by
 obtain⟨p,hp,hend⟩:=IV _ _ _ S.2;obtain⟨q1,q2,q3,q4⟩:=OS.1 hend;have AFe:=W.big;unfold Fk;split
 case h_2=>rename_i hx _;exact absurd ⟨r,S⟩ hx
 rename_i hx _;have S':=AC6 hx;generalize ACt hx=r' at S';obtain⟨p',hp',AHR⟩:=IV _ _ _ S'.2;obtain rfl:p'=p:=by rw[hp]at hp';exact(Option.some.inj hp').symm
 obtain⟨t1,t2,t3,t4⟩:=OS.1 AHR;refine⟨_,rfl,⟨?_,S'.1,fun i hi=>?_⟩,t1.symm.trans q1,fun i hi hib=>?_,rfl,(BJ _ _).trans (by rw[t2,← q2])⟩
 ·show 256≤r'.next;omega
 ·have hi:r'.next≤i:=hi
  show r'.bl.get i=_;rw[t4,if_pos (by omega)]
 ·show r'.bl.get i=_
  rw[t4,q4]
end
end
noncomputable section
open Go
set_option maxRecDepth 100000
def FU(M:List Nat)(k:Nat)(l:List Nat):List Nat:=M.take (64*k)++l++M.drop (64*k+64)
def Er:List Nat→List (Nat×List Nat)→List Nat
 |M,[]=>M
 |M,y::cs=>Er (FU M y.1 y.2) cs
def AEk(cs:List (Nat×List Nat)):Prop:=∀ (i j:Nat) (y z:Nat×List Nat),cs[i]? =some y→cs[j]? =some z→y.1=z.1→i=j
def AEC(n:Nat)(cs:List (Nat×List Nat)):Prop:=∀ y∈cs,y.1<n∧y.2.length=64∧∀ x∈y.2,x<256
theorem Cg{M l:List Nat}{n k:Nat}(hM:M.length=64*n)(hk:k<n)(hl:l.length=64):(FU M k l).length=64*n:=by
 unfold FU;rw[IT,IT,vp,wG];omega
theorem Uz{M l:List Nat}{k:Nat}(hM:∀ x∈M,x<256)(hl:∀ x∈l,x<256):∀ x∈FU M k l,x<256:=fun x hx=>by
 rcases va.1 hx with hx|hx
 ·rcases va.1 hx with hx|hx
  ·exact hM x (wu hx)
  ·exact hl x hx
 ·exact hM x (ze hx)
theorem C9{M l:List Nat}{n k p:Nat}(hM:M.length=64*n)(hk:k<n)(hl:l.length=64):(FU M k l).getD p 0=if p/64=k then l.getD (p % 64) 0 else M.getD p 0:=by
 unfold FU;have e1:(M.take (64*k)).length=64*k:=by rw[vp];omega
 simp only[OF];by_cases h:p/64=k
 ·rw[if_pos h,vX,ve (by omega),vP (by omega),e1,show p - 64*k=p % 64 by omega]
 ·rw[if_neg h]
  rcases Nat.lt_or_ge p (64*k)with hp|hp
  ·rw[vX,vP (by omega),yA,if_pos hp]
  ·rw[ve (by rw[IT];omega),yj,IT,e1,hl]
   congr 2;omega
theorem FC:∀ {cs:List (Nat×List Nat)} {M:List Nat} {n:Nat},M.length=64*n→AEC n cs→(Er M cs).length=64*n
 |[],_,_,h,_=>h
 |y::cs,M,n,h,hc=>FC (cs:=cs) (Cg h (hc y vG).1 (hc y vG).2.1) fun z hz=>hc z (vH _ hz)
theorem QU:∀ {cs:List (Nat×List Nat)} {M:List Nat} {n:Nat},(∀ x∈M,x<256)→AEC n cs→∀ x∈Er M cs,x<256
 |[],_,_,h,_=>h
 |y::cs,M,n,h,hc=>QU (cs:=cs) (n:=n) (Uz h (hc y vG).2.2) fun z hz=>hc z (vH _ hz)
theorem AEk.tail{y:Nat×List Nat}{cs:List (Nat×List Nat)}(h:AEk (y::cs)):AEk cs∧∀ z∈cs,z.1≠y.1:=⟨fun i j a b h1 h2 h3=>by
 have:=h (i+1) (j+1) a b (by rw[wE];exact h1) (by rw[wE];exact h2) h3;omega,fun z hz e=>by
 obtain⟨i,hi⟩:=zX.1 hz;have:=h (i+1) 0 z y (by rw[wE];exact hi) rfl e;omega⟩
theorem Hv:∀ {cs:List (Nat×List Nat)} {M:List Nat} {n p:Nat},M.length=64*n→AEC n cs→(∀ y∈cs,p/64≠y.1)→(Er M cs).getD p 0=M.getD p 0
 |[],_,_,_,_,_,_=>rfl
 |y::cs,M,n,p,h,hc,hp=>by
  obtain⟨c1,c2,c3⟩:=hc y vG;show(Er (FU M y.1 y.2) cs).getD p 0=_;rw[Hv (cs:=cs) (Cg h c1 c2) (fun z hz=>hc z (vH _ hz)) fun z hz=>hp z (vH _ hz),C9 h c1 c2,if_neg (hp y vG)]
theorem QT:∀ {cs:List (Nat×List Nat)} {M:List Nat} {n:Nat},M.length=64*n→AEC n cs→AEk cs→∀ y∈cs,∀ q,q<64→(Er M cs).getD (64*y.1+q) 0=y.2.getD q 0
 |[],_,_,_,_,_,_,hy,_,_=>by cases hy
 |z::cs,M,n,h,hc,hK,y,hy,q,hq=>by
  obtain⟨c1,c2,c3⟩:=hc z vG;obtain⟨k1,k2⟩:=hK.tail;show(Er (FU M z.1 z.2) cs).getD _ 0=_;rcases vS.1 hy with rfl|hy
  ·rw[Hv (cs:=cs) (Cg h c1 c2) (fun z hz=>hc z (vH _ hz)) (fun z hz=>by have:=k2 z hz;omega),C9 h c1 c2,if_pos (by omega),show(64*y.1+q) % 64=q by omega]
  ·exact QT (Cg h c1 c2) (fun z hz=>hc z (vH _ hz)) k1 y hy q hq
def AEG(T0:VT)(done:List (Nat×List Nat))(T:VT):Prop:=(∀ j,T.has j↔T0.has j)∧(∀ y∈done,∀ q,q<64→T.get (64*y.1+q)=bv (y.2.getD q 0))∧∀ p,(∀ y∈done,p/64≠y.1)→T.get p=T0.get p
theorem AEG.nil(T:VT):AEG T [] T:=⟨fun _=>Iff.rfl,fun y hy=>(by cases hy),fun _ _=>rfl⟩
theorem AEG.step{T0 T:VT}{done:List (Nat×List Nat)}{k s:Nat}{l:List Nat}(h:AEG T0 done T)(hh:∀ j,j<s→T0.has j)(hk:64*k+64≤s)(hl:l.length=64)(hd:∀ y∈done,y.1≠k):∃ T',Bx T (64*k) (l.map bv)=some T'∧AEG T0 (done++[(k,l)]) T':=by
 have hll:(l.map bv).length=64:=by rw[If,hl]
 obtain⟨T',a1,a2,a3⟩:=Kw (l.map bv) T (64*k) fun j hj=>(h.1 j).2 (hh j (by omega))
 refine⟨T',a1,fun j=>(a2 j).trans (h.1 j),fun y hy q hq=>?_,fun p hp=>?_⟩
 ·rw[a3,hll]
  rcases va.1 hy with hy|hy
  ·rw[if_neg (by have:=hd y hy;omega)]
   exact h.2.1 y hy q hq
  ·obtain rfl:=vM.1 hy
   have hq':64*k+q - 64*k=q:=by omega
   rw[if_pos ⟨Nat.le_add_right _ _,by show 64*k+q<_;omega⟩];show(l.map bv).getD (64*k+q - 64*k) ADV=bv (l.getD q 0);rw[hq',OF,wN,OF,No (by omega)];rfl
 ·have:=hp (k,l) (vV _ (vM.2 rfl))
  rw[a3,hll,if_neg (by show ¬ _;have:p/64≠k:=this;omega)];exact h.2.2 p fun y hy=>hp y (vk _ hy)
theorem AEG.uniq{T0 T T':VT}{a b:List (Nat×List Nat)}(h:AEG T0 a T)(h':AEG T0 b T')(hm:∀ y,y∈a↔y∈b):T=T':=by
 refine VT.ext _ _ (fun j=>(h.1 j).trans (h'.1 j).symm) fun p=>?_
 by_cases hp:∃ y∈a,p/64=y.1
 ·obtain⟨y,hy,he⟩:=hp
  have h1:=h.2.1 y hy (p % 64) (by omega);have h2:=h'.2.1 y ((hm y).1 hy) (p % 64) (by omega);rw[show 64*y.1+p % 64=p by omega]at h1 h2;rw[h1,h2]
 ·rw[h.2.2 p fun y hy he=>hp ⟨y,hy,he⟩,h'.2.2 p fun y hy he=>hp ⟨y,(hm y).2 hy,he⟩]
theorem AEG.all{T0:VT}{n:Nat}(hh:∀ j,j<64*n→T0.has j):∀ (cs done:List (Nat×List Nat)) (T:VT),AEG T0 done T→AEC n cs→AEk cs→(∀ y∈cs,∀ z∈done,z.1≠y.1)→∃ T',AEG T0 (done++cs) T'
 |[],done,T,h,_,_,_=>⟨T,by rw[vR];exact h⟩
 |y::cs,done,T,h,hc,hK,hd=>by
  obtain⟨c1,c2,c3⟩:=hc y vG;obtain⟨k1,k2⟩:=hK.tail;obtain⟨T1,_,h1⟩:=h.step hh (k:=y.1) (l:=y.2) (by omega) c2 (hd y vG);obtain⟨T2,h2⟩:=AEG.all hh cs (done++[(y.1,y.2)]) T1 h1 (fun z hz=>hc z (vH _ hz)) k1 fun z hz w hw=>by
   rcases va.1 hw with hw|hw
   ·exact hd z (vH _ hz) w hw
   ·obtain rfl:=vM.1 hw
    exact fun e=>k2 z hz e.symm
  exact⟨T2,by rw[vX]at h2;exact h2⟩
theorem AEG.is{T0 T:VT}{M:List Nat}{n:Nat}{cs:List (Nat×List Nat)}(h:AEG T0 cs T)(hT:T0.Is (M.map bv))(hM:M.length=64*n)(hc:AEC n cs)(hK:AEk cs):T.Is ((Er M cs).map bv):=fun p hp=>by
 rw[If,FC hM hc]at hp;have hp0:=hT p (by rw[If];omega);refine⟨(h.1 p).2 hp0.1,?_⟩;have e1:∀ L:List Nat,p<L.length→(L.map bv).getD p ADV=bv (L.getD p 0):=fun L hL=>by
  rw[OF,wN,OF,No hL];rfl
 rw[e1 _ (by rw[FC hM hc];exact hp)];by_cases hq:∃ y∈cs,p/64=y.1
 ·obtain⟨y,hy,he⟩:=hq
  have h1:=h.2.1 y hy (p % 64) (by omega);have h2:=QT hM hc hK y hy (p % 64) (by omega);rw[show 64*y.1+p % 64=p by omega]at h1 h2;rw[h1,h2]
 ·rw[h.2.2 p fun y hy he=>hq ⟨y,hy,he⟩,Hv hM hc fun y hy he=>hq ⟨y,hy,he⟩,hp0.2,e1 _ (by omega)]
theorem I8:∀ (cs:List (Nat×List Nat)) (c:Nat),(ADd c cs).length=cs.length
 |[],_=>rfl
 |x::cs,c=>by show(ADd (c+1) cs).length+1=_;rw[I8 cs];rfl
theorem Pr:∀ {cs:List (Nat×List Nat)} {c:Nat} {x:Ent},x∈ADd c cs→∃ (i:Nat) (y:Nat×List Nat),cs[i]? =some y∧x=⟨.int .i64 (y.1:Int),Cy y.2,c+i⟩
 |[],_,_,h=>by cases h
 |y::cs,c,x,h=>by
  rcases vS.1 h with h|h
  ·exact⟨0,y,rfl,h⟩
  ·obtain⟨i,z,h1,h2⟩:=Pr h
   exact⟨i+1,z,by rw[wE];exact h1,by rw[h2,ACX,ACo 1]⟩
theorem Hq:∀ {cs:List (Nat×List Nat)} {c i:Nat} {y:Nat×List Nat},cs[i]? =some y→GD (c+i) (ADd c cs)=some ⟨.int .i64 (y.1:Int),Cy y.2,c+i⟩
 |[],_,_,_,h=>by cases h
 |z::cs,c,0,y,h=>by
  have h:some z=some y:=h;cases h;show(bif vO c (c+0)then some (⟨.int .i64 (z.1:Int),Cy z.2,c⟩:Ent)else GD (c+0) (ADd (c+1) cs))=_;rw[xM,wz];rfl
 |z::cs,c,i+1,y,h=>by
  rw[wE]at h;show(bif vO c (c+(i+1))then some (⟨.int .i64 (z.1:Int),Cy z.2,c⟩:Ent)else GD (c+(i+1)) (ADd (c+1) cs))=_;have:vO c (c+(i+1))=false:=by
   cases e:vO c (c+(i+1))
   ·rfl
   ·have:=Am.1 e;omega
  rw[this,show c+(i+1)=c+1+i by omega];exact Hq h
theorem Kv:∀ {cs:List (Nat×List Nat)} {c lo clk:Nat},lo≤c→c+cs.length≤clk→E9 clk lo (ADd c cs)=true
 |[],_,_,_,_,_=>rfl
 |x::cs,c,lo,clk,h1,h2=>by
  rw[vI]at h2;show(bif vJ lo c then(bif Nat.blt c clk then E9 clk (vD c) (ADd (c+1) cs)else false)else false)=true;rw[Ab.2 h1,A9.2 (by omega)];exact Kv (IN _) (by omega)
theorem Fq{n:Nat}:∀ {l:List Nat},Fe n l=true↔n∈l
 |[]=>⟨fun h=>(by cases h),fun h=>(by cases h)⟩
 |x::l=>by
  show(bif vO x n then true else Fe n l)=true↔_;cases h:vO x n with
  |true=>exact⟨fun _=>by rw[Am.1 h];exact vG,fun _=>rfl⟩
  |false=>
   refine Iff.trans (Fq (l:=l)) ⟨fun h1=>vH _ h1,fun h1=>?_⟩;rcases vS.1 h1 with h1|h1
   ·rw[h1,wz]at h;cases h
   ·exact h1
theorem Mr{seen:List Nat}:∀ {es:List Ent} {x:Ent},x∈AD1 seen es→x∈es∧x.born∉seen
 |[],_,h=>by cases h
 |y::es,x,h=>by
  have h:x∈(bif Fe y.born seen then AD1 seen es else y::AD1 seen es):=h;cases hm:Fe y.born seen with
  |true=>
   rw[hm]at h;obtain⟨h1,h2⟩:=Mr (es:=es) h;exact⟨vH _ h1,h2⟩
  |false=>
   rw[hm]at h;rcases vS.1 h with h|h
   ·subst h
    exact⟨vG,fun h1=>by rw[Fq.2 h1]at hm;cases hm⟩
   ·obtain⟨h1,h2⟩:=Mr (es:=es) h
    exact⟨vH _ h1,h2⟩
theorem Ny{seen:List Nat}{s:Nat}:∀ {cs:List (Nat×List Nat)} {c:Nat},s<c→AD1 (seen++[s]) (ADd c cs)=AD1 seen (ADd c cs)
 |[],_,_=>rfl
 |x::cs,c,h=>by
  show(bif Fe c (seen++[s])then AD1 (seen++[s]) (ADd (c+1) cs)else _::AD1 (seen++[s]) (ADd (c+1) cs))=(bif Fe c seen then AD1 seen (ADd (c+1) cs)else _::AD1 seen (ADd (c+1) cs));rw[Ny (cs:=cs) (by omega)];have:Fe c (seen++[s])=Fe c seen:=by
   rw[xI,Fq,Fq,va,vM];exact⟨fun h1=>h1.elim (fun h=>h) fun h1=>by omega,.inl⟩
  rw[this]
theorem RN{seen:List Nat}{i:Nat}:∀ {cs:List (Nat×List Nat)} {c:Nat},i<cs.length→c+i∉seen→(AD1 (seen++[c+i]) (ADd c cs)).length+1=(AD1 seen (ADd c cs)).length
 |[],_,h,_=>by cases h
 |x::cs,c,h,hs=>by
  show(bif Fe c (seen++[c+i])then AD1 (seen++[c+i]) (ADd (c+1) cs)else _::AD1 (seen++[c+i]) (ADd (c+1) cs)).length+1=(bif Fe c seen then AD1 seen (ADd (c+1) cs)else _::AD1 seen (ADd (c+1) cs)).length;cases i with
  |zero=>
   simp only[xM]at hs ⊢;have h1:Fe c seen=false:=by
    cases e:Fe c seen
    ·rfl
    ·exact absurd (Fq.1 e) hs
   have h2:Fe c (seen++[c])=true:=Fq.2 (vV _ (vM.2 rfl));rw[h1,h2,Ny (cs:=cs) (Nat.lt_succ_self c)];rfl
  |succ i=>
   have h1:Fe c (seen++[c+(i+1)])=Fe c seen:=by
    rw[xI,Fq,Fq,va,vM];exact⟨fun h1=>h1.elim (fun h=>h) fun h1=>by omega,.inl⟩
   have e:c+(i+1)=c+1+i:=by omega
   rw[e]at hs h1 ⊢;have ih:=RN (seen:=seen) (i:=i) (cs:=cs) (c:=c+1) (by simp only[vI]at h;omega) hs;rw[h1];cases Fe c seen with
   |true=>exact ih
   |false=>exact congrArg (· +1) ih
theorem KV:∀ (es:List Ent),AD1 [] es=es
 |[]=>rfl
 |x::es=>by
  show x::AD1 [] es=_;rw[KV es]
end
noncomputable section
open Go
set_option maxRecDepth 100000
def fB:C:=(AG (AC 22) (Gz (AB 21))
(AG (AC 23) (Aj 0 (AB 22))
(AY (AB 23)
(Ad 1 (AG (AC 24) (Ie (AB 21))
(AG (AC 25) (Aj 0 (AB 24))
(AG (AC 26) (Aj 1 (AB 24))
(AG (AC 6) (Bv 64 Fb)
(AG (AC 5) (AE (AB 25))
(cDo (Au 64 (AB 6) (AB 26))
(CJ (AG (AC 28) (Bf (AB 0))
(AG (AC 29) (AH 0 (AB 28))
(AG (AC 30) (AP (AB 29))
(AG (AC 32) (Bb 64 (AB 6))
(AG (AC 33) (CD 64 (AB 30) (AB 5))
(cDo (Al .free (Au 64 (AB 33) (AB 32)))
Av))))))))))))))
(CA 0))))
def fK:Walk:=⟨21,22,23,0,[22,23,24,25,26,6,5,27,28,29,30,31,32,33],[]⟩
theorem gz:fW=Iv fK fB:=rfl
theorem qR:fS=BK (Ad 0 fW) fE:=rfl
theorem YJ:d76=YK:=rfl
section
variable {F:ADS}{e:Env}{g g1:Hp}{it bd bm bc n k:Nat}{l:List Nat}{T:VT}{arm:Int}{dn:Bool}
theorem TQ{q:Hp}{s el off:Nat}{vs:List BY}{T':VT}(W:q.Wf)(hT:q.bl.get bm=.cells T s el)(ADx:Bx T off vs=some T')(ho:off+vs.length≤s)(h1:Bd vs=true)(ADg:256≤bm)(hb:bm<q.next){K:Hp→R}:Ci ⟨bm,off,none⟩ vs q K=K (q.put bm (.cells T' s el)):=by
 have hr:rowOf q bm=.ok T s el:=by unfold rowOf;rw[hT];rfl
 unfold Ci;simp only[hr,Nat.add_eq];rw[BI,Ab.2 ho,h1];simp only[cond_true,ADx];rw[Df W ADg hb]
theorem P8(W1:g1.Wf)(s0:AB 0 e=pt bd)(s21:AB 21 e=pt it)
  (nx:∀ e,AB 21 e=pt it→Gz (AB 21) F e g=.ok (.tuple ⟨[.bool true,.int .i64 (k:Int),Cy l]⟩) g1)
  (en:∀ e,AB 21 e=pt it→Ie (AB 21) F e g1=.ok (.tuple ⟨[.int .i64 (k:Int),Cy l]⟩) g1)
  (D:g1.Row bd 0 (dkL bm bc n arm dn))(hT:g1.bl.get bm=.cells T (64*n) 0){T':VT}(hs:Bx T (64*k) (l.map bv)=some T')(hk:k<n)(hl:l.length=64)(ADg:256≤bm)(hbm:bm<g1.next):
  ∃ e' g',fB F e g=.norm e' g'∧AB 0 e'=pt bd∧AB 21 e'=pt it∧g'.Wf∧g'.next=g1.next+1∧g'.bl.get bm=.cells T' (64*n) 0∧(∀ i,i<g1.next→i≠bm→g'.bl.get i=g1.bl.get i)∧g'.low=min (min g1.low g1.next) bm∧g'.high=max (max g1.high g1.next) bm:=by
 have big:=W1.big;have hll:(l.map bv).length=64:=by rw[If,hl]
 have al:=fun (F:ADS) (e:Env)=>Bm (F:=F) (e:=e) W1 (n:=64) (t:=Fb)
 have R1:=Hp.Row.alloc W1 SC (by rw[If,xC]);have x1:g1.Ext (g1.push (.cells Fb 64 0)):=(Hp.Ext.refl W1).push _;have n1:(g1.push (.cells Fb 64 0)).next=g1.next+1:=rfl;have lo1:(g1.push (.cells Fb 64 0)).low=g1.low:=rfl;have hi1:(g1.push (.cells Fb 64 0)).high=g1.high:=rfl;generalize g1.push (.cells Fb 64 0)=g2 at al R1 x1 n1 lo1 hi1;have hz:((vL 64 0).map bv).length=64:=by rw[If,xC]
 have st:ADl 64 (pt g1.next) (Cy l) g2=.ok ADV (g2.wr g1.next 0 (l.map bv)):=R1.ADl (n:=64) (off:=0) x1.wf big (v:=Cy l) hll (by show 0+(l.map bv).length≤_;omega) (Ct _);have x2:=R1.AD5 x1 (IN _) (off:=0) (vs:=l.map bv) (by omega);have R2:=R1.ADm x1.wf (off:=0) (vs:=l.map bv) (by omega);rw[KT (by omega)]at R2;have n2:(g2.wr g1.next 0 (l.map bv)).next=g1.next+1:=(R1.AD9 (by omega)).trans n1;obtain⟨_,_,ew,_⟩:=R1.AEh (off:=0) (vs:=l.map bv) (by omega);have lo2:(g2.wr g1.next 0 (l.map bv)).low=min g1.low g1.next:=by
  rw[ew];show B4 g2.low g1.next=_;rw[BJ,lo1]
 have hi2:(g2.wr g1.next 0 (l.map bv)).high=max g1.high g1.next:=by
  rw[ew];show Co g2.high g1.next=_;rw[Bw,hi1]
 generalize g2.wr g1.next 0 (l.map bv)=g3 at st x2 R2 n2 lo2 hi2;have D3:g3.marked.Row bd 0 (dkL bm bc n arm dn):=(D.ext W1 x2).same rfl;obtain⟨l0,_,_,_⟩:=CL D3;have R3:g3.marked.Row g1.next 0 (l.map bv):=R2.same rfl;have ld:loadN 64 ⟨g1.next,0,none⟩ g3.marked=.ok (Cy l) g3.marked:=by
  rw[R3.loadN (by omega),wM,List.take_of_length_le (by omega)];rfl
 have ix:AEP 64 (.slice (some ⟨bm,0,none⟩) n n) (.int .i64 (k:Int)) g3.marked=.ok (.pointer (some ⟨bm,0+k*64,none⟩)) g3.marked:=DD hk;rw[sh,wj]at ix;have hTq:g3.marked.quiet.bl.get bm=.cells T (64*n) 0:=by
  show g3.bl.get bm=_;rw[x2.get bm hbm];exact hT
 have sq:ADl 64 (.pointer (some ⟨bm,64*k,none⟩)) (Cy l) g3.marked.quiet=.ok ADV (g3.marked.quiet.put bm (.cells T' (64*n) 0)):=by
  show(bif vO (A8 (l.map bv)) 64 then Ci ⟨bm,64*k,none⟩ (l.map bv) g3.marked.quiet Dj else .no)=_;rw[BI,Am.2 hll,cond_true,TQ x2.wf.marked.quiet hTq hs (by omega) (Ct _) ADg (by show bm<g3.next;omega)];rfl
 have q1:∀ (F:ADS) (e:Env),AB 33 e=.pointer (some ⟨bm,64*k,none⟩)→AB 32 e=Cy l→Al .free (Au 64 (AB 33) (AB 32)) F e g3.marked=.ok ADV (g3.marked.back (g3.marked.quiet.put bm (.cells T' (64*n) 0))):=fun F e e1 e2=>by
  refine BQ ?_;rw[Aa,e1,e2];exact sq
 have pg:=x2.wf.marked.quiet.AD0 (b:=bm) (show bm<g3.next by omega) (.cells T' (64*n) 0);have pw:=x2.wf.marked.quiet.put (b:=bm) (show bm<g3.next by omega) (.cells T' (64*n) 0);have AHQ:(g3.marked.back (g3.marked.quiet.put bm (.cells T' (64*n) 0))).low=min (min g1.low g1.next) bm:=by
  show B4 g3.low (B4 g3.next bm)=_;rw[BJ,BJ,lo2,n2];omega
 have AF4:(g3.marked.back (g3.marked.quiet.put bm (.cells T' (64*n) 0))).high=max (max g1.high g1.next) bm:=by
  show Co g3.high (Co 0 bm)=_;rw[Bw,Bw,hi2];omega
 have hrun:∃ e',fB F e g=.norm e' (g3.marked.back (g3.marked.quiet.put bm (.cells T' (64*n) 0)))∧AB 0 e'=pt bd∧AB 21 e'=pt it:=by
  unfold fB;have nx':=fun e he=>nx e he
  simp only[sT,AT,AI,reduceIte,nx e s21,BL,BR,Ba,C5,en,s21,al,Aa,st,A3,Ao,s0,Ae,AJ,AO,AN,AQ,l0,Aw,Ar,ld,A1,ix,q1];exact⟨_,rfl,by simp[AF,s0,s21]⟩
 obtain⟨e',r1,r2,r3⟩:=hrun;refine⟨e',_,r1,r2,r3,⟨pw.big,pw.has,pw.fresh⟩,by show g3.next=_;exact n2,?_,fun i hi hib=>?_,AHQ,AF4⟩
 ·show(g3.marked.quiet.put bm _).bl.get bm=_
  rw[pg,if_pos rfl]
 ·show(g3.marked.quiet.put bm _).bl.get i=_
  rw[pg,if_neg hib];exact x2.get i hi
end
end
noncomputable section
open Go
set_option maxRecDepth 100000
section
variable {F:ADS}{e:Env}{h g g1:Hp}{it bd bm bc n k c0:Nat}{l seen:List Nat}{T T0:VT}{cs:List (Nat×List Nat)}{arm:Int}{dn:Bool}
structure FlB (h:Hp)(it bd bm bc n c0:Nat)(cs:List (Nat×List Nat))(arm:Int)(dn:Bool)(T0:VT):Prop where
 wf:h.Wf
 nx:h.next=it+1
 itr:h.bl.get it=.iter (some bc) (c0+cs.length) [] (c0+cs.length)
 disk:h.Row bd 0 (dkL bm bc n arm dn)
 med:h.bl.get bm=.cells T0 (64*n) 0
 has:∀ j,j<64*n→T0.has j
 map:h.bl.get bc=.map (ADd c0 cs) (c0+cs.length)
 lt:bd<it∧bm<it∧bc<it
 ne:bd≠bm∧bc≠bm
 big:256≤bm∧256≤it
 sec:AEC n cs
 key:AEk cs
structure FlI (h:Hp)(it bm bc n c0:Nat)(cs:List (Nat×List Nat))(T0:VT)(seen:List Nat)(g:Hp):Prop where
 wf:g.Wf
 nx:g.next=h.next+seen.length
 lh:(seen=[]∧g.low=h.next∧g.high=0)∨(seen≠[]∧g.low=bm∧g.high+1=h.next+seen.length)
 itr:g.bl.get it=.iter (some bc) (c0+cs.length) seen (c0+cs.length)
 old:∀ i,i<h.next→i≠it→i≠bm→g.bl.get i=h.bl.get i
 med:∃ (T:VT) (done:List (Nat×List Nat)),g.bl.get bm=.cells T (64*n) 0∧AEG T0 done T∧∀ y,y∈done↔∃ i:Nat,cs[i]? =some y∧c0+i∈seen
 cnt:seen.length+(AD1 seen (ADd c0 cs)).length=cs.length
theorem MQ{s:Nat}:∀ l:List Nat,QV (l++[s])=some s
 |[]=>rfl
 |[x]=>rfl
 |x::y::l=>MQ (y::l)
theorem RH(s:Nat):∀ l:List Nat,JW s l=l++[s]
 |[]=>rfl
 |x::l=>congrArg (x:: ·) (RH s l)
theorem Ms{h g:Hp}{b el:Nat}{L:List BY}(r:h.Row b el L)(hb:g.bl.get b=h.bl.get b):g.Row b el L:=by
 obtain⟨c,hc,hl⟩:=r;exact⟨c,hb.trans hc,hl⟩
theorem ZJ{g:Hp}{it:Nat}{v:R}(hv:GI ⟨it,0,none⟩ g=v){e:Env}(he:AB 21 e=pt it):Gz (AB 21) F e g=v:=by
 show(match Dh (AB 21 e)with|.ok a=>bif vO a.off 0 then GI a g else .no|.no=>.no)=_;rw[he];exact hv
theorem gx{g:Hp}{it:Nat}{v:R}(hv:J4 ⟨it,0,none⟩ g=v){e:Env}(he:AB 21 e=pt it):Ie (AB 21) F e g=v:=by
 show(match Dh (AB 21 e)with|.ok a=>bif vO a.off 0 then J4 a g else .no|.no=>.no)=_;rw[he];exact hv
theorem Pq{g:Hp}{it i:Nat}{y:Nat×List Nat}(hi:cs[i]? =some y){s0:Nat}(hit:g.bl.get it=.iter (some bc) s0 (seen++[c0+i]) (c0+cs.length))(hm:g.bl.get bc=.map (ADd c0 cs) (c0+cs.length)):J4 ⟨it,0,none⟩ g=.ok (.tuple ⟨[.int .i64 (y.1:Int),Cy y.2]⟩) g:=by
 have hib:EA (g.bl.get it)=.ok (some bc) s0 (seen++[c0+i]) (c0+cs.length):=by rw[hit];rfl
 have he:BP g bc=.ok (ADd c0 cs) (c0+cs.length):=by unfold BP;rw[hm];rfl
 unfold J4;simp only[hib,MQ];unfold Ho;simp only[he,wz,cond_true,Hq hi]
theorem Tp:AB 0 (Cn e fK.ws)=AB 0 e∧AB 21 (Cn e fK.ws)=AB 21 e:=by
 constructor
 ·simp[fK,Cn,AF]
 ·simp[fK,Cn,AF]
theorem dP(B:FlB h it bd bm bc n c0 cs arm dn T0)(I:FlI h it bm bc n c0 cs T0 seen g)(s0:AB 0 e=pt bd)(s21:AB 21 e=pt it){x:Ent}(hx:x∈AD1 seen (ADd c0 cs)):
  ∃ h1,N7 fK fB F e it bc (c0+cs.length) seen g x=some h1∧FlI h it bm bc n c0 cs T0 (seen++[x.born]) h1:=by
 obtain⟨hx1,hns⟩:=Mr hx;obtain⟨i,y,hi,rfl⟩:=Pr hx1;have hns:c0+i∉seen:=hns;obtain⟨y1,y2,y3⟩:=B.sec y (vN hi);have hil:i<cs.length:=(vW.1 hi).1;obtain⟨T,done,t1,t2,t3⟩:=I.med;have hnd:∀ z∈done,z.1≠y.1:=fun z hz he=>by
  obtain⟨j,j1,j2⟩:=(t3 z).1 hz;have:=B.key j i z y j1 hi he;rw[this]at j2;exact hns j2
 obtain⟨T',hs,ht'⟩:=t2.step B.has (k:=y.1) (l:=y.2) (by omega) y2 hnd;have hnx:=I.nx;have hbn:=B.nx;have hlt:=B.lt;have hne:=B.ne;have AFe:=B.big;have AIA:it<g.next:=by omega
 have W0:=I.wf.put AIA (.pick bc (c0+i) (c0+cs.length) (some seen));have P0:=I.wf.AD0 AIA (.pick bc (c0+i) (c0+cs.length) (some seen));have e1:g.bl.set it (.pick bc (c0+i) (c0+cs.length) (some seen))=some (g.bl.lay it (.pick bc (c0+i) (c0+cs.length) (some seen))):=BT.AD8 fun j hj=>I.wf.has j (by omega)
 have lo0:(g.put it (.pick bc (c0+i) (c0+cs.length) (some seen))).low=min g.low it:=BJ _ _;have hi0:(g.put it (.pick bc (c0+i) (c0+cs.length) (some seen))).high=max g.high it:=Bw _ _;have n0:(g.put it (.pick bc (c0+i) (c0+cs.length) (some seen))).next=g.next:=rfl;have eg:(⟨g.next,B4 g.low it,Co g.high it,g.mark,g.bl.lay it (.pick bc (c0+i) (c0+cs.length) (some seen))⟩:Hp)=g.put it (.pick bc (c0+i) (c0+cs.length) (some seen)):=rfl;generalize g.put it (.pick bc (c0+i) (c0+cs.length) (some seen))=g0 at W0 P0 lo0 hi0 n0 eg;have e2:g0.bl.set it (.iter (some bc) (c0+cs.length) (seen++[c0+i]) (c0+cs.length))=some (g0.bl.lay it (.iter (some bc) (c0+cs.length) (seen++[c0+i]) (c0+cs.length))):=BT.AD8 fun j hj=>W0.has j (by omega)
 have G2:∀ j,(g0.bl.lay it (.iter (some bc) (c0+cs.length) (seen++[c0+i]) (c0+cs.length))).get j=if j=it then .iter (some bc) (c0+cs.length) (seen++[c0+i]) (c0+cs.length)else g0.bl.get j:=BT.AEV fun j hj=>W0.has j (by omega)
 have W2:(⟨g0.next,g0.low,g0.high,g0.mark,g0.bl.lay it (.iter (some bc) (c0+cs.length) (seen++[c0+i]) (c0+cs.length))⟩:Hp).Wf:=⟨W0.big,fun j hj=>BT.AEb (fun j hj=>W0.has j (by omega)) j (.inr (W0.has j hj)),fun j hj=>by
  have hj:g0.next≤j:=hj;show(g0.bl.lay _ _).get j=_;rw[G2,if_neg (by omega)];exact W0.fresh j hj⟩
 have AGZ:g0.bl.get bc=.map (ADd c0 cs) (c0+cs.length):=by rw[P0,if_neg (by omega),I.old bc (by omega) (by omega) hne.2];exact B.map
 have nxv:GI ⟨it,0,none⟩ g0=.ok (.tuple ⟨[.bool true,.int .i64 (y.1:Int),Cy y.2]⟩) ⟨g0.next,g0.low,g0.high,g0.mark,g0.bl.lay it (.iter (some bc) (c0+cs.length) (seen++[c0+i]) (c0+cs.length))⟩:=by
  have hib:EA (g0.bl.get it)=.pick bc (c0+i) (c0+cs.length) (some seen):=by rw[P0,if_pos rfl];rfl
  have he:BP g0 bc=.ok (ADd c0 cs) (c0+cs.length):=by unfold BP;rw[AGZ];rfl
  have hp:Mi bc (c0+i) (c0+cs.length) (some seen)=.iter (some bc) (c0+cs.length) (seen++[c0+i]) (c0+cs.length):=by unfold Mi;simp only[RH]
  unfold GI;simp only[hib,he,Hq hi,hp,e2]
 have lo2:(⟨g0.next,g0.low,g0.high,g0.mark,g0.bl.lay it (.iter (some bc) (c0+cs.length) (seen++[c0+i]) (c0+cs.length))⟩:Hp).low=min g.low it:=lo0;have hi2:(⟨g0.next,g0.low,g0.high,g0.mark,g0.bl.lay it (.iter (some bc) (c0+cs.length) (seen++[c0+i]) (c0+cs.length))⟩:Hp).high=max g.high it:=hi0;have n2:(⟨g0.next,g0.low,g0.high,g0.mark,g0.bl.lay it (.iter (some bc) (c0+cs.length) (seen++[c0+i]) (c0+cs.length))⟩:Hp).next=g.next:=n0;have G2:∀ j,(⟨g0.next,g0.low,g0.high,g0.mark,g0.bl.lay it (.iter (some bc) (c0+cs.length) (seen++[c0+i]) (c0+cs.length))⟩:Hp).bl.get j=if j=it then .iter (some bc) (c0+cs.length) (seen++[c0+i]) (c0+cs.length)else g0.bl.get j:=G2
 generalize (⟨g0.next,g0.low,g0.high,g0.mark,g0.bl.lay it (.iter (some bc) (c0+cs.length) (seen++[c0+i]) (c0+cs.length))⟩:Hp)=g2 at W2 nxv lo2 hi2 n2 G2;have AFl:∀ j,j≠it→g2.bl.get j=g.bl.get j:=fun j hj=>by rw[G2,if_neg hj,P0,if_neg hj]
 have env:=Pq (g:=g2) hi (G2 it |>.trans (if_pos rfl)) (by rw[G2,if_neg (by omega)];exact AGZ);obtain⟨c1,c2⟩:=Tp (e:=e);obtain⟨e',g',r1,r2,r3,r4,r5,r6,r7,r8,r9⟩:=P8 (F:=F) (e:=Cn e fK.ws) (g:=g0) (g1:=g2) (it:=it) (bd:=bd) (bm:=bm) (bc:=bc) (n:=n) (k:=y.1) (l:=y.2) (T:=T) (arm:=arm) (dn:=dn) W2 (c1.trans s0) (c2.trans s21)
  (fun e he=>ZJ nxv he) (fun e he=>gx env he) (Ms B.disk (by rw[AFl bd (by omega),I.old bd (by omega) (by omega) hne.1])) (by rw[AFl bm (by omega)];exact t1) hs y1 y2 AFe.1 (by omega)
 refine⟨g',?_,⟨r4,?_,.inr ⟨by simp,?_,?_⟩,?_,fun j h1 h2 h3=>?_,⟨T',done++[(y.1,y.2)],r6,ht',fun z=>?_⟩,?_⟩⟩
 ·unfold N7
  show(match g.bl.set it (.pick bc (c0+i) (c0+cs.length) (some seen))with|some bl=>(match fB F (Cn e fK.ws) {next:=g.next,low:=B4 g.low it,high:=Co g.high it,mark:=g.mark,bl:=bl}with|.norm _ h1=>some h1|_=>none)|none=>none)=_;rw[e1];simp only[eg,r1]
 ·rw[r5,n2,hnx,IT];rfl
 ·rw[r8,lo2,n2]
  rcases I.lh with ⟨_,h2,_⟩|⟨_,h2,_⟩<;>omega
 ·rw[r9,hi2,n2,IT]
  show _=h.next+(seen.length+1);rcases I.lh with ⟨_,_,h3⟩|⟨_,_,h3⟩<;>omega
 ·rw[r7 it (by omega) (by omega),G2,if_pos rfl]
 ·rw[r7 j (by omega) h3,AFl j h2];exact I.old j h1 h2 h3
 ·constructor
  ·intro hz
   rcases va.1 hz with hz|hz
   ·obtain⟨j,j1,j2⟩:=(t3 z).1 hz
    exact⟨j,j1,vk _ j2⟩
   ·obtain rfl:=vM.1 hz
    exact⟨i,hi,vV _ (vM.2 rfl)⟩
  ·rintro⟨j,j1,j2⟩
   rcases va.1 j2 with j2|j2
   ·exact vk _ ((t3 z).2 ⟨j,j1,j2⟩)
   ·have:c0+j=c0+i:=vM.1 j2
    have:j=i:=by omega
    rw[this,hi]at j1;cases j1;exact vV _ (vM.2 rfl)
 ·have:=RN (seen:=seen) (cs:=cs) (c:=c0) hil hns
  have h2:=I.cnt;show(seen++[c0+i]).length+(AD1 (seen++[c0+i]) (ADd c0 cs)).length=_;rw[IT,wU];omega
def FlR(h:Hp)(it bm n:Nat)(cs:List (Nat×List Nat))(Tz:VT)(r:Hp):Prop:=r.next=h.next+cs.length∧r.low=bm∧r.high+1=h.next+cs.length∧∀ i,r.bl.get i=if i=it∨h.next≤i then .dead else if i=bm then .cells Tz (64*n) 0 else h.bl.get i
theorem UH{r:Hp}{Tz:VT}(B:FlB h it bd bm bc n c0 cs arm dn T0)(hz:AEG T0 cs Tz)(hR:FlR h it bm n cs Tz r)(h0:cs≠[])(s0:AB 0 e=pt bd)(s21:AB 21 e=pt it):∀ (m:Nat) (seen:List Nat) (g:Hp) (tr:Rds),FlI h it bm bc n c0 cs T0 seen g→(AD1 seen (ADd c0 cs)).length<m→Kh fK fB F e it (Vs it h.next r) m g tr=true
 |0,_,_,_,_,hm=>absurd hm (Nat.not_lt_zero _)
 |m+1,seen,g,tr,I,hm=>by
  have hib:EA (g.bl.get it)=.ok (some bc) (c0+cs.length) seen (c0+cs.length):=by rw[I.itr];rfl
  have hlt:=B.lt;have hbn:=B.nx;have hnx:=I.nx;have hmap:g.bl.get bc=.map (ADd c0 cs) (c0+cs.length):=by rw[I.old bc (by omega) (by omega) B.ne.2];exact B.map
  have he:BP g bc=.ok (ADd c0 cs) (c0+cs.length):=by unfold BP;rw[hmap];rfl
  unfold Kh NZ;simp only[hib,he,wz,cond_true,Kv (vi c0) (IN (c0+cs.length))];cases hr:AD1 seen (ADd c0 cs)with
  |nil=>
   simp only;have hc:=I.cnt;rw[hr]at hc;have hc:seen.length=cs.length:=hc;have hlen:0<cs.length:=by
    cases cs with
    |nil=>exact absurd rfl h0
    |cons _ _=>exact AAk _
   obtain⟨T,done,t1,t2,t3⟩:=I.med;have hT:T=Tz:=t2.uniq hz fun y=>by
    rw[t3 y];constructor
    ·rintro⟨i,hi,_⟩;exact vN hi
    ·intro hy
     obtain⟨i,hi⟩:=zX.1 hy;refine⟨i,hi,?_⟩;apply ADP;intro hn;have h1:(⟨.int .i64 (y.1:Int),Cy y.2,c0+i⟩:Ent)∈ADd c0 cs:=(J7 (Hq hi)).1;have:=Mq h1 hn;rw[hr]at this;cases this
   obtain⟨q1,q2,q3,q4⟩:=hR;rcases I.lh with ⟨h1,_,_⟩|⟨_,h2,h3⟩
   ·rw[h1]at hc
    have:0=cs.length:=hc;omega
   refine OS.2 ⟨by rw[hnx,q1,hc],by rw[q2,BJ,h2];omega,by rw[Bw];omega,fun i=>?_⟩;rw[q4];by_cases c1:i=it∨h.next≤i
   ·rw[if_pos c1,if_pos c1]
   ·rw[if_neg c1,if_neg c1]
    by_cases c2:i=bm
    ·rw[if_pos c2,c2,t1,hT]
    ·rw[if_neg c2,I.old i (by omega) (by omega) c2]
  |cons y l=>
   simp only;rw[hr]at hm;refine PS fun x hx=>?_
   rw[← hr]at hx;obtain⟨h1,e1,I1⟩:=dP (F:=F) (e:=e) B I s0 s21 hx;rw[e1];refine UH B hz hR h0 s0 s21 m _ h1 _ I1 ?_;have c1:=I1.cnt;have c2:=I.cnt;rw[hr]at c2;rw[IT,wU]at c1;simp only[vI]at c2 hm;omega
end
end
noncomputable section
open Go
set_option maxRecDepth 100000
section
variable {F:ADS}{e:Env}{h g g1:Hp}{it bd bm bc n k c0:Nat}{l seen:List Nat}{T T0:VT}{M:List Nat}{cs:List (Nat×List Nat)}{arm:Int}{dn:Bool}
def Ku:Nat→Hp→Hp
 |0,h=>h
 |k+1,h=>Ku k (h.push .dead)
theorem RG:∀ (k:Nat) {h:Hp} (W:h.Wf),(Ku k h).Wf∧(Ku k h).next=h.next+k∧∀ i,(Ku k h).bl.get i=h.bl.get i
 |0,h,W=>⟨W,rfl,fun _=>rfl⟩
 |k+1,h,W=>by
  obtain⟨a,b,c⟩:=RG k (W.push .dead);refine⟨a,?_,fun i=>?_⟩
  ·show(Ku k (h.push .dead)).next=_
   rw[b];show h.next+1+k=_;omega
  ·show(Ku k (h.push .dead)).bl.get i=_
   rw[c,W.ADs];by_cases hi:i=h.next
   ·rw[if_pos hi,W.fresh i (by omega)]
   ·rw[if_neg hi]
theorem mH(B:FlB h it bd bm bc n c0 cs arm dn T0)(h0:cs≠[])(Tz:VT):∃ r,FlR h it bm n cs Tz r∧∀ i,i<r.next→r.bl.has i:=by
 have hbn:=B.nx;have hlt:=B.lt;have W1:=B.wf.put (b:=it) (by omega) .dead;have P1:=B.wf.AD0 (b:=it) (by omega) .dead;have W2:=W1.put (b:=bm) (show bm<h.next by omega) (.cells Tz (64*n) 0);have P2:=W1.AD0 (b:=bm) (show bm<h.next by omega) (.cells Tz (64*n) 0);obtain⟨a,b,c⟩:=RG cs.length W2;have hlen:0<cs.length:=by
  cases cs with
  |nil=>exact absurd rfl h0
  |cons _ _=>exact AAk _
 refine⟨⟨h.next+cs.length,bm,h.next+cs.length - 1,0,(Ku cs.length ((h.put it .dead).put bm (.cells Tz (64*n) 0))).bl⟩,⟨rfl,rfl,by show h.next+cs.length - 1+1=_;omega,fun i=>?_⟩,fun i hi=>a.has i (by rw[b];exact hi)⟩;show(Ku cs.length ((h.put it .dead).put bm (.cells Tz (64*n) 0))).bl.get i=_;rw[c,P2,P1];by_cases c1:i=it
 ·rw[if_neg (by omega),if_pos c1,if_pos (.inl c1)]
 ·by_cases c2:h.next≤i
  ·rw[if_neg (by omega),if_neg c1,if_pos (.inr c2)]
   exact B.wf.fresh i c2
  ·rw[if_neg (by omega:¬ (i=it∨h.next≤i)),if_neg c1]
theorem dO(B:FlB h it bd bm bc n c0 cs arm dn T0){y z:Nat×List Nat}{rs:List (Nat×List Nat)}(hcs:cs=y::z::rs)(h60:cs.length≤60)(s0:AB 0 e=pt bd)(s21:AB 21 e=pt it):
  ∃ e' h',fW F e h=.exit 0 e' h'∧AB 0 e'=pt bd∧h'.Wf∧h.next≤h'.next∧(∀ i,i<h.next→i≠it→i≠bm→h'.bl.get i=h.bl.get i)∧∃ T,h'.bl.get bm=.cells T (64*n) 0∧AEG T0 cs T∧∀ L,L≤h.low→L≤it→L≤bm→L≤h'.low:=by
 have hbn:=B.nx;have hlt:=B.lt;have AFe:=B.big;have h0:cs≠[]:=by rw[hcs];exact fun h=>by cases h
 obtain⟨Tz,hz⟩:=AEG.all B.has cs [] T0 (.nil T0) B.sec B.key fun y _ z hz=>by cases hz
 have hz:AEG T0 cs Tz:=hz;obtain⟨r,hR,AHO⟩:=mH B h0 Tz;have W1:(⟨h.next,h.next,0,h.mark,h.bl⟩:Hp).Wf:=⟨B.wf.big,B.wf.has,B.wf.fresh⟩;have I0:FlI h it bm bc n c0 cs T0 [] ⟨h.next,h.next,0,h.mark,h.bl⟩:=⟨W1,rfl,.inl ⟨rfl,rfl,rfl⟩,B.itr,fun _ _ _ _=>rfl,⟨T0,[],B.med,.nil T0,fun y=>⟨fun h=>(by cases h),fun⟨_,_,h⟩=>by cases h⟩⟩,by rw[KV,I8];exact sh _⟩;have S:OG fK fB F e h it r:=⟨AHO,UH B hz hR h0 s0 s21 64 [] _ [] I0 (by rw[KV,I8];omega)⟩;obtain⟨q1,q2,q3,q4⟩:=hR;obtain⟨h',a1,a2,a3,a4,_,a6⟩:=ST B.wf S (by omega);have hib:EA (h.bl.get it)=.ok (some bc) (c0+cs.length) [] (c0+cs.length):=by rw[B.itr];rfl
 have he:BP h bc=.ok (ADd c0 cs) (c0+cs.length):=by unfold BP;rw[B.map];rfl
 refine⟨Env.set 23 (.bool false) (Cn e fK.ws),h',?_,?_,a2,by rw[a3];omega,fun i h1 h2 h3=>?_,Tz,?_,hz,fun L h1 _ h3=>by rw[a6];omega⟩
 ·rw[gz]
  unfold Iv;have AHS:AB fK.it e=.pointer (some ⟨it,0,none⟩):=s21;have es:ADd c0 cs=⟨.int .i64 (y.1:Int),Cy y.2,c0⟩::⟨.int .i64 (z.1:Int),Cy z.2,c0+1⟩::ADd (c0+1+1) rs:=by rw[hcs];rfl
  rw[es]at he;have b2:vJ 256 it=true:=Ab.2 AFe.2;simp only[AHS,hib,he,wz,cond_true,b2];exact a1
 ·obtain⟨c1,_⟩:=Tp (e:=e)
  rw[AF (by decide) (by decide),if_neg (by decide),c1];exact s0
 ·rw[a4 i h1 h2,q4,if_neg (by omega),if_neg h3]
 ·rw[a4 bm (by omega) (by omega),q4,if_neg (by omega),if_pos rfl]
theorem mG(B:FlB h it bd bm bc n c0 cs arm dn T0){y:Nat×List Nat}(hcs:cs=[y])(s0:AB 0 e=pt bd)(s21:AB 21 e=pt it):
  ∃ e' h',fW F e h=.exit 0 e' h'∧AB 0 e'=pt bd∧h'.Wf∧h.next≤h'.next∧(∀ i,i<h.next→i≠it→i≠bm→h'.bl.get i=h.bl.get i)∧∃ T,h'.bl.get bm=.cells T (64*n) 0∧AEG T0 cs T∧∀ L,L≤h.low→L≤it→L≤bm→L≤h'.low:=by
 have hbn:=B.nx;have hlt:=B.lt;have AFe:=B.big;have hib:EA (h.bl.get it)=.ok (some bc) (c0+cs.length) [] (c0+cs.length):=by rw[B.itr];rfl
 have he:BP h bc=.ok (ADd c0 cs) (c0+cs.length):=by unfold BP;rw[B.map];rfl
 have hi:cs[0]? =some y:=by rw[hcs];rfl
 obtain⟨y1,y2,y3⟩:=B.sec y (vN hi);obtain⟨T',hs,ht'⟩:=(AEG.nil T0).step B.has (k:=y.1) (l:=y.2) (by omega) y2 fun z hz=>by cases hz
 have es:ADd c0 cs=[⟨.int .i64 (y.1:Int),Cy y.2,c0⟩]:=by rw[hcs];rfl
 have hl1:cs.length=1:=by rw[hcs];rfl
 have hlf:Ko (c0+cs.length) [] [⟨.int .i64 (y.1:Int),Cy y.2,c0⟩]=some [⟨.int .i64 (y.1:Int),Cy y.2,c0⟩]:=by
  show(bif Nat.blt c0 (c0+cs.length)then some [_]else none)=_;rw[A9.2 (by omega)];rfl
 have W2:=B.wf.put (b:=it) (by omega) (.iter (some bc) (c0+cs.length) [c0] (c0+cs.length));have P2:=B.wf.AD0 (b:=it) (by omega) (.iter (some bc) (c0+cs.length) [c0] (c0+cs.length));have nxv:GI ⟨it,0,none⟩ h=.ok (.tuple ⟨[.bool true,.int .i64 (y.1:Int),Cy y.2]⟩) (h.put it (.iter (some bc) (c0+cs.length) [c0] (c0+cs.length))):=by
  unfold GI;simp only[hib,he,es,hlf,cond_false];have:JW c0 []=[c0]:=rfl;rw[this,Df B.wf AFe.2 (by omega)]
 have n2:(h.put it (.iter (some bc) (c0+cs.length) [c0] (c0+cs.length))).next=h.next:=rfl;have lo2:(h.put it (.iter (some bc) (c0+cs.length) [c0] (c0+cs.length))).low=min h.low it:=BJ _ _;generalize h.put it (.iter (some bc) (c0+cs.length) [c0] (c0+cs.length))=g2 at W2 P2 nxv n2 lo2;have AFl:∀ j,j≠it→g2.bl.get j=h.bl.get j:=fun j hj=>by rw[P2,if_neg hj]
 have env:=Pq (g:=g2) (seen:=[]) (c0:=c0) (i:=0) hi (by rw[P2,if_pos rfl];rfl) (by rw[AFl bc (by omega)];exact B.map);obtain⟨e',g',r1,r2,r3,r4,r5,r6,r7,r8,r9⟩:=P8 (F:=F) (e:=e) (g:=h) (g1:=g2) (it:=it) (bd:=bd) (bm:=bm) (bc:=bc) (n:=n) (k:=y.1) (l:=y.2) (T:=T0) (arm:=arm) (dn:=dn) W2 s0 s21
  (fun e he=>ZJ nxv he) (fun e he=>gx env he) (Ms B.disk (AFl bd (by omega))) ((AFl bm (by omega)).trans B.med) hs y1 y2 AFe.1 (by omega)
 have AIB:∀ j,j<h.next→j≠it→j≠bm→g'.bl.get j=h.bl.get j:=fun j h1 h2 h3=>by rw[r7 j (by omega) h3,AFl j h2]
 have nx2:GI ⟨it,0,none⟩ g'=.ok (.tuple ⟨[.bool false]⟩) g':=by
  have hib:EA (g'.bl.get it)=.ok (some bc) (c0+cs.length) [c0] (c0+cs.length):=by rw[r7 it (by omega) (by omega),P2,if_pos rfl];rfl
  have he:BP g' bc=.ok (ADd c0 cs) (c0+cs.length):=by
   unfold BP;rw[AIB bc (by omega) (by omega) B.ne.2,B.map];rfl
  have hlf:Ko (c0+cs.length) [c0] [⟨.int .i64 (y.1:Int),Cy y.2,c0⟩]=some []:=by
   show(bif (bif vO c0 c0 then true else false)then some []else _)=_;rw[wz];rfl
  have hyg:FI (c0+cs.length) [⟨.int .i64 (y.1:Int),Cy y.2,c0⟩]=false:=by
   show(bif vJ (c0+cs.length) c0 then true else false)=false;have:vJ (c0+cs.length) c0=false:=by
    cases hb:vJ (c0+cs.length) c0
    ·rfl
    ·have:=Ab.1 hb;omega
   rw[this];rfl
  unfold GI;simp only[hib,he,es,hlf,hyg,cond_false];rfl
 have hb2:∃ e2,fB F e' g'=.exit 0 e2 g'∧AB 0 e2=pt bd:=by
  have nn:=ZJ (F:=F) nx2 r3;unfold fB;simp only[sT,AT,AI,reduceIte,nn,BL,BR];exact⟨_,rfl,by simp[AF,r2]⟩
 obtain⟨e2,b1,b2⟩:=hb2;refine⟨e2,g',?_,b2,r4,by omega,AIB,T',r6,by rw[hcs];exact ht',fun L h1 h2 h3=>by rw[r8];omega⟩;rw[gz];unfold Iv;have AHS:AB fK.it e=.pointer (some ⟨it,0,none⟩):=s21;rw[es]at he;simp only[AHS,hib,he];refine BU (I:=fun i e1 h1=>(i=0∧e1=e∧h1=h)∨(i=1∧e1=e'∧h1=g')) (Q:=fun x=>x=.exit 0 e2 g') 1 (by omega) (fun i e1 h1 hI=>?_) (.inl ⟨rfl,rfl,rfl⟩);rcases hI with ⟨rfl,rfl,rfl⟩|⟨rfl,rfl,rfl⟩
 ·exact .inl ⟨by omega,e',g',r1,.inr ⟨rfl,rfl,rfl⟩⟩
 ·right
  rw[b1];exact⟨rfl,rfl⟩
theorem QB{m:Nat}(W:h.Wf)(d:Dk h bd bm bc n M c0 cs arm false){k:Nat}(ha:Gs arm (k+1))(hK:AEk cs)(hc:AEC n cs)(h0:cs≠[])(h60:cs.length≤60):
  ∃ h',call AD (m+3) 76 [pt bd] h=.ok (.int .i64 0) h'∧Fx (fun b=>b=bd∨b=bm∨b=bc) h h'∧Dk h' bd bm bc n (Er M cs) (c0+cs.length) [] (AEe arm) false:=by
 have k1:=Hf (m:=m) d (i:=0) (by have:=d.n1;omega);have k1:call AD (m+2) 95 [pt bd,.int .i64 0] h=.ok (.int .i64 0) h:=k1;obtain⟨h1,k2,f1,d1⟩:=Uw (m:=m+1) W d ha;have c1:iNe 0 0=false:=CV rfl;obtain⟨_,l1,_,_⟩:=CL d1.disk;have hlt:=d1.lt f1.wf;have rg:∀ (F:ADS) (e:Env),AB 20 e=.map (some bc)→KM (AB 20) F e h1=.ok (pt h1.next) (h1.push (.iter (some bc) (c0+cs.length) [] (c0+cs.length))):=fun F e he=>by
  have hen:BP h1 bc=.ok (ADd c0 cs) (c0+cs.length):=by unfold BP;rw[d1.map];rfl
  unfold KM;rw[he];simp only[hen];rw[Cp f1.wf];rfl
 have W2:=f1.wf.push (.iter (some bc) (c0+cs.length) [] (c0+cs.length));have P2:=f1.wf.ADs (.iter (some bc) (c0+cs.length) [] (c0+cs.length));have x2:h1.Ext (h1.push (.iter (some bc) (c0+cs.length) [] (c0+cs.length))):=(Hp.Ext.refl f1.wf).push _;have n2:(h1.push (.iter (some bc) (c0+cs.length) [] (c0+cs.length))).next=h1.next+1:=rfl;generalize h1.push (.iter (some bc) (c0+cs.length) [] (c0+cs.length))=h2 at rg W2 P2 x2 n2;have d2:=d1.ext f1.wf x2;obtain⟨T0,t1,t2⟩:=d2.med;rw[If,d2.len]at t1;have B:FlB h2 h1.next bd bm bc n c0 cs (AEe arm) false T0:=⟨W2,n2,by rw[P2,if_pos rfl],d2.disk,t1,fun j hj=>(t2 j (by rw[If,d2.len];exact hj)).1,d2.map,hlt,⟨d.bdm,fun h=>d.bmc h.symm⟩,⟨d.big.2.1,f1.wf.big⟩,hc,hK⟩;have nw:∀ (F:ADS) (e:Env),AB 0 e=pt bd→AB 21 e=pt h1.next→∃ e' h',fW F e h2=.exit 0 e' h'∧AB 0 e'=pt bd∧h'.Wf∧h2.next≤h'.next∧(∀ i,i<h2.next→i≠h1.next→i≠bm→h'.bl.get i=h2.bl.get i)∧∃ T,h'.bl.get bm=.cells T (64 * n) 0∧AEG T0 cs T∧∀ L,L≤h2.low→L≤h1.next→L≤bm→L≤h'.low:=fun F e e1 e2=>by
  cases cs with
  |nil=>exact absurd rfl h0
  |cons y l=>
   cases l with
   |nil=>exact mG B rfl e1 e2
   |cons z l=>exact dO B rfl h60 e1 e2
 have pre:∃ e1,YK (call AD (m+2)) (AS e0 0 [pt bd]) h=fS (call AD (m+2)) e1 h2∧AB 0 e1=pt bd∧AB 21 e1=pt h1.next:=by
  unfold YK;simp only[iN,By,sT,AT,AI,reduceIte,cA0,k1,k2,AM,AK,c1,Ao,Ae,AJ,AO,AN,AQ,sh,l1,rg];exact⟨_,rfl,by simp[AF]⟩
 obtain⟨e1,p1,p2,p3⟩:=pre;obtain⟨e3,h3,w1,w2,w3,w4,w5,T,w6,w7,w8⟩:=nw (call AD (m+2)) e1 p2 p3;have d3:h3.Row bd 0 (dkL bm bc n (AEe arm) false):=Ms d2.disk (w5 bd (by omega) (by omega) d.bdm);have m3:h3.bl.get bc=.map (ADd c0 cs) (c0+cs.length):=by rw[w5 bc (by omega) (by omega) (fun h=>d.bmc h.symm)];exact d2.map
 have r3:h3.Row bm 0 ((Er M cs).map bv):=⟨T,by rw[w6,If,FC d.len hc],w7.is t2 d.len hc hK⟩;obtain⟨_,l3,_,_⟩:=CL d3;have cl:∀ (F:ADS) (e:Env),AB 37 e=.map (some bc)→De (AB 37) F e h3=.ok ADV (h3.put bc (.map [] (c0+cs.length))):=fun F e he=>by
  have hen:BP h3 bc=.ok (ADd c0 cs) (c0+cs.length):=by unfold BP;rw[m3];rfl
  unfold De;rw[he];simp only[hen];rw[Df w3 d.big.2.2 (by omega)];rfl
 have W4:=w3.put (b:=bc) (by omega) (.map [] (c0+cs.length));have P4:=w3.AD0 (b:=bc) (by omega) (.map [] (c0+cs.length));have n4:(h3.put bc (.map [] (c0+cs.length))).next=h3.next:=rfl;have lo4:(h3.put bc (.map [] (c0+cs.length))).low=min h3.low bc:=BJ _ _;generalize h3.put bc (.map [] (c0+cs.length))=h4 at cl W4 P4 n4 lo4;refine⟨h4,?_,⟨by have:=f1.next;omega,fun i hi hs=>?_,W4,fun L q1 q2 q3=>by
  have z1:=f1.low L q1 q2 fun b hb=>q3 b (.inl hb)
  have z2:=f1.next;have z3:=x2.low;have z4:=w8 L (by omega) (by omega) (q3 bm (.inr (.inl rfl)));have z5:=q3 bc (.inr (.inr rfl));omega⟩,⟨Ms d3 (by rw[P4,if_neg d.bdc]),Ms r3 (by rw[P4,if_neg d.bmc]),FC d.len hc,QU d.byt hc,by rw[P4,if_pos rfl];rfl,d.big,d.n1⟩⟩
 ·rw[Xl rfl,YJ,p1,qR]
  simp only[BE,Ax,w1,A2,BA];unfold fE;simp only[sT,AT,AI,reduceIte,Ao,w2,Ae,AJ,AO,AN,AQ,sh,l3,cl,lV0]
 ·have hn:=f1.next
  rw[P4,if_neg (fun e=>hs (.inr (.inr e))),w5 i (by omega) (by omega) (fun e=>hs (.inr (.inl e))),x2.get i (by omega),f1.get i hi (fun e=>hs (.inl e))]
end
end
noncomputable section
open Go
set_option maxRecDepth 100000
structure Kt where
 a:Int
 b:Int
 c:Int
 s:Nat
 l:List Nat
 p:Nat
 u:BY
def AV(k:Kt):List BY:=[.int .i64 k.a,.int .i64 k.b,.int .i64 k.c,.int .u8 (k.s:Int),k.u,.int .i64 (k.p:Int)]
def ktV(k:Kt):BY:=.agg ⟨AV k⟩
def flK(ks:List Kt):List BY:=ks.flatMap AV
theorem CI:∀ ks:List Kt,(flK ks).length=6*ks.length
 |[]=>rfl
 |k::ks=>by
  show(AV k++flK ks).length=_;rw[IT,CI ks,vI];show 6+_=_;omega
theorem JE(a b:List Kt):flK (a++b)=flK a++flK b:=List.flatMap_append
theorem UF:∀ (ks:List Kt) (i:Nat) (k:Kt),ks[i]? =some k→((flK ks).drop (6*i)).take 6=AV k
 |[],i,k,h=>by cases h
 |x::ks,0,k,h=>by
  have h:some x=some k:=h;cases h;show((AV x++flK ks).drop 0).take 6=_;rw[wM];exact List.take_left' rfl
 |x::ks,i+1,k,h=>by
  rw[wE]at h;show((AV x++flK ks).drop (6*(i+1))).take 6=_;have:6*(i+1)=(AV x).length+6*i:=by show _=6+_;omega
  rw[this,List.drop_length_add_append];exact UF ks i k h
def Hp.KS(h:Hp)(S:Nat→Prop)(v:BY)(ks:List Kt):Prop:=(v=.slice none 0 0∧ks=[])∨∃ b c el L,v=.slice (some ⟨b,0,none⟩) ks.length c∧ks.length≤c∧h.Row b el L∧6*ks.length≤L.length∧L.take (6*ks.length)=flK ks∧(el=84∨el=0)∧S b
section
variable {h h':Hp}{S S':Nat→Prop}{v:BY}{ks:List Kt}
theorem Hp.KS.keep(o:h.KS S v ks)(hk:∀ b el L,S b→h.Row b el L→h'.Row b el L):h'.KS S v ks:=by
 rcases o with h1|⟨b,c,el,L,h1,h2,h3,h4,h5,h6,h7⟩
 ·exact .inl h1
 ·exact .inr ⟨b,c,el,L,h1,h2,hk _ _ _ h7 h3,h4,h5,h6,h7⟩
theorem Hp.KS.ext(o:h.KS S v ks)(W:h.Wf)(x:h.Ext h'):h'.KS S v ks:=o.keep fun _ _ _ _ r=>r.ext W x
theorem Hp.KS.same(o:h.KS S v ks)(hb:h'.bl=h.bl):h'.KS S v ks:=o.keep fun _ _ _ _ r=>r.same hb
theorem Hp.KS.mono(o:h.KS S v ks)(hs:∀ b,S b→S' b):h.KS S' v ks:=by
 rcases o with h1|⟨b,c,el,L,h1,h2,h3,h4,h5,h6,h7⟩
 ·exact .inl h1
 ·exact .inr ⟨b,c,el,L,h1,h2,h3,h4,h5,h6,hs _ h7⟩
theorem Hp.KS.len(o:h.KS S v ks)(g:Hp):AEL v g=.ok (.int .i64 (ks.length:Int)) g:=by
 rcases o with ⟨rfl,rfl⟩|⟨b,c,el,L,rfl,_⟩<;>rfl
theorem Hp.KS.at(o:h.KS S v ks){i:Nat}{k:Kt}(hi:ks[i]? =some k):∃ b,S b∧AEP 6 v (.int .i64 (i:Int)) h=.ok (.pointer (some ⟨b,6*i,none⟩)) h∧loadN 6 ⟨b,6*i,none⟩ h=.ok (ktV k) h∧∀ j w,(AV k)[j]? =some w→ADW ⟨b,6*i+j,none⟩ h=.ok w h:=by
 have hil:=(vW.1 hi).1;rcases o with ⟨rfl,rfl⟩|⟨b,c,el,L,rfl,h2,h3,h4,h5,h6,h7⟩
 ·cases hi
 ·have hc:(L.drop (6*i)).take 6=AV k:=by
   have:=UF ks i k hi;rw[← h5,List.drop_take,AA8,yz (by omega)]at this;exact this
  refine⟨b,h7,?_,?_,fun j w hj=>?_⟩
  ·have:=DD (h:=h) (n:=ks.length) (c:=c) (es:=6) (b:=b) (off:=0) (i:=i) (k:=.i64) hil
   rwa [sh,wj]at this
  ·rw[h3.loadN (by omega),hc];rfl
  ·have hj6:j<6:=(vW.1 hj).1
   rw[← hc,yA,if_pos hj6,yj]at hj;rw[h3.ADW (by omega),OF,hj];rfl
theorem Hp.KS.one(o:h.KS S v ks):cellsOf v=[v]∧oneCell v=true∧known v=true:=by
 rcases o with ⟨rfl,_⟩|⟨b,c,el,L,rfl,_⟩<;>exact⟨rfl,rfl,rfl⟩
end
def Hp.KW(h:Hp)(S:Nat→Prop)(v:BY)(ks:List Kt):Prop:=(v=.slice none 0 0∧ks=[])∨∃ b,v=.slice (some ⟨b,0,none⟩) ks.length ks.length∧h.Row b 84 (flK ks)∧S b
theorem Hp.KW.ks{h:Hp}{S:Nat→Prop}{v:BY}{ks:List Kt}(o:h.KW S v ks):h.KS S v ks:=by
 rcases o with h1|⟨b,h1,h2,h3⟩
 ·exact .inl h1
 ·exact .inr ⟨b,_,84,_,h1,IN _,h2,by rw[CI];omega,by rw[← CI,wh],.inl rfl,h3⟩
theorem Hp.KS.ks{h:Hp}{S:Nat→Prop}{v:BY}{ks:List Kt}(o:h.KS S v ks):h.KS S v ks:=o
def Hp.WI(h:Hp)(S:Nat→Prop)(v:BY)(xs:List BY):Prop:=(v=.slice none 0 0∧xs=[])∨∃ b el,v=.slice (some ⟨b,0,none⟩) xs.length xs.length∧h.Row b el xs∧(el=4∨el=0)∧S b
theorem Hp.WI.keep{h h':Hp}{S:Nat→Prop}{v:BY}{xs:List BY}(o:h.WI S v xs)(hk:∀ b el L,S b→h.Row b el L→h'.Row b el L):h'.WI S v xs:=by
 rcases o with h1|⟨b,el,h1,h2,h3,h4⟩
 ·exact .inl h1
 ·exact .inr ⟨b,el,h1,hk _ _ _ h4 h2,h3,h4⟩
theorem Hp.WI.vals{h:Hp}{S:Nat→Prop}{v:BY}{xs:List BY}(o:h.WI S v xs):h.ADo v xs:=by
 rcases o with h1|⟨b,el,h1,h2,h3,h4⟩
 ·exact .inl h1
 ·exact .inr ⟨b,0,_,el,xs,h1,h2,by omega,by rw[wM,wh]⟩
def AFm(h:Hp)(S:Nat→Prop)(k:Kt):Prop:=h.BS S k.u (k.l.map bv)∧(∀ x∈k.l,x<256)∧k.l.length≤100∧(k.s=1∨k.s=2)∧ADc k.a k.b k.c k.s k.l.length=true∧k.p<65536
def slL(bd tb:Nat)(lv fv:BY)(bad:Nat)(ov:Bool):List BY:=[pt bd,pt tb,.int .i64 100,lv,fv,.int .i64 (bad:Int),.bool ov]
structure At where
 bs:Nat
 bd:Nat
 bm:Nat
 bc:Nat
 tb:Nat
 n:Nat
abbrev At.D(A:At):Nat→Prop:=fun b=>b=A.bs∨b=A.bd∨b=A.bm∨b=A.bc
structure Sl (h:Hp)(A:At)(T M:List Nat)(c0:Nat)(arm:Int)(ks:List Kt)(fr:List Nat)(lv fv:BY)(bad:Nat)(ov:Bool):Prop where
 row:h.Row A.bs 0 (slL A.bd A.tb lv fv bad ov)
 dk:Dk h A.bd A.bm A.bc A.n M c0 [] arm false
 tab:h.Row A.tb 0 (T.map wv)
 tok:AEM T
 ls:h.KS (fun b=>¬ A.D b) lv ks
 ko:∀ k∈ks,AFm h (fun b=>¬ A.D b) k
 fs:h.WI (fun b=>¬ A.D b) fv (ints .i64 (fr.map Int.ofNat))
 ne:A.bs≠A.bd∧A.bs≠A.bm∧A.bs≠A.bc∧¬ A.D A.tb∧256≤A.bs
 le:ks.length≤1000∧fr.length≤1000∧bad≤1000∧∀ p∈fr,3*p+3≤A.n
section
variable {F:ADS}{e:Env}{h h':Hp}{A:At}{T M:List Nat}{c0 bad m:Nat}{arm:Int}{ks:List Kt}{fr:List Nat}{lv fv:BY}{ov:Bool}
theorem Sl.keep(s:Sl h A T M c0 arm ks fr lv fv bad ov)(hr:∀ b el L,h.Row b el L→h'.Row b el L)(hm:h'.bl.get A.bc=h.bl.get A.bc):Sl h' A T M c0 arm ks fr lv fv bad ov:=
 ⟨hr _ _ _ s.row,⟨hr _ _ _ s.dk.disk,hr _ _ _ s.dk.med,s.dk.len,s.dk.byt,hm.trans s.dk.map,s.dk.big,s.dk.n1⟩,hr _ _ _ s.tab,s.tok,s.ls.keep fun _ _ _ _ r=>hr _ _ _ r,fun k hk=>⟨(s.ko k hk).1.keep fun _ _ _ _ _ r=>hr _ _ _ r,(s.ko k hk).2⟩,s.fs.keep fun _ _ _ _ r=>hr _ _ _ r,s.ne,s.le⟩
theorem Sl.ext(s:Sl h A T M c0 arm ks fr lv fv bad ov)(W:h.Wf)(x:h.Ext h'):Sl h' A T M c0 arm ks fr lv fv bad ov:=s.keep (fun _ _ _ r=>r.ext W x) (x.get _ (s.dk.lt W).2.2)
theorem Sl.same(s:Sl h A T M c0 arm ks fr lv fv bad ov)(hb:h'.bl=h.bl):Sl h' A T M c0 arm ks fr lv fv bad ov:=s.keep (fun _ _ _ r=>r.same hb) (by rw[hb])
theorem A7{bs bd tb:Nat}(R:h.Row bs 0 (slL bd tb lv fv bad ov)):ADW ⟨bs,0,none⟩ h=.ok (pt bd) h∧ADW ⟨bs,1,none⟩ h=.ok (pt tb) h∧ADW ⟨bs,2,none⟩ h=.ok (.int .i64 100) h∧ADW ⟨bs,3,none⟩ h=.ok lv h∧ADW ⟨bs,4,none⟩ h=.ok fv h∧ADW ⟨bs,5,none⟩ h=.ok (.int .i64 (bad:Int)) h∧ADW ⟨bs,6,none⟩ h=.ok (.bool ov) h:=
 ⟨R.ADW (off:=0) (by show 0<7;omega),R.ADW (off:=1) (by show 1<7;omega),R.ADW (off:=2) (by show 2<7;omega),R.ADW (off:=3) (by show 3<7;omega),R.ADW (off:=4) (by show 4<7;omega),R.ADW (off:=5) (by show 5<7;omega),R.ADW (off:=6) (by show 6<7;omega)⟩
theorem iB{a b:Nat}(h1:a*b≤1000000000):Fc Int.mul .i64 (.int .i64 (a:Int)) (.int .i64 (b:Int)) h=.ok (.int .i64 ((a*b:Nat):Int)) h:=by
 have:Int.mul (a:Int) (b:Int)=((a*b:Nat):Int):=(Int.natCast_mul a b).symm;rw[CZ,this,BW (by omega)]
theorem PP{a b:Nat}(h1:a+b≤1000000000):FH .i64 (.int .i64 (a:Int)) (.int .i64 (b:Int)) h=.ok (.int .i64 ((a+b:Nat):Int)) h:=by
 have:(a:Int)+(b:Int)=((a+b:Nat):Int):=by omega
 rw[Ee,this,BW (by omega)]
theorem N3:N2 100=3:=by decide
theorem Lg{bs bd tb:Nat}(R:h.Row bs 0 (slL bd tb lv fv bad ov)){p:Nat}(hp:p≤65536):call AD (m+2) 46 [pt bs,.int .i64 (p:Int)] h=.ok (.int .i64 ((p*3:Nat):Int)) h:=by
 obtain⟨_,_,l2,_⟩:=A7 R;have k1:=VA (n:=m) (h:=h) (z:=100);rw[N3]at k1;have a1:=iB (h:=h) (a:=p) (b:=3) (by omega);rw[kM rfl];unfold d46;simp only[iN,By,sT,AT,AI,reduceIte,Ao,Ae,AJ,AO,sh,AN,AQ,l2,cA0,k1,Br,a1,lV0]
theorem GL{f:OpF}{mm:Qm}{v:BY}(W:h.Wf)(hf:f F e h.quiet=.ok v h.quiet)(hm:h.mark≤h.next):Al mm f F e h=.ok v (h.back h.quiet):=DF hf (.refl W.quiet) hm
theorem cJ{x y z:O}{b N k:Nat}(hx:x e=.slice (some ⟨b,0,none⟩) N N)(hy:y e=.int .i64 (k:Int))(hz:z e=.int .i64 (k:Int))(hk:k≤N):Dp 5 1 x none (some y) (some z) F e h=.ok (.slice (some ⟨b,0,none⟩) k k) h:=by
 have hb:∀ (d:Nat) (y:O) (Y:Nat) (K:Nat→R),y e=.int .i64 (k:Int)→k≤Y→Cd e (some y) d Y K=K k:=fun d y Y K hy hY=>by
  show(match Cz (y e)with|.ok n=>(bif vJ n Y then K n else .no)|.no=>.no)=_;rw[hy,Cu];simp only;rw[Ab.2 hY];rfl
 show(match x e with|.slice a n c=>DG e n c none (some y) (some z) (fun l hh m=>D7 5 1 a true l hh m h)|_=>.no)=_;rw[hx];show Cd e (some z) N N (fun m=>Cd e (some y) N m fun hh=>Cd e none 0 hh fun l=>D7 5 1 (some ⟨b,0,none⟩) true l hh m h)=_;rw[hb _ _ _ _ hz hk,hb _ _ _ _ hy (IN _)];show Bg (some ⟨b,0,none⟩) 1 0 k k h=_;unfold Bg;simp only[AZ];cases k with
 |zero=>rfl
 |succ k=>rfl
theorem X4{x y z:O}(hx:x e=.slice none 0 0)(hy:y e=.int .i64 ((0:Nat):Int))(hz:z e=.int .i64 ((0:Nat):Int)):Dp 5 1 x none (some y) (some z) F e h=.ok (.slice none 0 0) h:=by
 show(match x e with|.slice a n c=>DG e n c none (some y) (some z) (fun l hh m=>D7 5 1 a true l hh m h)|_=>.no)=_;rw[hx];show(match Cz (z e)with|.ok n=>(bif vJ n 0 then(match Cz (y e)with|.ok n'=>(bif vJ n' n then Bg none 1 0 n' n h else .no)|.no=>.no)else .no)|.no=>.no)=_;rw[hy,hz];rfl
def dat(M:List Nat)(p k:Nat):List Nat:=(M.drop (64*(3*p+1))).take k
theorem YQ{M:List Nat}{n p i:Nat}(hM:M.length=64*n)(hi:3*p+1+i<n):dat M p (64*i)++sec M (3*p+1+i)=dat M p (64*(i+1)):=by
 unfold dat sec;have:M.drop (64*(3*p+1+i))=(M.drop (64*(3*p+1))).drop (64*i):=by rw[List.drop_drop];congr 1;omega
 rw[this,show 64*(i+1)=64*i+64 by omega,List.take_add]
theorem I4{M:List Nat}{n p k:Nat}(hM:M.length=64*n)(hk:64*(3*p+1)+k≤64*n):(dat M p k).length=k:=by
 unfold dat;rw[vp,wG];omega
theorem YP{M:List Nat}(hb:∀ x∈M,x<256)(p k:Nat):∀ x∈dat M p k,x<256:=fun x hx=>hb x (ze (wu hx))
theorem Z8:reS=BK (Ad 0 (Ay reB)) reE:=rfl
theorem YN:d88=cr:=rfl
theorem XV(W:h.Wf){bs bd bm bc tb n:Nat}(R:h.Row bs 0 (slL bd tb lv fv bad ov))(d:Dk h bd bm bc n M c0 [] arm false){p k:Nat}(hp:3*p+3≤n)(hk:k≤128):
  ∃ h' v,call AD (m+4) 88 [pt bs,.int .i64 (p:Int),.int .i64 (k:Int)] h=.ok (.tuple ⟨[v,.int .i64 0]⟩) h'∧h.Ext h'∧h'.BS (fun b=>h.next≤b) v ((dat M p k).map bv):=by
 have hn:=d.n1;have pre:∃ e1,cr (call AD (m+3)) (AS e0 0 [pt bs,.int .i64 (p:Int),.int .i64 (k:Int)]) h=reS (call AD (m+3)) e1 h∧AB 0 e1=pt bs∧AB 1 e1=.int .i64 (p:Int)∧AB 2 e1=.int .i64 (k:Int)∧AB 8 e1=.slice none 0 0∧AB 9 e1=.int .i64 ((0:Nat):Int):=by
  unfold cr;simp only[iN,By,sT,AT,AI,reduceIte];exact⟨_,rfl,by simp[AF]⟩
 obtain⟨e1,p1,s0,s1,s2,s8,s9⟩:=pre;have run:∃ e' h' v i,Ay reB (call AD (m+3)) e1 h=.exit 0 e' h'∧h.Ext h'∧h'.Own h.next 5 v ((dat M p (64*i)).map bv)∧k≤64*i∧i≤2∧AB 8 e'=v∧AB 2 e'=.int .i64 (k:Int):=by
  refine BU (I:=fun i e' h'=>∃ v,h.Ext h'∧h'.Own h.next 5 v ((dat M p (64*i)).map bv)∧AB 0 e'=pt bs∧AB 1 e'=.int .i64 (p:Int)∧AB 2 e'=.int .i64 (k:Int)∧AB 8 e'=v∧AB 9 e'=.int .i64 (i:Int)∧i≤2)
   (Q:=fun x=>∃ e' h' v i,x=.exit 0 e' h'∧h.Ext h'∧h'.Own h.next 5 v ((dat M p (64*i)).map bv)∧k≤64*i∧i≤2∧AB 8 e'=v∧AB 2 e'=.int .i64 (k:Int)) 2 (by omega) (fun i e' h' ⟨v,x',o',t0,t1,t2,t8,t9,hi⟩=>?_)
   ⟨_,.refl W,.inl ⟨rfl,rfl⟩,s0,s1,s2,s8,s9,by omega⟩
  have hdl:(dat M p (64*i)).length=64*i:=I4 d.len (by omega);have ln:=o'.vals.bl h';rw[hdl]at ln;by_cases hlt:64*i<k
  ·left
   have hi1:i<2:=by omega
   have c1:iLt ((64*i:Nat):Int) (k:Int)=true:=Es hlt;have xm:=x'.marked;have Rm:=(R.ext W xm);have old:∀ (off:Nat) (kk:C) (F:ADS) (e:Env),Ih (.pointer (some ⟨bs,off,none⟩)) kk F e h'.marked=kk F e h'.marked:=fun off kk F e=>DZ (by
    show bs<h'.next;have:=R.lt W;have:=x'.next;omega)
   obtain⟨l0,_⟩:=A7 Rm;have k1:=Lg (m:=m+1) (Rm.same (h':=h'.marked.quiet) rfl) (p:=p) (by omega);have q1:∀ e:Env,AB 0 e=pt bs→AB 1 e=.int .i64 (p:Int)→Al .weak (AU 46 [AB 0,AB 1]) (call AD (m+3)) e h'.marked=.ok (.int .i64 ((p*3:Nat):Int)) (h'.marked.back h'.marked.quiet):=fun e e1 e2=>by
    refine GL x'.wf.marked ?_ (IN _);rw[BV,AW,AW,Az,e1,e2];exact k1
   have y2:h'.Ext (h'.marked.back h'.marked.quiet):=Hp.Ext.AEc (Hp.Ext.refl x'.wf).marked (Hp.Ext.refl x'.wf).marked.quiet;have n2:(h'.marked.back h'.marked.quiet).next=h'.next:=rfl;generalize h'.marked.back h'.marked.quiet=h2 at q1 y2 n2;have x2:=x'.trans y2;have a1:=CH (h:=h2) (i:=p * 3) (by omega);have a2:=PP (h:=h2) (a:=p * 3+1) (b:=i) (by omega);obtain⟨h3,w,k2,y3,mk,n3,_⟩:=U3 (m:=m) x2.quiet.wf ((d.ext W x2).same (h':=h2.quiet) rfl) (i:=p * 3+1+i) (by omega);have q2:∀ e:Env,AB 22 e=pt bd→AB 28 e=.int .i64 ((p * 3+1+i:Nat):Int)→Al .free (AU 84 [AB 22,AB 28]) (call AD (m+3)) e h2=.ok (.tuple ⟨[w,.int .i64 0]⟩) (h2.back h3):=fun e e1 e2=>by
    refine BQ ?_;rw[BV,AW,AW,Az,e1,e2];exact k2
   have y4:h2.Ext (h2.back h3):=.back y3;have mk4:Mk (h2.back h3) h2.quiet.next w (sec M (p * 3+1+i)):=mk.same rfl;generalize h2.back h3=h4 at q2 y4 mk4;have x4:=x2.trans y4;have hsl:(sec M (p * 3+1+i)).length=64:=Jb d.len (by omega);obtain⟨h5,v5,k5,x5,o5,n5,fr5⟩:=Ec (eb:=1) (en:=5) (k:=h.next) x4 (IN _) x4.next ((o'.ext x'.wf y2).ext x2.wf y4) mk4.vals (by rw[If,hsl];omega) (Ct _) (by rw[If,If,hdl,hsl];omega);rw[← v8,show p * 3+1+i=3 * p+1+i by omega,YQ d.len (by omega)]at o5;have c2:iNe 0 0=false:=CV rfl;have a3:=CH (i:=i) (h:=h5) (by omega);have hrun:∃ e2,reB (call AD (m+3)) e' h'=.norm e2 h5∧AB 0 e2=pt bs∧AB 1 e2=.int .i64 (p:Int)∧AB 2 e2=.int .i64 (k:Int)∧AB 8 e2=v5∧AB 9 e2=.int .i64 ((i+1:Nat):Int):=by
    unfold reB;simp only[sT,AT,AI,reduceIte,Af,t8,ln,AM,AK,t2,c1,A3,Ao,t0,Ae,AJ,AO,sh,D0,old,DT,AN,AQ,l0,q1,t1,BF,a1,t9,a2,q2,BL,BR,Ba,c2,BG,k5,a3];exact⟨_,rfl,by simp[AF,t0,t1,t2]⟩
   obtain⟨e2,r1,r2,r3,r4,r5,r6⟩:=hrun;exact⟨hi1,e2,h5,r1,v5,x5,o5,r2,r3,r4,r5,r6,by omega⟩
  ·right
   have c1:iLt ((64*i:Nat):Int) (k:Int)=false:=DE (by omega);have hrun:∃ e2,reB (call AD (m+3)) e' h'=.exit 0 e2 h'∧AB 8 e2=v∧AB 2 e2=.int .i64 (k:Int):=by
    unfold reB;simp only[sT,AT,AI,reduceIte,Af,t8,ln,AM,AK,t2,c1];exact⟨_,rfl,by simp[AF,t8,t2]⟩
   obtain⟨e2,r1,r2,r3⟩:=hrun;rw[r1];exact⟨rfl,e2,h',v,i,rfl,x',o',by omega,hi,r2,r3⟩
 obtain⟨e2,h2,v,i,r1,x2,o2,hk2,hi2,r2,r3⟩:=run;have hdl:(dat M p (64*i)).length=64*i:=I4 d.len (by omega);have htk:(dat M p (64*i)).take k=dat M p k:=by
  unfold dat;rw[AA8,yz hk2]
 have hdk:(dat M p k).length=k:=I4 d.len (by omega);rcases o2 with ⟨rfl,hx⟩|⟨b,rfl,R2,hb,ADg⟩
 ·have h0:64*i=0:=by
   have:=congrArg zY hx;rw[If,hdl]at this;exact this
  obtain rfl:k=0:=by omega
  have ct:∀ e:Env,AB 8 e=.slice none 0 0→AB 2 e=.int .i64 ((0:Nat):Int)→Dp 5 1 (AB 8) none (some (AB 2)) (some (AB 2)) (call AD (m+3)) e h2=.ok (.slice none 0 0) h2:=fun e e1 e2=>X4 e1 e2 e2
  refine⟨h2,.slice none 0 0,?_,x2,.inl ⟨rfl,?_⟩⟩
  ·rw[Xp rfl,YN,p1,Z8]
   simp only[BE,Ax,r1,A2,BA];unfold reE;simp only[sT,AT,AI,reduceIte,ct,r2,r3,Be,DB]
  ·unfold dat;rfl
 ·rw[If,hdl]at r2
  have ct:∀ e:Env,AB 8 e=.slice (some ⟨b,0,none⟩) (64*i) (64*i)→AB 2 e=.int .i64 (k:Int)→Dp 5 1 (AB 8) none (some (AB 2)) (some (AB 2)) (call AD (m+3)) e h2=.ok (.slice (some ⟨b,0,none⟩) k k) h2:=fun e e1 e2=>cJ e1 e2 e2 hk2
  refine⟨h2,.slice (some ⟨b,0,none⟩) k k,?_,x2,.inr ⟨b,0,k,6,_,by rw[If,hdk],by rw[If,hdk];exact IN _,R2,by rw[If,If,hdk,hdl];omega,?_,hb,.inr rfl⟩⟩
  ·rw[Xp rfl,YN,p1,Z8]
   simp only[BE,Ax,r1,A2,BA];unfold reE;simp only[sT,AT,AI,reduceIte,ct,r2,r3,Be,DB]
  ·rw[If,hdk,wM,← ACO,htk]
end
end
noncomputable section
open Go
set_option maxRecDepth 100000
abbrev f86:BY:=.func (.func 86) ⟨[]⟩ ⟨[]⟩
theorem Vf{n:Nat}{h:Hp}{c:Nat}:call AD (n+1) 86 [.int .u8 (c:Int)] h=.ok (.bool (iNe (c:Int) 0)) h:=by
 rw[lI rfl];unfold d86;simp only[iN,By,sT,AT,AI,reduceIte,AM,AK,lV0]
theorem Yp{n:Nat}{h:Hp}{u:BY}{l:List Nat}(V:h.ADo u (l.map bv))(hl:l.length≤900000){e:Env}(s0:AB 0 e=u)(s1:AB 1 e=f86)(s7:AB 7 e=.int .i64 (l.length:Int))(s8:AB 8 e=.int .i64 ((0:Nat):Int)):
  (∃ e',Ay ifB (call AD (n+1)) e h=.exit 0 e' h∧∀ x∈l,x=0)∨(∃ e' i,Ay ifB (call AD (n+1)) e h=.ret e' h∧AB 4 e'=.int .i64 ((i:Nat):Int)∧∃ x∈l,x≠0):=by
 refine BU (I:=fun i e' h'=>h'=h∧AB 0 e'=u∧AB 1 e'=f86∧AB 7 e'=.int .i64 (l.length:Int)∧AB 8 e'=.int .i64 (i:Int)∧i≤l.length∧((∀ x∈l,x=0)↔∀ x∈l.drop i,x=0))
  (Q:=fun x=>(∃ e',x=.exit 0 e' h∧∀ x∈l,x=0)∨(∃ e' i,x=.ret e' h∧AB 4 e'=.int .i64 ((i:Nat):Int)∧∃ x∈l,x≠0)) l.length (by omega) (fun i e' h' ⟨hh,t0,t1,t7,t8,hi,hr⟩=>?_) ⟨rfl,s0,s1,s7,s8,vi _,by simp⟩
 subst hh;by_cases hlt:i<l.length
 ·obtain⟨a,g1,g2⟩:=Ir V hlt
  have hmem:l.getD i 0∈l:=by
   rw[OF,No hlt];exact List.getElem_mem hlt
  rw[GB hlt]at hr;generalize l.getD i 0=c at g2 hr hmem;have c1:=Es hlt;have k1:=Vf (n:=n) (h:=h') (c:=c);by_cases hc:c=0
  ·left
   subst hc;have k1:call AD (n+1) 86 [.int .u8 ((0:Nat):Int)] h'=.ok (.bool false) h':=k1;have a3:=CH (i:=i) (h:=h') (by omega);have hrun:∃ e2,ifB (call AD (n+1)) e' h'=.norm e2 h'∧AB 0 e2=u∧AB 1 e2=f86∧AB 7 e2=.int .i64 (l.length:Int)∧AB 8 e2=.int .i64 ((i+1:Nat):Int):=by
    unfold ifB;simp only[sT,AT,AI,reduceIte,AM,AK,t8,t7,c1,A1,t0,g1,AN,g2,CR,t1,B9,AW,Az,wL,vR,k1,BF,a3];exact⟨_,rfl,by simp[AF,t0,t1,t7]⟩
   obtain⟨e2,q1,q2,q3,q4,q5⟩:=hrun;refine⟨hlt,e2,h',q1,rfl,q2,q3,q4,q5,hlt,hr.trans ?_⟩;simp
  ·right
   have c2:iNe (c:Int) 0=true:=by rw[HJ];simpa using hc
   rw[c2]at k1;have hrun:∃ e2,ifB (call AD (n+1)) e' h'=.ret e2 h'∧AB 4 e2=.int .i64 (i:Int):=by
    unfold ifB;simp only[sT,AT,AI,reduceIte,AM,AK,t8,t7,c1,A1,t0,g1,AN,g2,CR,t1,B9,AW,Az,wL,vR,k1];exact⟨_,rfl,by simp[AF]⟩
   obtain⟨e2,q1,q2⟩:=hrun;rw[q1];exact⟨rfl,.inr ⟨e2,i,rfl,q2,c,hmem,hc⟩⟩
 ·right
  have c1:=DE (show l.length≤i by omega);have hrun:∃ e2,ifB (call AD (n+1)) e' h'=.exit 0 e2 h':=by
   unfold ifB;simp only[sT,AT,AI,reduceIte,AM,AK,t8,t7,c1];exact⟨_,rfl⟩
  obtain⟨e2,q1⟩:=hrun;rw[q1];refine⟨rfl,.inl ⟨e2,rfl,hr.2 ?_⟩⟩;rw[List.drop_of_length_le (by omega)];intro x hx;cases hx
theorem SI{n:Nat}{h:Hp}{u:BY}{l:List Nat}(V:h.ADo u (l.map bv))(hl:l.length≤900000):∃ r:Bool,call AD (n+3) 85 [u,f86] h=.ok (.bool r) h∧(r=true↔∃ x∈l,x≠0):=by
 have Vl:=V.bl h;have pre:∃ e1,NO (call AD (n+1)) (AS e0 0 [u,f86]) h=ifS (call AD (n+1)) e1 h∧AB 0 e1=u∧AB 1 e1=f86∧AB 7 e1=.int .i64 (l.length:Int)∧AB 8 e1=.int .i64 ((0:Nat):Int):=by
  unfold NO;simp only[iN,By,sT,AT,AI,reduceIte,Af,Vl];exact⟨_,rfl,by simp[AF]⟩
 obtain⟨e1,p1,p2,p3,p4,p5⟩:=pre;rcases Yp (n:=n) V hl p2 p3 p4 p5 with ⟨e2,q1,q2⟩|⟨e2,i,q1,q2,q3⟩
 ·have k1:call AD (n+2) 109 [u,f86] h=.ok (.int .i64 (-1)) h:=by
   rw[LH rfl,LI,p1,Oc];simp only[BE,Ax,q1,A2,BA];unfold ifE;simp only[sT,AT,AI,reduceIte,lV0]
  refine⟨false,?_,by simp;exact q2⟩;have c1:iGe (-1) 0=false:=FL (by omega);rw[OP rfl];unfold d85;simp only[iN,By,sT,AT,AI,reduceIte,cA0,k1,AM,AK,c1,lV0]
 ·have k1:call AD (n+2) 109 [u,f86] h=.ok (.int .i64 (i:Int)) h:=by
   rw[LH rfl,LI,p1,Oc];simp only[BE,Ax,q1,B0,CY,lV0,q2]
  refine⟨true,?_,by simp only[true_iff];exact q3⟩;have c1:iGe (i:Int) 0=true:=HG (by omega);rw[OP rfl];unfold d85;simp only[iN,By,sT,AT,AI,reduceIte,cA0,k1,AM,AK,c1,lV0]
def K0:Kt:=⟨0,0,0,0,[],0,.slice none 0 0⟩
theorem bI:FZ.zero=AV K0:=by kernel_rfl
theorem Gr:Bx .mt 0 (AV K0)=some Dl:=by kernel_rfl
section
variable {F:ADS}{e:Env}{h g:Hp}{T M:List Nat}{c0 bad m:Nat}{arm:Int}{lv fv:BY}{ov:Bool}
theorem GY{h:Hp}{t u v w:BY}{l:List BY}:GC 3 (.tuple ⟨t::u::v::w::l⟩) h=.ok w h:=rfl
theorem Ju:Bs FZ.zero [] F e h=.ok (ktV K0) h:=by
 rw[EZ,CP,bI];rfl
theorem Tj{a b c:Int}{s p:Nat}{u:BY}{l:List Nat}{g1 g2:O}(h1:g1 e=Bz a b c s u)(h2:g2 e=.int .i64 (p:Int)):Bs FZ.zero [(0,5,g1),(5,1,g2)] F e h=.ok (ktV ⟨a,b,c,s,l,p,u⟩) h:=by
 rw[EZ,bI,BD (hk:=by rw[h1];rfl),h1,BD (hk:=by rw[h2];rfl),h2,
  if_pos (show(cellsOf (Bz a b c s u)).length=5 from rfl),if_pos (show 0+5≤(AV K0).length by show 5≤6;omega),if_pos (show(cellsOf (.int .i64 (p:Int))).length=1 from rfl),if_pos (show 5+1≤(over (AV K0) 0 (cellsOf (Bz a b c s u))).length by show 6≤6;omega),CP]
 rfl
theorem Mp(W0:h.Wf)(x:h.Ext g){r:Nat}(hr:h.next≤r){L:List BY}(R:g.Row r 0 L)(hL:L.length=6){k:Kt}(hu:oneCell k.u=true):
  ADl 6 (pt r) (ktV k) g=.ok ADV (g.wr r 0 (AV k))∧loadN 6 ⟨r,0,none⟩ (g.wr r 0 (AV k))=.ok (ktV k) (g.wr r 0 (AV k))∧h.Ext (g.wr r 0 (AV k))∧(g.wr r 0 (AV k)).Row r 0 (AV k)∧(g.wr r 0 (AV k)).next=g.next:=by
 have ADg:256≤r:=by have:=W0.big;omega
 have ho:0+(AV k).length≤L.length:=by rw[hL];show 0+6≤6;omega
 have h1:Bd (AV k)=true:=by
  show(bif oneCell k.u then true else false)=true;rw[hu];rfl
 have st:=R.ADl (n:=6) (off:=0) x.wf ADg (v:=ktV k) rfl ho h1;have wr:=R.ADm x.wf ho;rw[KT (show L.length=(AV k).length from hL)]at wr;exact⟨st,wr.loadN (off:=0) (n:=6) (by show 0+6≤6;omega),R.AD5 x hr ho,wr,R.AD9 ho⟩
def G3(T M:List Nat)(p:Nat)(ns:List Nat):Prop:=K3 T (sec M (3*p)) ns∧at6 ns 4≤100∧B5 T (dat M p (at6 ns 4))=at6 ns 5
theorem Oo:lkB=WK:=rfl
theorem lm:d55=Vq:=rfl
theorem tL{e:Env}{h:Hp}{r4:Nat}{v:BY}{a b:Bool}{c:Int}(s4:AB 4 e=pt r4)(s5:AB 5 e=.bool a)(s6:AB 6 e=.bool b)(s7:AB 7 e=.int .i64 c)(hv:loadN 6 ⟨r4,0,none⟩ h=.ok v h):A4 [.cN (AB 4) 6,.t (AB 5),.t (AB 6),.t (AB 7)] (.ret e h)=.ok (.tuple ⟨[v,.bool a,.bool b,.int .i64 c]⟩) h:=by
 rw[Be,J8 (v:=v) (by rw[s4,Ar];exact hv),s5,s6,s7]
def iI(T M:List Nat)(p:Nat)(h h':Hp)(r:R):Prop:=
 (∃ ns u,G3 T M p ns∧r=.ok (.tuple ⟨[ktV ⟨at6 ns 1,at6 ns 2,at6 ns 3,at6 ns 0,dat M p (at6 ns 4),p,u⟩,.bool true,.bool false,.int .i64 0]⟩) h'∧h'.BS (fun b=>h.next≤b) u ((dat M p (at6 ns 4)).map bv))∨
 ((¬ ∃ ns,G3 T M p ns)∧∃ bad:Bool,r=.ok (.tuple ⟨[ktV K0,.bool false,.bool bad,.int .i64 0]⟩) h'∧(bad=true↔(∃ x∈sec M (3*p),x≠0)∨∃ ns,K3 T (sec M (3*p)) ns∧at6 ns 4≤100))
theorem H7{T l a b:List Nat}(h1:K3 T l a)(h2:K3 T l b):a=b:=by
 obtain⟨x,q,a1,a2,a3,_⟩:=h1;obtain⟨y,r,b1,b2,b3,_⟩:=h2;rw[a1]at b1;cases b1;rw[a3]at b3;cases b3;rfl
theorem Q6{T l ns:List Nat}(h:K3 T l ns):fO ns:=by
 obtain⟨_,_,_,_,_,h4,_⟩:=h;exact fP.1 h4
theorem dq(W:h.Wf){bs bd bm bc tb n:Nat}(R:h.Row bs 0 (slL bd tb lv fv bad ov))(Rt:h.Row tb 0 (T.map wv))(hT:AEM T)(d:Dk h bd bm bc n M c0 [] arm false){p:Nat}(hp:3*p+3≤n):
  ∃ h',h.Ext h'∧iI T M p h h' (call AD (m+5) 55 [pt bs,.int .i64 (p:Int)] h):=by
 have hn:=d.n1;have al:=fun (F:ADS) (e:Env)=>Bm (F:=F) (e:=e) W (n:=6) (t:=Dl)
 have R4:=Hp.Row.alloc W Gr (show(AV K0).length=6 from rfl);have x1:h.Ext (h.push (.cells Dl 6 0)):=(Hp.Ext.refl W).push _;have n1:(h.push (.cells Dl 6 0)).next=h.next+1:=rfl;generalize h.push (.cells Dl 6 0)=h1 at al R4 x1 n1;have xm:=x1.marked;have Rm:=R.ext W xm;have old:∀ (off:Nat) (kk:C) (F:ADS) (e:Env),Ih (.pointer (some ⟨bs,off,none⟩)) kk F e h1.marked=kk F e h1.marked:=fun off kk F e=>DZ (by
  show bs<h1.next;have:=R.lt W;omega)
 obtain⟨l0,_⟩:=A7 Rm;have k1:=Lg (m:=m+2) (Rm.same (h':=h1.marked.quiet) rfl) (p:=p) (by omega);have q1:∀ e:Env,AB 0 e=pt bs→AB 1 e=.int .i64 (p:Int)→Al .weak (AU 46 [AB 0,AB 1]) (call AD (m+4)) e h1.marked=.ok (.int .i64 ((p*3:Nat):Int)) (h1.marked.back h1.marked.quiet):=fun e e1 e2=>by
  refine GL x1.wf.marked ?_ (IN _);rw[BV,AW,AW,Az,e1,e2];exact k1
 have y2:h1.Ext (h1.marked.back h1.marked.quiet):=Hp.Ext.AEc (Hp.Ext.refl x1.wf).marked (Hp.Ext.refl x1.wf).marked.quiet;have n2:(h1.marked.back h1.marked.quiet).next=h1.next:=rfl;generalize h1.marked.back h1.marked.quiet=h2 at q1 y2 n2;have x2:=x1.trans y2;obtain⟨h3,v,k2,y3,mk,n3,_⟩:=U3 (m:=m+1) x2.quiet.wf ((d.ext W x2).same (h':=h2.quiet) rfl) (i:=p * 3) (by omega);have q2:∀ e:Env,AB 19 e=pt bd→AB 22 e=.int .i64 ((p * 3:Nat):Int)→Al .free (AU 84 [AB 19,AB 22]) (call AD (m+4)) e h2=.ok (.tuple ⟨[v,.int .i64 0]⟩) (h2.back h3):=fun e e1 e2=>by
  refine BQ ?_;rw[BV,AW,AW,Az,e1,e2];exact k2
 have y4:h2.Ext (h2.back h3):=.back y3;have mk4:Mk (h2.back h3) h2.quiet.next v (sec M (p * 3)):=mk.same rfl;generalize h2.back h3=h4 at q2 y4 mk4;rw[wj p 3]at mk4;have x4:=x2.trans y4;have c0':iNe 0 0=false:=CV rfl;have hsl:(sec M (3 * p)).length=64:=Jb d.len (by omega);have hsb:=nZ d.byt (3 * p);obtain⟨r,k3,hr⟩:=SI (n:=m+1) mk4.vals (by omega);obtain⟨_,l1,_⟩:=A7 (R.ext W x4);obtain⟨h5,y5,hpar⟩:=Zv (n:=m) x4.wf (Rt.ext W x4) hT mk4.vals mk4.cap hsb (by omega);have x5:=x4.trans y5;have al2:=fun (F:ADS) (e:Env)=>Bm (F:=F) (e:=e) x5.wf (n:=5) (t:=Cc)
 have R11:=Hp.Row.alloc x5.wf Ei (show(Aq 0 0 0 0 ADj).length=5 from rfl);have y6:h5.Ext (h5.push (.cells Cc 5 0)):=(Hp.Ext.refl x5.wf).push _;have n6:(h5.push (.cells Cc 5 0)).next=h5.next+1:=rfl;generalize h5.push (.cells Cc 5 0)=h6 at al2 R11 y6 n6;have x6:=x5.trans y6;have hn5:=x5.next;have AJ7:h.next+1≤h5.next:=by
  have:=((y2.trans y4).trans y5).next;omega
 have pre:∀ (a b c:Int) (s many sum:Nat) (ok:Bool),call AD (m+4) 87 [pt tb,v] h4=.ok (.tuple ⟨[Bz a b c s ADj,.int .i64 (many:Int),.int .u32 (sum:Int),.bool ok]⟩) h5→
   ∃ e1 h7,Vq (call AD (m+4)) (AS e0 0 [pt bs,.int .i64 (p:Int)]) h=lkB (call AD (m+4)) e1 h7∧h.Ext h7∧h7.Row h5.next 0 (Aq a b c s ADj)∧h7.Row h.next 0 (AV K0)∧h5.next<h7.next∧AB 0 e1=pt bs∧AB 1 e1=.int .i64 (p:Int)∧AB 4 e1=pt h.next∧AB 10 e1=.bool (!r)∧AB 11 e1=pt h5.next∧AB 12 e1=.int .i64 (many:Int)∧AB 13 e1=.int .u32 (sum:Int)∧AB 14 e1=.bool ok:=fun a b c s many sum ok hk=>by
  obtain⟨st,_,x7,R7,n7⟩:=KU x5.wf y6 (IN _) R11 rfl (a:=a) (b:=b) (c:=c) (s:=s) (u:=ADj) rfl;have R4':(h6.wr h5.next 0 (Aq a b c s ADj)).Row h.next 0 (AV K0):=((R4.ext x1.wf ((y2.trans y4).trans y5)).ext x5.wf x7);generalize h6.wr h5.next 0 (Aq a b c s ADj)=h7 at st x7 R7 n7 R4';have hrun:∃ e1,Vq (call AD (m+4)) (AS e0 0 [pt bs,.int .i64 (p:Int)]) h=lkB (call AD (m+4)) e1 h7∧AB 0 e1=pt bs∧AB 1 e1=.int .i64 (p:Int)∧AB 4 e1=pt h.next∧AB 10 e1=.bool (!r)∧AB 11 e1=pt h5.next∧AB 12 e1=.int .i64 (many:Int)∧AB 13 e1=.int .u32 (sum:Int)∧AB 14 e1=.bool ok:=by
   unfold Vq;simp only[iN,By,sT,AT,AI,reduceIte,al,A3,Ao,Ae,AJ,AO,sh,D0,old,DT,AN,AQ,l0,q1,q2,BL,BR,Ba,C5,GY,AM,AK,c0',cA0,k3,Bj,Bh,l1,hk,al2,Aa,st];exact⟨_,rfl,by simp[AF]⟩
  obtain⟨e1,q⟩:=hrun;exact⟨e1,h7,q.1,x5.trans x7,R7,R4',by omega,q.2⟩
 have res:∀ (hx g:Hp) (e1 e2:Env) (a b:Bool) (v:BY),Vq (call AD (m+4)) (AS e0 0 [pt bs,.int .i64 (p:Int)]) h=lkB (call AD (m+4)) e1 hx→lkB (call AD (m+4)) e1 hx=.ret e2 g→AB 4 e2=pt h.next→AB 5 e2=.bool a→AB 6 e2=.bool b→AB 7 e2=.int .i64 0→loadN 6 ⟨h.next,0,none⟩ g=.ok v g→
   call AD (m+5) 55 [pt bs,.int .i64 (p:Int)] h=.ok (.tuple ⟨[v,.bool a,.bool b,.int .i64 0]⟩) g:=fun hx g e1 e2 a b v i1 i2 t4 t5 t6 t7 hv=>by
  rw[kQ rfl,lm,i1,i2];exact tL t4 t5 t6 t7 hv
 have K0u:oneCell K0.u=true:=rfl;rcases hpar with ⟨ns,hP,hk⟩|⟨hP,hk⟩
 ·have AGt:=Q6 hP
  obtain⟨e1,h7,p1,x7,R7,R47,AI6,s0,s1,s4,s10,s11,s12,s13,s14⟩:=pre _ _ _ _ (at6 ns 4) (at6 ns 5) true hk;obtain⟨_,_,l2,_⟩:=A7 (R.ext W x7);by_cases AFh:at6 ns 4≤100
  ·have c1:iGt (at6 ns 4:Int) 100=false:=Eq (by omega)
   obtain⟨h8,u,k4,y8,vs8⟩:=XV (m:=m) x7.wf (R.ext W x7) (d.ext W x7) (p:=p) (k:=at6 ns 4) hp (by omega);have x8:=x7.trans y8;have R8:=R7.ext x7.wf y8;have u1:=vs8.vs.one;have ho4:4+(cellsOf u).length≤(Aq (at6 ns 1) (at6 ns 2) (at6 ns 3) (at6 ns 0) ADj).length:=by rw[u1.1];show 4+1≤5;omega
   have ADg:256≤h5.next:=by have:=W.big;omega
   have st8:ADl 1 (.pointer (some ⟨h5.next,4,none⟩)) u h8=.ok ADV (h8.wr h5.next 4 (cellsOf u)):=R8.ADl (n:=1) (off:=4) x8.wf ADg (by rw[u1.1];rfl) ho4 (by
    rw[u1.1];show(bif oneCell u then true else false)=true;rw[u1.2.1];rfl)
   have R9:=R8.ADm x8.wf ho4;have x9:=R8.AD5 x8 (by omega) ho4;have n9:=R8.AD9 ho4;have R49:=R8.AEd x8.wf ho4 (R47.ext x7.wf y8) (by omega);have hkeep:∀ b el L,b≠h5.next→h8.Row b el L→(h8.wr h5.next 4 (cellsOf u)).Row b el L:=fun b el L hb r=>R8.AEd x8.wf ho4 r hb
   have hov:over (Aq (at6 ns 1) (at6 ns 2) (at6 ns 3) (at6 ns 0) ADj) 4 (cellsOf u)=Aq (at6 ns 1) (at6 ns 2) (at6 ns 3) (at6 ns 0) u:=by rw[u1.1];rfl
   rw[hov]at R9;have vs9:(h8.wr h5.next 4 (cellsOf u)).BS (fun b=>h7.next≤b) u ((dat M p (at6 ns 4)).map bv):=vs8.keep fun b el L hb _ r=>hkeep b el L (by omega) r
   generalize h8.wr h5.next 4 (cellsOf u)=h9 at st8 R9 x9 n9 R49 vs9;have x9m:=x9.marked;have R9m:h9.marked.Row h5.next 0 (Aq (at6 ns 1) (at6 ns 2) (at6 ns 3) (at6 ns 0) u):=R9.same rfl;obtain⟨_,_,_,_,lu,_⟩:=Bc R9m;obtain⟨_,l1',_⟩:=A7 (R.ext W x9m);have hdl:(dat M p (at6 ns 4)).length=at6 ns 4:=I4 d.len (by omega);obtain⟨hq,k5,hq2⟩:=TT (n:=m+3) (h:=h9.marked.quiet) ((Rt.ext W x9).same rfl) hT (vs9.vs.vals.same (h':=h9.marked.quiet) rfl) (YP d.byt p _) (by omega);have yq:h9.marked.quiet.Ext hq:=by
    rcases hq2 with rfl|rfl
    ·exact Hp.Ext.refl x9m.quiet.wf
    ·exact(Hp.Ext.refl x9m.quiet.wf).marked
   have nq:hq.next=h9.next:=by rcases hq2 with rfl|rfl<;>rfl
   have q5:∀ e:Env,AB 72 e=pt tb→AB 74 e=u→Al .free (AU 71 [AB 72,AB 74]) (call AD (m+4)) e h9.marked=.ok (.int .u32 ((B5 T (dat M p (at6 ns 4)):Nat):Int)) (h9.marked.back hq):=fun e e1 e2=>by
    refine BQ ?_;rw[BV,AW,AW,Az,e1,e2];exact k5
   have y10:h9.marked.Ext (h9.marked.back hq):=.back yq;have n10:(h9.marked.back hq).next=h9.next:=nq;generalize h9.marked.back hq=h10 at q5 y10 n10;have x10:=x9m.trans y10;have R10:=R9m.ext x9m.wf y10;have AHT:h10.Row h.next 0 (AV K0):=(R49.same (h':=h9.marked) rfl).ext x9m.wf y10;have AI7:h10.BS (fun b=>h7.next≤b) u ((dat M p (at6 ns 4)).map bv):=(vs9.same (h':=h9.marked) rfl).ext x9m.wf y10;obtain⟨_,_,_,_,_,ln⟩:=Bc R10;have AIC:at6 ns 0≤2:=AGt.1;by_cases AHU:B5 T (dat M p (at6 ns 4))=at6 ns 5
   ·have c2:iNe ((B5 T (dat M p (at6 ns 4)):Nat):Int) ((at6 ns 5:Nat):Int)=false:=CV (by rw[AHU])
    have bd1:∀ (F:ADS) (e:Env),AB 79 e=Bz (at6 ns 1) (at6 ns 2) (at6 ns 3) (at6 ns 0) u→AB 1 e=.int .i64 (p:Int)→Bs FZ.zero [(0,5,AB 79),(5,1,AB 1)] F e h10=.ok (ktV ⟨at6 ns 1,at6 ns 2,at6 ns 3,at6 ns 0,dat M p (at6 ns 4),p,u⟩) h10:=fun F e e1 e2=>Tj e1 e2
    obtain⟨w1,w2,w3,w4,w5⟩:=Mp W x10 (IN _) AHT rfl (k:=⟨at6 ns 1,at6 ns 2,at6 ns 3,at6 ns 0,dat M p (at6 ns 4),p,u⟩) u1.2.1;have AI8:∀ b el L,b≠h.next→h10.Row b el L→(h10.wr h.next 0 (AV ⟨at6 ns 1,at6 ns 2,at6 ns 3,at6 ns 0,dat M p (at6 ns 4),p,u⟩)).Row b el L:=fun b el L hb r=>AHT.AEd x10.wf (by show 0+6≤6;omega) r hb
    have AID:(h10.wr h.next 0 (AV ⟨at6 ns 1,at6 ns 2,at6 ns 3,at6 ns 0,dat M p (at6 ns 4),p,u⟩)).BS (fun b=>h7.next≤b) u ((dat M p (at6 ns 4)).map bv):=AI7.keep fun b el L hb _ r=>AI8 b el L (by have:=x7.next;omega) r
    generalize h10.wr h.next 0 (AV ⟨at6 ns 1,at6 ns 2,at6 ns 3,at6 ns 0,dat M p (at6 ns 4),p,u⟩)=h11 at w1 w2 w3 w4 w5 AID;have hrun:∃ e2,lkB (call AD (m+4)) e1 h7=.ret e2 h11∧AB 4 e2=pt h.next∧AB 5 e2=.bool true∧AB 6 e2=.bool false∧AB 7 e2=.int .i64 0:=by
     rw[Oo];unfold WK lkC;simp only[sT,AT,AI,reduceIte,gD,Bj,Bh,s14,wQ,s12,s0,Ao,Ae,AJ,AO,sh,AN,AQ,l2,AM,AK,c1,cA0,s1,k4,BL,BR,Ba,s11,Aa,st8,c0',A3,l1',lu,q5,s13,c2,Aw,Ar,ln,bd1,s4,w1];exact⟨_,rfl,by simp[AF,s4]⟩
    obtain⟨e2,i2,t4,t5,t6,t7⟩:=hrun;exact⟨h11,w3,.inl ⟨ns,u,⟨hP,AFh,AHU⟩,res h7 h11 e1 e2 true false _ p1 i2 t4 t5 t6 t7 w2,AID.mono fun b hb=>Nat.le_trans x7.next hb⟩⟩
   ·have c2:iNe ((B5 T (dat M p (at6 ns 4)):Nat):Int) ((at6 ns 5:Nat):Int)=true:=EL (by omega)
    obtain⟨w1,w2,w3,w4,w5⟩:=Mp W x10 (IN _) AHT rfl (k:=K0) K0u;generalize h10.wr h.next 0 (AV K0)=h11 at w1 w2 w3 w4 w5;have hrun:∃ e2,lkB (call AD (m+4)) e1 h7=.ret e2 h11∧AB 4 e2=pt h.next∧AB 5 e2=.bool false∧AB 6 e2=.bool true∧AB 7 e2=.int .i64 0:=by
     rw[Oo];unfold WK lkC;simp only[sT,AT,AI,reduceIte,gD,Bj,Bh,s14,wQ,s12,s0,Ao,Ae,AJ,AO,sh,AN,AQ,l2,AM,AK,c1,cA0,s1,k4,BL,BR,Ba,s11,Aa,st8,c0',A3,l1',lu,q5,s13,c2,Ju,s4,w1];exact⟨_,rfl,by simp[AF,s4]⟩
    obtain⟨e2,i2,t4,t5,t6,t7⟩:=hrun;refine⟨h11,w3,.inr ⟨?_,true,res h7 h11 e1 e2 false true _ p1 i2 t4 t5 t6 t7 w2,⟨fun _=>.inr ⟨ns,hP,AFh⟩,fun _=>rfl⟩⟩⟩;rintro⟨ns',a1,a2,a3⟩;obtain rfl:=H7 hP a1;exact AHU a3
  ·have c1:iGt (at6 ns 4:Int) 100=true:=FM (by omega)
   obtain⟨w1,w2,w3,w4,w5⟩:=Mp W x7 (IN _) R47 rfl (k:=K0) K0u;generalize h7.wr h.next 0 (AV K0)=h11 at w1 w2 w3 w4 w5;have hrun:∃ e2,lkB (call AD (m+4)) e1 h7=.ret e2 h11∧AB 4 e2=pt h.next∧AB 5 e2=.bool false∧AB 6 e2=.bool r∧AB 7 e2=.int .i64 0:=by
    rw[Oo];unfold WK;simp only[sT,AT,AI,reduceIte,gD,Bj,Bh,s14,wQ,s12,s0,Ao,Ae,AJ,AO,sh,AN,AQ,l2,AM,AK,c1,Ju,s10,ACd,s4,Aa,w1];exact⟨_,rfl,by simp[AF,s4]⟩
   obtain⟨e2,i2,t4,t5,t6,t7⟩:=hrun;refine⟨h11,w3,.inr ⟨?_,r,res h7 h11 e1 e2 false r _ p1 i2 t4 t5 t6 t7 w2,hr.trans ⟨.inl,?_⟩⟩⟩
   ·rintro⟨ns',a1,a2,a3⟩
    obtain rfl:=H7 hP a1;exact AFh a2
   ·rintro (h1|⟨ns',a1,a2⟩)
    ·exact h1
    ·obtain rfl:=H7 hP a1
     exact absurd a2 AFh
 ·obtain⟨e1,h7,p1,x7,R7,R47,AI6,s0,s1,s4,s10,s11,s12,s13,s14⟩:=pre 0 0 0 0 0 0 false hk
  obtain⟨w1,w2,w3,w4,w5⟩:=Mp W x7 (IN _) R47 rfl (k:=K0) K0u;generalize h7.wr h.next 0 (AV K0)=h11 at w1 w2 w3 w4 w5;have hrun:∃ e2,lkB (call AD (m+4)) e1 h7=.ret e2 h11∧AB 4 e2=pt h.next∧AB 5 e2=.bool false∧AB 6 e2=.bool r∧AB 7 e2=.int .i64 0:=by
   rw[Oo];unfold WK;simp only[sT,AT,AI,reduceIte,gD,Bj,Bh,s14,wm,Ju,s10,ACd,s4,Aa,w1];exact⟨_,rfl,by simp[AF,s4]⟩
  obtain⟨e2,i2,t4,t5,t6,t7⟩:=hrun;refine⟨h11,w3,.inr ⟨fun⟨ns',a1,_⟩=>hP ⟨ns',a1⟩,r,res h7 h11 e1 e2 false r _ p1 i2 t4 t5 t6 t7 w2,hr.trans ⟨.inl,?_⟩⟩⟩;rintro (h1|⟨ns',a1,_⟩)
  ·exact h1
  ·exact absurd ⟨ns',a1⟩ hP
end
end
end Go.Proofs.YtedbmmfebjfibaaGreat

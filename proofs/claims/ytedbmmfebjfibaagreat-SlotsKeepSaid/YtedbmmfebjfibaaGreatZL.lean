/-
  Part ZL of what Lawke stands on: printed by program, names and spaces cut.
-/
import Derived.Test.YtedbmmfebjfibaaGreatZK
open Go.Value renaming int→AI
open Go.IntKind renaming i64→AT
open Nat renaming reduceEqDiff→BY,reduceLT→By,reduceAdd→IS,le_refl→IT,zero_add→vk,succ→vo,ble→vx,beq→wB,zero_le→wP,mul_comm→xr,beq_refl→xu,add_zero→yc,min_eq_left→zo,add_comm→ABI,succ_pos→ABQ,add_assoc→ADF
open Go renaming Value→IN
open List renaming length_append→No,length_map→OF,getElem?_eq_getElem→sh,getD_eq_getElem?_getD→vm,mem_cons_self→vp,mem_cons_of_mem→vr,length_cons→vw,mem_of_getElem?→vy,mem_singleton→v7,replicate→v8,mem_cons→wA,getElem?_eq_some_iff→wC,getElem?_append_left→wD,append_nil→wF,append_assoc→wG,mem_append_right→wI,mem_append→wK,getElem?_append_right→wQ,length_take→wT,mem_append_left→wU,map_append→wa,length_nil→wl,getElem?_cons_succ→wy,length_drop→xC,nil_append→xE,drop_zero→xF,getElem?_map→xH,mem_of_mem_take→xK,length_singleton→xR,length_replicate→xh,take_length→xn,getElem?_take→zC,mem_of_mem_drop→zY,getElem?_drop→zd,mem_iff_getElem?→AAL,length→AAM,take_take→ABp,map_take→AC6
open Bool renaming not_true→xJ,not_false→yA,eq_iff_iff→yL,not_not→ADM
open Classical renaming choose→ADb,choose_spec→ADp,byContradiction→AD8
set_option linter.unusedVariables false
set_option linter.unusedSimpArgs false
namespace Go.Proofs.YtedbmmfebjfibaaGreat
noncomputable section
open Go
set_option maxRecDepth 100000
section
variable {F:AEB}{e:Env}{h h':Hp}{S:Nat->Prop}{bd bm bc n c0:Nat}{M:List Nat}{cs:List (Nat×List Nat)}{arm:Int}{dn:Bool}
theorem gX{n:Nat}(hn:n<=9223372036854775807):Fu ⟨false,[.i .i64]⟩ (AI AT (n:Int))=true:=by
 show(match (match Fj .i64 .i64 with|true=>vx n (BC .i64)|false=>false)with|true=>true|false=>false)=true;have h1:Fj .i64 .i64=true:=rfl;have h2:vx n (BC .i64)=true:=Ac.2 hn;simp only[h1,h2]
theorem uK{n m:Nat}(hm:m<=9223372036854775807):HM ⟨false,[.i .i64]⟩ (AI AT (n:Int)) (AI AT (m:Int))=some (decide (n=m)):=by
 unfold HM;rw[gX hm];show(match (match Fj .i64 .i64 with|true=>some (iEq (n:Int) (m:Int))|false=>none)with|some true=>some true|some false=>some false|none=>none)=_;have h1:Fj .i64 .i64=true:=rfl;simp only[h1,EM];by_cases h:n=m
 ·subst h;simp
 ·have:((n:Int) == (m:Int))=false:=by rw[beq_eq_false_iff_ne];omega
  rw[this,decide_eq_false h]
theorem S2{k:Nat}{v:IN}:∀ (cs:List (Nat×List Nat)) (i:Nat),(∀ x∈cs,x.1≠k/\x.1<=65536)->N4 ⟨false,[.i .i64]⟩ (AI AT (k:Int)) v (AEL i cs)=some none
 |[],_,_=>rfl
 |x::l,i,hx=>by
  obtain⟨h1,h2⟩:=hx x vp;show(match HM ⟨false,[.i .i64]⟩ (AI AT (k:Int)) (AI AT (x.1:Int))with|some true=>some (some ((⟨AI AT (k:Int),v,i⟩:Ent)::AEL (i+1) l))|some false=>(match N4 ⟨false,[.i .i64]⟩ (AI AT (k:Int)) v (AEL (i+1) l)with|some (some l')=>some (some ((⟨AI AT (x.1:Int),DD x.2,i⟩:Ent)::l'))|some none=>some none|none=>none)|none=>none)=some none;rw[uK (by omega),decide_eq_false (fun h=>h1 h.symm)];simp only;rw[S2 l (i+1) fun y hy=>hx y (vr _ hy)]
theorem VL{k:Nat}{l:List Nat}:∀ (cs:List (Nat×List Nat)) (i:Nat),XR ⟨AI AT (k:Int),DD l,i+cs.length⟩ (AEL i cs)=AEL i (cs++[(k,l)])
 |[],i=>rfl
 |x::cs,i=>by
  show(⟨AI AT (x.1:Int),DD x.2,i⟩:Ent)::XR ⟨AI AT (k:Int),DD l,i+(cs.length+1)⟩ (AEL (i+1) cs)=_::AEL (i+1) (cs++[(k,l)]);rw[<- VL cs (i+1),ADF,ABI 1]
theorem XN:GG.zero=(v8 64 0).map bv:=by
 have:GG.zero=BQ ty5.zero 64:=by kernel_rfl
 rw[this,ME]
theorem TY:B3 .mt 0 ((v8 64 0).map bv)=some Fp:=by kernel_rfl
theorem iD(R:h.Row bm 0 (M.map bv))(hM:M.length=64*n){i:Nat}(hi:i<n):loadN 64 ⟨bm,0+i*64,none⟩ h=.ok (DD (sec M i)) h:=by
 rw[R.loadN (by rw[OF];omega),<- List.map_drop,<- AC6,vk,xr i 64];rfl
theorem bQ(d:Dk h bd bm bc n M c0 [] arm dn){z:IN}{x y:O}{i:Nat}(hx:x e=.map (some bc))(hy:y e=AI AT (i:Int))(hi:i<n):FL ⟨false,[.i .i64]⟩ z true x y F e h=.ok (.tuple ⟨[z,.bool false]⟩) h:=by
 have:=d.n1;show F7 ⟨false,[.i .i64]⟩ z (x e) (y e) true h=_;rw[hx,hy];have he:BV h bc=.ok [] (c0+0):=by unfold BV;rw[d.map];rfl
 unfold F7;rw[gX (by omega)];simp only[he,Ip];unfold DV;simp only[BH]
theorem Xk{g:O}{r:Nat}(hg:g e=pt r):GA 64 1 g none none none F e h=.ok (.slice (some ⟨r,0,none⟩) 64 64) h:=by
 show(match Dq (g e)with|.ok a=>DR e 64 64 none none none fun l hh m=>Bn (some a) 1 l hh m h|.no=>.no)=_;rw[hg];rfl
theorem Wv{m:Nat}(W:h.Wf)(d:Dk h bd bm bc n M c0 [] arm false){i:Nat}(hi:i<n):
  ∃ h' v,call AC (m+3) 84 [pt bd,AI AT (i:Int)] h=.ok (.tuple ⟨[v,AI AT 0]⟩) h'/\h.Ext h'/\Mk h' h.next v (sec M i)/\h'.next=h.next+1/\h'.mark=h.mark/\h.low=h.low:=by
 have k1:=H9 (m:=m) d hi;obtain⟨l0,l1,_,_⟩:=CR d.disk;have c0':iNe 0 0=false:=CY rfl;have lk:∀ e:Env,J 19 e=.map (some bc)->J 1 e=AI AT (i:Int)->FL ⟨false,[.i .i64]⟩ (.agg ⟨GG.zero⟩) true (J 19) (J 1) (call AC (m+2)) e h=.ok (.tuple ⟨[.agg ⟨GG.zero⟩,.bool false]⟩) h:=fun e h1 h2=>bQ d h1 h2 hi
 have al:=fun (F:AEB) (e:Env)=>Bx (F:=F) (e:=e) W (n:=64) (t:=Fp)
 have R1:=Hp.Row.alloc W TY (by rw[OF,xh]);have x1:h.Ext (h.push (.cells Fp 64 0)):=(Hp.Ext.refl W).push _;have n1:(h.push (.cells Fp 64 0)).next=h.next+1:=rfl;have m1:(h.push (.cells Fp 64 0)).mark=h.mark:=rfl;generalize h.push (.cells Fp 64 0)=h1 at al R1 x1 n1 m1;have hz:((v8 64 0).map bv).length=64:=by rw[OF,xh]
 have big:=W.big;have st:AER 64 (pt h.next) (.agg ⟨GG.zero⟩) h1=.ok AEE (h1.wr h.next 0 ((v8 64 0).map bv)):=by
  rw[XN];exact R1.AER (n:=64) (off:=0) x1.wf big (v:=.agg ⟨(v8 64 0).map bv⟩) hz (by show 0+((v8 64 0).map bv).length<=_;omega) (C6 _)
 have x2:=R1.AEi x1 (IT _) (off:=0) (vs:=(v8 64 0).map bv) (by omega);have R2:=R1.AET x1.wf (off:=0) (vs:=(v8 64 0).map bv) (by omega);rw[Hy rfl]at R2;have n2:(h1.wr h.next 0 ((v8 64 0).map bv)).next=h.next+1:=(R1.AEt (by omega)).trans n1;have m2:(h1.wr h.next 0 ((v8 64 0).map bv)).mark=h.mark:=by
  obtain⟨_,_,e,_⟩:=R1.AFT (off:=0) (vs:=(v8 64 0).map bv) (by omega);rw[e];exact m1
 generalize h1.wr h.next 0 ((v8 64 0).map bv)=h2 at st x2 R2 n2 m2;have d2:=d.ext W x2;obtain⟨l0,_,_,_⟩:=CR d2.disk;have ix:AE0 64 (.slice (some ⟨bm,0,none⟩) n n) (AI AT (i:Int)) h2=.ok (.pointer (some ⟨bm,0+i * 64,none⟩)) h2:=Cy hi;have ld:=iD d2.med d2.len hi;have hsl:=J3 d2.len hi;have hsm:((sec M i).map bv).length=64:=by rw[OF,hsl]
 have st2:AER 64 (pt h.next) (DD (sec M i)) h2=.ok AEE (h2.wr h.next 0 ((sec M i).map bv)):=R2.AER (n:=64) (off:=0) x2.wf big (v:=DD (sec M i)) hsm (by show 0+((sec M i).map bv).length<=_;omega) (C6 _);have x3:=R2.AEi x2 (IT _) (off:=0) (vs:=(sec M i).map bv) (by omega);have R3:=R2.AET x2.wf (off:=0) (vs:=(sec M i).map bv) (by omega);rw[Hy (by omega)]at R3;have n3:(h2.wr h.next 0 ((sec M i).map bv)).next=h.next+1:=(R2.AEt (by omega)).trans n2;have m3:(h2.wr h.next 0 ((sec M i).map bv)).mark=h.mark:=by
  obtain⟨_,_,e,_⟩:=R2.AFT (off:=0) (vs:=(sec M i).map bv) (by omega);rw[e];exact m2
 generalize h2.wr h.next 0 ((sec M i).map bv)=h3 at st2 x3 R3 n3 m3;have ct:∀ e:Env,J 7 e=pt h.next->GA 64 1 (J 7) none none none (call AC (m+2)) e h3=.ok (.slice (some ⟨h.next,0,none⟩) 64 64) h3:=fun e he=>Xk he
 refine⟨h3,.slice (some ⟨h.next,0,none⟩) 64 64,?_,x3,⟨h.next,0,by rw[hsl],.inl rfl,R3,IT _⟩,n3,m3,rfl⟩;obtain⟨_,l1,_,_⟩:=CR d.disk;rw[oY rfl];unfold d84;simp only[iN,IS,sT,By,BY,reduceIte,cA0,k1,AJ,AH,c0',Ao,Ad,AG,AM,AK,AO,vk,l1,lk,BK,BW,BZ,al,Ab,st,Bi,Bh,yA,l0,Ay,ix,Aq,As,ld,st2,ct,Bg,C7];simp only[vk]at ld;simp only[ld,sT,By,BY,reduceIte,Ab,st2,ct,Bg,C7]
theorem rS(W:h.Wf)(d:Dk h bd bm bc n M c0 cs arm dn){i:Nat}(hi:i<n)(hc:∀ x∈cs,x.1≠i/\x.1<n){l:List Nat}{g1 g2 g3:O}(h1:g1 e=.map (some bc))(h2:g2 e=AI AT (i:Int))(h3:g3 e=DD l):
  FM ⟨false,[.i .i64]⟩ g1 g2 g3 F e h=.ok AEE (h.put bc (.map (AEL c0 (cs++[(i,l)])) (vo (c0+cs.length))))/\Fx (fun b=>b=bc) h (h.put bc (.map (AEL c0 (cs++[(i,l)])) (vo (c0+cs.length))))/\Dk (h.put bc (.map (AEL c0 (cs++[(i,l)])) (vo (c0+cs.length)))) bd bm bc n M c0 (cs++[(i,l)]) arm dn:=by
 have hn:=d.n1;have hlt:=(d.lt W).2.2;have he:BV h bc=.ok (AEL c0 cs) (c0+cs.length):=by unfold BV;rw[d.map];rfl
 have fx:Fx (fun b=>b=bc) h (h.put bc (.map (AEL c0 (cs++[(i,l)])) (vo (c0+cs.length)))):=Fx.put (S:=fun b=>b=bc) W hlt rfl _;refine⟨?_,fx,⟨fx.row W d.disk d.bdc,fx.row W d.med d.bmc,d.len,d.byt,?_,d.big,d.n1⟩⟩
 ·show AEQ (g2 e) (fun key=>AEQ (g3 e) fun v=>MK ⟨false,[.i .i64]⟩ (g1 e) key v h)=_
  rw[BH,BH,h1,h2,h3];unfold MK;rw[gX (by omega)];simp only[he,S2 cs c0 fun x hx=>⟨(hc x hx).1,by have:=(hc x hx).2;omega⟩,VL];rw[Do W d.big.2.2 hlt];rfl
 ·rw[W.AEk hlt,if_pos rfl,No];rfl
theorem lJ{g:O}{a:Addr}{c:Nat}(hg:g e=.slice (some a) 64 c):SD 64 g F e h=.ok (.pointer (some a)) h:=by
 show(match g e with|.slice (some a) l _=>bif vx 64 l then R.ok (.pointer (some a)) h else .no|_=>.no)=_;rw[hg];rfl
theorem TW{m:Nat}(W:h.Wf)(d:Dk h bd bm bc n M c0 cs arm false){k:Nat}(ha:HF arm (k+1)){i:Nat}(hi:i<n)(hc:∀ x∈cs,x.1≠i/\x.1<n){u:IN}{l:List Nat}(AKz:h.VS (fun b=>b≠bd) u (l.map bv))(hl:l.length=64):
  ∃ h',call AC (m+3) 75 [pt bd,AI AT (i:Int),u] h=.ok (AI AT 0) h'/\Fx (fun b=>b=bd\/b=bc) h h'/\Dk h' bd bm bc n M c0 (cs++[(i,l)]) (AFN arm) false:=by
 have k1:=H9 (m:=m) d hi;have Ul:=AKz.vals.bl h;rw[hl]at Ul;obtain⟨h1,k2,f1,d1⟩:=Wl (m:=m+1) W d ha;have U1:=AKz.fx W f1 (fun b h1 h2=>h1 h2);have c1:iNe 0 0=false:=CY rfl;have c2:iNe ((64:Nat):Int) 64=false:=CY rfl;rcases U1 with ⟨_,hx⟩|⟨b,off,c,el,L,hu,_,R1,ho,hL,_⟩
 ·have:=congrArg AAM hx
  rw[OF,hl]at this;cases this
 rw[OF,hl]at hu ho hL;have d1m:=d1.same (h':=h1.marked) rfl;obtain⟨_,l1,_,_⟩:=CR d1m.disk;have Rm:h1.marked.Row b el L:=R1.same rfl;have ld:loadN 64 ⟨b,off,none⟩ h1.marked=.ok (DD l) h1.marked:=by rw[Rm.loadN ho,hL];rfl
 have ar:∀ (F:AEB) (e:Env),J 2 e=u->SD 64 (J 2) F e h1.marked=.ok (.pointer (some ⟨b,off,none⟩)) h1.marked:=fun F e he=>lJ (he.trans hu)
 have up:=fun (F:AEB) (e:Env) (g1 g2 g3:O) (e1:g1 e=.map (some bc)) (e2:g2 e=AI AT (i:Int)) (e3:g3 e=DD l)=>rS (F:=F) f1.wf.marked.quiet (d1m.same (h':=h1.marked.quiet) rfl) hi hc e1 e2 e3
 obtain⟨_,f2,d2⟩:=up (call AC m) e0 (kV (.map (some bc))) (kV (AI AT (i:Int))) (kV (DD l)) rfl rfl rfl;have up:=fun F e g1 g2 g3 e1 e2 e3=>(up F e g1 g2 g3 e1 e2 e3).1
 generalize h1.marked.quiet.put bc (.map (AEL c0 (cs++[(i,l)])) (vo (c0+cs.length)))=h2 at up f2 d2;have u2:∀ (F:AEB) (e:Env),J 26 e=.map (some bc)->J 1 e=AI AT (i:Int)->J 30 e=DD l->Al .free (FM ⟨false,[.i .i64]⟩ (J 26) (J 1) (J 30)) F e h1.marked=.ok AEE (h1.marked.back h2):=fun F e e1 e2 e3=>BO (up F e _ _ _ e1 e2 e3)
 refine⟨h1.marked.back h2,?_,?_,d2.same rfl⟩
 ·rw[ZV rfl]
  unfold d75;simp only[iN,IS,sT,By,BY,reduceIte,cA0,k1,AJ,AH,c1,AX,Ul,c2,k2,A3,Ao,Ad,AG,AM,AK,AO,vk,l1,ar,Aq,As,ld,u2,lV0]
 ·exact(f1.mono fun i h=>.inl h).trans (((f2.mono fun i h=>.inr h).from (h:=h1.marked) rfl rfl).same (h2:=h1.marked.back h2) rfl rfl |>.from (h:=h1) rfl rfl)
theorem dH:∀ n:Nat,BQ GG.zero n=(v8 (64*n) 0).map bv
 |0=>rfl
 |n+1=>by
  show GG.zero++BQ GG.zero n=_;rw[dH n,XN,<- wa,List.replicate_append_replicate]
  congr 2;omega
theorem re:jt.zero=[.slice none 0 0,.map none,AI AT 0,.bool false]:=by kernel_rfl
theorem gO{m:Nat}(W:h.Wf)(hn:1<=n/\n<=65536):
  ∃ h' bd bm bc,call AC (m+1) 35 [AI AT (n:Int)] h=.ok (.tuple ⟨[pt bd,AI AT 0]⟩) h'/\h.Ext h'/\Dk h' bd bm bc n (v8 (64*n) 0) 0 [] (-1) false/\h.next<=bd/\h.next<=bm/\h.next<=bc:=by
 have big:=W.big;have c1:iLt (n:Int) 1=false:=HL (by omega);have c2:iGt (n:Int) 65536=false:=Fa (by omega);have mk:∀ (F:AEB) (e:Env),J 0 e=AI AT (n:Int)->Gb 64 GG.zero (J 0) (J 0) F e h=.ok (.slice (some ⟨h.next,0,none⟩) n n) (h.AEA 0 ((v8 (64*n) 0).map bv)):=fun F e he=>by
  show Ru 64 GG.zero (DE (J 0 e)) (DE (J 0 e)) h=_;rw[he,C9];unfold Ru;simp only;have e1:vx n n=true:=Ac.2 (IT _);have e2:vx (Nat.mul (vo n) (vo 64)) most=true:=Ac.2 (by show(n+1)*65<=1099511627776;omega);rw[e1,e2,dH];simp only[cond_true];rw[Cw W];rfl
 have x1:=(Hp.Ext.refl W).AEA 0 ((v8 (64 * n) 0).map bv);have R1:=Hp.Row.new W 0 ((v8 (64 * n) 0).map bv);have n1:(h.AEA 0 ((v8 (64 * n) 0).map bv)).next=h.next+1:=rfl;generalize h.AEA 0 ((v8 (64 * n) 0).map bv)=h1 at mk x1 R1 n1;have mp:∀ (F:AEB) (e:Env),YT F e h1=.ok (.map (some h1.next)) (h1.push (.map [] 0)):=fun F e=>by
  unfold YT;rw[Cv x1.wf]
 have y2:h1.Ext (h1.push (.map [] 0)):=(Hp.Ext.refl x1.wf).push _;have M2:(h1.push (.map [] 0)).bl.get h1.next=.map [] 0:=by rw[x1.wf.AEa,if_pos rfl]
 have n2:(h1.push (.map [] 0)).next=h1.next+1:=rfl;generalize h1.push (.map [] 0)=h2 at mp y2 M2 n2;have x2:=x1.trans y2;have bl:∀ (F:AEB) (e:Env),J 11 e=.slice (some ⟨h.next,0,none⟩) n n->J 12 e=.map (some h1.next)->B5 jt.zero [(0,1,J 11),(1,1,J 12),(2,1,kV (AI AT (-1)))] F e h2=.ok (.agg ⟨dkL h.next h1.next n (-1) false⟩) h2:=fun F e e1 e2=>by
  rw[Ej,re,BE (hk:=by rw[e1];rfl),e1,BE (hk:=by rw[e2];rfl),e2,BE];simp only[show cellsOf (.slice (some ⟨h.next,0,none⟩) n n)=[.slice (some ⟨h.next,0,none⟩) n n]from rfl,show cellsOf (.map (some h1.next))=[.map (some h1.next)]from rfl,Ho,Dl,xR,vw,wl,over,List.take,List.drop,List.append_eq,xE,List.cons_append,IS,Nat.reduceLeDiff,if_true,CO,reduceIte];rfl
 have bx:∀ (F:AEB) (e:Env),J 13 e=.agg ⟨dkL h.next h1.next n (-1) false⟩->DA (J 13) F e h2=.ok (pt h2.next) (h2.AEA 0 (dkL h.next h1.next n (-1) false)):=fun F e he=>by
  rw[Ev,he,Es x2.wf];rfl
 have y3:=(Hp.Ext.refl x2.wf).AEA 0 (dkL h.next h1.next n (-1) false);have R3:=Hp.Row.new x2.wf 0 (dkL h.next h1.next n (-1) false);generalize h2.AEA 0 (dkL h.next h1.next n (-1) false)=h3 at bx y3 R3;refine⟨h3,h2.next,h.next,h1.next,?_,x2.trans y3,⟨R3,(R1.ext x1.wf y2).ext x2.wf y3,xh,fun x hx=>by rw[List.eq_of_mem_replicate hx];decide,?_,⟨by omega,by omega,by omega⟩,hn⟩,by omega,IT _,by omega⟩
 ·rw[nh rfl]
  unfold d35;simp only[iN,IS,sT,By,BY,reduceIte,gD,AJ,AH,c1,c2,mk,mp,bl,bx,Bg,C7]
 ·rw[y3.get _ (by omega),M2];rfl
end
end
noncomputable section
open Go
set_option maxRecDepth 100000
theorem VT.ext:∀ (a b:VT),(∀ j,a.has j↔b.has j)->(∀ j,a.get j=b.get j)->a=b
 |.mt,.mt,_,_=>rfl
 |.mt,.nd v l r,h,_=>by
  have:=(h 0).2 (by unfold VT.has;trivial);unfold VT.has at this;exact this.elim
 |.nd v l r,.mt,h,_=>by
  have:=(h 0).1 (by unfold VT.has;trivial);unfold VT.has at this;exact this.elim
 |.nd v l r,.nd v' l' r',h,g=>by
  have e1:v=v':=g 0;have lo:∀ j,(2*j) % 2=0/\2*j/2=j:=fun j=>by omega
  have hi:∀ j,¬ (2*j+1) % 2=0/\(2*j+1)/2=j:=fun j=>by omega
  have e2:l=l':=VT.ext l l' (fun j=>by
   have:=h (2*j+1);rw[VT.AEK,VT.AEK,if_pos (lo j).1,if_pos (lo j).1,(lo j).2]at this;exact this) (fun j=>by
   have:=g (2*j+1);rw[VT.AEI,VT.AEI,if_pos (lo j).1,if_pos (lo j).1,(lo j).2]at this;exact this)
  have e3:r=r':=VT.ext r r' (fun j=>by
   have:=h (2*j+1+1);rw[VT.AEK,VT.AEK,if_neg (hi j).1,if_neg (hi j).1,(hi j).2]at this;exact this) (fun j=>by
   have:=g (2*j+1+1);rw[VT.AEI,VT.AEI,if_neg (hi j).1,if_neg (hi j).1,(hi j).2]at this;exact this)
  rw[e1,e2,e3]
theorem VT.AFi:∀ (t:VT) (i:Nat) (x:IN) (t':VT),t.set i x=some t'->t.has i->∀ j,t'.has j->t.has j
 |.mt,i,x,t',_,h,_,_=>by unfold VT.has at h;exact h.elim
 |.nd v l r,0,x,t',hs,_,j,hj=>by
  have hs:some (VT.nd x l r)=some t':=hs;cases hs;cases j with
  |zero=>unfold VT.has;trivial
  |succ k=>rw[VT.AEK]at hj ⊢;exact hj
 |.nd v l r,k+1,x,t',hs,h,j,hj=>by
  rw[VT.AEf]at hs;rw[VT.AEK]at h;by_cases hk:k % 2=0
  ·rw[if_pos hk]at hs h
   cases hl:l.set (k/2) x with
   |none=>rw[hl]at hs;cases hs
   |some l'=>
    rw[hl]at hs;cases hs;cases j with
    |zero=>unfold VT.has;trivial
    |succ m=>
     rw[VT.AEK]at hj ⊢;by_cases hm:m % 2=0
     ·rw[if_pos hm]at hj ⊢;exact VT.AFi l _ x l' hl h _ hj
     ·rw[if_neg hm]at hj ⊢;exact hj
  ·rw[if_neg hk]at hs h
   cases hl:r.set (k/2) x with
   |none=>rw[hl]at hs;cases hs
   |some l'=>
    rw[hl]at hs;cases hs;cases j with
    |zero=>unfold VT.has;trivial
    |succ m=>
     rw[VT.AEK]at hj ⊢;by_cases hm:m % 2=0
     ·rw[if_pos hm]at hj ⊢;exact hj
     ·rw[if_neg hm]at hj ⊢;exact VT.AFi r _ x l' hl h _ hj
theorem LY:∀ (vs:List IN) (t:VT) (i:Nat),(∀ j,j<i+vs.length->t.has j)->∃ t',B3 t i vs=some t'/\(∀ j,t'.has j↔t.has j)/\∀ j,t'.get j=if i<=j/\j<i+vs.length then vs.getD (j - i) AEE else t.get j
 |[],t,i,h=>⟨t,rfl,fun _=>Iff.rfl,fun j=>by rw[if_neg (by simp only[wl];omega)]⟩
 |v::vs,t,i,h=>by
  simp only[vw]at h;have hh:∀ j,j<i->t.has j:=fun j hj=>h j (by omega)
  have hs:=VT.AEs (x:=v) hh;have h1:∀ j,(t.lay i v).has j↔t.has j:=fun j=>⟨VT.AFi t i v _ hs (h i (by omega)) j,fun hj=>VT.AFJ hh j (.inr hj)⟩
  obtain⟨t',a1,a2,a3⟩:=LY vs (t.lay i v) (i+1) fun j hj=>(h1 j).2 (h j (by omega))
  refine⟨t',?_,fun j=>(a2 j).trans (h1 j),fun j=>?_⟩
  ·show(match t.set i v with|some t'=>B3 t' (vo i) vs|none=>none)=_
   rw[hs];exact a1
  ·rw[a3 j,VT.AFD hh]
   simp only[vw];by_cases c1:i+1<=j/\j<i+1+vs.length
   ·rw[if_pos c1,if_pos (by omega),show j - i=(j - (i+1))+1 by omega];rfl
   ·rw[if_neg c1]
    by_cases c2:j=i
    ·rw[if_pos c2,if_pos (by omega),c2,Nat.sub_self];rfl
    ·rw[if_neg c2,if_neg (by omega)]
section
variable {F:AEB}{e:Env}{h r:Hp}{k:Walk}{body:C}{b:Nat}
theorem PW{b n0:Nat}{r h1:Hp}{tr:Rds}:Xp b n0 r h1 tr=true↔aS b n0 r h1:=by
 unfold Xp;split
 ·rename_i h _;exact⟨fun _=>h,fun _=>rfl⟩
 ·rename_i h _;exact⟨fun e=>(by cases e),fun e=>absurd e h⟩
theorem Qc{f:Ent->Bool}:∀ {l:List Ent},(∀ x∈l,f x=true)->Qb f l=true
 |[],_=>rfl
 |x::l,h=>by
  show(bif f x then Qb f l else false)=true;rw[h x vp,Qc fun y hy=>h y (vr _ hy)];rfl
theorem I2{fin:Hp->Rds->Bool}:∀ (n:Nat) (h:Hp) (tr:Rds),LM k body F e b fin n h tr=true->∃ p,UE k body F e b n h tr=some p/\fin p.1 p.2=true
 |0,h,tr,hx=>by cases hx
 |n+1,h,tr,hx=>by
  unfold LM OT at hx;unfold UE OT;cases hi:EN (h.bl.get b)with
  |no=>rw[hi]at hx;cases hx
  |cur _ _ _=>rw[hi]at hx;cases hx
  |pick _ _ _ _=>rw[hi]at hx;cases hx
  |ok m since seen last=>
   rw[hi]at hx;cases m with
   |none=>cases hx
   |some m=>
    simp only at hx ⊢;cases he:BV h m with
    |no=>rw[he]at hx;cases hx
    |ok es c=>
     rw[he]at hx;simp only at hx ⊢;cases q1:wB c since with
     |false=>rw[q1]at hx;cases hx
     |true=>
      cases q2:wB c last with
      |false=>rw[q1,q2]at hx;cases hx
      |true=>
       cases q3:FN c 0 es with
       |false=>rw[q1,q2,q3]at hx;cases hx
       |true=>
        rw[q1,q2,q3]at hx;simp only[cond_true]at hx ⊢;cases hr:AEl seen es with
        |nil=>rw[hr]at hx;exact⟨_,rfl,hx⟩
        |cons y l=>
         rw[hr]at hx;have hy:=MP hx y vp;simp only;cases hst:O9 k body F e b m c seen h y with
         |none=>rw[hst]at hy;cases hy
         |some h1=>
          rw[hst]at hy;exact I2 n h1 _ hy
theorem Tu(W:h.Wf)(S:PG k body F e h b r)(hn:h.next<=r.next):
  ∃ h',F3 k body F e h b=.exit k.out (Env.set k.more (.bool false) (Cu e k.ws)) h'/\h'.Wf/\h'.next=r.next/\(∀ i,i<h.next->i≠b->h'.bl.get i=r.bl.get i)/\h'.mark=h.mark/\h'.low=min h.low r.low:=by
 obtain⟨p,hp,hend⟩:=I2 _ _ _ S.2;obtain⟨q1,q2,q3,q4⟩:=PW.1 hend;have AGQ:=W.big;unfold F3;split
 case h_2=>rename_i hx _;exact absurd ⟨r,S⟩ hx
 rename_i hx _;have S':=ADp hx;generalize ADb hx=r' at S';obtain⟨p',hp',AID⟩:=I2 _ _ _ S'.2;obtain rfl:p'=p:=by rw[hp]at hp';exact(Option.some.inj hp').symm
 obtain⟨t1,t2,t3,t4⟩:=PW.1 AID;refine⟨_,rfl,⟨?_,S'.1,fun i hi=>?_⟩,t1.symm.trans q1,fun i hi hib=>?_,rfl,(BM _ _).trans (by rw[t2,<- q2])⟩
 ·show 256<=r'.next;omega
 ·have hi:r'.next<=i:=hi
  show r'.bl.get i=_;rw[t4,if_pos (by omega)]
 ·show r'.bl.get i=_
  rw[t4,q4]
end
end
noncomputable section
open Go
set_option maxRecDepth 100000
def Fh(M:List Nat)(k:Nat)(l:List Nat):List Nat:=M.take (64*k)++l++M.drop (64*k+64)
def E6:List Nat->List (Nat×List Nat)->List Nat
 |M,[]=>M
 |M,y::cs=>E6 (Fh M y.1 y.2) cs
def AFU(cs:List (Nat×List Nat)):Prop:=∀ (i j:Nat) (y z:Nat×List Nat),cs[i]? =some y->cs[j]? =some z->y.1=z.1->i=j
def AEv(n:Nat)(cs:List (Nat×List Nat)):Prop:=∀ y∈cs,y.1<n/\y.2.length=64/\∀ x∈y.2,x<256
theorem Cn{M l:List Nat}{n k:Nat}(hM:M.length=64*n)(hk:k<n)(hl:l.length=64):(Fh M k l).length=64*n:=by
 unfold Fh;rw[No,No,wT,xC];omega
theorem Wt{M l:List Nat}{k:Nat}(hM:∀ x∈M,x<256)(hl:∀ x∈l,x<256):∀ x∈Fh M k l,x<256:=fun x hx=>by
 rcases wK.1 hx with hx|hx
 ·rcases wK.1 hx with hx|hx
  ·exact hM x (xK hx)
  ·exact hl x hx
 ·exact hM x (zY hx)
theorem DM{M l:List Nat}{n k p:Nat}(hM:M.length=64*n)(hk:k<n)(hl:l.length=64):(Fh M k l).getD p 0=if p/64=k then l.getD (p % 64) 0 else M.getD p 0:=by
 unfold Fh;have e1:(M.take (64*k)).length=64*k:=by rw[wT];omega
 simp only[vm];by_cases h:p/64=k
 ·rw[if_pos h,wG,wQ (by omega),wD (by omega),e1,show p - 64*k=p % 64 by omega]
 ·rw[if_neg h]
  rcases Nat.lt_or_ge p (64*k)with hp|hp
  ·rw[wG,wD (by omega),zC,if_pos hp]
  ·rw[wQ (by rw[No];omega),zd,No,e1,hl]
   congr 2;omega
theorem FQ:∀ {cs:List (Nat×List Nat)} {M:List Nat} {n:Nat},M.length=64*n->AEv n cs->(E6 M cs).length=64*n
 |[],_,_,h,_=>h
 |y::cs,M,n,h,hc=>FQ (cs:=cs) (Cn h (hc y vp).1 (hc y vp).2.1) fun z hz=>hc z (vr _ hz)
theorem RY:∀ {cs:List (Nat×List Nat)} {M:List Nat} {n:Nat},(∀ x∈M,x<256)->AEv n cs->∀ x∈E6 M cs,x<256
 |[],_,_,h,_=>h
 |y::cs,M,n,h,hc=>RY (cs:=cs) (n:=n) (Wt h (hc y vp).2.2) fun z hz=>hc z (vr _ hz)
theorem AFU.tail{y:Nat×List Nat}{cs:List (Nat×List Nat)}(h:AFU (y::cs)):AFU cs/\∀ z∈cs,z.1≠y.1:=⟨fun i j a b h1 h2 h3=>by
 have:=h (i+1) (j+1) a b (by rw[wy];exact h1) (by rw[wy];exact h2) h3;omega,fun z hz e=>by
 obtain⟨i,hi⟩:=AAL.1 hz;have:=h (i+1) 0 z y (by rw[wy];exact hi) rfl e;omega⟩
theorem IQ:∀ {cs:List (Nat×List Nat)} {M:List Nat} {n p:Nat},M.length=64*n->AEv n cs->(∀ y∈cs,p/64≠y.1)->(E6 M cs).getD p 0=M.getD p 0
 |[],_,_,_,_,_,_=>rfl
 |y::cs,M,n,p,h,hc,hp=>by
  obtain⟨c1,c2,c3⟩:=hc y vp;show(E6 (Fh M y.1 y.2) cs).getD p 0=_;rw[IQ (cs:=cs) (Cn h c1 c2) (fun z hz=>hc z (vr _ hz)) fun z hz=>hp z (vr _ hz),DM h c1 c2,if_neg (hp y vp)]
theorem RX:∀ {cs:List (Nat×List Nat)} {M:List Nat} {n:Nat},M.length=64*n->AEv n cs->AFU cs->∀ y∈cs,∀ q,q<64->(E6 M cs).getD (64*y.1+q) 0=y.2.getD q 0
 |[],_,_,_,_,_,_,hy,_,_=>by cases hy
 |z::cs,M,n,h,hc,hK,y,hy,q,hq=>by
  obtain⟨c1,c2,c3⟩:=hc z vp;obtain⟨k1,k2⟩:=hK.tail;show(E6 (Fh M z.1 z.2) cs).getD _ 0=_;rcases wA.1 hy with rfl|hy
  ·rw[IQ (cs:=cs) (Cn h c1 c2) (fun z hz=>hc z (vr _ hz)) (fun z hz=>by have:=k2 z hz;omega),DM h c1 c2,if_pos (by omega),show(64*y.1+q) % 64=q by omega]
  ·exact RX (Cn h c1 c2) (fun z hz=>hc z (vr _ hz)) k1 y hy q hq
def AE2(T0:VT)(done:List (Nat×List Nat))(T:VT):Prop:=(∀ j,T.has j↔T0.has j)/\(∀ y∈done,∀ q,q<64->T.get (64*y.1+q)=bv (y.2.getD q 0))/\∀ p,(∀ y∈done,p/64≠y.1)->T.get p=T0.get p
theorem AE2.nil(T:VT):AE2 T [] T:=⟨fun _=>Iff.rfl,fun y hy=>(by cases hy),fun _ _=>rfl⟩
theorem AE2.step{T0 T:VT}{done:List (Nat×List Nat)}{k s:Nat}{l:List Nat}(h:AE2 T0 done T)(hh:∀ j,j<s->T0.has j)(hk:64*k+64<=s)(hl:l.length=64)(hd:∀ y∈done,y.1≠k):∃ T',B3 T (64*k) (l.map bv)=some T'/\AE2 T0 (done++[(k,l)]) T':=by
 have hll:(l.map bv).length=64:=by rw[OF,hl]
 obtain⟨T',a1,a2,a3⟩:=LY (l.map bv) T (64*k) fun j hj=>(h.1 j).2 (hh j (by omega))
 refine⟨T',a1,fun j=>(a2 j).trans (h.1 j),fun y hy q hq=>?_,fun p hp=>?_⟩
 ·rw[a3,hll]
  rcases wK.1 hy with hy|hy
  ·rw[if_neg (by have:=hd y hy;omega)]
   exact h.2.1 y hy q hq
  ·obtain rfl:=v7.1 hy
   have hq':64*k+q - 64*k=q:=by omega
   rw[if_pos ⟨Nat.le_add_right _ _,by show 64*k+q<_;omega⟩];show(l.map bv).getD (64*k+q - 64*k) AEE=bv (l.getD q 0);rw[hq',vm,xH,vm,sh (by omega)];rfl
 ·have:=hp (k,l) (wI _ (v7.2 rfl))
  rw[a3,hll,if_neg (by show ¬ _;have:p/64≠k:=this;omega)];exact h.2.2 p fun y hy=>hp y (wU _ hy)
theorem AE2.uniq{T0 T T':VT}{a b:List (Nat×List Nat)}(h:AE2 T0 a T)(h':AE2 T0 b T')(hm:∀ y,y∈a↔y∈b):T=T':=by
 refine VT.ext _ _ (fun j=>(h.1 j).trans (h'.1 j).symm) fun p=>?_
 by_cases hp:∃ y∈a,p/64=y.1
 ·obtain⟨y,hy,he⟩:=hp
  have h1:=h.2.1 y hy (p % 64) (by omega);have h2:=h'.2.1 y ((hm y).1 hy) (p % 64) (by omega);rw[show 64*y.1+p % 64=p by omega]at h1 h2;rw[h1,h2]
 ·rw[h.2.2 p fun y hy he=>hp ⟨y,hy,he⟩,h'.2.2 p fun y hy he=>hp ⟨y,(hm y).2 hy,he⟩]
theorem AE2.all{T0:VT}{n:Nat}(hh:∀ j,j<64*n->T0.has j):∀ (cs done:List (Nat×List Nat)) (T:VT),AE2 T0 done T->AEv n cs->AFU cs->(∀ y∈cs,∀ z∈done,z.1≠y.1)->∃ T',AE2 T0 (done++cs) T'
 |[],done,T,h,_,_,_=>⟨T,by rw[wF];exact h⟩
 |y::cs,done,T,h,hc,hK,hd=>by
  obtain⟨c1,c2,c3⟩:=hc y vp;obtain⟨k1,k2⟩:=hK.tail;obtain⟨T1,_,h1⟩:=h.step hh (k:=y.1) (l:=y.2) (by omega) c2 (hd y vp);obtain⟨T2,h2⟩:=AE2.all hh cs (done++[(y.1,y.2)]) T1 h1 (fun z hz=>hc z (vr _ hz)) k1 fun z hz w hw=>by
   rcases wK.1 hw with hw|hw
   ·exact hd z (vr _ hz) w hw
   ·obtain rfl:=v7.1 hw
    exact fun e=>k2 z hz e.symm
  exact⟨T2,by rw[wG]at h2;exact h2⟩
theorem AE2.is{T0 T:VT}{M:List Nat}{n:Nat}{cs:List (Nat×List Nat)}(h:AE2 T0 cs T)(hT:T0.Is (M.map bv))(hM:M.length=64*n)(hc:AEv n cs)(hK:AFU cs):T.Is ((E6 M cs).map bv):=fun p hp=>by
 rw[OF,FQ hM hc]at hp;have hp0:=hT p (by rw[OF];omega);refine⟨(h.1 p).2 hp0.1,?_⟩;have e1:∀ L:List Nat,p<L.length->(L.map bv).getD p AEE=bv (L.getD p 0):=fun L hL=>by
  rw[vm,xH,vm,sh hL];rfl
 rw[e1 _ (by rw[FQ hM hc];exact hp)];by_cases hq:∃ y∈cs,p/64=y.1
 ·obtain⟨y,hy,he⟩:=hq
  have h1:=h.2.1 y hy (p % 64) (by omega);have h2:=RX hM hc hK y hy (p % 64) (by omega);rw[show 64*y.1+p % 64=p by omega]at h1 h2;rw[h1,h2]
 ·rw[h.2.2 p fun y hy he=>hq ⟨y,hy,he⟩,IQ hM hc fun y hy he=>hq ⟨y,hy,he⟩,hp0.2,e1 _ (by omega)]
theorem JW:∀ (cs:List (Nat×List Nat)) (c:Nat),(AEL c cs).length=cs.length
 |[],_=>rfl
 |x::cs,c=>by show(AEL (c+1) cs).length+1=_;rw[JW cs];rfl
theorem Q2:∀ {cs:List (Nat×List Nat)} {c:Nat} {x:Ent},x∈AEL c cs->∃ (i:Nat) (y:Nat×List Nat),cs[i]? =some y/\x=⟨AI AT (y.1:Int),DD y.2,c+i⟩
 |[],_,_,h=>by cases h
 |y::cs,c,x,h=>by
  rcases wA.1 h with h|h
  ·exact⟨0,y,rfl,h⟩
  ·obtain⟨i,z,h1,h2⟩:=Q2 h
   exact⟨i+1,z,by rw[wy];exact h1,by rw[h2,ADF,ABI 1]⟩
theorem IJ:∀ {cs:List (Nat×List Nat)} {c i:Nat} {y:Nat×List Nat},cs[i]? =some y->GR (c+i) (AEL c cs)=some ⟨AI AT (y.1:Int),DD y.2,c+i⟩
 |[],_,_,_,h=>by cases h
 |z::cs,c,0,y,h=>by
  have h:some z=some y:=h;cases h;show(bif wB c (c+0)then some (⟨AI AT (z.1:Int),DD z.2,c⟩:Ent)else GR (c+0) (AEL (c+1) cs))=_;rw[yc,xu];rfl
 |z::cs,c,i+1,y,h=>by
  rw[wy]at h;show(bif wB c (c+(i+1))then some (⟨AI AT (z.1:Int),DD z.2,c⟩:Ent)else GR (c+(i+1)) (AEL (c+1) cs))=_;have:wB c (c+(i+1))=false:=by
   cases e:wB c (c+(i+1))
   ·rfl
   ·have:=Am.1 e;omega
  rw[this,show c+(i+1)=c+1+i by omega];exact IJ h
theorem LX:∀ {cs:List (Nat×List Nat)} {c lo clk:Nat},lo<=c->c+cs.length<=clk->FN clk lo (AEL c cs)=true
 |[],_,_,_,_,_=>rfl
 |x::cs,c,lo,clk,h1,h2=>by
  rw[vw]at h2;show(bif vx lo c then(bif Nat.blt c clk then FN clk (vo c) (AEL (c+1) cs)else false)else false)=true;rw[Ac.2 h1,BD.2 (by omega)];exact LX (IT _) (by omega)
theorem F8{n:Nat}:∀ {l:List Nat},Fv n l=true↔n∈l
 |[]=>⟨fun h=>(by cases h),fun h=>(by cases h)⟩
 |x::l=>by
  show(bif wB x n then true else Fv n l)=true↔_;cases h:wB x n with
  |true=>exact⟨fun _=>by rw[Am.1 h];exact vp,fun _=>rfl⟩
  |false=>
   refine Iff.trans (F8 (l:=l)) ⟨fun h1=>vr _ h1,fun h1=>?_⟩;rcases wA.1 h1 with h1|h1
   ·rw[h1,xu]at h;cases h
   ·exact h1
theorem Ni{seen:List Nat}:∀ {es:List Ent} {x:Ent},x∈AEl seen es->x∈es/\x.born∉seen
 |[],_,h=>by cases h
 |y::es,x,h=>by
  have h:x∈(bif Fv y.born seen then AEl seen es else y::AEl seen es):=h;cases hm:Fv y.born seen with
  |true=>
   rw[hm]at h;obtain⟨h1,h2⟩:=Ni (es:=es) h;exact⟨vr _ h1,h2⟩
  |false=>
   rw[hm]at h;rcases wA.1 h with h|h
   ·subst h
    exact⟨vp,fun h1=>by rw[F8.2 h1]at hm;cases hm⟩
   ·obtain⟨h1,h2⟩:=Ni (es:=es) h
    exact⟨vr _ h1,h2⟩
theorem Ov{seen:List Nat}{s:Nat}:∀ {cs:List (Nat×List Nat)} {c:Nat},s<c->AEl (seen++[s]) (AEL c cs)=AEl seen (AEL c cs)
 |[],_,_=>rfl
 |x::cs,c,h=>by
  show(bif Fv c (seen++[s])then AEl (seen++[s]) (AEL (c+1) cs)else _::AEl (seen++[s]) (AEL (c+1) cs))=(bif Fv c seen then AEl seen (AEL (c+1) cs)else _::AEl seen (AEL (c+1) cs));rw[Ov (cs:=cs) (by omega)];have:Fv c (seen++[s])=Fv c seen:=by
   rw[yL,F8,F8,wK,v7];exact⟨fun h1=>h1.elim (fun h=>h) fun h1=>by omega,.inl⟩
  rw[this]
theorem Sv{seen:List Nat}{i:Nat}:∀ {cs:List (Nat×List Nat)} {c:Nat},i<cs.length->c+i∉seen->(AEl (seen++[c+i]) (AEL c cs)).length+1=(AEl seen (AEL c cs)).length
 |[],_,h,_=>by cases h
 |x::cs,c,h,hs=>by
  show(bif Fv c (seen++[c+i])then AEl (seen++[c+i]) (AEL (c+1) cs)else _::AEl (seen++[c+i]) (AEL (c+1) cs)).length+1=(bif Fv c seen then AEl seen (AEL (c+1) cs)else _::AEl seen (AEL (c+1) cs)).length;cases i with
  |zero=>
   simp only[yc]at hs ⊢;have h1:Fv c seen=false:=by
    cases e:Fv c seen
    ·rfl
    ·exact absurd (F8.1 e) hs
   have h2:Fv c (seen++[c])=true:=F8.2 (wI _ (v7.2 rfl));rw[h1,h2,Ov (cs:=cs) (Nat.lt_succ_self c)];rfl
  |succ i=>
   have h1:Fv c (seen++[c+(i+1)])=Fv c seen:=by
    rw[yL,F8,F8,wK,v7];exact⟨fun h1=>h1.elim (fun h=>h) fun h1=>by omega,.inl⟩
   have e:c+(i+1)=c+1+i:=by omega
   rw[e]at hs h1 ⊢;have ih:=Sv (seen:=seen) (i:=i) (cs:=cs) (c:=c+1) (by simp only[vw]at h;omega) hs;rw[h1];cases Fv c seen with
   |true=>exact ih
   |false=>exact congrArg (· +1) ih
theorem LC:∀ (es:List Ent),AEl [] es=es
 |[]=>rfl
 |x::es=>by
  show x::AEl [] es=_;rw[LC es]
end
noncomputable section
open Go
set_option maxRecDepth 100000
def fB:C:=(G 22 (HO (J 21))
(G 23 (Af 0 (J 22))
(Bo 23
(AY 1 (G 24 (I8 (J 21))
(G 25 (Af 0 (J 24))
(G 26 (Af 1 (J 24))
(G 6 (B7 64 Fp)
(G 5 (Ah 25)
(cDo (Av 64 (J 6) (J 26))
(CM (G 28 (Bl (J 0))
(G 29 (AF 0 (J 28))
(G 30 (AN (J 29))
(G 32 (Bd 64 (J 6))
(G 33 (CB 64 (J 30) (J 5))
(cDo (Al .free (Av 64 (J 33) (J 32)))
An))))))))))))))
(CA 0))))
def fK:Walk:=⟨21,22,23,0,[22,23,24,25,26,6,5,27,28,29,30,31,32,33],[]⟩
theorem kQ:fW=JN fK fB:=rfl
theorem uH:fS=BI (AY 0 fW) fE:=rfl
theorem Z7:d76=Z8:=rfl
section
variable {F:AEB}{e:Env}{g g1:Hp}{it bd bm bc n k:Nat}{l:List Nat}{T:VT}{arm:Int}{dn:Bool}
theorem U0{q:Hp}{s el off:Nat}{vs:List IN}{T':VT}(W:q.Wf)(hT:q.bl.get bm=.cells T s el)(AEg:B3 T off vs=some T')(ho:off+vs.length<=s)(h1:Bc vs=true)(AEO:256<=bm)(hb:bm<q.next){K:Hp->R}:Co ⟨bm,off,none⟩ vs q K=K (q.put bm (.cells T' s el)):=by
 have hr:rowOf q bm=.ok T s el:=by unfold rowOf;rw[hT];rfl
 unfold Co;simp only[hr,Nat.add_eq];rw[BL,Ac.2 ho,h1];simp only[cond_true,AEg];rw[Do W AEO hb]
theorem RC(W1:g1.Wf)(s0:J 0 e=pt bd)(s21:J 21 e=pt it)
  (nx:∀ e,J 21 e=pt it->HO (J 21) F e g=.ok (.tuple ⟨[.bool true,AI AT (k:Int),DD l]⟩) g1)
  (en:∀ e,J 21 e=pt it->I8 (J 21) F e g1=.ok (.tuple ⟨[AI AT (k:Int),DD l]⟩) g1)
  (D:g1.Row bd 0 (dkL bm bc n arm dn))(hT:g1.bl.get bm=.cells T (64*n) 0){T':VT}(hs:B3 T (64*k) (l.map bv)=some T')(hk:k<n)(hl:l.length=64)(AEO:256<=bm)(hbm:bm<g1.next):
  ∃ e' g',fB F e g=.norm e' g'/\J 0 e'=pt bd/\J 21 e'=pt it/\g'.Wf/\g'.next=g1.next+1/\g'.bl.get bm=.cells T' (64*n) 0/\(∀ i,i<g1.next->i≠bm->g'.bl.get i=g1.bl.get i)/\g'.low=min (min g1.low g1.next) bm/\g'.high=max (max g1.high g1.next) bm:=by
 have big:=W1.big;have hll:(l.map bv).length=64:=by rw[OF,hl]
 have al:=fun (F:AEB) (e:Env)=>Bx (F:=F) (e:=e) W1 (n:=64) (t:=Fp)
 have R1:=Hp.Row.alloc W1 TY (by rw[OF,xh]);have x1:g1.Ext (g1.push (.cells Fp 64 0)):=(Hp.Ext.refl W1).push _;have n1:(g1.push (.cells Fp 64 0)).next=g1.next+1:=rfl;have lo1:(g1.push (.cells Fp 64 0)).low=g1.low:=rfl;have hi1:(g1.push (.cells Fp 64 0)).high=g1.high:=rfl;generalize g1.push (.cells Fp 64 0)=g2 at al R1 x1 n1 lo1 hi1;have hz:((v8 64 0).map bv).length=64:=by rw[OF,xh]
 have st:AER 64 (pt g1.next) (DD l) g2=.ok AEE (g2.wr g1.next 0 (l.map bv)):=R1.AER (n:=64) (off:=0) x1.wf big (v:=DD l) hll (by show 0+(l.map bv).length<=_;omega) (C6 _);have x2:=R1.AEi x1 (IT _) (off:=0) (vs:=l.map bv) (by omega);have R2:=R1.AET x1.wf (off:=0) (vs:=l.map bv) (by omega);rw[Hy (by omega)]at R2;have n2:(g2.wr g1.next 0 (l.map bv)).next=g1.next+1:=(R1.AEt (by omega)).trans n1;obtain⟨_,_,ew,_⟩:=R1.AFT (off:=0) (vs:=l.map bv) (by omega);have lo2:(g2.wr g1.next 0 (l.map bv)).low=min g1.low g1.next:=by
  rw[ew];show B6 g2.low g1.next=_;rw[BM,lo1]
 have hi2:(g2.wr g1.next 0 (l.map bv)).high=max g1.high g1.next:=by
  rw[ew];show Cq g2.high g1.next=_;rw[B4,hi1]
 generalize g2.wr g1.next 0 (l.map bv)=g3 at st x2 R2 n2 lo2 hi2;have D3:g3.marked.Row bd 0 (dkL bm bc n arm dn):=(D.ext W1 x2).same rfl;obtain⟨l0,_,_,_⟩:=CR D3;have R3:g3.marked.Row g1.next 0 (l.map bv):=R2.same rfl;have ld:loadN 64 ⟨g1.next,0,none⟩ g3.marked=.ok (DD l) g3.marked:=by
  rw[R3.loadN (by omega),xF,List.take_of_length_le (by omega)];rfl
 have ix:AE0 64 (.slice (some ⟨bm,0,none⟩) n n) (AI AT (k:Int)) g3.marked=.ok (.pointer (some ⟨bm,0+k*64,none⟩)) g3.marked:=Cy hk;rw[vk,xr]at ix;have hTq:g3.marked.quiet.bl.get bm=.cells T (64*n) 0:=by
  show g3.bl.get bm=_;rw[x2.get bm hbm];exact hT
 have sq:AER 64 (.pointer (some ⟨bm,64*k,none⟩)) (DD l) g3.marked.quiet=.ok AEE (g3.marked.quiet.put bm (.cells T' (64*n) 0)):=by
  show(bif wB (BA (l.map bv)) 64 then Co ⟨bm,64*k,none⟩ (l.map bv) g3.marked.quiet Dt else .no)=_;rw[BL,Am.2 hll,cond_true,U0 x2.wf.marked.quiet hTq hs (by omega) (C6 _) AEO (by show bm<g3.next;omega)];rfl
 have q1:∀ (F:AEB) (e:Env),J 33 e=.pointer (some ⟨bm,64*k,none⟩)->J 32 e=DD l->Al .free (Av 64 (J 33) (J 32)) F e g3.marked=.ok AEE (g3.marked.back (g3.marked.quiet.put bm (.cells T' (64*n) 0))):=fun F e e1 e2=>by
  refine BO ?_;rw[Ab,e1,e2];exact sq
 have pg:=x2.wf.marked.quiet.AEk (b:=bm) (show bm<g3.next by omega) (.cells T' (64*n) 0);have pw:=x2.wf.marked.quiet.put (b:=bm) (show bm<g3.next by omega) (.cells T' (64*n) 0);have AIC:(g3.marked.back (g3.marked.quiet.put bm (.cells T' (64*n) 0))).low=min (min g1.low g1.next) bm:=by
  show B6 g3.low (B6 g3.next bm)=_;rw[BM,BM,lo2,n2];omega
 have AGr:(g3.marked.back (g3.marked.quiet.put bm (.cells T' (64*n) 0))).high=max (max g1.high g1.next) bm:=by
  show Cq g3.high (Cq 0 bm)=_;rw[B4,B4,hi2];omega
 have hrun:∃ e',fB F e g=.norm e' (g3.marked.back (g3.marked.quiet.put bm (.cells T' (64*n) 0)))/\J 0 e'=pt bd/\J 21 e'=pt it:=by
  unfold fB;have nx':=fun e he=>nx e he
  simp only[sT,By,BY,reduceIte,nx e s21,BK,BW,BZ,C3,en,s21,al,Ab,st,A3,Ao,s0,Ad,AG,AM,AK,AO,l0,Aq,As,ld,Ay,ix,q1];exact⟨_,rfl,by simp[AD,s0,s21]⟩
 obtain⟨e',r1,r2,r3⟩:=hrun;refine⟨e',_,r1,r2,r3,⟨pw.big,pw.has,pw.fresh⟩,by show g3.next=_;exact n2,?_,fun i hi hib=>?_,AIC,AGr⟩
 ·show(g3.marked.quiet.put bm _).bl.get bm=_
  rw[pg,if_pos rfl]
 ·show(g3.marked.quiet.put bm _).bl.get i=_
  rw[pg,if_neg hib];exact x2.get i hi
end
end
noncomputable section
open Go
set_option maxRecDepth 100000
section
variable {F:AEB}{e:Env}{h g g1:Hp}{it bd bm bc n k c0:Nat}{l seen:List Nat}{T T0:VT}{cs:List (Nat×List Nat)}{arm:Int}{dn:Bool}
structure FlB (h:Hp)(it bd bm bc n c0:Nat)(cs:List (Nat×List Nat))(arm:Int)(dn:Bool)(T0:VT):Prop where
 wf:h.Wf
 nx:h.next=it+1
 itr:h.bl.get it=.iter (some bc) (c0+cs.length) [] (c0+cs.length)
 disk:h.Row bd 0 (dkL bm bc n arm dn)
 med:h.bl.get bm=.cells T0 (64*n) 0
 has:∀ j,j<64*n->T0.has j
 map:h.bl.get bc=.map (AEL c0 cs) (c0+cs.length)
 lt:bd<it/\bm<it/\bc<it
 ne:bd≠bm/\bc≠bm
 big:256<=bm/\256<=it
 sec:AEv n cs
 key:AFU cs
structure FlI (h:Hp)(it bm bc n c0:Nat)(cs:List (Nat×List Nat))(T0:VT)(seen:List Nat)(g:Hp):Prop where
 wf:g.Wf
 nx:g.next=h.next+seen.length
 lh:(seen=[]/\g.low=h.next/\g.high=0)\/(seen≠[]/\g.low=bm/\g.high+1=h.next+seen.length)
 itr:g.bl.get it=.iter (some bc) (c0+cs.length) seen (c0+cs.length)
 old:∀ i,i<h.next->i≠it->i≠bm->g.bl.get i=h.bl.get i
 med:∃ (T:VT) (done:List (Nat×List Nat)),g.bl.get bm=.cells T (64*n) 0/\AE2 T0 done T/\∀ y,y∈done↔∃ i:Nat,cs[i]? =some y/\c0+i∈seen
 cnt:seen.length+(AEl seen (AEL c0 cs)).length=cs.length
theorem NB{s:Nat}:∀ l:List Nat,RZ (l++[s])=some s
 |[]=>rfl
 |[x]=>rfl
 |x::y::l=>NB (y::l)
theorem Sn(s:Nat):∀ l:List Nat,Jy s l=l++[s]
 |[]=>rfl
 |x::l=>congrArg (x:: ·) (Sn s l)
theorem Nj{h g:Hp}{b el:Nat}{L:List IN}(r:h.Row b el L)(hb:g.bl.get b=h.bl.get b):g.Row b el L:=by
 obtain⟨c,hc,hl⟩:=r;exact⟨c,hb.trans hc,hl⟩
theorem bj{g:Hp}{it:Nat}{v:R}(hv:GY ⟨it,0,none⟩ g=v){e:Env}(he:J 21 e=pt it):HO (J 21) F e g=v:=by
 show(match Dq (J 21 e)with|.ok a=>bif wB a.off 0 then GY a g else .no|.no=>.no)=_;rw[he];exact hv
theorem kP{g:Hp}{it:Nat}{v:R}(hv:Kg ⟨it,0,none⟩ g=v){e:Env}(he:J 21 e=pt it):I8 (J 21) F e g=v:=by
 show(match Dq (J 21 e)with|.ok a=>bif wB a.off 0 then Kg a g else .no|.no=>.no)=_;rw[he];exact hv
theorem Q1{g:Hp}{it i:Nat}{y:Nat×List Nat}(hi:cs[i]? =some y){s0:Nat}(hit:g.bl.get it=.iter (some bc) s0 (seen++[c0+i]) (c0+cs.length))(hm:g.bl.get bc=.map (AEL c0 cs) (c0+cs.length)):Kg ⟨it,0,none⟩ g=.ok (.tuple ⟨[AI AT (y.1:Int),DD y.2]⟩) g:=by
 have hib:EN (g.bl.get it)=.ok (some bc) s0 (seen++[c0+i]) (c0+cs.length):=by rw[hit];rfl
 have he:BV g bc=.ok (AEL c0 cs) (c0+cs.length):=by unfold BV;rw[hm];rfl
 unfold Kg;simp only[hib,NB];unfold II;simp only[he,xu,cond_true,IJ hi]
theorem Vb:J 0 (Cu e fK.ws)=J 0 e/\J 21 (Cu e fK.ws)=J 21 e:=by
 constructor
 ·simp[fK,Cu,AD]
 ·simp[fK,Cu,AD]
theorem gc(B:FlB h it bd bm bc n c0 cs arm dn T0)(I:FlI h it bm bc n c0 cs T0 seen g)(s0:J 0 e=pt bd)(s21:J 21 e=pt it){x:Ent}(hx:x∈AEl seen (AEL c0 cs)):
  ∃ h1,O9 fK fB F e it bc (c0+cs.length) seen g x=some h1/\FlI h it bm bc n c0 cs T0 (seen++[x.born]) h1:=by
 obtain⟨hx1,hns⟩:=Ni hx;obtain⟨i,y,hi,rfl⟩:=Q2 hx1;have hns:c0+i∉seen:=hns;obtain⟨y1,y2,y3⟩:=B.sec y (vy hi);have hil:i<cs.length:=(wC.1 hi).1;obtain⟨T,done,t1,t2,t3⟩:=I.med;have hnd:∀ z∈done,z.1≠y.1:=fun z hz he=>by
  obtain⟨j,j1,j2⟩:=(t3 z).1 hz;have:=B.key j i z y j1 hi he;rw[this]at j2;exact hns j2
 obtain⟨T',hs,ht'⟩:=t2.step B.has (k:=y.1) (l:=y.2) (by omega) y2 hnd;have hnx:=I.nx;have hbn:=B.nx;have hlt:=B.lt;have hne:=B.ne;have AGQ:=B.big;have AIx:it<g.next:=by omega
 have W0:=I.wf.put AIx (.pick bc (c0+i) (c0+cs.length) (some seen));have P0:=I.wf.AEk AIx (.pick bc (c0+i) (c0+cs.length) (some seen));have e1:g.bl.set it (.pick bc (c0+i) (c0+cs.length) (some seen))=some (g.bl.lay it (.pick bc (c0+i) (c0+cs.length) (some seen))):=BT.AEs fun j hj=>I.wf.has j (by omega)
 have lo0:(g.put it (.pick bc (c0+i) (c0+cs.length) (some seen))).low=min g.low it:=BM _ _;have hi0:(g.put it (.pick bc (c0+i) (c0+cs.length) (some seen))).high=max g.high it:=B4 _ _;have n0:(g.put it (.pick bc (c0+i) (c0+cs.length) (some seen))).next=g.next:=rfl;have eg:(⟨g.next,B6 g.low it,Cq g.high it,g.mark,g.bl.lay it (.pick bc (c0+i) (c0+cs.length) (some seen))⟩:Hp)=g.put it (.pick bc (c0+i) (c0+cs.length) (some seen)):=rfl;generalize g.put it (.pick bc (c0+i) (c0+cs.length) (some seen))=g0 at W0 P0 lo0 hi0 n0 eg;have e2:g0.bl.set it (.iter (some bc) (c0+cs.length) (seen++[c0+i]) (c0+cs.length))=some (g0.bl.lay it (.iter (some bc) (c0+cs.length) (seen++[c0+i]) (c0+cs.length))):=BT.AEs fun j hj=>W0.has j (by omega)
 have G2:∀ j,(g0.bl.lay it (.iter (some bc) (c0+cs.length) (seen++[c0+i]) (c0+cs.length))).get j=if j=it then .iter (some bc) (c0+cs.length) (seen++[c0+i]) (c0+cs.length)else g0.bl.get j:=BT.AFD fun j hj=>W0.has j (by omega)
 have W2:(⟨g0.next,g0.low,g0.high,g0.mark,g0.bl.lay it (.iter (some bc) (c0+cs.length) (seen++[c0+i]) (c0+cs.length))⟩:Hp).Wf:=⟨W0.big,fun j hj=>BT.AFJ (fun j hj=>W0.has j (by omega)) j (.inr (W0.has j hj)),fun j hj=>by
  have hj:g0.next<=j:=hj;show(g0.bl.lay _ _).get j=_;rw[G2,if_neg (by omega)];exact W0.fresh j hj⟩
 have AHN:g0.bl.get bc=.map (AEL c0 cs) (c0+cs.length):=by rw[P0,if_neg (by omega),I.old bc (by omega) (by omega) hne.2];exact B.map
 have nxv:GY ⟨it,0,none⟩ g0=.ok (.tuple ⟨[.bool true,AI AT (y.1:Int),DD y.2]⟩) ⟨g0.next,g0.low,g0.high,g0.mark,g0.bl.lay it (.iter (some bc) (c0+cs.length) (seen++[c0+i]) (c0+cs.length))⟩:=by
  have hib:EN (g0.bl.get it)=.pick bc (c0+i) (c0+cs.length) (some seen):=by rw[P0,if_pos rfl];rfl
  have he:BV g0 bc=.ok (AEL c0 cs) (c0+cs.length):=by unfold BV;rw[AHN];rfl
  have hp:NY bc (c0+i) (c0+cs.length) (some seen)=.iter (some bc) (c0+cs.length) (seen++[c0+i]) (c0+cs.length):=by unfold NY;simp only[Sn]
  unfold GY;simp only[hib,he,IJ hi,hp,e2]
 have lo2:(⟨g0.next,g0.low,g0.high,g0.mark,g0.bl.lay it (.iter (some bc) (c0+cs.length) (seen++[c0+i]) (c0+cs.length))⟩:Hp).low=min g.low it:=lo0;have hi2:(⟨g0.next,g0.low,g0.high,g0.mark,g0.bl.lay it (.iter (some bc) (c0+cs.length) (seen++[c0+i]) (c0+cs.length))⟩:Hp).high=max g.high it:=hi0;have n2:(⟨g0.next,g0.low,g0.high,g0.mark,g0.bl.lay it (.iter (some bc) (c0+cs.length) (seen++[c0+i]) (c0+cs.length))⟩:Hp).next=g.next:=n0;have G2:∀ j,(⟨g0.next,g0.low,g0.high,g0.mark,g0.bl.lay it (.iter (some bc) (c0+cs.length) (seen++[c0+i]) (c0+cs.length))⟩:Hp).bl.get j=if j=it then .iter (some bc) (c0+cs.length) (seen++[c0+i]) (c0+cs.length)else g0.bl.get j:=G2
 generalize (⟨g0.next,g0.low,g0.high,g0.mark,g0.bl.lay it (.iter (some bc) (c0+cs.length) (seen++[c0+i]) (c0+cs.length))⟩:Hp)=g2 at W2 nxv lo2 hi2 n2 G2;have AGY:∀ j,j≠it->g2.bl.get j=g.bl.get j:=fun j hj=>by rw[G2,if_neg hj,P0,if_neg hj]
 have env:=Q1 (g:=g2) hi (G2 it |>.trans (if_pos rfl)) (by rw[G2,if_neg (by omega)];exact AHN);obtain⟨c1,c2⟩:=Vb (e:=e);obtain⟨e',g',r1,r2,r3,r4,r5,r6,r7,r8,r9⟩:=RC (F:=F) (e:=Cu e fK.ws) (g:=g0) (g1:=g2) (it:=it) (bd:=bd) (bm:=bm) (bc:=bc) (n:=n) (k:=y.1) (l:=y.2) (T:=T) (arm:=arm) (dn:=dn) W2 (c1.trans s0) (c2.trans s21)
  (fun e he=>bj nxv he) (fun e he=>kP env he) (Nj B.disk (by rw[AGY bd (by omega),I.old bd (by omega) (by omega) hne.1])) (by rw[AGY bm (by omega)];exact t1) hs y1 y2 AGQ.1 (by omega)
 refine⟨g',?_,⟨r4,?_,.inr ⟨by simp,?_,?_⟩,?_,fun j h1 h2 h3=>?_,⟨T',done++[(y.1,y.2)],r6,ht',fun z=>?_⟩,?_⟩⟩
 ·unfold O9
  show(match g.bl.set it (.pick bc (c0+i) (c0+cs.length) (some seen))with|some bl=>(match fB F (Cu e fK.ws) {next:=g.next,low:=B6 g.low it,high:=Cq g.high it,mark:=g.mark,bl:=bl}with|.norm _ h1=>some h1|_=>none)|none=>none)=_;rw[e1];simp only[eg,r1]
 ·rw[r5,n2,hnx,No];rfl
 ·rw[r8,lo2,n2]
  rcases I.lh with ⟨_,h2,_⟩|⟨_,h2,_⟩<;>omega
 ·rw[r9,hi2,n2,No]
  show _=h.next+(seen.length+1);rcases I.lh with ⟨_,_,h3⟩|⟨_,_,h3⟩<;>omega
 ·rw[r7 it (by omega) (by omega),G2,if_pos rfl]
 ·rw[r7 j (by omega) h3,AGY j h2];exact I.old j h1 h2 h3
 ·constructor
  ·intro hz
   rcases wK.1 hz with hz|hz
   ·obtain⟨j,j1,j2⟩:=(t3 z).1 hz
    exact⟨j,j1,wU _ j2⟩
   ·obtain rfl:=v7.1 hz
    exact⟨i,hi,wI _ (v7.2 rfl)⟩
  ·rintro⟨j,j1,j2⟩
   rcases wK.1 j2 with j2|j2
   ·exact wU _ ((t3 z).2 ⟨j,j1,j2⟩)
   ·have:c0+j=c0+i:=v7.1 j2
    have:j=i:=by omega
    rw[this,hi]at j1;cases j1;exact wI _ (v7.2 rfl)
 ·have:=Sv (seen:=seen) (cs:=cs) (c:=c0) hil hns
  have h2:=I.cnt;show(seen++[c0+i]).length+(AEl (seen++[c0+i]) (AEL c0 cs)).length=_;rw[No,xR];omega
def FlR(h:Hp)(it bm n:Nat)(cs:List (Nat×List Nat))(Tz:VT)(r:Hp):Prop:=r.next=h.next+cs.length/\r.low=bm/\r.high+1=h.next+cs.length/\∀ i,r.bl.get i=if i=it\/h.next<=i then .dead else if i=bm then .cells Tz (64*n) 0 else h.bl.get i
theorem Vy{r:Hp}{Tz:VT}(B:FlB h it bd bm bc n c0 cs arm dn T0)(hz:AE2 T0 cs Tz)(hR:FlR h it bm n cs Tz r)(h0:cs≠[])(s0:J 0 e=pt bd)(s21:J 21 e=pt it):∀ (m:Nat) (seen:List Nat) (g:Hp) (tr:Rds),FlI h it bm bc n c0 cs T0 seen g->(AEl seen (AEL c0 cs)).length<m->LM fK fB F e it (Xp it h.next r) m g tr=true
 |0,_,_,_,_,hm=>absurd hm (Nat.not_lt_zero _)
 |m+1,seen,g,tr,I,hm=>by
  have hib:EN (g.bl.get it)=.ok (some bc) (c0+cs.length) seen (c0+cs.length):=by rw[I.itr];rfl
  have hlt:=B.lt;have hbn:=B.nx;have hnx:=I.nx;have hmap:g.bl.get bc=.map (AEL c0 cs) (c0+cs.length):=by rw[I.old bc (by omega) (by omega) B.ne.2];exact B.map
  have he:BV g bc=.ok (AEL c0 cs) (c0+cs.length):=by unfold BV;rw[hmap];rfl
  unfold LM OT;simp only[hib,he,xu,cond_true,LX (wP c0) (IT (c0+cs.length))];cases hr:AEl seen (AEL c0 cs)with
  |nil=>
   simp only;have hc:=I.cnt;rw[hr]at hc;have hc:seen.length=cs.length:=hc;have hlen:0<cs.length:=by
    cases cs with
    |nil=>exact absurd rfl h0
    |cons _ _=>exact ABQ _
   obtain⟨T,done,t1,t2,t3⟩:=I.med;have hT:T=Tz:=t2.uniq hz fun y=>by
    rw[t3 y];constructor
    ·rintro⟨i,hi,_⟩;exact vy hi
    ·intro hy
     obtain⟨i,hi⟩:=AAL.1 hy;refine⟨i,hi,?_⟩;apply AD8;intro hn;have h1:(⟨AI AT (y.1:Int),DD y.2,c0+i⟩:Ent)∈AEL c0 cs:=(Kh (IJ hi)).1;have:=Nh h1 hn;rw[hr]at this;cases this
   obtain⟨q1,q2,q3,q4⟩:=hR;rcases I.lh with ⟨h1,_,_⟩|⟨_,h2,h3⟩
   ·rw[h1]at hc
    have:0=cs.length:=hc;omega
   refine PW.2 ⟨by rw[hnx,q1,hc],by rw[q2,BM,h2];omega,by rw[B4];omega,fun i=>?_⟩;rw[q4];by_cases c1:i=it\/h.next<=i
   ·rw[if_pos c1,if_pos c1]
   ·rw[if_neg c1,if_neg c1]
    by_cases c2:i=bm
    ·rw[if_pos c2,c2,t1,hT]
    ·rw[if_neg c2,I.old i (by omega) (by omega) c2]
  |cons y l=>
   simp only;rw[hr]at hm;refine Qc fun x hx=>?_
   rw[<- hr]at hx;obtain⟨h1,e1,I1⟩:=gc (F:=F) (e:=e) B I s0 s21 hx;rw[e1];refine Vy B hz hR h0 s0 s21 m _ h1 _ I1 ?_;have c1:=I1.cnt;have c2:=I.cnt;rw[hr]at c2;rw[No,xR]at c1;simp only[vw]at c2 hm;omega
end
end
noncomputable section
open Go
set_option maxRecDepth 100000
section
variable {F:AEB}{e:Env}{h g g1:Hp}{it bd bm bc n k c0:Nat}{l seen:List Nat}{T T0:VT}{M:List Nat}{cs:List (Nat×List Nat)}{arm:Int}{dn:Bool}
def LW:Nat->Hp->Hp
 |0,h=>h
 |k+1,h=>LW k (h.push .dead)
theorem Sm:∀ (k:Nat) {h:Hp} (W:h.Wf),(LW k h).Wf/\(LW k h).next=h.next+k/\∀ i,(LW k h).bl.get i=h.bl.get i
 |0,h,W=>⟨W,rfl,fun _=>rfl⟩
 |k+1,h,W=>by
  obtain⟨a,b,c⟩:=Sm k (W.push .dead);refine⟨a,?_,fun i=>?_⟩
  ·show(LW k (h.push .dead)).next=_
   rw[b];show h.next+1+k=_;omega
  ·show(LW k (h.push .dead)).bl.get i=_
   rw[c,W.AEa];by_cases hi:i=h.next
   ·rw[if_pos hi,W.fresh i (by omega)]
   ·rw[if_neg hi]
theorem pi(B:FlB h it bd bm bc n c0 cs arm dn T0)(h0:cs≠[])(Tz:VT):∃ r,FlR h it bm n cs Tz r/\∀ i,i<r.next->r.bl.has i:=by
 have hbn:=B.nx;have hlt:=B.lt;have W1:=B.wf.put (b:=it) (by omega) .dead;have P1:=B.wf.AEk (b:=it) (by omega) .dead;have W2:=W1.put (b:=bm) (show bm<h.next by omega) (.cells Tz (64*n) 0);have P2:=W1.AEk (b:=bm) (show bm<h.next by omega) (.cells Tz (64*n) 0);obtain⟨a,b,c⟩:=Sm cs.length W2;have hlen:0<cs.length:=by
  cases cs with
  |nil=>exact absurd rfl h0
  |cons _ _=>exact ABQ _
 refine⟨⟨h.next+cs.length,bm,h.next+cs.length - 1,0,(LW cs.length ((h.put it .dead).put bm (.cells Tz (64*n) 0))).bl⟩,⟨rfl,rfl,by show h.next+cs.length - 1+1=_;omega,fun i=>?_⟩,fun i hi=>a.has i (by rw[b];exact hi)⟩;show(LW cs.length ((h.put it .dead).put bm (.cells Tz (64*n) 0))).bl.get i=_;rw[c,P2,P1];by_cases c1:i=it
 ·rw[if_neg (by omega),if_pos c1,if_pos (.inl c1)]
 ·by_cases c2:h.next<=i
  ·rw[if_neg (by omega),if_neg c1,if_pos (.inr c2)]
   exact B.wf.fresh i c2
  ·rw[if_neg (by omega:¬ (i=it\/h.next<=i)),if_neg c1]
theorem gb(B:FlB h it bd bm bc n c0 cs arm dn T0){y z:Nat×List Nat}{rs:List (Nat×List Nat)}(hcs:cs=y::z::rs)(h60:cs.length<=60)(s0:J 0 e=pt bd)(s21:J 21 e=pt it):
  ∃ e' h',fW F e h=.exit 0 e' h'/\J 0 e'=pt bd/\h'.Wf/\h.next<=h'.next/\(∀ i,i<h.next->i≠it->i≠bm->h'.bl.get i=h.bl.get i)/\∃ T,h'.bl.get bm=.cells T (64*n) 0/\AE2 T0 cs T/\∀ L,L<=h.low->L<=it->L<=bm->L<=h'.low:=by
 have hbn:=B.nx;have hlt:=B.lt;have AGQ:=B.big;have h0:cs≠[]:=by rw[hcs];exact fun h=>by cases h
 obtain⟨Tz,hz⟩:=AE2.all B.has cs [] T0 (.nil T0) B.sec B.key fun y _ z hz=>by cases hz
 have hz:AE2 T0 cs Tz:=hz;obtain⟨r,hR,AIA⟩:=pi B h0 Tz;have W1:(⟨h.next,h.next,0,h.mark,h.bl⟩:Hp).Wf:=⟨B.wf.big,B.wf.has,B.wf.fresh⟩;have I0:FlI h it bm bc n c0 cs T0 [] ⟨h.next,h.next,0,h.mark,h.bl⟩:=⟨W1,rfl,.inl ⟨rfl,rfl,rfl⟩,B.itr,fun _ _ _ _=>rfl,⟨T0,[],B.med,.nil T0,fun y=>⟨fun h=>(by cases h),fun⟨_,_,h⟩=>by cases h⟩⟩,by rw[LC,JW];exact vk _⟩;have S:PG fK fB F e h it r:=⟨AIA,Vy B hz hR h0 s0 s21 64 [] _ [] I0 (by rw[LC,JW];omega)⟩;obtain⟨q1,q2,q3,q4⟩:=hR;obtain⟨h',a1,a2,a3,a4,_,a6⟩:=Tu B.wf S (by omega);have hib:EN (h.bl.get it)=.ok (some bc) (c0+cs.length) [] (c0+cs.length):=by rw[B.itr];rfl
 have he:BV h bc=.ok (AEL c0 cs) (c0+cs.length):=by unfold BV;rw[B.map];rfl
 refine⟨Env.set 23 (.bool false) (Cu e fK.ws),h',?_,?_,a2,by rw[a3];omega,fun i h1 h2 h3=>?_,Tz,?_,hz,fun L h1 _ h3=>by rw[a6];omega⟩
 ·rw[kQ]
  unfold JN;have AIE:J fK.it e=.pointer (some ⟨it,0,none⟩):=s21;have es:AEL c0 cs=⟨AI AT (y.1:Int),DD y.2,c0⟩::⟨AI AT (z.1:Int),DD z.2,c0+1⟩::AEL (c0+1+1) rs:=by rw[hcs];rfl
  rw[es]at he;have b2:vx 256 it=true:=Ac.2 AGQ.2;simp only[AIE,hib,he,xu,cond_true,b2];exact a1
 ·obtain⟨c1,_⟩:=Vb (e:=e)
  rw[AD (by decide) (by decide),if_neg (by decide),c1];exact s0
 ·rw[a4 i h1 h2,q4,if_neg (by omega),if_neg h3]
 ·rw[a4 bm (by omega) (by omega),q4,if_neg (by omega),if_pos rfl]
theorem ph(B:FlB h it bd bm bc n c0 cs arm dn T0){y:Nat×List Nat}(hcs:cs=[y])(s0:J 0 e=pt bd)(s21:J 21 e=pt it):
  ∃ e' h',fW F e h=.exit 0 e' h'/\J 0 e'=pt bd/\h'.Wf/\h.next<=h'.next/\(∀ i,i<h.next->i≠it->i≠bm->h'.bl.get i=h.bl.get i)/\∃ T,h'.bl.get bm=.cells T (64*n) 0/\AE2 T0 cs T/\∀ L,L<=h.low->L<=it->L<=bm->L<=h'.low:=by
 have hbn:=B.nx;have hlt:=B.lt;have AGQ:=B.big;have hib:EN (h.bl.get it)=.ok (some bc) (c0+cs.length) [] (c0+cs.length):=by rw[B.itr];rfl
 have he:BV h bc=.ok (AEL c0 cs) (c0+cs.length):=by unfold BV;rw[B.map];rfl
 have hi:cs[0]? =some y:=by rw[hcs];rfl
 obtain⟨y1,y2,y3⟩:=B.sec y (vy hi);obtain⟨T',hs,ht'⟩:=(AE2.nil T0).step B.has (k:=y.1) (l:=y.2) (by omega) y2 fun z hz=>by cases hz
 have es:AEL c0 cs=[⟨AI AT (y.1:Int),DD y.2,c0⟩]:=by rw[hcs];rfl
 have hl1:cs.length=1:=by rw[hcs];rfl
 have hlf:LU (c0+cs.length) [] [⟨AI AT (y.1:Int),DD y.2,c0⟩]=some [⟨AI AT (y.1:Int),DD y.2,c0⟩]:=by
  show(bif Nat.blt c0 (c0+cs.length)then some [_]else none)=_;rw[BD.2 (by omega)];rfl
 have W2:=B.wf.put (b:=it) (by omega) (.iter (some bc) (c0+cs.length) [c0] (c0+cs.length));have P2:=B.wf.AEk (b:=it) (by omega) (.iter (some bc) (c0+cs.length) [c0] (c0+cs.length));have nxv:GY ⟨it,0,none⟩ h=.ok (.tuple ⟨[.bool true,AI AT (y.1:Int),DD y.2]⟩) (h.put it (.iter (some bc) (c0+cs.length) [c0] (c0+cs.length))):=by
  unfold GY;simp only[hib,he,es,hlf,cond_false];have:Jy c0 []=[c0]:=rfl;rw[this,Do B.wf AGQ.2 (by omega)]
 have n2:(h.put it (.iter (some bc) (c0+cs.length) [c0] (c0+cs.length))).next=h.next:=rfl;have lo2:(h.put it (.iter (some bc) (c0+cs.length) [c0] (c0+cs.length))).low=min h.low it:=BM _ _;generalize h.put it (.iter (some bc) (c0+cs.length) [c0] (c0+cs.length))=g2 at W2 P2 nxv n2 lo2;have AGY:∀ j,j≠it->g2.bl.get j=h.bl.get j:=fun j hj=>by rw[P2,if_neg hj]
 have env:=Q1 (g:=g2) (seen:=[]) (c0:=c0) (i:=0) hi (by rw[P2,if_pos rfl];rfl) (by rw[AGY bc (by omega)];exact B.map);obtain⟨e',g',r1,r2,r3,r4,r5,r6,r7,r8,r9⟩:=RC (F:=F) (e:=e) (g:=h) (g1:=g2) (it:=it) (bd:=bd) (bm:=bm) (bc:=bc) (n:=n) (k:=y.1) (l:=y.2) (T:=T0) (arm:=arm) (dn:=dn) W2 s0 s21
  (fun e he=>bj nxv he) (fun e he=>kP env he) (Nj B.disk (AGY bd (by omega))) ((AGY bm (by omega)).trans B.med) hs y1 y2 AGQ.1 (by omega)
 have AIy:∀ j,j<h.next->j≠it->j≠bm->g'.bl.get j=h.bl.get j:=fun j h1 h2 h3=>by rw[r7 j (by omega) h3,AGY j h2]
 have nx2:GY ⟨it,0,none⟩ g'=.ok (.tuple ⟨[.bool false]⟩) g':=by
  have hib:EN (g'.bl.get it)=.ok (some bc) (c0+cs.length) [c0] (c0+cs.length):=by rw[r7 it (by omega) (by omega),P2,if_pos rfl];rfl
  have he:BV g' bc=.ok (AEL c0 cs) (c0+cs.length):=by
   unfold BV;rw[AIy bc (by omega) (by omega) B.ne.2,B.map];rfl
  have hlf:LU (c0+cs.length) [c0] [⟨AI AT (y.1:Int),DD y.2,c0⟩]=some []:=by
   show(bif (bif wB c0 c0 then true else false)then some []else _)=_;rw[xu];rfl
  have hyg:FV (c0+cs.length) [⟨AI AT (y.1:Int),DD y.2,c0⟩]=false:=by
   show(bif vx (c0+cs.length) c0 then true else false)=false;have:vx (c0+cs.length) c0=false:=by
    cases hb:vx (c0+cs.length) c0
    ·rfl
    ·have:=Ac.1 hb;omega
   rw[this];rfl
  unfold GY;simp only[hib,he,es,hlf,hyg,cond_false];rfl
 have hb2:∃ e2,fB F e' g'=.exit 0 e2 g'/\J 0 e2=pt bd:=by
  have nn:=bj (F:=F) nx2 r3;unfold fB;simp only[sT,By,BY,reduceIte,nn,BK,BW];exact⟨_,rfl,by simp[AD,r2]⟩
 obtain⟨e2,b1,b2⟩:=hb2;refine⟨e2,g',?_,b2,r4,by omega,AIy,T',r6,by rw[hcs];exact ht',fun L h1 h2 h3=>by rw[r8];omega⟩;rw[kQ];unfold JN;have AIE:J fK.it e=.pointer (some ⟨it,0,none⟩):=s21;rw[es]at he;simp only[AIE,hib,he];refine BU (I:=fun i e1 h1=>(i=0/\e1=e/\h1=h)\/(i=1/\e1=e'/\h1=g')) (Q:=fun x=>x=.exit 0 e2 g') 1 (by omega) (fun i e1 h1 hI=>?_) (.inl ⟨rfl,rfl,rfl⟩);rcases hI with ⟨rfl,rfl,rfl⟩|⟨rfl,rfl,rfl⟩
 ·exact .inl ⟨by omega,e',g',r1,.inr ⟨rfl,rfl,rfl⟩⟩
 ·right
  rw[b1];exact⟨rfl,rfl⟩
theorem RF{m:Nat}(W:h.Wf)(d:Dk h bd bm bc n M c0 cs arm false){k:Nat}(ha:HF arm (k+1))(hK:AFU cs)(hc:AEv n cs)(h0:cs≠[])(h60:cs.length<=60):
  ∃ h',call AC (m+3) 76 [pt bd] h=.ok (AI AT 0) h'/\Fx (fun b=>b=bd\/b=bm\/b=bc) h h'/\Dk h' bd bm bc n (E6 M cs) (c0+cs.length) [] (AFN arm) false:=by
 have k1:=H9 (m:=m) d (i:=0) (by have:=d.n1;omega);have k1:call AC (m+2) 95 [pt bd,AI AT 0] h=.ok (AI AT 0) h:=k1;obtain⟨h1,k2,f1,d1⟩:=Wl (m:=m+1) W d ha;have c1:iNe 0 0=false:=CY rfl;obtain⟨_,l1,_,_⟩:=CR d1.disk;have hlt:=d1.lt f1.wf;have rg:∀ (F:AEB) (e:Env),J 20 e=.map (some bc)->K6 (J 20) F e h1=.ok (pt h1.next) (h1.push (.iter (some bc) (c0+cs.length) [] (c0+cs.length))):=fun F e he=>by
  have hen:BV h1 bc=.ok (AEL c0 cs) (c0+cs.length):=by unfold BV;rw[d1.map];rfl
  unfold K6;rw[he];simp only[hen];rw[Cv f1.wf];rfl
 have W2:=f1.wf.push (.iter (some bc) (c0+cs.length) [] (c0+cs.length));have P2:=f1.wf.AEa (.iter (some bc) (c0+cs.length) [] (c0+cs.length));have x2:h1.Ext (h1.push (.iter (some bc) (c0+cs.length) [] (c0+cs.length))):=(Hp.Ext.refl f1.wf).push _;have n2:(h1.push (.iter (some bc) (c0+cs.length) [] (c0+cs.length))).next=h1.next+1:=rfl;generalize h1.push (.iter (some bc) (c0+cs.length) [] (c0+cs.length))=h2 at rg W2 P2 x2 n2;have d2:=d1.ext f1.wf x2;obtain⟨T0,t1,t2⟩:=d2.med;rw[OF,d2.len]at t1;have B:FlB h2 h1.next bd bm bc n c0 cs (AFN arm) false T0:=⟨W2,n2,by rw[P2,if_pos rfl],d2.disk,t1,fun j hj=>(t2 j (by rw[OF,d2.len];exact hj)).1,d2.map,hlt,⟨d.bdm,fun h=>d.bmc h.symm⟩,⟨d.big.2.1,f1.wf.big⟩,hc,hK⟩;have rT:∀ (F:AEB) (e:Env),J 0 e=pt bd->J 21 e=pt h1.next->∃ e' h',fW F e h2=.exit 0 e' h'/\J 0 e'=pt bd/\h'.Wf/\h2.next<=h'.next/\(∀ i,i<h2.next->i≠h1.next->i≠bm->h'.bl.get i=h2.bl.get i)/\∃ T,h'.bl.get bm=.cells T (64 * n) 0/\AE2 T0 cs T/\∀ L,L<=h2.low->L<=h1.next->L<=bm->L<=h'.low:=fun F e e1 e2=>by
  cases cs with
  |nil=>exact absurd rfl h0
  |cons y l=>
   cases l with
   |nil=>exact ph B rfl e1 e2
   |cons z l=>exact gb B rfl h60 e1 e2
 have pre:∃ e1,Z8 (call AC (m+2)) (AQ e0 0 [pt bd]) h=fS (call AC (m+2)) e1 h2/\J 0 e1=pt bd/\J 21 e1=pt h1.next:=by
  unfold Z8;simp only[iN,IS,sT,By,BY,reduceIte,cA0,k1,k2,AJ,AH,c1,Ao,Ad,AG,AM,AK,AO,vk,l1,rg];exact⟨_,rfl,by simp[AD]⟩
 obtain⟨e1,p1,p2,p3⟩:=pre;obtain⟨e3,h3,w1,w2,w3,w4,w5,T,w6,w7,w8⟩:=rT (call AC (m+2)) e1 p2 p3;have d3:h3.Row bd 0 (dkL bm bc n (AFN arm) false):=Nj d2.disk (w5 bd (by omega) (by omega) d.bdm);have m3:h3.bl.get bc=.map (AEL c0 cs) (c0+cs.length):=by rw[w5 bc (by omega) (by omega) (fun h=>d.bmc h.symm)];exact d2.map
 have r3:h3.Row bm 0 ((E6 M cs).map bv):=⟨T,by rw[w6,OF,FQ d.len hc],w7.is t2 d.len hc hK⟩;obtain⟨_,l3,_,_⟩:=CR d3;have cl:∀ (F:AEB) (e:Env),J 37 e=.map (some bc)->Dn (J 37) F e h3=.ok AEE (h3.put bc (.map [] (c0+cs.length))):=fun F e he=>by
  have hen:BV h3 bc=.ok (AEL c0 cs) (c0+cs.length):=by unfold BV;rw[m3];rfl
  unfold Dn;rw[he];simp only[hen];rw[Do w3 d.big.2.2 (by omega)];rfl
 have W4:=w3.put (b:=bc) (by omega) (.map [] (c0+cs.length));have P4:=w3.AEk (b:=bc) (by omega) (.map [] (c0+cs.length));have n4:(h3.put bc (.map [] (c0+cs.length))).next=h3.next:=rfl;have lo4:(h3.put bc (.map [] (c0+cs.length))).low=min h3.low bc:=BM _ _;generalize h3.put bc (.map [] (c0+cs.length))=h4 at cl W4 P4 n4 lo4;refine⟨h4,?_,⟨by have:=f1.next;omega,fun i hi hs=>?_,W4,fun L q1 q2 q3=>by
  have z1:=f1.low L q1 q2 fun b hb=>q3 b (.inl hb)
  have z2:=f1.next;have z3:=x2.low;have z4:=w8 L (by omega) (by omega) (q3 bm (.inr (.inl rfl)));have z5:=q3 bc (.inr (.inr rfl));omega⟩,⟨Nj d3 (by rw[P4,if_neg d.bdc]),Nj r3 (by rw[P4,if_neg d.bmc]),FQ d.len hc,RY d.byt hc,by rw[P4,if_pos rfl];rfl,d.big,d.n1⟩⟩
 ·rw[ZW rfl,Z7,p1,uH]
  simp only[BB,Ap,w1,Az,A8];unfold fE;simp only[sT,By,BY,reduceIte,Ao,w2,Ad,AG,AM,AK,AO,vk,l3,cl,lV0]
 ·have hn:=f1.next
  rw[P4,if_neg (fun e=>hs (.inr (.inr e))),w5 i (by omega) (by omega) (fun e=>hs (.inr (.inl e))),x2.get i (by omega),f1.get i hi (fun e=>hs (.inl e))]
end
end
noncomputable section
open Go
set_option maxRecDepth 100000
structure Kt where
 a:Int
 b:Int
 c:Int
 s:Nat
 l:List Nat
 p:Nat
 u:IN
def AU(k:Kt):List IN:=[AI AT k.a,AI AT k.b,AI AT k.c,.int .u8 (k.s:Int),k.u,AI AT (k.p:Int)]
def ktV(k:Kt):IN:=.agg ⟨AU k⟩
def flK(ks:List Kt):List IN:=ks.flatMap AU
theorem CQ:∀ ks:List Kt,(flK ks).length=6*ks.length
 |[]=>rfl
 |k::ks=>by
  show(AU k++flK ks).length=_;rw[No,CQ ks,vw];show 6+_=_;omega
theorem Jc(a b:List Kt):flK (a++b)=flK a++flK b:=List.flatMap_append
theorem Vu:∀ (ks:List Kt) (i:Nat) (k:Kt),ks[i]? =some k->((flK ks).drop (6*i)).take 6=AU k
 |[],i,k,h=>by cases h
 |x::ks,0,k,h=>by
  have h:some x=some k:=h;cases h;show((AU x++flK ks).drop 0).take 6=_;rw[xF];exact List.take_left' rfl
 |x::ks,i+1,k,h=>by
  rw[wy]at h;show((AU x++flK ks).drop (6*(i+1))).take 6=_;have:6*(i+1)=(AU x).length+6*i:=by show _=6+_;omega
  rw[this,List.drop_length_add_append];exact Vu ks i k h
def Hp.KS(h:Hp)(S:Nat->Prop)(v:IN)(ks:List Kt):Prop:=(v=.slice none 0 0/\ks=[])\/∃ b c el L,v=.slice (some ⟨b,0,none⟩) ks.length c/\ks.length<=c/\h.Row b el L/\6*ks.length<=L.length/\L.take (6*ks.length)=flK ks/\(el=84\/el=0)/\S b
section
variable {h h':Hp}{S S':Nat->Prop}{v:IN}{ks:List Kt}
theorem Hp.KS.keep(o:h.KS S v ks)(hk:∀ b el L,S b->h.Row b el L->h'.Row b el L):h'.KS S v ks:=by
 rcases o with h1|⟨b,c,el,L,h1,h2,h3,h4,h5,h6,h7⟩
 ·exact .inl h1
 ·exact .inr ⟨b,c,el,L,h1,h2,hk _ _ _ h7 h3,h4,h5,h6,h7⟩
theorem Hp.KS.ext(o:h.KS S v ks)(W:h.Wf)(x:h.Ext h'):h'.KS S v ks:=o.keep fun _ _ _ _ r=>r.ext W x
theorem Hp.KS.same(o:h.KS S v ks)(hb:h'.bl=h.bl):h'.KS S v ks:=o.keep fun _ _ _ _ r=>r.same hb
theorem Hp.KS.mono(o:h.KS S v ks)(hs:∀ b,S b->S' b):h.KS S' v ks:=by
 rcases o with h1|⟨b,c,el,L,h1,h2,h3,h4,h5,h6,h7⟩
 ·exact .inl h1
 ·exact .inr ⟨b,c,el,L,h1,h2,h3,h4,h5,h6,hs _ h7⟩
theorem Hp.KS.len(o:h.KS S v ks)(g:Hp):AE5 v g=.ok (AI AT (ks.length:Int)) g:=by
 rcases o with ⟨rfl,rfl⟩|⟨b,c,el,L,rfl,_⟩<;>rfl
theorem Hp.KS.at(o:h.KS S v ks){i:Nat}{k:Kt}(hi:ks[i]? =some k):∃ b,S b/\AE0 6 v (AI AT (i:Int)) h=.ok (.pointer (some ⟨b,6*i,none⟩)) h/\loadN 6 ⟨b,6*i,none⟩ h=.ok (ktV k) h/\∀ j w,(AU k)[j]? =some w->AEF ⟨b,6*i+j,none⟩ h=.ok w h:=by
 have hil:=(wC.1 hi).1;rcases o with ⟨rfl,rfl⟩|⟨b,c,el,L,rfl,h2,h3,h4,h5,h6,h7⟩
 ·cases hi
 ·have hc:(L.drop (6*i)).take 6=AU k:=by
   have:=Vu ks i k hi;rw[<- h5,List.drop_take,ABp,zo (by omega)]at this;exact this
  refine⟨b,h7,?_,?_,fun j w hj=>?_⟩
  ·have:=Cy (h:=h) (n:=ks.length) (c:=c) (es:=6) (b:=b) (off:=0) (i:=i) (k:=.i64) hil
   rwa [vk,xr]at this
  ·rw[h3.loadN (by omega),hc];rfl
  ·have hj6:j<6:=(wC.1 hj).1
   rw[<- hc,zC,if_pos hj6,zd]at hj;rw[h3.AEF (by omega),vm,hj];rfl
theorem Hp.KS.one(o:h.KS S v ks):cellsOf v=[v]/\oneCell v=true/\known v=true:=by
 rcases o with ⟨rfl,_⟩|⟨b,c,el,L,rfl,_⟩<;>exact⟨rfl,rfl,rfl⟩
end
def Hp.KW(h:Hp)(S:Nat->Prop)(v:IN)(ks:List Kt):Prop:=(v=.slice none 0 0/\ks=[])\/∃ b,v=.slice (some ⟨b,0,none⟩) ks.length ks.length/\h.Row b 84 (flK ks)/\S b
theorem Hp.KW.ks{h:Hp}{S:Nat->Prop}{v:IN}{ks:List Kt}(o:h.KW S v ks):h.KS S v ks:=by
 rcases o with h1|⟨b,h1,h2,h3⟩
 ·exact .inl h1
 ·exact .inr ⟨b,_,84,_,h1,IT _,h2,by rw[CQ];omega,by rw[<- CQ,xn],.inl rfl,h3⟩
theorem Hp.KS.ks{h:Hp}{S:Nat->Prop}{v:IN}{ks:List Kt}(o:h.KS S v ks):h.KS S v ks:=o
def Hp.WI(h:Hp)(S:Nat->Prop)(v:IN)(xs:List IN):Prop:=(v=.slice none 0 0/\xs=[])\/∃ b el,v=.slice (some ⟨b,0,none⟩) xs.length xs.length/\h.Row b el xs/\(el=4\/el=0)/\S b
theorem Hp.WI.keep{h h':Hp}{S:Nat->Prop}{v:IN}{xs:List IN}(o:h.WI S v xs)(hk:∀ b el L,S b->h.Row b el L->h'.Row b el L):h'.WI S v xs:=by
 rcases o with h1|⟨b,el,h1,h2,h3,h4⟩
 ·exact .inl h1
 ·exact .inr ⟨b,el,h1,hk _ _ _ h4 h2,h3,h4⟩
theorem Hp.WI.vals{h:Hp}{S:Nat->Prop}{v:IN}{xs:List IN}(o:h.WI S v xs):h.AEb v xs:=by
 rcases o with h1|⟨b,el,h1,h2,h3,h4⟩
 ·exact .inl h1
 ·exact .inr ⟨b,0,_,el,xs,h1,h2,by omega,by rw[xF,xn]⟩
def AGZ(h:Hp)(S:Nat->Prop)(k:Kt):Prop:=h.BS S k.u (k.l.map bv)/\(∀ x∈k.l,x<256)/\k.l.length<=100/\(k.s=1\/k.s=2)/\AEN k.a k.b k.c k.s k.l.length=true/\k.p<65536
def slL(bd tb:Nat)(lv fv:IN)(bad:Nat)(ov:Bool):List IN:=[pt bd,pt tb,AI AT 100,lv,fv,AI AT (bad:Int),.bool ov]
structure At where
 bs:Nat
 bd:Nat
 bm:Nat
 bc:Nat
 tb:Nat
 n:Nat
abbrev At.D(A:At):Nat->Prop:=fun b=>b=A.bs\/b=A.bd\/b=A.bm\/b=A.bc
structure Sl (h:Hp)(A:At)(T M:List Nat)(c0:Nat)(arm:Int)(ks:List Kt)(fr:List Nat)(lv fv:IN)(bad:Nat)(ov:Bool):Prop where
 row:h.Row A.bs 0 (slL A.bd A.tb lv fv bad ov)
 dk:Dk h A.bd A.bm A.bc A.n M c0 [] arm false
 tab:h.Row A.tb 0 (T.map wv)
 tok:AE1 T
 ls:h.KS (fun b=>¬ A.D b) lv ks
 ko:∀ k∈ks,AGZ h (fun b=>¬ A.D b) k
 fs:h.WI (fun b=>¬ A.D b) fv (ints .i64 (fr.map Int.ofNat))
 ne:A.bs≠A.bd/\A.bs≠A.bm/\A.bs≠A.bc/\¬ A.D A.tb/\256<=A.bs
 le:ks.length<=1000/\fr.length<=1000/\bad<=1000/\∀ p∈fr,3*p+3<=A.n
section
variable {F:AEB}{e:Env}{h h':Hp}{A:At}{T M:List Nat}{c0 bad m:Nat}{arm:Int}{ks:List Kt}{fr:List Nat}{lv fv:IN}{ov:Bool}
theorem Sl.keep(s:Sl h A T M c0 arm ks fr lv fv bad ov)(hr:∀ b el L,h.Row b el L->h'.Row b el L)(hm:h'.bl.get A.bc=h.bl.get A.bc):Sl h' A T M c0 arm ks fr lv fv bad ov:=
 ⟨hr _ _ _ s.row,⟨hr _ _ _ s.dk.disk,hr _ _ _ s.dk.med,s.dk.len,s.dk.byt,hm.trans s.dk.map,s.dk.big,s.dk.n1⟩,hr _ _ _ s.tab,s.tok,s.ls.keep fun _ _ _ _ r=>hr _ _ _ r,fun k hk=>⟨(s.ko k hk).1.keep fun _ _ _ _ _ r=>hr _ _ _ r,(s.ko k hk).2⟩,s.fs.keep fun _ _ _ _ r=>hr _ _ _ r,s.ne,s.le⟩
theorem Sl.ext(s:Sl h A T M c0 arm ks fr lv fv bad ov)(W:h.Wf)(x:h.Ext h'):Sl h' A T M c0 arm ks fr lv fv bad ov:=s.keep (fun _ _ _ r=>r.ext W x) (x.get _ (s.dk.lt W).2.2)
theorem Sl.same(s:Sl h A T M c0 arm ks fr lv fv bad ov)(hb:h'.bl=h.bl):Sl h' A T M c0 arm ks fr lv fv bad ov:=s.keep (fun _ _ _ r=>r.same hb) (by rw[hb])
theorem A7{bs bd tb:Nat}(R:h.Row bs 0 (slL bd tb lv fv bad ov)):AEF ⟨bs,0,none⟩ h=.ok (pt bd) h/\AEF ⟨bs,1,none⟩ h=.ok (pt tb) h/\AEF ⟨bs,2,none⟩ h=.ok (AI AT 100) h/\AEF ⟨bs,3,none⟩ h=.ok lv h/\AEF ⟨bs,4,none⟩ h=.ok fv h/\AEF ⟨bs,5,none⟩ h=.ok (AI AT (bad:Int)) h/\AEF ⟨bs,6,none⟩ h=.ok (.bool ov) h:=
 ⟨R.AEF (off:=0) (by show 0<7;omega),R.AEF (off:=1) (by show 1<7;omega),R.AEF (off:=2) (by show 2<7;omega),R.AEF (off:=3) (by show 3<7;omega),R.AEF (off:=4) (by show 4<7;omega),R.AEF (off:=5) (by show 5<7;omega),R.AEF (off:=6) (by show 6<7;omega)⟩
theorem uO{a b:Nat}(h1:a*b<=1000000000):Ft Int.mul .i64 (AI AT (a:Int)) (AI AT (b:Int)) h=.ok (AI AT ((a*b:Nat):Int)) h:=by
 have:Int.mul (a:Int) (b:Int)=((a*b:Nat):Int):=(Int.natCast_mul a b).symm;rw[CV,this,Bb (by omega)]
theorem VM{a b:Nat}(h1:a+b<=1000000000):Fs .i64 (AI AT (a:Int)) (AI AT (b:Int)) h=.ok (AI AT ((a+b:Nat):Int)) h:=by
 have:(a:Int)+(b:Int)=((a+b:Nat):Int):=by omega
 rw[Er,this,Bb (by omega)]
theorem O0:Oz 100=3:=by decide
theorem MQ{bs bd tb:Nat}(R:h.Row bs 0 (slL bd tb lv fv bad ov)){p:Nat}(hp:p<=65536):call AC (m+2) 46 [pt bs,AI AT (p:Int)] h=.ok (AI AT ((p*3:Nat):Int)) h:=by
 obtain⟨_,_,l2,_⟩:=A7 R;have k1:=W7 (n:=m) (h:=h) (z:=100);rw[O0]at k1;have a1:=uO (h:=h) (a:=p) (b:=3) (by omega);rw[nw rfl];unfold d46;simp only[iN,IS,sT,By,BY,reduceIte,Ao,Ad,AG,AM,vk,AK,AO,l2,cA0,k1,Bu,a1,lV0]
theorem Ge{f:OpF}{mm:Qm}{v:IN}(W:h.Wf)(hf:f F e h.quiet=.ok v h.quiet)(hm:h.mark<=h.next):Al mm f F e h=.ok v (h.back h.quiet):=DP hf (.refl W.quiet) hm
theorem fX{x y z:O}{b N k:Nat}(hx:x e=.slice (some ⟨b,0,none⟩) N N)(hy:y e=AI AT (k:Int))(hz:z e=AI AT (k:Int))(hk:k<=N):D5 5 1 x none (some y) (some z) F e h=.ok (.slice (some ⟨b,0,none⟩) k k) h:=by
 have hb:∀ (d:Nat) (y:O) (Y:Nat) (K:Nat->R),y e=AI AT (k:Int)->k<=Y->Ck e (some y) d Y K=K k:=fun d y Y K hy hY=>by
  show(match DE (y e)with|.ok n=>(bif vx n Y then K n else .no)|.no=>.no)=_;rw[hy,C9];simp only;rw[Ac.2 hY];rfl
 show(match x e with|.slice a n c=>DR e n c none (some y) (some z) (fun l hh m=>EL 5 1 a true l hh m h)|_=>.no)=_;rw[hx];show Ck e (some z) N N (fun m=>Ck e (some y) N m fun hh=>Ck e none 0 hh fun l=>EL 5 1 (some ⟨b,0,none⟩) true l hh m h)=_;rw[hb _ _ _ _ hz hk,hb _ _ _ _ hy (IT _)];show Bn (some ⟨b,0,none⟩) 1 0 k k h=_;unfold Bn;simp only[AZ];cases k with
 |zero=>rfl
 |succ k=>rfl
theorem Zq{x y z:O}(hx:x e=.slice none 0 0)(hy:y e=AI AT ((0:Nat):Int))(hz:z e=AI AT ((0:Nat):Int)):D5 5 1 x none (some y) (some z) F e h=.ok (.slice none 0 0) h:=by
 show(match x e with|.slice a n c=>DR e n c none (some y) (some z) (fun l hh m=>EL 5 1 a true l hh m h)|_=>.no)=_;rw[hx];show(match DE (z e)with|.ok n=>(bif vx n 0 then(match DE (y e)with|.ok n'=>(bif vx n' n then Bn none 1 0 n' n h else .no)|.no=>.no)else .no)|.no=>.no)=_;rw[hy,hz];rfl
def dat(M:List Nat)(p k:Nat):List Nat:=(M.drop (64*(3*p+1))).take k
theorem aE{M:List Nat}{n p i:Nat}(hM:M.length=64*n)(hi:3*p+1+i<n):dat M p (64*i)++sec M (3*p+1+i)=dat M p (64*(i+1)):=by
 unfold dat sec;have:M.drop (64*(3*p+1+i))=(M.drop (64*(3*p+1))).drop (64*i):=by rw[List.drop_drop];congr 1;omega
 rw[this,show 64*(i+1)=64*i+64 by omega,List.take_add]
theorem JT{M:List Nat}{n p k:Nat}(hM:M.length=64*n)(hk:64*(3*p+1)+k<=64*n):(dat M p k).length=k:=by
 unfold dat;rw[wT,xC];omega
theorem aD{M:List Nat}(hb:∀ x∈M,x<256)(p k:Nat):∀ x∈dat M p k,x<256:=fun x hx=>hb x (zY (xK hx))
theorem dF:reS=BI (AY 0 (Aw reB)) reE:=rfl
theorem aB:d88=gJ:=rfl
theorem ZI(W:h.Wf){bs bd bm bc tb n:Nat}(R:h.Row bs 0 (slL bd tb lv fv bad ov))(d:Dk h bd bm bc n M c0 [] arm false){p k:Nat}(hp:3*p+3<=n)(hk:k<=128):
  ∃ h' v,call AC (m+4) 88 [pt bs,AI AT (p:Int),AI AT (k:Int)] h=.ok (.tuple ⟨[v,AI AT 0]⟩) h'/\h.Ext h'/\h'.BS (fun b=>h.next<=b) v ((dat M p k).map bv):=by
 have hn:=d.n1;have pre:∃ e1,gJ (call AC (m+3)) (AQ e0 0 [pt bs,AI AT (p:Int),AI AT (k:Int)]) h=reS (call AC (m+3)) e1 h/\J 0 e1=pt bs/\J 1 e1=AI AT (p:Int)/\J 2 e1=AI AT (k:Int)/\J 8 e1=.slice none 0 0/\J 9 e1=AI AT ((0:Nat):Int):=by
  unfold gJ;simp only[iN,IS,sT,By,BY,reduceIte];exact⟨_,rfl,by simp[AD]⟩
 obtain⟨e1,p1,s0,s1,s2,s8,s9⟩:=pre;have run:∃ e' h' v i,Aw reB (call AC (m+3)) e1 h=.exit 0 e' h'/\h.Ext h'/\h'.Own h.next 5 v ((dat M p (64*i)).map bv)/\k<=64*i/\i<=2/\J 8 e'=v/\J 2 e'=AI AT (k:Int):=by
  refine BU (I:=fun i e' h'=>∃ v,h.Ext h'/\h'.Own h.next 5 v ((dat M p (64*i)).map bv)/\J 0 e'=pt bs/\J 1 e'=AI AT (p:Int)/\J 2 e'=AI AT (k:Int)/\J 8 e'=v/\J 9 e'=AI AT (i:Int)/\i<=2)
   (Q:=fun x=>∃ e' h' v i,x=.exit 0 e' h'/\h.Ext h'/\h'.Own h.next 5 v ((dat M p (64*i)).map bv)/\k<=64*i/\i<=2/\J 8 e'=v/\J 2 e'=AI AT (k:Int)) 2 (by omega) (fun i e' h' ⟨v,x',o',t0,t1,t2,t8,t9,hi⟩=>?_)
   ⟨_,.refl W,.inl ⟨rfl,rfl⟩,s0,s1,s2,s8,s9,by omega⟩
  have hdl:(dat M p (64*i)).length=64*i:=JT d.len (by omega);have ln:=o'.vals.bl h';rw[hdl]at ln;by_cases hlt:64*i<k
  ·left
   have hi1:i<2:=by omega
   have c1:iLt ((64*i:Nat):Int) (k:Int)=true:=EF hlt;have xm:=x'.marked;have Rm:=(R.ext W xm);have old:∀ (off:Nat) (kk:C) (F:AEB) (e:Env),JA (.pointer (some ⟨bs,off,none⟩)) kk F e h'.marked=kk F e h'.marked:=fun off kk F e=>Dg (by
    show bs<h'.next;have:=R.lt W;have:=x'.next;omega)
   obtain⟨l0,_⟩:=A7 Rm;have k1:=MQ (m:=m+1) (Rm.same (h':=h'.marked.quiet) rfl) (p:=p) (by omega);have q1:∀ e:Env,J 0 e=pt bs->J 1 e=AI AT (p:Int)->Al .weak (AS 46 [J 0,J 1]) (call AC (m+3)) e h'.marked=.ok (AI AT ((p*3:Nat):Int)) (h'.marked.back h'.marked.quiet):=fun e e1 e2=>by
    refine Ge x'.wf.marked ?_ (IT _);rw[Ba,AV,AV,A1,e1,e2];exact k1
   have y2:h'.Ext (h'.marked.back h'.marked.quiet):=Hp.Ext.AFK (Hp.Ext.refl x'.wf).marked (Hp.Ext.refl x'.wf).marked.quiet;have n2:(h'.marked.back h'.marked.quiet).next=h'.next:=rfl;generalize h'.marked.back h'.marked.quiet=h2 at q1 y2 n2;have x2:=x'.trans y2;have a1:=CF (h:=h2) (i:=p * 3) (by omega);have a2:=VM (h:=h2) (a:=p * 3+1) (b:=i) (by omega);obtain⟨h3,w,k2,y3,mk,n3,_⟩:=Wv (m:=m) x2.quiet.wf ((d.ext W x2).same (h':=h2.quiet) rfl) (i:=p * 3+1+i) (by omega);have q2:∀ e:Env,J 22 e=pt bd->J 28 e=AI AT ((p * 3+1+i:Nat):Int)->Al .free (AS 84 [J 22,J 28]) (call AC (m+3)) e h2=.ok (.tuple ⟨[w,AI AT 0]⟩) (h2.back h3):=fun e e1 e2=>by
    refine BO ?_;rw[Ba,AV,AV,A1,e1,e2];exact k2
   have y4:h2.Ext (h2.back h3):=.back y3;have mk4:Mk (h2.back h3) h2.quiet.next w (sec M (p * 3+1+i)):=mk.same rfl;generalize h2.back h3=h4 at q2 y4 mk4;have x4:=x2.trans y4;have hsl:(sec M (p * 3+1+i)).length=64:=J3 d.len (by omega);obtain⟨h5,v5,k5,x5,o5,n5,fr5⟩:=En (eb:=1) (en:=5) (k:=h.next) x4 (IT _) x4.next ((o'.ext x'.wf y2).ext x2.wf y4) mk4.vals (by rw[OF,hsl];omega) (C6 _) (by rw[OF,OF,hdl,hsl];omega);rw[<- wa,show p * 3+1+i=3 * p+1+i by omega,aE d.len (by omega)]at o5;have c2:iNe 0 0=false:=CY rfl;have a3:=CF (i:=i) (h:=h5) (by omega);have hrun:∃ e2,reB (call AC (m+3)) e' h'=.norm e2 h5/\J 0 e2=pt bs/\J 1 e2=AI AT (p:Int)/\J 2 e2=AI AT (k:Int)/\J 8 e2=v5/\J 9 e2=AI AT ((i+1:Nat):Int):=by
    unfold reB;simp only[sT,By,BY,reduceIte,AX,t8,ln,AJ,AH,t2,c1,A3,Ao,t0,Ad,AG,AM,vk,EH,old,Da,AK,AO,l0,q1,t1,BG,a1,t9,a2,q2,BK,BW,BZ,c2,BF,k5,a3];exact⟨_,rfl,by simp[AD,t0,t1,t2]⟩
   obtain⟨e2,r1,r2,r3,r4,r5,r6⟩:=hrun;exact⟨hi1,e2,h5,r1,v5,x5,o5,r2,r3,r4,r5,r6,by omega⟩
  ·right
   have c1:iLt ((64*i:Nat):Int) (k:Int)=false:=Cz (by omega);have hrun:∃ e2,reB (call AC (m+3)) e' h'=.exit 0 e2 h'/\J 8 e2=v/\J 2 e2=AI AT (k:Int):=by
    unfold reB;simp only[sT,By,BY,reduceIte,AX,t8,ln,AJ,AH,t2,c1];exact⟨_,rfl,by simp[AD,t8,t2]⟩
   obtain⟨e2,r1,r2,r3⟩:=hrun;rw[r1];exact⟨rfl,e2,h',v,i,rfl,x',o',by omega,hi,r2,r3⟩
 obtain⟨e2,h2,v,i,r1,x2,o2,hk2,hi2,r2,r3⟩:=run;have hdl:(dat M p (64*i)).length=64*i:=JT d.len (by omega);have htk:(dat M p (64*i)).take k=dat M p k:=by
  unfold dat;rw[ABp,zo hk2]
 have hdk:(dat M p k).length=k:=JT d.len (by omega);rcases o2 with ⟨rfl,hx⟩|⟨b,rfl,R2,hb,AEO⟩
 ·have h0:64*i=0:=by
   have:=congrArg AAM hx;rw[OF,hdl]at this;exact this
  obtain rfl:k=0:=by omega
  have ct:∀ e:Env,J 8 e=.slice none 0 0->J 2 e=AI AT ((0:Nat):Int)->D5 5 1 (J 8) none (some (J 2)) (some (J 2)) (call AC (m+3)) e h2=.ok (.slice none 0 0) h2:=fun e e1 e2=>Zq e1 e2 e2
  refine⟨h2,.slice none 0 0,?_,x2,.inl ⟨rfl,?_⟩⟩
  ·rw[Za rfl,aB,p1,dF]
   simp only[BB,Ap,r1,Az,A8];unfold reE;simp only[sT,By,BY,reduceIte,ct,r2,r3,Bg,C7]
  ·unfold dat;rfl
 ·rw[OF,hdl]at r2
  have ct:∀ e:Env,J 8 e=.slice (some ⟨b,0,none⟩) (64*i) (64*i)->J 2 e=AI AT (k:Int)->D5 5 1 (J 8) none (some (J 2)) (some (J 2)) (call AC (m+3)) e h2=.ok (.slice (some ⟨b,0,none⟩) k k) h2:=fun e e1 e2=>fX e1 e2 e2 hk2
  refine⟨h2,.slice (some ⟨b,0,none⟩) k k,?_,x2,.inr ⟨b,0,k,6,_,by rw[OF,hdk],by rw[OF,hdk];exact IT _,R2,by rw[OF,OF,hdk,hdl];omega,?_,hb,.inr rfl⟩⟩
  ·rw[Za rfl,aB,p1,dF]
   simp only[BB,Ap,r1,Az,A8];unfold reE;simp only[sT,By,BY,reduceIte,ct,r2,r3,Bg,C7]
  ·rw[OF,hdk,xF,<- AC6,htk]
end
end
noncomputable section
open Go
set_option maxRecDepth 100000
abbrev f86:IN:=.func (.func 86) ⟨[]⟩ ⟨[]⟩
theorem Xd{n:Nat}{h:Hp}{c:Nat}:call AC (n+1) 86 [.int .u8 (c:Int)] h=.ok (.bool (iNe (c:Int) 0)) h:=by
 rw[oZ rfl];unfold d86;simp only[iN,IS,sT,By,BY,reduceIte,AJ,AH,lV0]
theorem aj{n:Nat}{h:Hp}{u:IN}{l:List Nat}(V:h.AEb u (l.map bv))(hl:l.length<=900000){e:Env}(s0:J 0 e=u)(s1:J 1 e=f86)(s7:J 7 e=AI AT (l.length:Int))(s8:J 8 e=AI AT ((0:Nat):Int)):
  (∃ e',Aw ifB (call AC (n+1)) e h=.exit 0 e' h/\∀ x∈l,x=0)\/(∃ e' i,Aw ifB (call AC (n+1)) e h=.ret e' h/\J 4 e'=AI AT ((i:Nat):Int)/\∃ x∈l,x≠0):=by
 refine BU (I:=fun i e' h'=>h'=h/\J 0 e'=u/\J 1 e'=f86/\J 7 e'=AI AT (l.length:Int)/\J 8 e'=AI AT (i:Int)/\i<=l.length/\((∀ x∈l,x=0)↔∀ x∈l.drop i,x=0))
  (Q:=fun x=>(∃ e',x=.exit 0 e' h/\∀ x∈l,x=0)\/(∃ e' i,x=.ret e' h/\J 4 e'=AI AT ((i:Nat):Int)/\∃ x∈l,x≠0)) l.length (by omega) (fun i e' h' ⟨hh,t0,t1,t7,t8,hi,hr⟩=>?_) ⟨rfl,s0,s1,s7,s8,wP _,by simp⟩
 subst hh;by_cases hlt:i<l.length
 ·obtain⟨a,g1,g2⟩:=JL V hlt
  have hmem:l.getD i 0∈l:=by
   rw[vm,sh hlt];exact List.getElem_mem hlt
  rw[GP hlt]at hr;generalize l.getD i 0=c at g2 hr hmem;have c1:=EF hlt;have k1:=Xd (n:=n) (h:=h') (c:=c);by_cases hc:c=0
  ·left
   subst hc;have k1:call AC (n+1) 86 [.int .u8 ((0:Nat):Int)] h'=.ok (.bool false) h':=k1;have a3:=CF (i:=i) (h:=h') (by omega);have hrun:∃ e2,ifB (call AC (n+1)) e' h'=.norm e2 h'/\J 0 e2=u/\J 1 e2=f86/\J 7 e2=AI AT (l.length:Int)/\J 8 e2=AI AT ((i+1:Nat):Int):=by
    unfold ifB;simp only[sT,By,BY,reduceIte,AJ,AH,t8,t7,c1,Ay,t0,g1,AK,g2,Ca,t1,CI,AV,A1,xE,wF,k1,BG,a3];exact⟨_,rfl,by simp[AD,t0,t1,t7]⟩
   obtain⟨e2,q1,q2,q3,q4,q5⟩:=hrun;refine⟨hlt,e2,h',q1,rfl,q2,q3,q4,q5,hlt,hr.trans ?_⟩;simp
  ·right
   have c2:iNe (c:Int) 0=true:=by rw[Hl];simpa using hc
   rw[c2]at k1;have hrun:∃ e2,ifB (call AC (n+1)) e' h'=.ret e2 h'/\J 4 e2=AI AT (i:Int):=by
    unfold ifB;simp only[sT,By,BY,reduceIte,AJ,AH,t8,t7,c1,Ay,t0,g1,AK,g2,Ca,t1,CI,AV,A1,xE,wF,k1];exact⟨_,rfl,by simp[AD]⟩
   obtain⟨e2,q1,q2⟩:=hrun;rw[q1];exact⟨rfl,.inr ⟨e2,i,rfl,q2,c,hmem,hc⟩⟩
 ·right
  have c1:=Cz (show l.length<=i by omega);have hrun:∃ e2,ifB (call AC (n+1)) e' h'=.exit 0 e2 h':=by
   unfold ifB;simp only[sT,By,BY,reduceIte,AJ,AH,t8,t7,c1];exact⟨_,rfl⟩
  obtain⟨e2,q1⟩:=hrun;rw[q1];refine⟨rfl,.inl ⟨e2,rfl,hr.2 ?_⟩⟩;rw[List.drop_of_length_le (by omega)];intro x hx;cases hx
theorem Te{n:Nat}{h:Hp}{u:IN}{l:List Nat}(V:h.AEb u (l.map bv))(hl:l.length<=900000):∃ r:Bool,call AC (n+3) 85 [u,f86] h=.ok (.bool r) h/\(r=true↔∃ x∈l,x≠0):=by
 have Vl:=V.bl h;have pre:∃ e1,OE (call AC (n+1)) (AQ e0 0 [u,f86]) h=ifS (call AC (n+1)) e1 h/\J 0 e1=u/\J 1 e1=f86/\J 7 e1=AI AT (l.length:Int)/\J 8 e1=AI AT ((0:Nat):Int):=by
  unfold OE;simp only[iN,IS,sT,By,BY,reduceIte,AX,Vl];exact⟨_,rfl,by simp[AD]⟩
 obtain⟨e1,p1,p2,p3,p4,p5⟩:=pre;rcases aj (n:=n) V hl p2 p3 p4 p5 with ⟨e2,q1,q2⟩|⟨e2,i,q1,q2,q3⟩
 ·have k1:call AC (n+2) 109 [u,f86] h=.ok (AI AT (-1)) h:=by
   rw[Lr rfl,Lt,p1,Ph];simp only[BB,Ap,q1,Az,A8];unfold ifE;simp only[sT,By,BY,reduceIte,lV0]
  refine⟨false,?_,by simp;exact q2⟩;have c1:iGe (-1) 0=false:=FZ (by omega);rw[PQ rfl];unfold d85;simp only[iN,IS,sT,By,BY,reduceIte,cA0,k1,AJ,AH,c1,lV0]
 ·have k1:call AC (n+2) 109 [u,f86] h=.ok (AI AT (i:Int)) h:=by
   rw[Lr rfl,Lt,p1,Ph];simp only[BB,Ap,q1,Bz,CU,lV0,q2]
  refine⟨true,?_,by simp only[true_iff];exact q3⟩;have c1:iGe (i:Int) 0=true:=Hi (by omega);rw[PQ rfl];unfold d85;simp only[iN,IS,sT,By,BY,reduceIte,cA0,k1,AJ,AH,c1,lV0]
def K0:Kt:=⟨0,0,0,0,[],0,.slice none 0 0⟩
theorem eN:Fm.zero=AU K0:=by kernel_rfl
theorem HE:B3 .mt 0 (AU K0)=some Du:=by kernel_rfl
section
variable {F:AEB}{e:Env}{h g:Hp}{T M:List Nat}{c0 bad m:Nat}{arm:Int}{lv fv:IN}{ov:Bool}
theorem Gr{h:Hp}{t u v w:IN}{l:List IN}:GQ 3 (.tuple ⟨t::u::v::w::l⟩) h=.ok w h:=rfl
theorem KM:B5 Fm.zero [] F e h=.ok (ktV K0) h:=by
 rw[Ej,CO,eN];rfl
theorem VV{a b c:Int}{s p:Nat}{u:IN}{l:List Nat}{g1 g2:O}(h1:g1 e=Bv a b c s u)(h2:g2 e=AI AT (p:Int)):B5 Fm.zero [(0,5,g1),(5,1,g2)] F e h=.ok (ktV ⟨a,b,c,s,l,p,u⟩) h:=by
 rw[Ej,eN,BE (hk:=by rw[h1];rfl),h1,BE (hk:=by rw[h2];rfl),h2,
  if_pos (show(cellsOf (Bv a b c s u)).length=5 from rfl),if_pos (show 0+5<=(AU K0).length by show 5<=6;omega),if_pos (show(cellsOf (AI AT (p:Int))).length=1 from rfl),if_pos (show 5+1<=(over (AU K0) 0 (cellsOf (Bv a b c s u))).length by show 6<=6;omega),CO]
 rfl
theorem Nf(W0:h.Wf)(x:h.Ext g){r:Nat}(hr:h.next<=r){L:List IN}(R:g.Row r 0 L)(hL:L.length=6){k:Kt}(hu:oneCell k.u=true):
  AER 6 (pt r) (ktV k) g=.ok AEE (g.wr r 0 (AU k))/\loadN 6 ⟨r,0,none⟩ (g.wr r 0 (AU k))=.ok (ktV k) (g.wr r 0 (AU k))/\h.Ext (g.wr r 0 (AU k))/\(g.wr r 0 (AU k)).Row r 0 (AU k)/\(g.wr r 0 (AU k)).next=g.next:=by
 have AEO:256<=r:=by have:=W0.big;omega
 have ho:0+(AU k).length<=L.length:=by rw[hL];show 0+6<=6;omega
 have h1:Bc (AU k)=true:=by
  show(bif oneCell k.u then true else false)=true;rw[hu];rfl
 have st:=R.AER (n:=6) (off:=0) x.wf AEO (v:=ktV k) rfl ho h1;have wr:=R.AET x.wf ho;rw[Hy (show L.length=(AU k).length from hL)]at wr;exact⟨st,wr.loadN (off:=0) (n:=6) (by show 0+6<=6;omega),R.AEi x hr ho,wr,R.AEt ho⟩
def HP(T M:List Nat)(p:Nat)(ns:List Nat):Prop:=Ld T (sec M (3*p)) ns/\at6 ns 4<=100/\B9 T (dat M p (at6 ns 4))=at6 ns 5
theorem Pu:lkB=YA:=rfl
theorem pL:d55=Xn:=rfl
theorem vS{e:Env}{h:Hp}{r4:Nat}{v:IN}{a b:Bool}{c:Int}(s4:J 4 e=pt r4)(s5:J 5 e=.bool a)(s6:J 6 e=.bool b)(s7:J 7 e=AI AT c)(hv:loadN 6 ⟨r4,0,none⟩ h=.ok v h):A5 [.cN (J 4) 6,.t (J 5),.t (J 6),.t (J 7)] (.ret e h)=.ok (.tuple ⟨[v,.bool a,.bool b,AI AT c]⟩) h:=by
 rw[Bg,Ki (v:=v) (by rw[s4,As];exact hv),s5,s6,s7]
def kj(T M:List Nat)(p:Nat)(h h':Hp)(r:R):Prop:=
 (∃ ns u,HP T M p ns/\r=.ok (.tuple ⟨[ktV ⟨at6 ns 1,at6 ns 2,at6 ns 3,at6 ns 0,dat M p (at6 ns 4),p,u⟩,.bool true,.bool false,AI AT 0]⟩) h'/\h'.BS (fun b=>h.next<=b) u ((dat M p (at6 ns 4)).map bv))\/
 ((¬ ∃ ns,HP T M p ns)/\∃ bad:Bool,r=.ok (.tuple ⟨[ktV K0,.bool false,.bool bad,AI AT 0]⟩) h'/\(bad=true↔(∃ x∈sec M (3*p),x≠0)\/∃ ns,Ld T (sec M (3*p)) ns/\at6 ns 4<=100))
theorem Ia{T l a b:List Nat}(h1:Ld T l a)(h2:Ld T l b):a=b:=by
 obtain⟨x,q,a1,a2,a3,_⟩:=h1;obtain⟨y,r,b1,b2,b3,_⟩:=h2;rw[a1]at b1;cases b1;rw[a3]at b3;cases b3;rfl
theorem SZ{T l ns:List Nat}(h:Ld T l ns):jH ns:=by
 obtain⟨_,_,_,_,_,h4,_⟩:=h;exact jI.1 h4
theorem iB(W:h.Wf){bs bd bm bc tb n:Nat}(R:h.Row bs 0 (slL bd tb lv fv bad ov))(Rt:h.Row tb 0 (T.map wv))(hT:AE1 T)(d:Dk h bd bm bc n M c0 [] arm false){p:Nat}(hp:3*p+3<=n):
  ∃ h',h.Ext h'/\kj T M p h h' (call AC (m+5) 55 [pt bs,AI AT (p:Int)] h):=by
 have hn:=d.n1;have al:=fun (F:AEB) (e:Env)=>Bx (F:=F) (e:=e) W (n:=6) (t:=Du)
 have R4:=Hp.Row.alloc W HE (show(AU K0).length=6 from rfl);have x1:h.Ext (h.push (.cells Du 6 0)):=(Hp.Ext.refl W).push _;have n1:(h.push (.cells Du 6 0)).next=h.next+1:=rfl;generalize h.push (.cells Du 6 0)=h1 at al R4 x1 n1;have xm:=x1.marked;have Rm:=R.ext W xm;have old:∀ (off:Nat) (kk:C) (F:AEB) (e:Env),JA (.pointer (some ⟨bs,off,none⟩)) kk F e h1.marked=kk F e h1.marked:=fun off kk F e=>Dg (by
  show bs<h1.next;have:=R.lt W;omega)
 obtain⟨l0,_⟩:=A7 Rm;have k1:=MQ (m:=m+2) (Rm.same (h':=h1.marked.quiet) rfl) (p:=p) (by omega);have q1:∀ e:Env,J 0 e=pt bs->J 1 e=AI AT (p:Int)->Al .weak (AS 46 [J 0,J 1]) (call AC (m+4)) e h1.marked=.ok (AI AT ((p*3:Nat):Int)) (h1.marked.back h1.marked.quiet):=fun e e1 e2=>by
  refine Ge x1.wf.marked ?_ (IT _);rw[Ba,AV,AV,A1,e1,e2];exact k1
 have y2:h1.Ext (h1.marked.back h1.marked.quiet):=Hp.Ext.AFK (Hp.Ext.refl x1.wf).marked (Hp.Ext.refl x1.wf).marked.quiet;have n2:(h1.marked.back h1.marked.quiet).next=h1.next:=rfl;generalize h1.marked.back h1.marked.quiet=h2 at q1 y2 n2;have x2:=x1.trans y2;obtain⟨h3,v,k2,y3,mk,n3,_⟩:=Wv (m:=m+1) x2.quiet.wf ((d.ext W x2).same (h':=h2.quiet) rfl) (i:=p * 3) (by omega);have q2:∀ e:Env,J 19 e=pt bd->J 22 e=AI AT ((p * 3:Nat):Int)->Al .free (AS 84 [J 19,J 22]) (call AC (m+4)) e h2=.ok (.tuple ⟨[v,AI AT 0]⟩) (h2.back h3):=fun e e1 e2=>by
  refine BO ?_;rw[Ba,AV,AV,A1,e1,e2];exact k2
 have y4:h2.Ext (h2.back h3):=.back y3;have mk4:Mk (h2.back h3) h2.quiet.next v (sec M (p * 3)):=mk.same rfl;generalize h2.back h3=h4 at q2 y4 mk4;rw[xr p 3]at mk4;have x4:=x2.trans y4;have c0':iNe 0 0=false:=CY rfl;have hsl:(sec M (3 * p)).length=64:=J3 d.len (by omega);have hsb:=rF d.byt (3 * p);obtain⟨r,k3,hr⟩:=Te (n:=m+1) mk4.vals (by omega);obtain⟨_,l1,_⟩:=A7 (R.ext W x4);obtain⟨h5,y5,hpar⟩:=cq (n:=m) x4.wf (Rt.ext W x4) hT mk4.vals mk4.cap hsb (by omega);have x5:=x4.trans y5;have al2:=fun (F:AEB) (e:Env)=>Bx (F:=F) (e:=e) x5.wf (n:=5) (t:=Dz)
 have R11:=Hp.Row.alloc x5.wf Ij (show(A4 0 0 0 0 AEP).length=5 from rfl);have y6:h5.Ext (h5.push (.cells Dz 5 0)):=(Hp.Ext.refl x5.wf).push _;have n6:(h5.push (.cells Dz 5 0)).next=h5.next+1:=rfl;generalize h5.push (.cells Dz 5 0)=h6 at al2 R11 y6 n6;have x6:=x5.trans y6;have hn5:=x5.next;have AKs:h.next+1<=h5.next:=by
  have:=((y2.trans y4).trans y5).next;omega
 have pre:∀ (a b c:Int) (s many sum:Nat) (ok:Bool),call AC (m+4) 87 [pt tb,v] h4=.ok (.tuple ⟨[Bv a b c s AEP,AI AT (many:Int),.int .u32 (sum:Int),.bool ok]⟩) h5->
   ∃ e1 h7,Xn (call AC (m+4)) (AQ e0 0 [pt bs,AI AT (p:Int)]) h=lkB (call AC (m+4)) e1 h7/\h.Ext h7/\h7.Row h5.next 0 (A4 a b c s AEP)/\h7.Row h.next 0 (AU K0)/\h5.next<h7.next/\J 0 e1=pt bs/\J 1 e1=AI AT (p:Int)/\J 4 e1=pt h.next/\J 10 e1=.bool (!r)/\J 11 e1=pt h5.next/\J 12 e1=AI AT (many:Int)/\J 13 e1=.int .u32 (sum:Int)/\J 14 e1=.bool ok:=fun a b c s many sum ok hk=>by
  obtain⟨st,_,x7,R7,n7⟩:=QH x5.wf y6 (IT _) R11 rfl (a:=a) (b:=b) (c:=c) (s:=s) (u:=AEP) rfl;have R4':(h6.wr h5.next 0 (A4 a b c s AEP)).Row h.next 0 (AU K0):=((R4.ext x1.wf ((y2.trans y4).trans y5)).ext x5.wf x7);generalize h6.wr h5.next 0 (A4 a b c s AEP)=h7 at st x7 R7 n7 R4';have hrun:∃ e1,Xn (call AC (m+4)) (AQ e0 0 [pt bs,AI AT (p:Int)]) h=lkB (call AC (m+4)) e1 h7/\J 0 e1=pt bs/\J 1 e1=AI AT (p:Int)/\J 4 e1=pt h.next/\J 10 e1=.bool (!r)/\J 11 e1=pt h5.next/\J 12 e1=AI AT (many:Int)/\J 13 e1=.int .u32 (sum:Int)/\J 14 e1=.bool ok:=by
   unfold Xn;simp only[iN,IS,sT,By,BY,reduceIte,al,A3,Ao,Ad,AG,AM,vk,EH,old,Da,AK,AO,l0,q1,q2,BK,BW,BZ,C3,Gr,AJ,AH,c0',cA0,k3,Bi,Bh,l1,hk,al2,Ab,st];exact⟨_,rfl,by simp[AD]⟩
  obtain⟨e1,q⟩:=hrun;exact⟨e1,h7,q.1,x5.trans x7,R7,R4',by omega,q.2⟩
 have res:∀ (hx g:Hp) (e1 e2:Env) (a b:Bool) (v:IN),Xn (call AC (m+4)) (AQ e0 0 [pt bs,AI AT (p:Int)]) h=lkB (call AC (m+4)) e1 hx->lkB (call AC (m+4)) e1 hx=.ret e2 g->J 4 e2=pt h.next->J 5 e2=.bool a->J 6 e2=.bool b->J 7 e2=AI AT 0->loadN 6 ⟨h.next,0,none⟩ g=.ok v g->
   call AC (m+5) 55 [pt bs,AI AT (p:Int)] h=.ok (.tuple ⟨[v,.bool a,.bool b,AI AT 0]⟩) g:=fun hx g e1 e2 a b v i1 i2 t4 t5 t6 t7 hv=>by
  rw[oC rfl,pL,i1,i2];exact vS t4 t5 t6 t7 hv
 have K0u:oneCell K0.u=true:=rfl;rcases hpar with ⟨ns,hP,hk⟩|⟨hP,hk⟩
 ·have AHg:=SZ hP
  obtain⟨e1,h7,p1,x7,R7,R47,AJy,s0,s1,s4,s10,s11,s12,s13,s14⟩:=pre _ _ _ _ (at6 ns 4) (at6 ns 5) true hk;obtain⟨_,_,l2,_⟩:=A7 (R.ext W x7);by_cases AGT:at6 ns 4<=100
  ·have c1:iGt (at6 ns 4:Int) 100=false:=Fa (by omega)
   obtain⟨h8,u,k4,y8,vs8⟩:=ZI (m:=m) x7.wf (R.ext W x7) (d.ext W x7) (p:=p) (k:=at6 ns 4) hp (by omega);have x8:=x7.trans y8;have R8:=R7.ext x7.wf y8;have u1:=vs8.vs.one;have ho4:4+(cellsOf u).length<=(A4 (at6 ns 1) (at6 ns 2) (at6 ns 3) (at6 ns 0) AEP).length:=by rw[u1.1];show 4+1<=5;omega
   have AEO:256<=h5.next:=by have:=W.big;omega
   have st8:AER 1 (.pointer (some ⟨h5.next,4,none⟩)) u h8=.ok AEE (h8.wr h5.next 4 (cellsOf u)):=R8.AER (n:=1) (off:=4) x8.wf AEO (by rw[u1.1];rfl) ho4 (by
    rw[u1.1];show(bif oneCell u then true else false)=true;rw[u1.2.1];rfl)
   have R9:=R8.AET x8.wf ho4;have x9:=R8.AEi x8 (by omega) ho4;have n9:=R8.AEt ho4;have R49:=R8.AFM x8.wf ho4 (R47.ext x7.wf y8) (by omega);have hkeep:∀ b el L,b≠h5.next->h8.Row b el L->(h8.wr h5.next 4 (cellsOf u)).Row b el L:=fun b el L hb r=>R8.AFM x8.wf ho4 r hb
   have hov:over (A4 (at6 ns 1) (at6 ns 2) (at6 ns 3) (at6 ns 0) AEP) 4 (cellsOf u)=A4 (at6 ns 1) (at6 ns 2) (at6 ns 3) (at6 ns 0) u:=by rw[u1.1];rfl
   rw[hov]at R9;have vs9:(h8.wr h5.next 4 (cellsOf u)).BS (fun b=>h7.next<=b) u ((dat M p (at6 ns 4)).map bv):=vs8.keep fun b el L hb _ r=>hkeep b el L (by omega) r
   generalize h8.wr h5.next 4 (cellsOf u)=h9 at st8 R9 x9 n9 R49 vs9;have x9m:=x9.marked;have R9m:h9.marked.Row h5.next 0 (A4 (at6 ns 1) (at6 ns 2) (at6 ns 3) (at6 ns 0) u):=R9.same rfl;obtain⟨_,_,_,_,lu,_⟩:=CC R9m;obtain⟨_,l1',_⟩:=A7 (R.ext W x9m);have hdl:(dat M p (at6 ns 4)).length=at6 ns 4:=JT d.len (by omega);obtain⟨hq,k5,hq2⟩:=U4 (n:=m+3) (h:=h9.marked.quiet) ((Rt.ext W x9).same rfl) hT (vs9.vs.vals.same (h':=h9.marked.quiet) rfl) (aD d.byt p _) (by omega);have yq:h9.marked.quiet.Ext hq:=by
    rcases hq2 with rfl|rfl
    ·exact Hp.Ext.refl x9m.quiet.wf
    ·exact(Hp.Ext.refl x9m.quiet.wf).marked
   have nq:hq.next=h9.next:=by rcases hq2 with rfl|rfl<;>rfl
   have q5:∀ e:Env,J 72 e=pt tb->J 74 e=u->Al .free (AS 71 [J 72,J 74]) (call AC (m+4)) e h9.marked=.ok (.int .u32 ((B9 T (dat M p (at6 ns 4)):Nat):Int)) (h9.marked.back hq):=fun e e1 e2=>by
    refine BO ?_;rw[Ba,AV,AV,A1,e1,e2];exact k5
   have y10:h9.marked.Ext (h9.marked.back hq):=.back yq;have n10:(h9.marked.back hq).next=h9.next:=nq;generalize h9.marked.back hq=h10 at q5 y10 n10;have x10:=x9m.trans y10;have R10:=R9m.ext x9m.wf y10;have AIF:h10.Row h.next 0 (AU K0):=(R49.same (h':=h9.marked) rfl).ext x9m.wf y10;have AJz:h10.BS (fun b=>h7.next<=b) u ((dat M p (at6 ns 4)).map bv):=(vs9.same (h':=h9.marked) rfl).ext x9m.wf y10;obtain⟨_,_,_,_,_,ln⟩:=CC R10;have AIz:at6 ns 0<=2:=AHg.1;by_cases AIG:B9 T (dat M p (at6 ns 4))=at6 ns 5
   ·have c2:iNe ((B9 T (dat M p (at6 ns 4)):Nat):Int) ((at6 ns 5:Nat):Int)=false:=CY (by rw[AIG])
    have bd1:∀ (F:AEB) (e:Env),J 79 e=Bv (at6 ns 1) (at6 ns 2) (at6 ns 3) (at6 ns 0) u->J 1 e=AI AT (p:Int)->B5 Fm.zero [(0,5,J 79),(5,1,J 1)] F e h10=.ok (ktV ⟨at6 ns 1,at6 ns 2,at6 ns 3,at6 ns 0,dat M p (at6 ns 4),p,u⟩) h10:=fun F e e1 e2=>VV e1 e2
    obtain⟨w1,w2,w3,w4,w5⟩:=Nf W x10 (IT _) AIF rfl (k:=⟨at6 ns 1,at6 ns 2,at6 ns 3,at6 ns 0,dat M p (at6 ns 4),p,u⟩) u1.2.1;have AJ0:∀ b el L,b≠h.next->h10.Row b el L->(h10.wr h.next 0 (AU ⟨at6 ns 1,at6 ns 2,at6 ns 3,at6 ns 0,dat M p (at6 ns 4),p,u⟩)).Row b el L:=fun b el L hb r=>AIF.AFM x10.wf (by show 0+6<=6;omega) r hb
    have AI0:(h10.wr h.next 0 (AU ⟨at6 ns 1,at6 ns 2,at6 ns 3,at6 ns 0,dat M p (at6 ns 4),p,u⟩)).BS (fun b=>h7.next<=b) u ((dat M p (at6 ns 4)).map bv):=AJz.keep fun b el L hb _ r=>AJ0 b el L (by have:=x7.next;omega) r
    generalize h10.wr h.next 0 (AU ⟨at6 ns 1,at6 ns 2,at6 ns 3,at6 ns 0,dat M p (at6 ns 4),p,u⟩)=h11 at w1 w2 w3 w4 w5 AI0;have hrun:∃ e2,lkB (call AC (m+4)) e1 h7=.ret e2 h11/\J 4 e2=pt h.next/\J 5 e2=.bool true/\J 6 e2=.bool false/\J 7 e2=AI AT 0:=by
     rw[Pu];unfold YA lkC;simp only[sT,By,BY,reduceIte,gD,Bi,Bh,s14,xJ,s12,s0,Ao,Ad,AG,AM,vk,AK,AO,l2,AJ,AH,c1,cA0,s1,k4,BK,BW,BZ,s11,Ab,st8,c0',A3,l1',lu,q5,s13,c2,Aq,As,ln,bd1,s4,w1];exact⟨_,rfl,by simp[AD,s4]⟩
    obtain⟨e2,i2,t4,t5,t6,t7⟩:=hrun;exact⟨h11,w3,.inl ⟨ns,u,⟨hP,AGT,AIG⟩,res h7 h11 e1 e2 true false _ p1 i2 t4 t5 t6 t7 w2,AI0.mono fun b hb=>Nat.le_trans x7.next hb⟩⟩
   ·have c2:iNe ((B9 T (dat M p (at6 ns 4)):Nat):Int) ((at6 ns 5:Nat):Int)=true:=FH (by omega)
    obtain⟨w1,w2,w3,w4,w5⟩:=Nf W x10 (IT _) AIF rfl (k:=K0) K0u;generalize h10.wr h.next 0 (AU K0)=h11 at w1 w2 w3 w4 w5;have hrun:∃ e2,lkB (call AC (m+4)) e1 h7=.ret e2 h11/\J 4 e2=pt h.next/\J 5 e2=.bool false/\J 6 e2=.bool true/\J 7 e2=AI AT 0:=by
     rw[Pu];unfold YA lkC;simp only[sT,By,BY,reduceIte,gD,Bi,Bh,s14,xJ,s12,s0,Ao,Ad,AG,AM,vk,AK,AO,l2,AJ,AH,c1,cA0,s1,k4,BK,BW,BZ,s11,Ab,st8,c0',A3,l1',lu,q5,s13,c2,KM,s4,w1];exact⟨_,rfl,by simp[AD,s4]⟩
    obtain⟨e2,i2,t4,t5,t6,t7⟩:=hrun;refine⟨h11,w3,.inr ⟨?_,true,res h7 h11 e1 e2 false true _ p1 i2 t4 t5 t6 t7 w2,⟨fun _=>.inr ⟨ns,hP,AGT⟩,fun _=>rfl⟩⟩⟩;rintro⟨ns',a1,a2,a3⟩;obtain rfl:=Ia hP a1;exact AIG a3
  ·have c1:iGt (at6 ns 4:Int) 100=true:=GV (by omega)
   obtain⟨w1,w2,w3,w4,w5⟩:=Nf W x7 (IT _) R47 rfl (k:=K0) K0u;generalize h7.wr h.next 0 (AU K0)=h11 at w1 w2 w3 w4 w5;have hrun:∃ e2,lkB (call AC (m+4)) e1 h7=.ret e2 h11/\J 4 e2=pt h.next/\J 5 e2=.bool false/\J 6 e2=.bool r/\J 7 e2=AI AT 0:=by
    rw[Pu];unfold YA;simp only[sT,By,BY,reduceIte,gD,Bi,Bh,s14,xJ,s12,s0,Ao,Ad,AG,AM,vk,AK,AO,l2,AJ,AH,c1,KM,s10,ADM,s4,Ab,w1];exact⟨_,rfl,by simp[AD,s4]⟩
   obtain⟨e2,i2,t4,t5,t6,t7⟩:=hrun;refine⟨h11,w3,.inr ⟨?_,r,res h7 h11 e1 e2 false r _ p1 i2 t4 t5 t6 t7 w2,hr.trans ⟨.inl,?_⟩⟩⟩
   ·rintro⟨ns',a1,a2,a3⟩
    obtain rfl:=Ia hP a1;exact AGT a2
   ·rintro (h1|⟨ns',a1,a2⟩)
    ·exact h1
    ·obtain rfl:=Ia hP a1
     exact absurd a2 AGT
 ·obtain⟨e1,h7,p1,x7,R7,R47,AJy,s0,s1,s4,s10,s11,s12,s13,s14⟩:=pre 0 0 0 0 0 0 false hk
  obtain⟨w1,w2,w3,w4,w5⟩:=Nf W x7 (IT _) R47 rfl (k:=K0) K0u;generalize h7.wr h.next 0 (AU K0)=h11 at w1 w2 w3 w4 w5;have hrun:∃ e2,lkB (call AC (m+4)) e1 h7=.ret e2 h11/\J 4 e2=pt h.next/\J 5 e2=.bool false/\J 6 e2=.bool r/\J 7 e2=AI AT 0:=by
   rw[Pu];unfold YA;simp only[sT,By,BY,reduceIte,gD,Bi,Bh,s14,yA,KM,s10,ADM,s4,Ab,w1];exact⟨_,rfl,by simp[AD,s4]⟩
  obtain⟨e2,i2,t4,t5,t6,t7⟩:=hrun;refine⟨h11,w3,.inr ⟨fun⟨ns',a1,_⟩=>hP ⟨ns',a1⟩,r,res h7 h11 e1 e2 false r _ p1 i2 t4 t5 t6 t7 w2,hr.trans ⟨.inl,?_⟩⟩⟩;rintro (h1|⟨ns',a1,_⟩)
  ·exact h1
  ·exact absurd ⟨ns',a1⟩ hP
end
end
end Go.Proofs.YtedbmmfebjfibaaGreat

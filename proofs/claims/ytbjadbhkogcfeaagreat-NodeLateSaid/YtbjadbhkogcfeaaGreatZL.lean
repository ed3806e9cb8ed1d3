/-
  Part ZL of what Lawlt stands on: printed by program, names and spaces cut.
-/
import Derived.Test.YtbjadbhkogcfeaaGreatZK
open Go.Value renaming int→AI
open Go.IntKind renaming i64→AT
open Nat renaming reduceEqDiff→BY,reduceLT→By,reduceAdd→IS,le_refl→IT,zero_add→If,succ→yg,ble→yl,beq→yu,zero_le→zL,add_zero→AAE,mul_comm→AAP,beq_refl→AAQ,succ_pos→ABz,min_eq_left→ACd,add_comm→AEM,add_assoc→AEv
open Go renaming Value→IN
open List renaming length_append→No,length_map→OF,getElem?_eq_getElem→sh,getD_eq_getElem?_getD→yf,length_cons→yh,mem_cons_of_mem→yj,mem_cons_self→yk,replicate→yp,mem_cons→yv,append_nil→yw,mem_of_getElem?→yz,mem_singleton→zB,append_assoc→zC,mem_append_right→zE,getElem?_append_left→zF,getElem?_eq_some_iff→zG,getElem?_append_right→zI,length_take→zJ,mem_append→zK,mem_append_left→zR,length_nil→zS,nil_append→zU,map_append→zb,length_singleton→zh,getElem?_cons_succ→zk,length_drop→zl,drop_zero→zr,getElem?_map→zy,take_length→AAF,length_replicate→AAH,mem_of_mem_take→AAN,getElem?_take→AA9,mem_of_mem_drop→ABZ,getElem?_drop→ABf,mem_iff_getElem?→AB9,length→ACA,take_take→AEU,map_take→AEh
open Bool renaming not_true→ze,not_false→zg,eq_iff_iff→AAd,not_not→AE0
open Classical renaming choose→AFE,choose_spec→AFQ,byContradiction→AFf
set_option linter.unusedVariables false
set_option linter.unusedSimpArgs false
namespace Go.Proofs.YtbjadbhkogcfeaaGreat
noncomputable section
open Go
set_option maxRecDepth 100000
section
variable {F:AFi}{e:Env}{h h':Hp}{S:Nat->Prop}{bd bm bc n c0:Nat}{M:List Nat}{cs:List (Nat×List Nat)}{arm:Int}{dn:Bool}
theorem rG{n:Nat}(hn:n<=9223372036854775807):GW ⟨false,[.i .i64]⟩ (AI AT (n:Int))=true:=by
 show(match (match Fm .i64 .i64 with|true=>yl n (BH .i64)|false=>false)with|true=>true|false=>false)=true;have h1:Fm .i64 .i64=true:=rfl;have h2:yl n (BH .i64)=true:=Av.2 hn;simp only[h1,h2]
theorem yL{n m:Nat}(hm:m<=9223372036854775807):Ii ⟨false,[.i .i64]⟩ (AI AT (n:Int)) (AI AT (m:Int))=some (decide (n=m)):=by
 unfold Ii;rw[rG hm];show(match (match Fm .i64 .i64 with|true=>some (iEq (n:Int) (m:Int))|false=>none)with|some true=>some true|some false=>some false|none=>none)=_;have h1:Fm .i64 .i64=true:=rfl;simp only[h1,Dc];by_cases h:n=m
 ·subst h;simp
 ·have:((n:Int) == (m:Int))=false:=by rw[beq_eq_false_iff_ne];omega
  rw[this,decide_eq_false h]
theorem SA{k:Nat}{v:IN}:∀ (cs:List (Nat×List Nat)) (i:Nat),(∀ x∈cs,x.1≠k/\x.1<=65536)->Nh ⟨false,[.i .i64]⟩ (AI AT (k:Int)) v (AF0 i cs)=some none
 |[],_,_=>rfl
 |x::l,i,hx=>by
  obtain⟨h1,h2⟩:=hx x yk;show(match Ii ⟨false,[.i .i64]⟩ (AI AT (k:Int)) (AI AT (x.1:Int))with|some true=>some (some ((⟨AI AT (k:Int),v,i⟩:Ent)::AF0 (i+1) l))|some false=>(match Nh ⟨false,[.i .i64]⟩ (AI AT (k:Int)) v (AF0 (i+1) l)with|some (some l')=>some (some ((⟨AI AT (x.1:Int),Dm x.2,i⟩:Ent)::l'))|some none=>some none|none=>none)|none=>none)=some none;rw[yL (by omega),decide_eq_false (fun h=>h1 h.symm)];simp only;rw[SA l (i+1) fun y hy=>hx y (yj _ hy)]
theorem UJ{k:Nat}{l:List Nat}:∀ (cs:List (Nat×List Nat)) (i:Nat),Wb ⟨AI AT (k:Int),Dm l,i+cs.length⟩ (AF0 i cs)=AF0 i (cs++[(k,l)])
 |[],i=>rfl
 |x::cs,i=>by
  show(⟨AI AT (x.1:Int),Dm x.2,i⟩:Ent)::Wb ⟨AI AT (k:Int),Dm l,i+(cs.length+1)⟩ (AF0 (i+1) cs)=_::AF0 (i+1) (cs++[(k,l)]);rw[<- UJ cs (i+1),AEv,AEM 1]
theorem WX:KD.zero=(yp 64 0).map bv:=by
 have:KD.zero=Bb ty5.zero 64:=by kernel_rfl
 rw[this,L1]
theorem WZ:Bt .mt 0 ((yp 64 0).map bv)=some JH:=by kernel_rfl
theorem jB(R:h.Row bm 0 (M.map bv))(hM:M.length=64*n){i:Nat}(hi:i<n):loadN 64 ⟨bm,0+i*64,none⟩ h=.ok (Dm (sec M i)) h:=by
 rw[R.loadN (by rw[OF];omega),<- List.map_drop,<- AEh,If,AAP i 64];rfl
theorem aj(d:Dk h bd bm bc n M c0 [] arm dn){z:IN}{x y:O}{i:Nat}(hx:x e=.map (some bc))(hy:y e=AI AT (i:Int))(hi:i<n):GE ⟨false,[.i .i64]⟩ z true x y F e h=.ok (.tuple ⟨[z,.bool false]⟩) h:=by
 have:=d.n1;show II ⟨false,[.i .i64]⟩ z (x e) (y e) true h=_;rw[hx,hy];have he:Bk h bc=.ok [] (c0+0):=by unfold Bk;rw[d.map];rfl
 unfold II;rw[rG (by omega)];simp only[he,MY];unfold Ex;simp only[BV]
theorem Xd{g:O}{r:Nat}(hg:g e=pt r):GD 64 1 g none none none F e h=.ok (.slice (some ⟨r,0,none⟩) 64 64) h:=by
 show(match Dy (g e)with|.ok a=>Dh e 64 64 none none none fun l hh m=>Br (some a) 1 l hh m h|.no=>.no)=_;rw[hg];rfl
theorem WA{m:Nat}(W:h.Wf)(d:Dk h bd bm bc n M c0 [] arm false){i:Nat}(hi:i<n):
  ∃ h' v,call AC (m+3) 109 [pt bd,AI AT (i:Int)] h=.ok (.tuple ⟨[v,AI AT 0]⟩) h'/\h.Ext h'/\Mk h' h.next v (sec M i)/\h'.next=h.next+1/\h'.mark=h.mark/\h.low=h.low:=by
 have k1:=NR (m:=m) d hi;obtain⟨l0,l1,_,_⟩:=DA d.disk;have c0':iNe 0 0=false:=CH rfl;have lk:∀ e:Env,J 19 e=.map (some bc)->J 1 e=AI AT (i:Int)->GE ⟨false,[.i .i64]⟩ (.agg ⟨KD.zero⟩) true (J 19) (J 1) (call AC (m+2)) e h=.ok (.tuple ⟨[.agg ⟨KD.zero⟩,.bool false]⟩) h:=fun e h1 h2=>aj d h1 h2 hi
 have al:=fun (F:AFi) (e:Env)=>BW (F:=F) (e:=e) W (n:=64) (t:=JH)
 have R1:=Hp.Row.alloc W WZ (by rw[OF,AAH]);have x1:h.Ext (h.push (.cells JH 64 0)):=(Hp.Ext.refl W).push _;have n1:(h.push (.cells JH 64 0)).next=h.next+1:=rfl;have m1:(h.push (.cells JH 64 0)).mark=h.mark:=rfl;generalize h.push (.cells JH 64 0)=h1 at al R1 x1 n1 m1;have hz:((yp 64 0).map bv).length=64:=by rw[OF,AAH]
 have big:=W.big;have st:AFr 64 (pt h.next) (.agg ⟨KD.zero⟩) h1=.ok AFl (h1.wr h.next 0 ((yp 64 0).map bv)):=by
  rw[WX];exact R1.AFr (n:=64) (off:=0) x1.wf big (v:=.agg ⟨(yp 64 0).map bv⟩) hz (by show 0+((yp 64 0).map bv).length<=_;omega) (DZ _)
 have x2:=R1.AGE x1 (IT _) (off:=0) (vs:=(yp 64 0).map bv) (by omega);have R2:=R1.AFu x1.wf (off:=0) (vs:=(yp 64 0).map bv) (by omega);rw[Fi rfl]at R2;have n2:(h1.wr h.next 0 ((yp 64 0).map bv)).next=h.next+1:=(R1.AGN (by omega)).trans n1;have m2:(h1.wr h.next 0 ((yp 64 0).map bv)).mark=h.mark:=by
  obtain⟨_,_,e,_⟩:=R1.AGt (off:=0) (vs:=(yp 64 0).map bv) (by omega);rw[e];exact m1
 generalize h1.wr h.next 0 ((yp 64 0).map bv)=h2 at st x2 R2 n2 m2;have d2:=d.ext W x2;obtain⟨l0,_,_,_⟩:=DA d2.disk;have ix:AGa 64 (.slice (some ⟨bm,0,none⟩) n n) (AI AT (i:Int)) h2=.ok (.pointer (some ⟨bm,0+i * 64,none⟩)) h2:=DB hi;have ld:=jB d2.med d2.len hi;have hsl:=J2 d2.len hi;have hsm:((sec M i).map bv).length=64:=by rw[OF,hsl]
 have st2:AFr 64 (pt h.next) (Dm (sec M i)) h2=.ok AFl (h2.wr h.next 0 ((sec M i).map bv)):=R2.AFr (n:=64) (off:=0) x2.wf big (v:=Dm (sec M i)) hsm (by show 0+((sec M i).map bv).length<=_;omega) (DZ _);have x3:=R2.AGE x2 (IT _) (off:=0) (vs:=(sec M i).map bv) (by omega);have R3:=R2.AFu x2.wf (off:=0) (vs:=(sec M i).map bv) (by omega);rw[Fi (by omega)]at R3;have n3:(h2.wr h.next 0 ((sec M i).map bv)).next=h.next+1:=(R2.AGN (by omega)).trans n2;have m3:(h2.wr h.next 0 ((sec M i).map bv)).mark=h.mark:=by
  obtain⟨_,_,e,_⟩:=R2.AGt (off:=0) (vs:=(sec M i).map bv) (by omega);rw[e];exact m2
 generalize h2.wr h.next 0 ((sec M i).map bv)=h3 at st2 x3 R3 n3 m3;have ct:∀ e:Env,J 7 e=pt h.next->GD 64 1 (J 7) none none none (call AC (m+2)) e h3=.ok (.slice (some ⟨h.next,0,none⟩) 64 64) h3:=fun e he=>Xd he
 refine⟨h3,.slice (some ⟨h.next,0,none⟩) 64 64,?_,x3,⟨h.next,0,by rw[hsl],.inl rfl,R3,IT _⟩,n3,m3,rfl⟩;obtain⟨_,l1,_,_⟩:=DA d.disk;rw[fC rfl];unfold gG;simp only[iN,IS,sT,By,BY,reduceIte,cA0,k1,AK,AJ,c0',Ax,Al,AH,AN,AM,AP,If,l1,lk,A7,BC,BE,al,AX,st,Be,Bd,zg,l0,BB,ix,Au,Am,ld,st2,ct,BI,DH];simp only[If]at ld;simp only[ld,sT,By,BY,reduceIte,AX,st2,ct,BI,DH]
theorem tY(W:h.Wf)(d:Dk h bd bm bc n M c0 cs arm dn){i:Nat}(hi:i<n)(hc:∀ x∈cs,x.1≠i/\x.1<n){l:List Nat}{g1 g2 g3:O}(h1:g1 e=.map (some bc))(h2:g2 e=AI AT (i:Int))(h3:g3 e=Dm l):
  FM ⟨false,[.i .i64]⟩ g1 g2 g3 F e h=.ok AFl (h.put bc (.map (AF0 c0 (cs++[(i,l)])) (yg (c0+cs.length))))/\Fx (fun b=>b=bc) h (h.put bc (.map (AF0 c0 (cs++[(i,l)])) (yg (c0+cs.length))))/\Dk (h.put bc (.map (AF0 c0 (cs++[(i,l)])) (yg (c0+cs.length)))) bd bm bc n M c0 (cs++[(i,l)]) arm dn:=by
 have hn:=d.n1;have hlt:=(d.lt W).2.2;have he:Bk h bc=.ok (AF0 c0 cs) (c0+cs.length):=by unfold Bk;rw[d.map];rfl
 have fx:Fx (fun b=>b=bc) h (h.put bc (.map (AF0 c0 (cs++[(i,l)])) (yg (c0+cs.length)))):=Fx.put (S:=fun b=>b=bc) W hlt rfl _;refine⟨?_,fx,⟨fx.row W d.disk d.bdc,fx.row W d.med d.bmc,d.len,d.byt,?_,d.big,d.n1⟩⟩
 ·show AFv (g2 e) (fun key=>AFv (g3 e) fun v=>L9 ⟨false,[.i .i64]⟩ (g1 e) key v h)=_
  rw[BV,BV,h1,h2,h3];unfold L9;rw[rG (by omega)];simp only[he,SA cs c0 fun x hx=>⟨(hc x hx).1,by have:=(hc x hx).2;omega⟩,UJ];rw[Dw W d.big.2.2 hlt];rfl
 ·rw[W.AGF hlt,if_pos rfl,No];rfl
theorem ml{g:O}{a:Addr}{c:Nat}(hg:g e=.slice (some a) 64 c):RB 64 g F e h=.ok (.pointer (some a)) h:=by
 show(match g e with|.slice (some a) l _=>bif yl 64 l then R.ok (.pointer (some a)) h else .no|_=>.no)=_;rw[hg];rfl
theorem SY{m:Nat}(W:h.Wf)(d:Dk h bd bm bc n M c0 cs arm false){k:Nat}(ha:CB arm (k+1)){i:Nat}(hi:i<n)(hc:∀ x∈cs,x.1≠i/\x.1<n){u:IN}{l:List Nat}(U:h.VS (fun b=>b≠bd) u (l.map bv))(hl:l.length=64):
  ∃ h',call AC (m+3) 123 [pt bd,AI AT (i:Int),u] h=.ok (AI AT 0) h'/\Fx (fun b=>b=bd\/b=bc) h h'/\Dk h' bd bm bc n M c0 (cs++[(i,l)]) (GL arm) false:=by
 have k1:=NR (m:=m) d hi;have Ul:=U.vals.bl h;rw[hl]at Ul;obtain⟨h1,k2,f1,d1⟩:=Vy (m:=m+1) W d ha;have U1:=U.fx W f1 (fun b h1 h2=>h1 h2);have c1:iNe 0 0=false:=CH rfl;have c2:iNe ((64:Nat):Int) 64=false:=CH rfl;rcases U1 with ⟨_,hx⟩|⟨b,off,c,el,L,hu,_,R1,ho,hL,_⟩
 ·have:=congrArg ACA hx
  rw[OF,hl]at this;cases this
 rw[OF,hl]at hu ho hL;have d1m:=d1.same (h':=h1.marked) rfl;obtain⟨_,l1,_,_⟩:=DA d1m.disk;have Rm:h1.marked.Row b el L:=R1.same rfl;have ld:loadN 64 ⟨b,off,none⟩ h1.marked=.ok (Dm l) h1.marked:=by rw[Rm.loadN ho,hL];rfl
 have ar:∀ (F:AFi) (e:Env),J 2 e=u->RB 64 (J 2) F e h1.marked=.ok (.pointer (some ⟨b,off,none⟩)) h1.marked:=fun F e he=>ml (he.trans hu)
 have up:=fun (F:AFi) (e:Env) (g1 g2 g3:O) (e1:g1 e=.map (some bc)) (e2:g2 e=AI AT (i:Int)) (e3:g3 e=Dm l)=>tY (F:=F) f1.wf.marked.quiet (d1m.same (h':=h1.marked.quiet) rfl) hi hc e1 e2 e3
 obtain⟨_,f2,d2⟩:=up (call AC m) e0 (kV (.map (some bc))) (kV (AI AT (i:Int))) (kV (Dm l)) rfl rfl rfl;have up:=fun F e g1 g2 g3 e1 e2 e3=>(up F e g1 g2 g3 e1 e2 e3).1
 generalize h1.marked.quiet.put bc (.map (AF0 c0 (cs++[(i,l)])) (yg (c0+cs.length)))=h2 at up f2 d2;have u2:∀ (F:AFi) (e:Env),J 26 e=.map (some bc)->J 1 e=AI AT (i:Int)->J 30 e=Dm l->Ad .free (FM ⟨false,[.i .i64]⟩ (J 26) (J 1) (J 30)) F e h1.marked=.ok AFl (h1.marked.back h2):=fun F e e1 e2 e3=>BO (up F e _ _ _ e1 e2 e3)
 refine⟨h1.marked.back h2,?_,?_,d2.same rfl⟩
 ·rw[fM rfl]
  unfold gW;simp only[iN,IS,sT,By,BY,reduceIte,cA0,k1,AK,AJ,c1,Ah,Ul,c2,k2,A1,Ax,Al,AH,AN,AM,AP,If,l1,ar,Au,Am,ld,u2,lV0]
 ·exact(f1.mono fun i h=>.inl h).trans (((f2.mono fun i h=>.inr h).from (h:=h1.marked) rfl rfl).same (h2:=h1.marked.back h2) rfl rfl |>.from (h:=h1) rfl rfl)
theorem cR:∀ n:Nat,Bb KD.zero n=(yp (64*n) 0).map bv
 |0=>rfl
 |n+1=>by
  show KD.zero++Bb KD.zero n=_;rw[cR n,WX,<- zb,List.replicate_append_replicate]
  congr 2;omega
theorem tw:kj.zero=[.slice none 0 0,.map none,AI AT 0,.bool false]:=by kernel_rfl
theorem iF{m:Nat}(W:h.Wf)(hn:1<=n/\n<=65536):
  ∃ h' bd bm bc,call AC (m+1) 30 [AI AT (n:Int)] h=.ok (.tuple ⟨[pt bd,AI AT 0]⟩) h'/\h.Ext h'/\Dk h' bd bm bc n (yp (64*n) 0) 0 [] (-1) false/\h.next<=bd/\h.next<=bm/\h.next<=bc:=by
 have big:=W.big;have c1:iLt (n:Int) 1=false:=Fb (by omega);have c2:iGt (n:Int) 65536=false:=Fa (by omega);have mk:∀ (F:AFi) (e:Env),J 0 e=AI AT (n:Int)->HM 64 KD.zero (J 0) (J 0) F e h=.ok (.slice (some ⟨h.next,0,none⟩) n n) (h.AFh 0 ((yp (64*n) 0).map bv)):=fun F e he=>by
  show Q3 64 KD.zero (De (J 0 e)) (De (J 0 e)) h=_;rw[he,DI];unfold Q3;simp only;have e1:yl n n=true:=Av.2 (IT _);have e2:yl (Nat.mul (yg n) (yg 64)) most=true:=Av.2 (by show(n+1)*65<=1099511627776;omega);rw[e1,e2,cR];simp only[cond_true];rw[C9 W];rfl
 have x1:=(Hp.Ext.refl W).AFh 0 ((yp (64 * n) 0).map bv);have R1:=Hp.Row.new W 0 ((yp (64 * n) 0).map bv);have n1:(h.AFh 0 ((yp (64 * n) 0).map bv)).next=h.next+1:=rfl;generalize h.AFh 0 ((yp (64 * n) 0).map bv)=h1 at mk x1 R1 n1;have mp:∀ (F:AFi) (e:Env),YP F e h1=.ok (.map (some h1.next)) (h1.push (.map [] 0)):=fun F e=>by
  unfold YP;rw[C8 x1.wf]
 have y2:h1.Ext (h1.push (.map [] 0)):=(Hp.Ext.refl x1.wf).push _;have M2:(h1.push (.map [] 0)).bl.get h1.next=.map [] 0:=by rw[x1.wf.AF6,if_pos rfl]
 have n2:(h1.push (.map [] 0)).next=h1.next+1:=rfl;generalize h1.push (.map [] 0)=h2 at mp y2 M2 n2;have x2:=x1.trans y2;have bl:∀ (F:AFi) (e:Env),J 11 e=.slice (some ⟨h.next,0,none⟩) n n->J 12 e=.map (some h1.next)->BK kj.zero [(0,1,J 11),(1,1,J 12),(2,1,kV (AI AT (-1)))] F e h2=.ok (.agg ⟨dkL h.next h1.next n (-1) false⟩) h2:=fun F e e1 e2=>by
  rw[CS,tw,Af (hk:=by rw[e1];rfl),e1,Af (hk:=by rw[e2];rfl),e2,Af];simp only[show cellsOf (.slice (some ⟨h.next,0,none⟩) n n)=[.slice (some ⟨h.next,0,none⟩) n n]from rfl,show cellsOf (.map (some h1.next))=[.map (some h1.next)]from rfl,Fd,Ch,zh,yh,zS,over,List.take,List.drop,List.append_eq,zU,List.cons_append,IS,Nat.reduceLeDiff,if_true,Bs,reduceIte];rfl
 have bx:∀ (F:AFi) (e:Env),J 13 e=.agg ⟨dkL h.next h1.next n (-1) false⟩->Ce (J 13) F e h2=.ok (pt h2.next) (h2.AFh 0 (dkL h.next h1.next n (-1) false)):=fun F e he=>by
  rw[EF,he,EC x2.wf];rfl
 have y3:=(Hp.Ext.refl x2.wf).AFh 0 (dkL h.next h1.next n (-1) false);have R3:=Hp.Row.new x2.wf 0 (dkL h.next h1.next n (-1) false);generalize h2.AFh 0 (dkL h.next h1.next n (-1) false)=h3 at bx y3 R3;refine⟨h3,h2.next,h.next,h1.next,?_,x2.trans y3,⟨R3,(R1.ext x1.wf y2).ext x2.wf y3,AAH,fun x hx=>by rw[List.eq_of_mem_replicate hx];decide,?_,⟨by omega,by omega,by omega⟩,hn⟩,by omega,IT _,by omega⟩
 ·rw[pG rfl]
  unfold d30;simp only[iN,IS,sT,By,BY,reduceIte,gD,AK,AJ,c1,c2,mk,mp,bl,bx,BI,DH]
 ·rw[y3.get _ (by omega),M2];rfl
end
end
noncomputable section
open Go
set_option maxRecDepth 100000
theorem VT.ext:∀ (a b:VT),(∀ j,a.has j↔b.has j)->(∀ j,a.get j=b.get j)->a=b
 |.mt,.mt,_,_=>rfl
 |.mt,.nd v l r,h,_=>by
  have:=(h 0).2 (by unfold VT.has;trivial);unfold VT.has at this;exact this.elim
 |.nd v l r,.mt,h,_=>by
  have:=(h 0).1 (by unfold VT.has;trivial);unfold VT.has at this;exact this.elim
 |.nd v l r,.nd v' l' r',h,g=>by
  have e1:v=v':=g 0;have lo:∀ j,(2*j) % 2=0/\2*j/2=j:=fun j=>by omega
  have hi:∀ j,¬ (2*j+1) % 2=0/\(2*j+1)/2=j:=fun j=>by omega
  have e2:l=l':=VT.ext l l' (fun j=>by
   have:=h (2*j+1);rw[VT.AFt,VT.AFt,if_pos (lo j).1,if_pos (lo j).1,(lo j).2]at this;exact this) (fun j=>by
   have:=g (2*j+1);rw[VT.AFq,VT.AFq,if_pos (lo j).1,if_pos (lo j).1,(lo j).2]at this;exact this)
  have e3:r=r':=VT.ext r r' (fun j=>by
   have:=h (2*j+1+1);rw[VT.AFt,VT.AFt,if_neg (hi j).1,if_neg (hi j).1,(hi j).2]at this;exact this) (fun j=>by
   have:=g (2*j+1+1);rw[VT.AFq,VT.AFq,if_neg (hi j).1,if_neg (hi j).1,(hi j).2]at this;exact this)
  rw[e1,e2,e3]
theorem VT.AG9:∀ (t:VT) (i:Nat) (x:IN) (t':VT),t.set i x=some t'->t.has i->∀ j,t'.has j->t.has j
 |.mt,i,x,t',_,h,_,_=>by unfold VT.has at h;exact h.elim
 |.nd v l r,0,x,t',hs,_,j,hj=>by
  have hs:some (VT.nd x l r)=some t':=hs;cases hs;cases j with
  |zero=>unfold VT.has;trivial
  |succ k=>rw[VT.AFt]at hj ⊢;exact hj
 |.nd v l r,k+1,x,t',hs,h,j,hj=>by
  rw[VT.AGC]at hs;rw[VT.AFt]at h;by_cases hk:k % 2=0
  ·rw[if_pos hk]at hs h
   cases hl:l.set (k/2) x with
   |none=>rw[hl]at hs;cases hs
   |some l'=>
    rw[hl]at hs;cases hs;cases j with
    |zero=>unfold VT.has;trivial
    |succ m=>
     rw[VT.AFt]at hj ⊢;by_cases hm:m % 2=0
     ·rw[if_pos hm]at hj ⊢;exact VT.AG9 l _ x l' hl h _ hj
     ·rw[if_neg hm]at hj ⊢;exact hj
  ·rw[if_neg hk]at hs h
   cases hl:r.set (k/2) x with
   |none=>rw[hl]at hs;cases hs
   |some l'=>
    rw[hl]at hs;cases hs;cases j with
    |zero=>unfold VT.has;trivial
    |succ m=>
     rw[VT.AFt]at hj ⊢;by_cases hm:m % 2=0
     ·rw[if_pos hm]at hj ⊢;exact hj
     ·rw[if_neg hm]at hj ⊢;exact VT.AG9 r _ x l' hl h _ hj
theorem LU:∀ (vs:List IN) (t:VT) (i:Nat),(∀ j,j<i+vs.length->t.has j)->∃ t',Bt t i vs=some t'/\(∀ j,t'.has j↔t.has j)/\∀ j,t'.get j=if i<=j/\j<i+vs.length then vs.getD (j - i) AFl else t.get j
 |[],t,i,h=>⟨t,rfl,fun _=>Iff.rfl,fun j=>by rw[if_neg (by simp only[zS];omega)]⟩
 |v::vs,t,i,h=>by
  simp only[yh]at h;have hh:∀ j,j<i->t.has j:=fun j hj=>h j (by omega)
  have hs:=VT.AGP (x:=v) hh;have h1:∀ j,(t.lay i v).has j↔t.has j:=fun j=>⟨VT.AG9 t i v _ hs (h i (by omega)) j,fun hj=>VT.AGn hh j (.inr hj)⟩
  obtain⟨t',a1,a2,a3⟩:=LU vs (t.lay i v) (i+1) fun j hj=>(h1 j).2 (h j (by omega))
  refine⟨t',?_,fun j=>(a2 j).trans (h1 j),fun j=>?_⟩
  ·show(match t.set i v with|some t'=>Bt t' (yg i) vs|none=>none)=_
   rw[hs];exact a1
  ·rw[a3 j,VT.AGg hh]
   simp only[yh];by_cases c1:i+1<=j/\j<i+1+vs.length
   ·rw[if_pos c1,if_pos (by omega),show j - i=(j - (i+1))+1 by omega];rfl
   ·rw[if_neg c1]
    by_cases c2:j=i
    ·rw[if_pos c2,if_pos (by omega),c2,Nat.sub_self];rfl
    ·rw[if_neg c2,if_neg (by omega)]
section
variable {F:AFi}{e:Env}{h r:Hp}{k:Walk}{body:C}{b:Nat}
theorem Oq{b n0:Nat}{r h1:Hp}{tr:Rds}:Xk b n0 r h1 tr=true↔Z8 b n0 r h1:=by
 unfold Xk;split
 ·rename_i h _;exact⟨fun _=>h,fun _=>rfl⟩
 ·rename_i h _;exact⟨fun e=>(by cases e),fun e=>absurd e h⟩
theorem Pq{f:Ent->Bool}:∀ {l:List Ent},(∀ x∈l,f x=true)->Pp f l=true
 |[],_=>rfl
 |x::l,h=>by
  show(bif f x then Pp f l else false)=true;rw[h x yk,Pq fun y hy=>h y (yj _ hy)];rfl
theorem Iw{fin:Hp->Rds->Bool}:∀ (n:Nat) (h:Hp) (tr:Rds),LL k body F e b fin n h tr=true->∃ p,S3 k body F e b n h tr=some p/\fin p.1 p.2=true
 |0,h,tr,hx=>by cases hx
 |n+1,h,tr,hx=>by
  unfold LL N8 at hx;unfold S3 N8;cases hi:EU (h.bl.get b)with
  |no=>rw[hi]at hx;cases hx
  |cur _ _ _=>rw[hi]at hx;cases hx
  |pick _ _ _ _=>rw[hi]at hx;cases hx
  |ok m since seen last=>
   rw[hi]at hx;cases m with
   |none=>cases hx
   |some m=>
    simp only at hx ⊢;cases he:Bk h m with
    |no=>rw[he]at hx;cases hx
    |ok es c=>
     rw[he]at hx;simp only at hx ⊢;cases q1:yu c since with
     |false=>rw[q1]at hx;cases hx
     |true=>
      cases q2:yu c last with
      |false=>rw[q1,q2]at hx;cases hx
      |true=>
       cases q3:FP c 0 es with
       |false=>rw[q1,q2,q3]at hx;cases hx
       |true=>
        rw[q1,q2,q3]at hx;simp only[cond_true]at hx ⊢;cases hr:AGH seen es with
        |nil=>rw[hr]at hx;exact⟨_,rfl,hx⟩
        |cons y l=>
         rw[hr]at hx;have hy:=MD hx y yk;simp only;cases hst:Oa k body F e b m c seen h y with
         |none=>rw[hst]at hy;cases hy
         |some h1=>
          rw[hst]at hy;exact Iw n h1 _ hy
theorem Ss(W:h.Wf)(S:Og k body F e h b r)(hn:h.next<=r.next):
  ∃ h',F2 k body F e h b=.exit k.out (Env.set k.more (.bool false) (C6 e k.ws)) h'/\h'.Wf/\h'.next=r.next/\(∀ i,i<h.next->i≠b->h'.bl.get i=r.bl.get i)/\h'.mark=h.mark/\h'.low=min h.low r.low:=by
 obtain⟨p,hp,hend⟩:=Iw _ _ _ S.2;obtain⟨q1,q2,q3,q4⟩:=Oq.1 hend;have AHp:=W.big;unfold F2;split
 case h_2=>rename_i hx _;exact absurd ⟨r,S⟩ hx
 rename_i hx _;have S':=AFQ hx;generalize AFE hx=r' at S';obtain⟨p',hp',AJd⟩:=Iw _ _ _ S'.2;obtain rfl:p'=p:=by rw[hp]at hp';exact(Option.some.inj hp').symm
 obtain⟨t1,t2,t3,t4⟩:=Oq.1 AJd;refine⟨_,rfl,⟨?_,S'.1,fun i hi=>?_⟩,t1.symm.trans q1,fun i hi hib=>?_,rfl,(BZ _ _).trans (by rw[t2,<- q2])⟩
 ·show 256<=r'.next;omega
 ·have hi:r'.next<=i:=hi
  show r'.bl.get i=_;rw[t4,if_pos (by omega)]
 ·show r'.bl.get i=_
  rw[t4,q4]
end
end
noncomputable section
open Go
set_option maxRecDepth 100000
def IZ(M:List Nat)(k:Nat)(l:List Nat):List Nat:=M.take (64*k)++l++M.drop (64*k+64)
def GA:List Nat->List (Nat×List Nat)->List Nat
 |M,[]=>M
 |M,y::cs=>GA (IZ M y.1 y.2) cs
def AHk(cs:List (Nat×List Nat)):Prop:=∀ (i j:Nat) (y z:Nat×List Nat),cs[i]? =some y->cs[j]? =some z->y.1=z.1->i=j
def AG3(n:Nat)(cs:List (Nat×List Nat)):Prop:=∀ y∈cs,y.1<n/\y.2.length=64/\∀ x∈y.2,x<256
theorem DY{M l:List Nat}{n k:Nat}(hM:M.length=64*n)(hk:k<n)(hl:l.length=64):(IZ M k l).length=64*n:=by
 unfold IZ;rw[No,No,zJ,zl];omega
theorem kD{M l:List Nat}{k:Nat}(hM:∀ x∈M,x<256)(hl:∀ x∈l,x<256):∀ x∈IZ M k l,x<256:=fun x hx=>by
 rcases zK.1 hx with hx|hx
 ·rcases zK.1 hx with hx|hx
  ·exact hM x (AAN hx)
  ·exact hl x hx
 ·exact hM x (ABZ hx)
theorem Ea{M l:List Nat}{n k p:Nat}(hM:M.length=64*n)(hk:k<n)(hl:l.length=64):(IZ M k l).getD p 0=if p/64=k then l.getD (p % 64) 0 else M.getD p 0:=by
 unfold IZ;have e1:(M.take (64*k)).length=64*k:=by rw[zJ];omega
 simp only[yf];by_cases h:p/64=k
 ·rw[if_pos h,zC,zI (by omega),zF (by omega),e1,show p - 64*k=p % 64 by omega]
 ·rw[if_neg h]
  rcases Nat.lt_or_ge p (64*k)with hp|hp
  ·rw[zC,zF (by omega),AA9,if_pos hp]
  ·rw[zI (by rw[No];omega),ABf,No,e1,hl]
   congr 2;omega
theorem Ga:∀ {cs:List (Nat×List Nat)} {M:List Nat} {n:Nat},M.length=64*n->AG3 n cs->(GA M cs).length=64*n
 |[],_,_,h,_=>h
 |y::cs,M,n,h,hc=>Ga (cs:=cs) (DY h (hc y yk).1 (hc y yk).2.1) fun z hz=>hc z (yj _ hz)
theorem Qs:∀ {cs:List (Nat×List Nat)} {M:List Nat} {n:Nat},(∀ x∈M,x<256)->AG3 n cs->∀ x∈GA M cs,x<256
 |[],_,_,h,_=>h
 |y::cs,M,n,h,hc=>Qs (cs:=cs) (n:=n) (kD h (hc y yk).2.2) fun z hz=>hc z (yj _ hz)
theorem AHk.tail{y:Nat×List Nat}{cs:List (Nat×List Nat)}(h:AHk (y::cs)):AHk cs/\∀ z∈cs,z.1≠y.1:=⟨fun i j a b h1 h2 h3=>by
 have:=h (i+1) (j+1) a b (by rw[zk];exact h1) (by rw[zk];exact h2) h3;omega,fun z hz e=>by
 obtain⟨i,hi⟩:=AB9.1 hz;have:=h (i+1) 0 z y (by rw[zk];exact hi) rfl e;omega⟩
theorem Kw:∀ {cs:List (Nat×List Nat)} {M:List Nat} {n p:Nat},M.length=64*n->AG3 n cs->(∀ y∈cs,p/64≠y.1)->(GA M cs).getD p 0=M.getD p 0
 |[],_,_,_,_,_,_=>rfl
 |y::cs,M,n,p,h,hc,hp=>by
  obtain⟨c1,c2,c3⟩:=hc y yk;show(GA (IZ M y.1 y.2) cs).getD p 0=_;rw[Kw (cs:=cs) (DY h c1 c2) (fun z hz=>hc z (yj _ hz)) fun z hz=>hp z (yj _ hz),Ea h c1 c2,if_neg (hp y yk)]
theorem Qr:∀ {cs:List (Nat×List Nat)} {M:List Nat} {n:Nat},M.length=64*n->AG3 n cs->AHk cs->∀ y∈cs,∀ q,q<64->(GA M cs).getD (64*y.1+q) 0=y.2.getD q 0
 |[],_,_,_,_,_,_,hy,_,_=>by cases hy
 |z::cs,M,n,h,hc,hK,y,hy,q,hq=>by
  obtain⟨c1,c2,c3⟩:=hc z yk;obtain⟨k1,k2⟩:=hK.tail;show(GA (IZ M z.1 z.2) cs).getD _ 0=_;rcases yv.1 hy with rfl|hy
  ·rw[Kw (cs:=cs) (DY h c1 c2) (fun z hz=>hc z (yj _ hz)) (fun z hz=>by have:=k2 z hz;omega),Ea h c1 c2,if_pos (by omega),show(64*y.1+q) % 64=q by omega]
  ·exact Qr (DY h c1 c2) (fun z hz=>hc z (yj _ hz)) k1 y hy q hq
def AGX(T0:VT)(done:List (Nat×List Nat))(T:VT):Prop:=(∀ j,T.has j↔T0.has j)/\(∀ y∈done,∀ q,q<64->T.get (64*y.1+q)=bv (y.2.getD q 0))/\∀ p,(∀ y∈done,p/64≠y.1)->T.get p=T0.get p
theorem AGX.nil(T:VT):AGX T [] T:=⟨fun _=>Iff.rfl,fun y hy=>(by cases hy),fun _ _=>rfl⟩
theorem AGX.step{T0 T:VT}{done:List (Nat×List Nat)}{k s:Nat}{l:List Nat}(h:AGX T0 done T)(hh:∀ j,j<s->T0.has j)(hk:64*k+64<=s)(hl:l.length=64)(hd:∀ y∈done,y.1≠k):∃ T',Bt T (64*k) (l.map bv)=some T'/\AGX T0 (done++[(k,l)]) T':=by
 have hll:(l.map bv).length=64:=by rw[OF,hl]
 obtain⟨T',a1,a2,a3⟩:=LU (l.map bv) T (64*k) fun j hj=>(h.1 j).2 (hh j (by omega))
 refine⟨T',a1,fun j=>(a2 j).trans (h.1 j),fun y hy q hq=>?_,fun p hp=>?_⟩
 ·rw[a3,hll]
  rcases zK.1 hy with hy|hy
  ·rw[if_neg (by have:=hd y hy;omega)]
   exact h.2.1 y hy q hq
  ·obtain rfl:=zB.1 hy
   have hq':64*k+q - 64*k=q:=by omega
   rw[if_pos ⟨Nat.le_add_right _ _,by show 64*k+q<_;omega⟩];show(l.map bv).getD (64*k+q - 64*k) AFl=bv (l.getD q 0);rw[hq',yf,zy,yf,sh (by omega)];rfl
 ·have:=hp (k,l) (zE _ (zB.2 rfl))
  rw[a3,hll,if_neg (by show ¬ _;have:p/64≠k:=this;omega)];exact h.2.2 p fun y hy=>hp y (zR _ hy)
theorem AGX.uniq{T0 T T':VT}{a b:List (Nat×List Nat)}(h:AGX T0 a T)(h':AGX T0 b T')(hm:∀ y,y∈a↔y∈b):T=T':=by
 refine VT.ext _ _ (fun j=>(h.1 j).trans (h'.1 j).symm) fun p=>?_
 by_cases hp:∃ y∈a,p/64=y.1
 ·obtain⟨y,hy,he⟩:=hp
  have h1:=h.2.1 y hy (p % 64) (by omega);have h2:=h'.2.1 y ((hm y).1 hy) (p % 64) (by omega);rw[show 64*y.1+p % 64=p by omega]at h1 h2;rw[h1,h2]
 ·rw[h.2.2 p fun y hy he=>hp ⟨y,hy,he⟩,h'.2.2 p fun y hy he=>hp ⟨y,(hm y).2 hy,he⟩]
theorem AGX.all{T0:VT}{n:Nat}(hh:∀ j,j<64*n->T0.has j):∀ (cs done:List (Nat×List Nat)) (T:VT),AGX T0 done T->AG3 n cs->AHk cs->(∀ y∈cs,∀ z∈done,z.1≠y.1)->∃ T',AGX T0 (done++cs) T'
 |[],done,T,h,_,_,_=>⟨T,by rw[yw];exact h⟩
 |y::cs,done,T,h,hc,hK,hd=>by
  obtain⟨c1,c2,c3⟩:=hc y yk;obtain⟨k1,k2⟩:=hK.tail;obtain⟨T1,_,h1⟩:=h.step hh (k:=y.1) (l:=y.2) (by omega) c2 (hd y yk);obtain⟨T2,h2⟩:=AGX.all hh cs (done++[(y.1,y.2)]) T1 h1 (fun z hz=>hc z (yj _ hz)) k1 fun z hz w hw=>by
   rcases zK.1 hw with hw|hw
   ·exact hd z (yj _ hz) w hw
   ·obtain rfl:=zB.1 hw
    exact fun e=>k2 z hz e.symm
  exact⟨T2,by rw[zC]at h2;exact h2⟩
theorem AGX.is{T0 T:VT}{M:List Nat}{n:Nat}{cs:List (Nat×List Nat)}(h:AGX T0 cs T)(hT:T0.Is (M.map bv))(hM:M.length=64*n)(hc:AG3 n cs)(hK:AHk cs):T.Is ((GA M cs).map bv):=fun p hp=>by
 rw[OF,Ga hM hc]at hp;have hp0:=hT p (by rw[OF];omega);refine⟨(h.1 p).2 hp0.1,?_⟩;have e1:∀ L:List Nat,p<L.length->(L.map bv).getD p AFl=bv (L.getD p 0):=fun L hL=>by
  rw[yf,zy,yf,sh hL];rfl
 rw[e1 _ (by rw[Ga hM hc];exact hp)];by_cases hq:∃ y∈cs,p/64=y.1
 ·obtain⟨y,hy,he⟩:=hq
  have h1:=h.2.1 y hy (p % 64) (by omega);have h2:=Qr hM hc hK y hy (p % 64) (by omega);rw[show 64*y.1+p % 64=p by omega]at h1 h2;rw[h1,h2]
 ·rw[h.2.2 p fun y hy he=>hq ⟨y,hy,he⟩,Kw hM hc fun y hy he=>hq ⟨y,hy,he⟩,hp0.2,e1 _ (by omega)]
theorem MW:∀ (cs:List (Nat×List Nat)) (c:Nat),(AF0 c cs).length=cs.length
 |[],_=>rfl
 |x::cs,c=>by show(AF0 (c+1) cs).length+1=_;rw[MW cs];rfl
theorem QL:∀ {cs:List (Nat×List Nat)} {c:Nat} {x:Ent},x∈AF0 c cs->∃ (i:Nat) (y:Nat×List Nat),cs[i]? =some y/\x=⟨AI AT (y.1:Int),Dm y.2,c+i⟩
 |[],_,_,h=>by cases h
 |y::cs,c,x,h=>by
  rcases yv.1 h with h|h
  ·exact⟨0,y,rfl,h⟩
  ·obtain⟨i,z,h1,h2⟩:=QL h
   exact⟨i+1,z,by rw[zk];exact h1,by rw[h2,AEv,AEM 1]⟩
theorem IC:∀ {cs:List (Nat×List Nat)} {c i:Nat} {y:Nat×List Nat},cs[i]? =some y->GU (c+i) (AF0 c cs)=some ⟨AI AT (y.1:Int),Dm y.2,c+i⟩
 |[],_,_,_,h=>by cases h
 |z::cs,c,0,y,h=>by
  have h:some z=some y:=h;cases h;show(bif yu c (c+0)then some (⟨AI AT (z.1:Int),Dm z.2,c⟩:Ent)else GU (c+0) (AF0 (c+1) cs))=_;rw[AAE,AAQ];rfl
 |z::cs,c,i+1,y,h=>by
  rw[zk]at h;show(bif yu c (c+(i+1))then some (⟨AI AT (z.1:Int),Dm z.2,c⟩:Ent)else GU (c+(i+1)) (AF0 (c+1) cs))=_;have:yu c (c+(i+1))=false:=by
   cases e:yu c (c+(i+1))
   ·rfl
   ·have:=Ay.1 e;omega
  rw[this,show c+(i+1)=c+1+i by omega];exact IC h
theorem LT:∀ {cs:List (Nat×List Nat)} {c lo clk:Nat},lo<=c->c+cs.length<=clk->FP clk lo (AF0 c cs)=true
 |[],_,_,_,_,_=>rfl
 |x::cs,c,lo,clk,h1,h2=>by
  rw[yh]at h2;show(bif yl lo c then(bif Nat.blt c clk then FP clk (yg c) (AF0 (c+1) cs)else false)else false)=true;rw[Av.2 h1,BQ.2 (by omega)];exact LT (IT _) (by omega)
theorem GB{n:Nat}:∀ {l:List Nat},Fw n l=true↔n∈l
 |[]=>⟨fun h=>(by cases h),fun h=>(by cases h)⟩
 |x::l=>by
  show(bif yu x n then true else Fw n l)=true↔_;cases h:yu x n with
  |true=>exact⟨fun _=>by rw[Ay.1 h];exact yk,fun _=>rfl⟩
  |false=>
   refine Iff.trans (GB (l:=l)) ⟨fun h1=>yj _ h1,fun h1=>?_⟩;rcases yv.1 h1 with h1|h1
   ·rw[h1,AAQ]at h;cases h
   ·exact h1
theorem NF{seen:List Nat}:∀ {es:List Ent} {x:Ent},x∈AGH seen es->x∈es/\x.born∉seen
 |[],_,h=>by cases h
 |y::es,x,h=>by
  have h:x∈(bif Fw y.born seen then AGH seen es else y::AGH seen es):=h;cases hm:Fw y.born seen with
  |true=>
   rw[hm]at h;obtain⟨h1,h2⟩:=NF (es:=es) h;exact⟨yj _ h1,h2⟩
  |false=>
   rw[hm]at h;rcases yv.1 h with h|h
   ·subst h
    exact⟨yk,fun h1=>by rw[GB.2 h1]at hm;cases hm⟩
   ·obtain⟨h1,h2⟩:=NF (es:=es) h
    exact⟨yj _ h1,h2⟩
theorem OU{seen:List Nat}{s:Nat}:∀ {cs:List (Nat×List Nat)} {c:Nat},s<c->AGH (seen++[s]) (AF0 c cs)=AGH seen (AF0 c cs)
 |[],_,_=>rfl
 |x::cs,c,h=>by
  show(bif Fw c (seen++[s])then AGH (seen++[s]) (AF0 (c+1) cs)else _::AGH (seen++[s]) (AF0 (c+1) cs))=(bif Fw c seen then AGH seen (AF0 (c+1) cs)else _::AGH seen (AF0 (c+1) cs));rw[OU (cs:=cs) (by omega)];have:Fw c (seen++[s])=Fw c seen:=by
   rw[AAd,GB,GB,zK,zB];exact⟨fun h1=>h1.elim (fun h=>h) fun h1=>by omega,.inl⟩
  rw[this]
theorem Ro{seen:List Nat}{i:Nat}:∀ {cs:List (Nat×List Nat)} {c:Nat},i<cs.length->c+i∉seen->(AGH (seen++[c+i]) (AF0 c cs)).length+1=(AGH seen (AF0 c cs)).length
 |[],_,h,_=>by cases h
 |x::cs,c,h,hs=>by
  show(bif Fw c (seen++[c+i])then AGH (seen++[c+i]) (AF0 (c+1) cs)else _::AGH (seen++[c+i]) (AF0 (c+1) cs)).length+1=(bif Fw c seen then AGH seen (AF0 (c+1) cs)else _::AGH seen (AF0 (c+1) cs)).length;cases i with
  |zero=>
   simp only[AAE]at hs ⊢;have h1:Fw c seen=false:=by
    cases e:Fw c seen
    ·rfl
    ·exact absurd (GB.1 e) hs
   have h2:Fw c (seen++[c])=true:=GB.2 (zE _ (zB.2 rfl));rw[h1,h2,OU (cs:=cs) (Nat.lt_succ_self c)];rfl
  |succ i=>
   have h1:Fw c (seen++[c+(i+1)])=Fw c seen:=by
    rw[AAd,GB,GB,zK,zB];exact⟨fun h1=>h1.elim (fun h=>h) fun h1=>by omega,.inl⟩
   have e:c+(i+1)=c+1+i:=by omega
   rw[e]at hs h1 ⊢;have ih:=Ro (seen:=seen) (i:=i) (cs:=cs) (c:=c+1) (by simp only[yh]at h;omega) hs;rw[h1];cases Fw c seen with
   |true=>exact ih
   |false=>exact congrArg (· +1) ih
theorem K8:∀ (es:List Ent),AGH [] es=es
 |[]=>rfl
 |x::es=>by
  show x::AGH [] es=_;rw[K8 es]
end
noncomputable section
open Go
set_option maxRecDepth 100000
def fB:C:=(G 22 (HN (J 21))
(G 23 (AY 0 (J 22))
(Bn 23
(Ae 1 (G 24 (I9 (J 21))
(G 25 (AY 0 (J 24))
(G 26 (AY 1 (J 24))
(G 6 (Ba 64 JH)
(G 5 (Aj 25)
(cDo (Ac 64 (J 6) (J 26))
(B8 (G 28 (Bg (J 0))
(G 29 (AE 0 (J 28))
(G 30 (AO (J 29))
(G 32 (BU 64 (J 6))
(G 33 (CG 64 (J 30) (J 5))
(cDo (Ad .free (Ac 64 (J 33) (J 32)))
Aw))))))))))))))
(CM 0))))
def fK:Walk:=⟨21,22,23,0,[22,23,24,25,26,6,5,27,28,29,30,31,32,33],[]⟩
theorem mS:fW=JL fK fB:=rfl
theorem v7:fS=BL (Ae 0 fW) fE:=rfl
theorem gY:gX=Up:=rfl
section
variable {F:AFi}{e:Env}{g g1:Hp}{it bd bm bc n k:Nat}{l:List Nat}{T:VT}{arm:Int}{dn:Bool}
theorem Tl{q:Hp}{s el off:Nat}{vs:List IN}{T':VT}(W:q.Wf)(hT:q.bl.get bm=.cells T s el)(AGJ:Bt T off vs=some T')(ho:off+vs.length<=s)(h1:Bc vs=true)(AFs:256<=bm)(hb:bm<q.next){K:Hp->R}:C1 ⟨bm,off,none⟩ vs q K=K (q.put bm (.cells T' s el)):=by
 have hr:rowOf q bm=.ok T s el:=by unfold rowOf;rw[hT];rfl
 unfold C1;simp only[hr,Nat.add_eq];rw[Bi,Av.2 ho,h1];simp only[cond_true,AGJ];rw[Dw W AFs hb]
theorem QV(W1:g1.Wf)(s0:J 0 e=pt bd)(s21:J 21 e=pt it)
  (nx:∀ e,J 21 e=pt it->HN (J 21) F e g=.ok (.tuple ⟨[.bool true,AI AT (k:Int),Dm l]⟩) g1)
  (en:∀ e,J 21 e=pt it->I9 (J 21) F e g1=.ok (.tuple ⟨[AI AT (k:Int),Dm l]⟩) g1)
  (D:g1.Row bd 0 (dkL bm bc n arm dn))(hT:g1.bl.get bm=.cells T (64*n) 0){T':VT}(hs:Bt T (64*k) (l.map bv)=some T')(hk:k<n)(hl:l.length=64)(AFs:256<=bm)(hbm:bm<g1.next):
  ∃ e' g',fB F e g=.norm e' g'/\J 0 e'=pt bd/\J 21 e'=pt it/\g'.Wf/\g'.next=g1.next+1/\g'.bl.get bm=.cells T' (64*n) 0/\(∀ i,i<g1.next->i≠bm->g'.bl.get i=g1.bl.get i)/\g'.low=min (min g1.low g1.next) bm/\g'.high=max (max g1.high g1.next) bm:=by
 have big:=W1.big;have hll:(l.map bv).length=64:=by rw[OF,hl]
 have al:=fun (F:AFi) (e:Env)=>BW (F:=F) (e:=e) W1 (n:=64) (t:=JH)
 have R1:=Hp.Row.alloc W1 WZ (by rw[OF,AAH]);have x1:g1.Ext (g1.push (.cells JH 64 0)):=(Hp.Ext.refl W1).push _;have n1:(g1.push (.cells JH 64 0)).next=g1.next+1:=rfl;have lo1:(g1.push (.cells JH 64 0)).low=g1.low:=rfl;have hi1:(g1.push (.cells JH 64 0)).high=g1.high:=rfl;generalize g1.push (.cells JH 64 0)=g2 at al R1 x1 n1 lo1 hi1;have hz:((yp 64 0).map bv).length=64:=by rw[OF,AAH]
 have st:AFr 64 (pt g1.next) (Dm l) g2=.ok AFl (g2.wr g1.next 0 (l.map bv)):=R1.AFr (n:=64) (off:=0) x1.wf big (v:=Dm l) hll (by show 0+(l.map bv).length<=_;omega) (DZ _);have x2:=R1.AGE x1 (IT _) (off:=0) (vs:=l.map bv) (by omega);have R2:=R1.AFu x1.wf (off:=0) (vs:=l.map bv) (by omega);rw[Fi (by omega)]at R2;have n2:(g2.wr g1.next 0 (l.map bv)).next=g1.next+1:=(R1.AGN (by omega)).trans n1;obtain⟨_,_,ew,_⟩:=R1.AGt (off:=0) (vs:=l.map bv) (by omega);have lo2:(g2.wr g1.next 0 (l.map bv)).low=min g1.low g1.next:=by
  rw[ew];show B9 g2.low g1.next=_;rw[BZ,lo1]
 have hi2:(g2.wr g1.next 0 (l.map bv)).high=max g1.high g1.next:=by
  rw[ew];show Cy g2.high g1.next=_;rw[B7,hi1]
 generalize g2.wr g1.next 0 (l.map bv)=g3 at st x2 R2 n2 lo2 hi2;have D3:g3.marked.Row bd 0 (dkL bm bc n arm dn):=(D.ext W1 x2).same rfl;obtain⟨l0,_,_,_⟩:=DA D3;have R3:g3.marked.Row g1.next 0 (l.map bv):=R2.same rfl;have ld:loadN 64 ⟨g1.next,0,none⟩ g3.marked=.ok (Dm l) g3.marked:=by
  rw[R3.loadN (by omega),zr,List.take_of_length_le (by omega)];rfl
 have ix:AGa 64 (.slice (some ⟨bm,0,none⟩) n n) (AI AT (k:Int)) g3.marked=.ok (.pointer (some ⟨bm,0+k*64,none⟩)) g3.marked:=DB hk;rw[If,AAP]at ix;have hTq:g3.marked.quiet.bl.get bm=.cells T (64*n) 0:=by
  show g3.bl.get bm=_;rw[x2.get bm hbm];exact hT
 have sq:AFr 64 (.pointer (some ⟨bm,64*k,none⟩)) (Dm l) g3.marked.quiet=.ok AFl (g3.marked.quiet.put bm (.cells T' (64*n) 0)):=by
  show(bif yu (BF (l.map bv)) 64 then C1 ⟨bm,64*k,none⟩ (l.map bv) g3.marked.quiet EK else .no)=_;rw[Bi,Ay.2 hll,cond_true,Tl x2.wf.marked.quiet hTq hs (by omega) (DZ _) AFs (by show bm<g3.next;omega)];rfl
 have q1:∀ (F:AFi) (e:Env),J 33 e=.pointer (some ⟨bm,64*k,none⟩)->J 32 e=Dm l->Ad .free (Ac 64 (J 33) (J 32)) F e g3.marked=.ok AFl (g3.marked.back (g3.marked.quiet.put bm (.cells T' (64*n) 0))):=fun F e e1 e2=>by
  refine BO ?_;rw[AX,e1,e2];exact sq
 have pg:=x2.wf.marked.quiet.AGF (b:=bm) (show bm<g3.next by omega) (.cells T' (64*n) 0);have pw:=x2.wf.marked.quiet.put (b:=bm) (show bm<g3.next by omega) (.cells T' (64*n) 0);have AIQ:(g3.marked.back (g3.marked.quiet.put bm (.cells T' (64*n) 0))).low=min (min g1.low g1.next) bm:=by
  show B9 g3.low (B9 g3.next bm)=_;rw[BZ,BZ,lo2,n2];omega
 have AHW:(g3.marked.back (g3.marked.quiet.put bm (.cells T' (64*n) 0))).high=max (max g1.high g1.next) bm:=by
  show Cy g3.high (Cy 0 bm)=_;rw[B7,B7,hi2];omega
 have hrun:∃ e',fB F e g=.norm e' (g3.marked.back (g3.marked.quiet.put bm (.cells T' (64*n) 0)))/\J 0 e'=pt bd/\J 21 e'=pt it:=by
  unfold fB;have nx':=fun e he=>nx e he
  simp only[sT,By,BY,reduceIte,nx e s21,A7,BC,BE,Cx,en,s21,al,AX,st,A1,Ax,s0,Al,AH,AN,AM,AP,l0,Au,Am,ld,BB,ix,q1];exact⟨_,rfl,by simp[AG,s0,s21]⟩
 obtain⟨e',r1,r2,r3⟩:=hrun;refine⟨e',_,r1,r2,r3,⟨pw.big,pw.has,pw.fresh⟩,by show g3.next=_;exact n2,?_,fun i hi hib=>?_,AIQ,AHW⟩
 ·show(g3.marked.quiet.put bm _).bl.get bm=_
  rw[pg,if_pos rfl]
 ·show(g3.marked.quiet.put bm _).bl.get i=_
  rw[pg,if_neg hib];exact x2.get i hi
end
end
noncomputable section
open Go
set_option maxRecDepth 100000
section
variable {F:AFi}{e:Env}{h g g1:Hp}{it bd bm bc n k c0:Nat}{l seen:List Nat}{T T0:VT}{cs:List (Nat×List Nat)}{arm:Int}{dn:Bool}
structure FlB (h:Hp)(it bd bm bc n c0:Nat)(cs:List (Nat×List Nat))(arm:Int)(dn:Bool)(T0:VT):Prop where
 wf:h.Wf
 nx:h.next=it+1
 itr:h.bl.get it=.iter (some bc) (c0+cs.length) [] (c0+cs.length)
 disk:h.Row bd 0 (dkL bm bc n arm dn)
 med:h.bl.get bm=.cells T0 (64*n) 0
 has:∀ j,j<64*n->T0.has j
 map:h.bl.get bc=.map (AF0 c0 cs) (c0+cs.length)
 lt:bd<it/\bm<it/\bc<it
 ne:bd≠bm/\bc≠bm
 big:256<=bm/\256<=it
 sec:AG3 n cs
 key:AHk cs
structure FlI (h:Hp)(it bm bc n c0:Nat)(cs:List (Nat×List Nat))(T0:VT)(seen:List Nat)(g:Hp):Prop where
 wf:g.Wf
 nx:g.next=h.next+seen.length
 lh:(seen=[]/\g.low=h.next/\g.high=0)\/(seen≠[]/\g.low=bm/\g.high+1=h.next+seen.length)
 itr:g.bl.get it=.iter (some bc) (c0+cs.length) seen (c0+cs.length)
 old:∀ i,i<h.next->i≠it->i≠bm->g.bl.get i=h.bl.get i
 med:∃ (T:VT) (done:List (Nat×List Nat)),g.bl.get bm=.cells T (64*n) 0/\AGX T0 done T/\∀ y,y∈done↔∃ i:Nat,cs[i]? =some y/\c0+i∈seen
 cnt:seen.length+(AGH seen (AF0 c0 cs)).length=cs.length
theorem Mq{s:Nat}:∀ l:List Nat,Qt (l++[s])=some s
 |[]=>rfl
 |[x]=>rfl
 |x::y::l=>Mq (y::l)
theorem RX(s:Nat):∀ l:List Nat,Jy s l=l++[s]
 |[]=>rfl
 |x::l=>congrArg (x:: ·) (RX s l)
theorem NG{h g:Hp}{b el:Nat}{L:List IN}(r:h.Row b el L)(hb:g.bl.get b=h.bl.get b):g.Row b el L:=by
 obtain⟨c,hc,hl⟩:=r;exact⟨c,hb.trans hc,hl⟩
theorem bG{g:Hp}{it:Nat}{v:R}(hv:Gd ⟨it,0,none⟩ g=v){e:Env}(he:J 21 e=pt it):HN (J 21) F e g=v:=by
 show(match Dy (J 21 e)with|.ok a=>bif yu a.off 0 then Gd a g else .no|.no=>.no)=_;rw[he];exact hv
theorem mR{g:Hp}{it:Nat}{v:R}(hv:Ki ⟨it,0,none⟩ g=v){e:Env}(he:J 21 e=pt it):I9 (J 21) F e g=v:=by
 show(match Dy (J 21 e)with|.ok a=>bif yu a.off 0 then Ki a g else .no|.no=>.no)=_;rw[he];exact hv
theorem QK{g:Hp}{it i:Nat}{y:Nat×List Nat}(hi:cs[i]? =some y){s0:Nat}(hit:g.bl.get it=.iter (some bc) s0 (seen++[c0+i]) (c0+cs.length))(hm:g.bl.get bc=.map (AF0 c0 cs) (c0+cs.length)):Ki ⟨it,0,none⟩ g=.ok (.tuple ⟨[AI AT (y.1:Int),Dm y.2]⟩) g:=by
 have hib:EU (g.bl.get it)=.ok (some bc) s0 (seen++[c0+i]) (c0+cs.length):=by rw[hit];rfl
 have he:Bk g bc=.ok (AF0 c0 cs) (c0+cs.length):=by unfold Bk;rw[hm];rfl
 unfold Ki;simp only[hib,Mq];unfold IB;simp only[he,AAQ,cond_true,IC hi]
theorem Ub:J 0 (C6 e fK.ws)=J 0 e/\J 21 (C6 e fK.ws)=J 21 e:=by
 constructor
 ·simp[fK,C6,AG]
 ·simp[fK,C6,AG]
theorem iU(B:FlB h it bd bm bc n c0 cs arm dn T0)(I:FlI h it bm bc n c0 cs T0 seen g)(s0:J 0 e=pt bd)(s21:J 21 e=pt it){x:Ent}(hx:x∈AGH seen (AF0 c0 cs)):
  ∃ h1,Oa fK fB F e it bc (c0+cs.length) seen g x=some h1/\FlI h it bm bc n c0 cs T0 (seen++[x.born]) h1:=by
 obtain⟨hx1,hns⟩:=NF hx;obtain⟨i,y,hi,rfl⟩:=QL hx1;have hns:c0+i∉seen:=hns;obtain⟨y1,y2,y3⟩:=B.sec y (yz hi);have hil:i<cs.length:=(zG.1 hi).1;obtain⟨T,done,t1,t2,t3⟩:=I.med;have hnd:∀ z∈done,z.1≠y.1:=fun z hz he=>by
  obtain⟨j,j1,j2⟩:=(t3 z).1 hz;have:=B.key j i z y j1 hi he;rw[this]at j2;exact hns j2
 obtain⟨T',hs,ht'⟩:=t2.step B.has (k:=y.1) (l:=y.2) (by omega) y2 hnd;have hnx:=I.nx;have hbn:=B.nx;have hlt:=B.lt;have hne:=B.ne;have AHp:=B.big;have AKQ:it<g.next:=by omega
 have W0:=I.wf.put AKQ (.pick bc (c0+i) (c0+cs.length) (some seen));have P0:=I.wf.AGF AKQ (.pick bc (c0+i) (c0+cs.length) (some seen));have e1:g.bl.set it (.pick bc (c0+i) (c0+cs.length) (some seen))=some (g.bl.lay it (.pick bc (c0+i) (c0+cs.length) (some seen))):=BT.AGP fun j hj=>I.wf.has j (by omega)
 have lo0:(g.put it (.pick bc (c0+i) (c0+cs.length) (some seen))).low=min g.low it:=BZ _ _;have hi0:(g.put it (.pick bc (c0+i) (c0+cs.length) (some seen))).high=max g.high it:=B7 _ _;have n0:(g.put it (.pick bc (c0+i) (c0+cs.length) (some seen))).next=g.next:=rfl;have eg:(⟨g.next,B9 g.low it,Cy g.high it,g.mark,g.bl.lay it (.pick bc (c0+i) (c0+cs.length) (some seen))⟩:Hp)=g.put it (.pick bc (c0+i) (c0+cs.length) (some seen)):=rfl;generalize g.put it (.pick bc (c0+i) (c0+cs.length) (some seen))=g0 at W0 P0 lo0 hi0 n0 eg;have e2:g0.bl.set it (.iter (some bc) (c0+cs.length) (seen++[c0+i]) (c0+cs.length))=some (g0.bl.lay it (.iter (some bc) (c0+cs.length) (seen++[c0+i]) (c0+cs.length))):=BT.AGP fun j hj=>W0.has j (by omega)
 have G2:∀ j,(g0.bl.lay it (.iter (some bc) (c0+cs.length) (seen++[c0+i]) (c0+cs.length))).get j=if j=it then .iter (some bc) (c0+cs.length) (seen++[c0+i]) (c0+cs.length)else g0.bl.get j:=BT.AGg fun j hj=>W0.has j (by omega)
 have W2:(⟨g0.next,g0.low,g0.high,g0.mark,g0.bl.lay it (.iter (some bc) (c0+cs.length) (seen++[c0+i]) (c0+cs.length))⟩:Hp).Wf:=⟨W0.big,fun j hj=>BT.AGn (fun j hj=>W0.has j (by omega)) j (.inr (W0.has j hj)),fun j hj=>by
  have hj:g0.next<=j:=hj;show(g0.bl.lay _ _).get j=_;rw[G2,if_neg (by omega)];exact W0.fresh j hj⟩
 have AIk:g0.bl.get bc=.map (AF0 c0 cs) (c0+cs.length):=by rw[P0,if_neg (by omega),I.old bc (by omega) (by omega) hne.2];exact B.map
 have nxv:Gd ⟨it,0,none⟩ g0=.ok (.tuple ⟨[.bool true,AI AT (y.1:Int),Dm y.2]⟩) ⟨g0.next,g0.low,g0.high,g0.mark,g0.bl.lay it (.iter (some bc) (c0+cs.length) (seen++[c0+i]) (c0+cs.length))⟩:=by
  have hib:EU (g0.bl.get it)=.pick bc (c0+i) (c0+cs.length) (some seen):=by rw[P0,if_pos rfl];rfl
  have he:Bk g0 bc=.ok (AF0 c0 cs) (c0+cs.length):=by unfold Bk;rw[AIk];rfl
  have hp:M8 bc (c0+i) (c0+cs.length) (some seen)=.iter (some bc) (c0+cs.length) (seen++[c0+i]) (c0+cs.length):=by unfold M8;simp only[RX]
  unfold Gd;simp only[hib,he,IC hi,hp,e2]
 have lo2:(⟨g0.next,g0.low,g0.high,g0.mark,g0.bl.lay it (.iter (some bc) (c0+cs.length) (seen++[c0+i]) (c0+cs.length))⟩:Hp).low=min g.low it:=lo0;have hi2:(⟨g0.next,g0.low,g0.high,g0.mark,g0.bl.lay it (.iter (some bc) (c0+cs.length) (seen++[c0+i]) (c0+cs.length))⟩:Hp).high=max g.high it:=hi0;have n2:(⟨g0.next,g0.low,g0.high,g0.mark,g0.bl.lay it (.iter (some bc) (c0+cs.length) (seen++[c0+i]) (c0+cs.length))⟩:Hp).next=g.next:=n0;have G2:∀ j,(⟨g0.next,g0.low,g0.high,g0.mark,g0.bl.lay it (.iter (some bc) (c0+cs.length) (seen++[c0+i]) (c0+cs.length))⟩:Hp).bl.get j=if j=it then .iter (some bc) (c0+cs.length) (seen++[c0+i]) (c0+cs.length)else g0.bl.get j:=G2
 generalize (⟨g0.next,g0.low,g0.high,g0.mark,g0.bl.lay it (.iter (some bc) (c0+cs.length) (seen++[c0+i]) (c0+cs.length))⟩:Hp)=g2 at W2 nxv lo2 hi2 n2 G2;have AHx:∀ j,j≠it->g2.bl.get j=g.bl.get j:=fun j hj=>by rw[G2,if_neg hj,P0,if_neg hj]
 have env:=QK (g:=g2) hi (G2 it |>.trans (if_pos rfl)) (by rw[G2,if_neg (by omega)];exact AIk);obtain⟨c1,c2⟩:=Ub (e:=e);obtain⟨e',g',r1,r2,r3,r4,r5,r6,r7,r8,r9⟩:=QV (F:=F) (e:=C6 e fK.ws) (g:=g0) (g1:=g2) (it:=it) (bd:=bd) (bm:=bm) (bc:=bc) (n:=n) (k:=y.1) (l:=y.2) (T:=T) (arm:=arm) (dn:=dn) W2 (c1.trans s0) (c2.trans s21)
  (fun e he=>bG nxv he) (fun e he=>mR env he) (NG B.disk (by rw[AHx bd (by omega),I.old bd (by omega) (by omega) hne.1])) (by rw[AHx bm (by omega)];exact t1) hs y1 y2 AHp.1 (by omega)
 refine⟨g',?_,⟨r4,?_,.inr ⟨by simp,?_,?_⟩,?_,fun j h1 h2 h3=>?_,⟨T',done++[(y.1,y.2)],r6,ht',fun z=>?_⟩,?_⟩⟩
 ·unfold Oa
  show(match g.bl.set it (.pick bc (c0+i) (c0+cs.length) (some seen))with|some bl=>(match fB F (C6 e fK.ws) {next:=g.next,low:=B9 g.low it,high:=Cy g.high it,mark:=g.mark,bl:=bl}with|.norm _ h1=>some h1|_=>none)|none=>none)=_;rw[e1];simp only[eg,r1]
 ·rw[r5,n2,hnx,No];rfl
 ·rw[r8,lo2,n2]
  rcases I.lh with ⟨_,h2,_⟩|⟨_,h2,_⟩<;>omega
 ·rw[r9,hi2,n2,No]
  show _=h.next+(seen.length+1);rcases I.lh with ⟨_,_,h3⟩|⟨_,_,h3⟩<;>omega
 ·rw[r7 it (by omega) (by omega),G2,if_pos rfl]
 ·rw[r7 j (by omega) h3,AHx j h2];exact I.old j h1 h2 h3
 ·constructor
  ·intro hz
   rcases zK.1 hz with hz|hz
   ·obtain⟨j,j1,j2⟩:=(t3 z).1 hz
    exact⟨j,j1,zR _ j2⟩
   ·obtain rfl:=zB.1 hz
    exact⟨i,hi,zE _ (zB.2 rfl)⟩
  ·rintro⟨j,j1,j2⟩
   rcases zK.1 j2 with j2|j2
   ·exact zR _ ((t3 z).2 ⟨j,j1,j2⟩)
   ·have:c0+j=c0+i:=zB.1 j2
    have:j=i:=by omega
    rw[this,hi]at j1;cases j1;exact zE _ (zB.2 rfl)
 ·have:=Ro (seen:=seen) (cs:=cs) (c:=c0) hil hns
  have h2:=I.cnt;show(seen++[c0+i]).length+(AGH (seen++[c0+i]) (AF0 c0 cs)).length=_;rw[No,zh];omega
def FlR(h:Hp)(it bm n:Nat)(cs:List (Nat×List Nat))(Tz:VT)(r:Hp):Prop:=r.next=h.next+cs.length/\r.low=bm/\r.high+1=h.next+cs.length/\∀ i,r.bl.get i=if i=it\/h.next<=i then .dead else if i=bm then .cells Tz (64*n) 0 else h.bl.get i
theorem VC{r:Hp}{Tz:VT}(B:FlB h it bd bm bc n c0 cs arm dn T0)(hz:AGX T0 cs Tz)(hR:FlR h it bm n cs Tz r)(h0:cs≠[])(s0:J 0 e=pt bd)(s21:J 21 e=pt it):∀ (m:Nat) (seen:List Nat) (g:Hp) (tr:Rds),FlI h it bm bc n c0 cs T0 seen g->(AGH seen (AF0 c0 cs)).length<m->LL fK fB F e it (Xk it h.next r) m g tr=true
 |0,_,_,_,_,hm=>absurd hm (Nat.not_lt_zero _)
 |m+1,seen,g,tr,I,hm=>by
  have hib:EU (g.bl.get it)=.ok (some bc) (c0+cs.length) seen (c0+cs.length):=by rw[I.itr];rfl
  have hlt:=B.lt;have hbn:=B.nx;have hnx:=I.nx;have hmap:g.bl.get bc=.map (AF0 c0 cs) (c0+cs.length):=by rw[I.old bc (by omega) (by omega) B.ne.2];exact B.map
  have he:Bk g bc=.ok (AF0 c0 cs) (c0+cs.length):=by unfold Bk;rw[hmap];rfl
  unfold LL N8;simp only[hib,he,AAQ,cond_true,LT (zL c0) (IT (c0+cs.length))];cases hr:AGH seen (AF0 c0 cs)with
  |nil=>
   simp only;have hc:=I.cnt;rw[hr]at hc;have hc:seen.length=cs.length:=hc;have hlen:0<cs.length:=by
    cases cs with
    |nil=>exact absurd rfl h0
    |cons _ _=>exact ABz _
   obtain⟨T,done,t1,t2,t3⟩:=I.med;have hT:T=Tz:=t2.uniq hz fun y=>by
    rw[t3 y];constructor
    ·rintro⟨i,hi,_⟩;exact yz hi
    ·intro hy
     obtain⟨i,hi⟩:=AB9.1 hy;refine⟨i,hi,?_⟩;apply AFf;intro hn;have h1:(⟨AI AT (y.1:Int),Dm y.2,c0+i⟩:Ent)∈AF0 c0 cs:=(Kk (IC hi)).1;have:=NE h1 hn;rw[hr]at this;cases this
   obtain⟨q1,q2,q3,q4⟩:=hR;rcases I.lh with ⟨h1,_,_⟩|⟨_,h2,h3⟩
   ·rw[h1]at hc
    have:0=cs.length:=hc;omega
   refine Oq.2 ⟨by rw[hnx,q1,hc],by rw[q2,BZ,h2];omega,by rw[B7];omega,fun i=>?_⟩;rw[q4];by_cases c1:i=it\/h.next<=i
   ·rw[if_pos c1,if_pos c1]
   ·rw[if_neg c1,if_neg c1]
    by_cases c2:i=bm
    ·rw[if_pos c2,c2,t1,hT]
    ·rw[if_neg c2,I.old i (by omega) (by omega) c2]
  |cons y l=>
   simp only;rw[hr]at hm;refine Pq fun x hx=>?_
   rw[<- hr]at hx;obtain⟨h1,e1,I1⟩:=iU (F:=F) (e:=e) B I s0 s21 hx;rw[e1];refine VC B hz hR h0 s0 s21 m _ h1 _ I1 ?_;have c1:=I1.cnt;have c2:=I.cnt;rw[hr]at c2;rw[No,zh]at c1;simp only[yh]at c2 hm;omega
end
end
noncomputable section
open Go
set_option maxRecDepth 100000
section
variable {F:AFi}{e:Env}{h g g1:Hp}{it bd bm bc n k c0:Nat}{l seen:List Nat}{T T0:VT}{M:List Nat}{cs:List (Nat×List Nat)}{arm:Int}{dn:Bool}
def LS:Nat->Hp->Hp
 |0,h=>h
 |k+1,h=>LS k (h.push .dead)
theorem RW:∀ (k:Nat) {h:Hp} (W:h.Wf),(LS k h).Wf/\(LS k h).next=h.next+k/\∀ i,(LS k h).bl.get i=h.bl.get i
 |0,h,W=>⟨W,rfl,fun _=>rfl⟩
 |k+1,h,W=>by
  obtain⟨a,b,c⟩:=RW k (W.push .dead);refine⟨a,?_,fun i=>?_⟩
  ·show(LS k (h.push .dead)).next=_
   rw[b];show h.next+1+k=_;omega
  ·show(LS k (h.push .dead)).bl.get i=_
   rw[c,W.AF6];by_cases hi:i=h.next
   ·rw[if_pos hi,W.fresh i (by omega)]
   ·rw[if_neg hi]
theorem rI(B:FlB h it bd bm bc n c0 cs arm dn T0)(h0:cs≠[])(Tz:VT):∃ r,FlR h it bm n cs Tz r/\∀ i,i<r.next->r.bl.has i:=by
 have hbn:=B.nx;have hlt:=B.lt;have W1:=B.wf.put (b:=it) (by omega) .dead;have P1:=B.wf.AGF (b:=it) (by omega) .dead;have W2:=W1.put (b:=bm) (show bm<h.next by omega) (.cells Tz (64*n) 0);have P2:=W1.AGF (b:=bm) (show bm<h.next by omega) (.cells Tz (64*n) 0);obtain⟨a,b,c⟩:=RW cs.length W2;have hlen:0<cs.length:=by
  cases cs with
  |nil=>exact absurd rfl h0
  |cons _ _=>exact ABz _
 refine⟨⟨h.next+cs.length,bm,h.next+cs.length - 1,0,(LS cs.length ((h.put it .dead).put bm (.cells Tz (64*n) 0))).bl⟩,⟨rfl,rfl,by show h.next+cs.length - 1+1=_;omega,fun i=>?_⟩,fun i hi=>a.has i (by rw[b];exact hi)⟩;show(LS cs.length ((h.put it .dead).put bm (.cells Tz (64*n) 0))).bl.get i=_;rw[c,P2,P1];by_cases c1:i=it
 ·rw[if_neg (by omega),if_pos c1,if_pos (.inl c1)]
 ·by_cases c2:h.next<=i
  ·rw[if_neg (by omega),if_neg c1,if_pos (.inr c2)]
   exact B.wf.fresh i c2
  ·rw[if_neg (by omega:¬ (i=it\/h.next<=i)),if_neg c1]
theorem iT(B:FlB h it bd bm bc n c0 cs arm dn T0){y z:Nat×List Nat}{rs:List (Nat×List Nat)}(hcs:cs=y::z::rs)(h60:cs.length<=60)(s0:J 0 e=pt bd)(s21:J 21 e=pt it):
  ∃ e' h',fW F e h=.exit 0 e' h'/\J 0 e'=pt bd/\h'.Wf/\h.next<=h'.next/\(∀ i,i<h.next->i≠it->i≠bm->h'.bl.get i=h.bl.get i)/\∃ T,h'.bl.get bm=.cells T (64*n) 0/\AGX T0 cs T/\∀ L,L<=h.low->L<=it->L<=bm->L<=h'.low:=by
 have hbn:=B.nx;have hlt:=B.lt;have AHp:=B.big;have h0:cs≠[]:=by rw[hcs];exact fun h=>by cases h
 obtain⟨Tz,hz⟩:=AGX.all B.has cs [] T0 (.nil T0) B.sec B.key fun y _ z hz=>by cases hz
 have hz:AGX T0 cs Tz:=hz;obtain⟨r,hR,AJb⟩:=rI B h0 Tz;have W1:(⟨h.next,h.next,0,h.mark,h.bl⟩:Hp).Wf:=⟨B.wf.big,B.wf.has,B.wf.fresh⟩;have I0:FlI h it bm bc n c0 cs T0 [] ⟨h.next,h.next,0,h.mark,h.bl⟩:=⟨W1,rfl,.inl ⟨rfl,rfl,rfl⟩,B.itr,fun _ _ _ _=>rfl,⟨T0,[],B.med,.nil T0,fun y=>⟨fun h=>(by cases h),fun⟨_,_,h⟩=>by cases h⟩⟩,by rw[K8,MW];exact If _⟩;have S:Og fK fB F e h it r:=⟨AJb,VC B hz hR h0 s0 s21 64 [] _ [] I0 (by rw[K8,MW];omega)⟩;obtain⟨q1,q2,q3,q4⟩:=hR;obtain⟨h',a1,a2,a3,a4,_,a6⟩:=Ss B.wf S (by omega);have hib:EU (h.bl.get it)=.ok (some bc) (c0+cs.length) [] (c0+cs.length):=by rw[B.itr];rfl
 have he:Bk h bc=.ok (AF0 c0 cs) (c0+cs.length):=by unfold Bk;rw[B.map];rfl
 refine⟨Env.set 23 (.bool false) (C6 e fK.ws),h',?_,?_,a2,by rw[a3];omega,fun i h1 h2 h3=>?_,Tz,?_,hz,fun L h1 _ h3=>by rw[a6];omega⟩
 ·rw[mS]
  unfold JL;have AJe:J fK.it e=.pointer (some ⟨it,0,none⟩):=s21;have es:AF0 c0 cs=⟨AI AT (y.1:Int),Dm y.2,c0⟩::⟨AI AT (z.1:Int),Dm z.2,c0+1⟩::AF0 (c0+1+1) rs:=by rw[hcs];rfl
  rw[es]at he;have b2:yl 256 it=true:=Av.2 AHp.2;simp only[AJe,hib,he,AAQ,cond_true,b2];exact a1
 ·obtain⟨c1,_⟩:=Ub (e:=e)
  rw[AG (by decide) (by decide),if_neg (by decide),c1];exact s0
 ·rw[a4 i h1 h2,q4,if_neg (by omega),if_neg h3]
 ·rw[a4 bm (by omega) (by omega),q4,if_neg (by omega),if_pos rfl]
theorem rH(B:FlB h it bd bm bc n c0 cs arm dn T0){y:Nat×List Nat}(hcs:cs=[y])(s0:J 0 e=pt bd)(s21:J 21 e=pt it):
  ∃ e' h',fW F e h=.exit 0 e' h'/\J 0 e'=pt bd/\h'.Wf/\h.next<=h'.next/\(∀ i,i<h.next->i≠it->i≠bm->h'.bl.get i=h.bl.get i)/\∃ T,h'.bl.get bm=.cells T (64*n) 0/\AGX T0 cs T/\∀ L,L<=h.low->L<=it->L<=bm->L<=h'.low:=by
 have hbn:=B.nx;have hlt:=B.lt;have AHp:=B.big;have hib:EU (h.bl.get it)=.ok (some bc) (c0+cs.length) [] (c0+cs.length):=by rw[B.itr];rfl
 have he:Bk h bc=.ok (AF0 c0 cs) (c0+cs.length):=by unfold Bk;rw[B.map];rfl
 have hi:cs[0]? =some y:=by rw[hcs];rfl
 obtain⟨y1,y2,y3⟩:=B.sec y (yz hi);obtain⟨T',hs,ht'⟩:=(AGX.nil T0).step B.has (k:=y.1) (l:=y.2) (by omega) y2 fun z hz=>by cases hz
 have es:AF0 c0 cs=[⟨AI AT (y.1:Int),Dm y.2,c0⟩]:=by rw[hcs];rfl
 have hl1:cs.length=1:=by rw[hcs];rfl
 have hlf:LQ (c0+cs.length) [] [⟨AI AT (y.1:Int),Dm y.2,c0⟩]=some [⟨AI AT (y.1:Int),Dm y.2,c0⟩]:=by
  show(bif Nat.blt c0 (c0+cs.length)then some [_]else none)=_;rw[BQ.2 (by omega)];rfl
 have W2:=B.wf.put (b:=it) (by omega) (.iter (some bc) (c0+cs.length) [c0] (c0+cs.length));have P2:=B.wf.AGF (b:=it) (by omega) (.iter (some bc) (c0+cs.length) [c0] (c0+cs.length));have nxv:Gd ⟨it,0,none⟩ h=.ok (.tuple ⟨[.bool true,AI AT (y.1:Int),Dm y.2]⟩) (h.put it (.iter (some bc) (c0+cs.length) [c0] (c0+cs.length))):=by
  unfold Gd;simp only[hib,he,es,hlf,cond_false];have:Jy c0 []=[c0]:=rfl;rw[this,Dw B.wf AHp.2 (by omega)]
 have n2:(h.put it (.iter (some bc) (c0+cs.length) [c0] (c0+cs.length))).next=h.next:=rfl;have lo2:(h.put it (.iter (some bc) (c0+cs.length) [c0] (c0+cs.length))).low=min h.low it:=BZ _ _;generalize h.put it (.iter (some bc) (c0+cs.length) [c0] (c0+cs.length))=g2 at W2 P2 nxv n2 lo2;have AHx:∀ j,j≠it->g2.bl.get j=h.bl.get j:=fun j hj=>by rw[P2,if_neg hj]
 have env:=QK (g:=g2) (seen:=[]) (c0:=c0) (i:=0) hi (by rw[P2,if_pos rfl];rfl) (by rw[AHx bc (by omega)];exact B.map);obtain⟨e',g',r1,r2,r3,r4,r5,r6,r7,r8,r9⟩:=QV (F:=F) (e:=e) (g:=h) (g1:=g2) (it:=it) (bd:=bd) (bm:=bm) (bc:=bc) (n:=n) (k:=y.1) (l:=y.2) (T:=T0) (arm:=arm) (dn:=dn) W2 s0 s21
  (fun e he=>bG nxv he) (fun e he=>mR env he) (NG B.disk (AHx bd (by omega))) ((AHx bm (by omega)).trans B.med) hs y1 y2 AHp.1 (by omega)
 have AKR:∀ j,j<h.next->j≠it->j≠bm->g'.bl.get j=h.bl.get j:=fun j h1 h2 h3=>by rw[r7 j (by omega) h3,AHx j h2]
 have nx2:Gd ⟨it,0,none⟩ g'=.ok (.tuple ⟨[.bool false]⟩) g':=by
  have hib:EU (g'.bl.get it)=.ok (some bc) (c0+cs.length) [c0] (c0+cs.length):=by rw[r7 it (by omega) (by omega),P2,if_pos rfl];rfl
  have he:Bk g' bc=.ok (AF0 c0 cs) (c0+cs.length):=by
   unfold Bk;rw[AKR bc (by omega) (by omega) B.ne.2,B.map];rfl
  have hlf:LQ (c0+cs.length) [c0] [⟨AI AT (y.1:Int),Dm y.2,c0⟩]=some []:=by
   show(bif (bif yu c0 c0 then true else false)then some []else _)=_;rw[AAQ];rfl
  have hyg:FW (c0+cs.length) [⟨AI AT (y.1:Int),Dm y.2,c0⟩]=false:=by
   show(bif yl (c0+cs.length) c0 then true else false)=false;have:yl (c0+cs.length) c0=false:=by
    cases hb:yl (c0+cs.length) c0
    ·rfl
    ·have:=Av.1 hb;omega
   rw[this];rfl
  unfold Gd;simp only[hib,he,es,hlf,hyg,cond_false];rfl
 have hb2:∃ e2,fB F e' g'=.exit 0 e2 g'/\J 0 e2=pt bd:=by
  have nn:=bG (F:=F) nx2 r3;unfold fB;simp only[sT,By,BY,reduceIte,nn,A7,BC];exact⟨_,rfl,by simp[AG,r2]⟩
 obtain⟨e2,b1,b2⟩:=hb2;refine⟨e2,g',?_,b2,r4,by omega,AKR,T',r6,by rw[hcs];exact ht',fun L h1 h2 h3=>by rw[r8];omega⟩;rw[mS];unfold JL;have AJe:J fK.it e=.pointer (some ⟨it,0,none⟩):=s21;rw[es]at he;simp only[AJe,hib,he];refine Bh (I:=fun i e1 h1=>(i=0/\e1=e/\h1=h)\/(i=1/\e1=e'/\h1=g')) (Q:=fun x=>x=.exit 0 e2 g') 1 (by omega) (fun i e1 h1 hI=>?_) (.inl ⟨rfl,rfl,rfl⟩);rcases hI with ⟨rfl,rfl,rfl⟩|⟨rfl,rfl,rfl⟩
 ·exact .inl ⟨by omega,e',g',r1,.inr ⟨rfl,rfl,rfl⟩⟩
 ·right
  rw[b1];exact⟨rfl,rfl⟩
theorem aE{m:Nat}(W:h.Wf)(d:Dk h bd bm bc n M c0 cs arm false){k:Nat}(ha:CB arm (k+1))(hK:AHk cs)(hc:AG3 n cs)(h0:cs≠[])(h60:cs.length<=60):
  ∃ h',call AC (m+3) 124 [pt bd] h=.ok (AI AT 0) h'/\Fx (fun b=>b=bd\/b=bm\/b=bc) h h'/\Dk h' bd bm bc n (GA M cs) (c0+cs.length) [] (GL arm) false:=by
 have k1:=NR (m:=m) d (i:=0) (by have:=d.n1;omega);have k1:call AC (m+2) 133 [pt bd,AI AT 0] h=.ok (AI AT 0) h:=k1;obtain⟨h1,k2,f1,d1⟩:=Vy (m:=m+1) W d ha;have c1:iNe 0 0=false:=CH rfl;obtain⟨_,l1,_,_⟩:=DA d1.disk;have hlt:=d1.lt f1.wf;have rg:∀ (F:AFi) (e:Env),J 20 e=.map (some bc)->K3 (J 20) F e h1=.ok (pt h1.next) (h1.push (.iter (some bc) (c0+cs.length) [] (c0+cs.length))):=fun F e he=>by
  have hen:Bk h1 bc=.ok (AF0 c0 cs) (c0+cs.length):=by unfold Bk;rw[d1.map];rfl
  unfold K3;rw[he];simp only[hen];rw[C8 f1.wf];rfl
 have W2:=f1.wf.push (.iter (some bc) (c0+cs.length) [] (c0+cs.length));have P2:=f1.wf.AF6 (.iter (some bc) (c0+cs.length) [] (c0+cs.length));have x2:h1.Ext (h1.push (.iter (some bc) (c0+cs.length) [] (c0+cs.length))):=(Hp.Ext.refl f1.wf).push _;have n2:(h1.push (.iter (some bc) (c0+cs.length) [] (c0+cs.length))).next=h1.next+1:=rfl;generalize h1.push (.iter (some bc) (c0+cs.length) [] (c0+cs.length))=h2 at rg W2 P2 x2 n2;have d2:=d1.ext f1.wf x2;obtain⟨T0,t1,t2⟩:=d2.med;rw[OF,d2.len]at t1;have B:FlB h2 h1.next bd bm bc n c0 cs (GL arm) false T0:=⟨W2,n2,by rw[P2,if_pos rfl],d2.disk,t1,fun j hj=>(t2 j (by rw[OF,d2.len];exact hj)).1,d2.map,hlt,⟨d.bdm,fun h=>d.bmc h.symm⟩,⟨d.big.2.1,f1.wf.big⟩,hc,hK⟩;have tc:∀ (F:AFi) (e:Env),J 0 e=pt bd->J 21 e=pt h1.next->∃ e' h',fW F e h2=.exit 0 e' h'/\J 0 e'=pt bd/\h'.Wf/\h2.next<=h'.next/\(∀ i,i<h2.next->i≠h1.next->i≠bm->h'.bl.get i=h2.bl.get i)/\∃ T,h'.bl.get bm=.cells T (64 * n) 0/\AGX T0 cs T/\∀ L,L<=h2.low->L<=h1.next->L<=bm->L<=h'.low:=fun F e e1 e2=>by
  cases cs with
  |nil=>exact absurd rfl h0
  |cons y l=>
   cases l with
   |nil=>exact rH B rfl e1 e2
   |cons z l=>exact iT B rfl h60 e1 e2
 have pre:∃ e1,Up (call AC (m+2)) (AS e0 0 [pt bd]) h=fS (call AC (m+2)) e1 h2/\J 0 e1=pt bd/\J 21 e1=pt h1.next:=by
  unfold Up;simp only[iN,IS,sT,By,BY,reduceIte,cA0,k1,k2,AK,AJ,c1,Ax,Al,AH,AN,AM,AP,If,l1,rg];exact⟨_,rfl,by simp[AG]⟩
 obtain⟨e1,p1,p2,p3⟩:=pre;obtain⟨e3,h3,w1,w2,w3,w4,w5,T,w6,w7,w8⟩:=tc (call AC (m+2)) e1 p2 p3;have d3:h3.Row bd 0 (dkL bm bc n (GL arm) false):=NG d2.disk (w5 bd (by omega) (by omega) d.bdm);have m3:h3.bl.get bc=.map (AF0 c0 cs) (c0+cs.length):=by rw[w5 bc (by omega) (by omega) (fun h=>d.bmc h.symm)];exact d2.map
 have r3:h3.Row bm 0 ((GA M cs).map bv):=⟨T,by rw[w6,OF,Ga d.len hc],w7.is t2 d.len hc hK⟩;obtain⟨_,l3,_,_⟩:=DA d3;have cl:∀ (F:AFi) (e:Env),J 37 e=.map (some bc)->Dv (J 37) F e h3=.ok AFl (h3.put bc (.map [] (c0+cs.length))):=fun F e he=>by
  have hen:Bk h3 bc=.ok (AF0 c0 cs) (c0+cs.length):=by unfold Bk;rw[m3];rfl
  unfold Dv;rw[he];simp only[hen];rw[Dw w3 d.big.2.2 (by omega)];rfl
 have W4:=w3.put (b:=bc) (by omega) (.map [] (c0+cs.length));have P4:=w3.AGF (b:=bc) (by omega) (.map [] (c0+cs.length));have n4:(h3.put bc (.map [] (c0+cs.length))).next=h3.next:=rfl;have lo4:(h3.put bc (.map [] (c0+cs.length))).low=min h3.low bc:=BZ _ _;generalize h3.put bc (.map [] (c0+cs.length))=h4 at cl W4 P4 n4 lo4;refine⟨h4,?_,⟨by have:=f1.next;omega,fun i hi hs=>?_,W4,fun L q1 q2 q3=>by
  have z1:=f1.low L q1 q2 fun b hb=>q3 b (.inl hb)
  have z2:=f1.next;have z3:=x2.low;have z4:=w8 L (by omega) (by omega) (q3 bm (.inr (.inl rfl)));have z5:=q3 bc (.inr (.inr rfl));omega⟩,⟨NG d3 (by rw[P4,if_neg d.bdc]),NG r3 (by rw[P4,if_neg d.bmc]),Ga d.len hc,Qs d.byt hc,by rw[P4,if_pos rfl];rfl,d.big,d.n1⟩⟩
 ·rw[fN rfl,gY,p1,v7]
  simp only[BJ,Az,w1,BD,BA];unfold fE;simp only[sT,By,BY,reduceIte,Ax,w2,Al,AH,AN,AM,AP,If,l3,cl,lV0]
 ·have hn:=f1.next
  rw[P4,if_neg (fun e=>hs (.inr (.inr e))),w5 i (by omega) (by omega) (fun e=>hs (.inr (.inl e))),x2.get i (by omega),f1.get i hi (fun e=>hs (.inl e))]
end
end
noncomputable section
open Go
set_option maxRecDepth 100000
structure Kt where
 a:Int
 b:Int
 c:Int
 s:Nat
 l:List Nat
 p:Nat
 u:IN
def AZ(k:Kt):List IN:=[AI AT k.a,AI AT k.b,AI AT k.c,.int .u8 (k.s:Int),k.u,AI AT (k.p:Int)]
def ktV(k:Kt):IN:=.agg ⟨AZ k⟩
def flK(ks:List Kt):List IN:=ks.flatMap AZ
theorem Cd:∀ ks:List Kt,(flK ks).length=6*ks.length
 |[]=>rfl
 |k::ks=>by
  show(AZ k++flK ks).length=_;rw[No,Cd ks,yh];show 6+_=_;omega
theorem Ja(a b:List Kt):flK (a++b)=flK a++flK b:=List.flatMap_append
theorem VA:∀ (ks:List Kt) (i:Nat) (k:Kt),ks[i]? =some k->((flK ks).drop (6*i)).take 6=AZ k
 |[],i,k,h=>by cases h
 |x::ks,0,k,h=>by
  have h:some x=some k:=h;cases h;show((AZ x++flK ks).drop 0).take 6=_;rw[zr];exact List.take_left' rfl
 |x::ks,i+1,k,h=>by
  rw[zk]at h;show((AZ x++flK ks).drop (6*(i+1))).take 6=_;have:6*(i+1)=(AZ x).length+6*i:=by show _=6+_;omega
  rw[this,List.drop_length_add_append];exact VA ks i k h
def Hp.KS(h:Hp)(S:Nat->Prop)(v:IN)(ks:List Kt):Prop:=(v=.slice none 0 0/\ks=[])\/∃ b c el L,v=.slice (some ⟨b,0,none⟩) ks.length c/\ks.length<=c/\h.Row b el L/\6*ks.length<=L.length/\L.take (6*ks.length)=flK ks/\(el=124\/el=0)/\S b
section
variable {h h':Hp}{S S':Nat->Prop}{v:IN}{ks:List Kt}
theorem Hp.KS.keep(o:h.KS S v ks)(hk:∀ b el L,S b->h.Row b el L->h'.Row b el L):h'.KS S v ks:=by
 rcases o with h1|⟨b,c,el,L,h1,h2,h3,h4,h5,h6,h7⟩
 ·exact .inl h1
 ·exact .inr ⟨b,c,el,L,h1,h2,hk _ _ _ h7 h3,h4,h5,h6,h7⟩
theorem Hp.KS.ext(o:h.KS S v ks)(W:h.Wf)(x:h.Ext h'):h'.KS S v ks:=o.keep fun _ _ _ _ r=>r.ext W x
theorem Hp.KS.same(o:h.KS S v ks)(hb:h'.bl=h.bl):h'.KS S v ks:=o.keep fun _ _ _ _ r=>r.same hb
theorem Hp.KS.mono(o:h.KS S v ks)(hs:∀ b,S b->S' b):h.KS S' v ks:=by
 rcases o with h1|⟨b,c,el,L,h1,h2,h3,h4,h5,h6,h7⟩
 ·exact .inl h1
 ·exact .inr ⟨b,c,el,L,h1,h2,h3,h4,h5,h6,hs _ h7⟩
theorem Hp.KS.len(o:h.KS S v ks)(g:Hp):AGQ v g=.ok (AI AT (ks.length:Int)) g:=by
 rcases o with ⟨rfl,rfl⟩|⟨b,c,el,L,rfl,_⟩<;>rfl
theorem Hp.KS.at(o:h.KS S v ks){i:Nat}{k:Kt}(hi:ks[i]? =some k):∃ b,S b/\AGa 6 v (AI AT (i:Int)) h=.ok (.pointer (some ⟨b,6*i,none⟩)) h/\loadN 6 ⟨b,6*i,none⟩ h=.ok (ktV k) h/\∀ j w,(AZ k)[j]? =some w->AFk ⟨b,6*i+j,none⟩ h=.ok w h:=by
 have hil:=(zG.1 hi).1;rcases o with ⟨rfl,rfl⟩|⟨b,c,el,L,rfl,h2,h3,h4,h5,h6,h7⟩
 ·cases hi
 ·have hc:(L.drop (6*i)).take 6=AZ k:=by
   have:=VA ks i k hi;rw[<- h5,List.drop_take,AEU,ACd (by omega)]at this;exact this
  refine⟨b,h7,?_,?_,fun j w hj=>?_⟩
  ·have:=DB (h:=h) (n:=ks.length) (c:=c) (es:=6) (b:=b) (off:=0) (i:=i) (k:=.i64) hil
   rwa [If,AAP]at this
  ·rw[h3.loadN (by omega),hc];rfl
  ·have hj6:j<6:=(zG.1 hj).1
   rw[<- hc,AA9,if_pos hj6,ABf]at hj;rw[h3.AFk (by omega),yf,hj];rfl
theorem Hp.KS.one(o:h.KS S v ks):cellsOf v=[v]/\oneCell v=true/\known v=true:=by
 rcases o with ⟨rfl,_⟩|⟨b,c,el,L,rfl,_⟩<;>exact⟨rfl,rfl,rfl⟩
end
def Hp.KW(h:Hp)(S:Nat->Prop)(v:IN)(ks:List Kt):Prop:=(v=.slice none 0 0/\ks=[])\/∃ b,v=.slice (some ⟨b,0,none⟩) ks.length ks.length/\h.Row b 124 (flK ks)/\S b
theorem Hp.KW.ks{h:Hp}{S:Nat->Prop}{v:IN}{ks:List Kt}(o:h.KW S v ks):h.KS S v ks:=by
 rcases o with h1|⟨b,h1,h2,h3⟩
 ·exact .inl h1
 ·exact .inr ⟨b,_,_,_,h1,IT _,h2,by rw[Cd];omega,by rw[<- Cd,AAF],.inl rfl,h3⟩
theorem Hp.KS.ks{h:Hp}{S:Nat->Prop}{v:IN}{ks:List Kt}(o:h.KS S v ks):h.KS S v ks:=o
def Hp.WI(h:Hp)(S:Nat->Prop)(v:IN)(xs:List IN):Prop:=(v=.slice none 0 0/\xs=[])\/∃ b el,v=.slice (some ⟨b,0,none⟩) xs.length xs.length/\h.Row b el xs/\(el=4\/el=0)/\S b
theorem Hp.WI.keep{h h':Hp}{S:Nat->Prop}{v:IN}{xs:List IN}(o:h.WI S v xs)(hk:∀ b el L,S b->h.Row b el L->h'.Row b el L):h'.WI S v xs:=by
 rcases o with h1|⟨b,el,h1,h2,h3,h4⟩
 ·exact .inl h1
 ·exact .inr ⟨b,el,h1,hk _ _ _ h4 h2,h3,h4⟩
theorem Hp.WI.vals{h:Hp}{S:Nat->Prop}{v:IN}{xs:List IN}(o:h.WI S v xs):h.AF5 v xs:=by
 rcases o with h1|⟨b,el,h1,h2,h3,h4⟩
 ·exact .inl h1
 ·exact .inr ⟨b,0,_,el,xs,h1,h2,by omega,by rw[zr,AAF]⟩
def AHy(h:Hp)(S:Nat->Prop)(k:Kt):Prop:=h.BS S k.u (k.l.map bv)/\(∀ x∈k.l,x<256)/\k.l.length<=100/\(k.s=1\/k.s=2)/\AFx k.a k.b k.c k.s k.l.length=true/\k.p<65536
def slL(bd tb:Nat)(lv fv:IN)(bad:Nat)(ov:Bool):List IN:=[pt bd,pt tb,AI AT 100,lv,fv,AI AT (bad:Int),.bool ov]
structure At where
 bs:Nat
 bd:Nat
 bm:Nat
 bc:Nat
 tb:Nat
 n:Nat
abbrev At.D(A:At):Nat->Prop:=fun b=>b=A.bs\/b=A.bd\/b=A.bm\/b=A.bc
structure Sl (h:Hp)(A:At)(T M:List Nat)(c0:Nat)(arm:Int)(ks:List Kt)(fr:List Nat)(lv fv:IN)(bad:Nat)(ov:Bool):Prop where
 row:h.Row A.bs 0 (slL A.bd A.tb lv fv bad ov)
 dk:Dk h A.bd A.bm A.bc A.n M c0 [] arm false
 tab:h.Row A.tb 0 (T.map wv)
 tok:AGc T
 ls:h.KS (fun b=>¬ A.D b) lv ks
 ko:∀ k∈ks,AHy h (fun b=>¬ A.D b) k
 fs:h.WI (fun b=>¬ A.D b) fv (ints .i64 (fr.map Int.ofNat))
 ne:A.bs≠A.bd/\A.bs≠A.bm/\A.bs≠A.bc/\¬ A.D A.tb/\256<=A.bs
 le:ks.length<=1000/\fr.length<=1000/\bad<=1000/\∀ p∈fr,3*p+3<=A.n
section
variable {F:AFi}{e:Env}{h h':Hp}{A:At}{T M:List Nat}{c0 bad m:Nat}{arm:Int}{ks:List Kt}{fr:List Nat}{lv fv:IN}{ov:Bool}
theorem Sl.keep(s:Sl h A T M c0 arm ks fr lv fv bad ov)(hr:∀ b el L,h.Row b el L->h'.Row b el L)(hm:h'.bl.get A.bc=h.bl.get A.bc):Sl h' A T M c0 arm ks fr lv fv bad ov:=
 ⟨hr _ _ _ s.row,⟨hr _ _ _ s.dk.disk,hr _ _ _ s.dk.med,s.dk.len,s.dk.byt,hm.trans s.dk.map,s.dk.big,s.dk.n1⟩,hr _ _ _ s.tab,s.tok,s.ls.keep fun _ _ _ _ r=>hr _ _ _ r,fun k hk=>⟨(s.ko k hk).1.keep fun _ _ _ _ _ r=>hr _ _ _ r,(s.ko k hk).2⟩,s.fs.keep fun _ _ _ _ r=>hr _ _ _ r,s.ne,s.le⟩
theorem Sl.ext(s:Sl h A T M c0 arm ks fr lv fv bad ov)(W:h.Wf)(x:h.Ext h'):Sl h' A T M c0 arm ks fr lv fv bad ov:=s.keep (fun _ _ _ r=>r.ext W x) (x.get _ (s.dk.lt W).2.2)
theorem Sl.same(s:Sl h A T M c0 arm ks fr lv fv bad ov)(hb:h'.bl=h.bl):Sl h' A T M c0 arm ks fr lv fv bad ov:=s.keep (fun _ _ _ r=>r.same hb) (by rw[hb])
theorem BG{bs bd tb:Nat}(R:h.Row bs 0 (slL bd tb lv fv bad ov)):AFk ⟨bs,0,none⟩ h=.ok (pt bd) h/\AFk ⟨bs,1,none⟩ h=.ok (pt tb) h/\AFk ⟨bs,2,none⟩ h=.ok (AI AT 100) h/\AFk ⟨bs,3,none⟩ h=.ok lv h/\AFk ⟨bs,4,none⟩ h=.ok fv h/\AFk ⟨bs,5,none⟩ h=.ok (AI AT (bad:Int)) h/\AFk ⟨bs,6,none⟩ h=.ok (.bool ov) h:=
 ⟨R.AFk (off:=0) (by show 0<7;omega),R.AFk (off:=1) (by show 1<7;omega),R.AFk (off:=2) (by show 2<7;omega),R.AFk (off:=3) (by show 3<7;omega),R.AFk (off:=4) (by show 4<7;omega),R.AFk (off:=5) (by show 5<7;omega),R.AFk (off:=6) (by show 6<7;omega)⟩
theorem wJ{a b:Nat}(h1:a*b<=1000000000):Fv Int.mul .i64 (AI AT (a:Int)) (AI AT (b:Int)) h=.ok (AI AT ((a*b:Nat):Int)) h:=by
 have:Int.mul (a:Int) (b:Int)=((a*b:Nat):Int):=(Int.natCast_mul a b).symm;rw[Cg,this,Bf (by omega)]
theorem UK{a b:Nat}(h1:a+b<=1000000000):Ez .i64 (AI AT (a:Int)) (AI AT (b:Int)) h=.ok (AI AT ((a+b:Nat):Int)) h:=by
 have:(a:Int)+(b:Int)=((a+b:Nat):Int):=by omega
 rw[Dq,this,Bf (by omega)]
theorem OX:OW 100=3:=by decide
theorem Nk{bs bd tb:Nat}(R:h.Row bs 0 (slL bd tb lv fv bad ov)){p:Nat}(hp:p<=65536):call AC (m+2) 100 [pt bs,AI AT (p:Int)] h=.ok (AI AT ((p*3:Nat):Int)) h:=by
 obtain⟨_,_,l2,_⟩:=BG R;have k1:=WH (n:=m) (h:=h) (z:=100);rw[OX]at k1;have a1:=wJ (h:=h) (a:=p) (b:=3) (by omega);rw[eo rfl];unfold f0;simp only[iN,IS,sT,By,BY,reduceIte,Ax,Al,AH,AN,If,AM,AP,l2,cA0,k1,B3,a1,lV0]
theorem Hv{f:OpF}{mm:Qm}{v:IN}(W:h.Wf)(hf:f F e h.quiet=.ok v h.quiet)(hm:h.mark<=h.next):Ad mm f F e h=.ok v (h.back h.quiet):=Cp hf (.refl W.quiet) hm
theorem fu{x y z:O}{b N k:Nat}(hx:x e=.slice (some ⟨b,0,none⟩) N N)(hy:y e=AI AT (k:Int))(hz:z e=AI AT (k:Int))(hk:k<=N):EJ 5 1 x none (some y) (some z) F e h=.ok (.slice (some ⟨b,0,none⟩) k k) h:=by
 have hb:∀ (d:Nat) (y:O) (Y:Nat) (K:Nat->R),y e=AI AT (k:Int)->k<=Y->Cv e (some y) d Y K=K k:=fun d y Y K hy hY=>by
  show(match De (y e)with|.ok n=>(bif yl n Y then K n else .no)|.no=>.no)=_;rw[hy,DI];simp only;rw[Av.2 hY];rfl
 show(match x e with|.slice a n c=>Dh e n c none (some y) (some z) (fun l hh m=>ET 5 1 a true l hh m h)|_=>.no)=_;rw[hx];show Cv e (some z) N N (fun m=>Cv e (some y) N m fun hh=>Cv e none 0 hh fun l=>ET 5 1 (some ⟨b,0,none⟩) true l hh m h)=_;rw[hb _ _ _ _ hz hk,hb _ _ _ _ hy (IT _)];show Br (some ⟨b,0,none⟩) 1 0 k k h=_;unfold Br;simp only[Ao];cases k with
 |zero=>rfl
 |succ k=>rfl
theorem Zg{x y z:O}(hx:x e=.slice none 0 0)(hy:y e=AI AT ((0:Nat):Int))(hz:z e=AI AT ((0:Nat):Int)):EJ 5 1 x none (some y) (some z) F e h=.ok (.slice none 0 0) h:=by
 show(match x e with|.slice a n c=>Dh e n c none (some y) (some z) (fun l hh m=>ET 5 1 a true l hh m h)|_=>.no)=_;rw[hx];show(match De (z e)with|.ok n=>(bif yl n 0 then(match De (y e)with|.ok n'=>(bif yl n' n then Br none 1 0 n' n h else .no)|.no=>.no)else .no)|.no=>.no)=_;rw[hy,hz];rfl
def dat(M:List Nat)(p k:Nat):List Nat:=(M.drop (64*(3*p+1))).take k
theorem Zv{M:List Nat}{n p i:Nat}(hM:M.length=64*n)(hi:3*p+1+i<n):dat M p (64*i)++sec M (3*p+1+i)=dat M p (64*(i+1)):=by
 unfold dat sec;have:M.drop (64*(3*p+1+i))=(M.drop (64*(3*p+1))).drop (64*i):=by rw[List.drop_drop];congr 1;omega
 rw[this,show 64*(i+1)=64*i+64 by omega,List.take_add]
theorem JR{M:List Nat}{n p k:Nat}(hM:M.length=64*n)(hk:64*(3*p+1)+k<=64*n):(dat M p k).length=k:=by
 unfold dat;rw[zJ,zl];omega
theorem Zu{M:List Nat}(hb:∀ x∈M,x<256)(p k:Nat):∀ x∈dat M p k,x<256:=fun x hx=>hb x (ABZ (AAN hx))
theorem cP:reS=BL (Ae 0 (A9 reB)) reE:=rfl
theorem Ud:gJ=Ue:=rfl
theorem ZH(W:h.Wf){bs bd bm bc tb n:Nat}(R:h.Row bs 0 (slL bd tb lv fv bad ov))(d:Dk h bd bm bc n M c0 [] arm false){p k:Nat}(hp:3*p+3<=n)(hk:k<=128):
  ∃ h' v,call AC (m+4) 113 [pt bs,AI AT (p:Int),AI AT (k:Int)] h=.ok (.tuple ⟨[v,AI AT 0]⟩) h'/\h.Ext h'/\h'.BS (fun b=>h.next<=b) v ((dat M p k).map bv):=by
 have hn:=d.n1;have pre:∃ e1,Ue (call AC (m+3)) (AS e0 0 [pt bs,AI AT (p:Int),AI AT (k:Int)]) h=reS (call AC (m+3)) e1 h/\J 0 e1=pt bs/\J 1 e1=AI AT (p:Int)/\J 2 e1=AI AT (k:Int)/\J 8 e1=.slice none 0 0/\J 9 e1=AI AT ((0:Nat):Int):=by
  unfold Ue;simp only[iN,IS,sT,By,BY,reduceIte];exact⟨_,rfl,by simp[AG]⟩
 obtain⟨e1,p1,s0,s1,s2,s8,s9⟩:=pre;have run:∃ e' h' v i,A9 reB (call AC (m+3)) e1 h=.exit 0 e' h'/\h.Ext h'/\h'.Own h.next 5 v ((dat M p (64*i)).map bv)/\k<=64*i/\i<=2/\J 8 e'=v/\J 2 e'=AI AT (k:Int):=by
  refine Bh (I:=fun i e' h'=>∃ v,h.Ext h'/\h'.Own h.next 5 v ((dat M p (64*i)).map bv)/\J 0 e'=pt bs/\J 1 e'=AI AT (p:Int)/\J 2 e'=AI AT (k:Int)/\J 8 e'=v/\J 9 e'=AI AT (i:Int)/\i<=2)
   (Q:=fun x=>∃ e' h' v i,x=.exit 0 e' h'/\h.Ext h'/\h'.Own h.next 5 v ((dat M p (64*i)).map bv)/\k<=64*i/\i<=2/\J 8 e'=v/\J 2 e'=AI AT (k:Int)) 2 (by omega) (fun i e' h' ⟨v,x',o',t0,t1,t2,t8,t9,hi⟩=>?_)
   ⟨_,.refl W,.inl ⟨rfl,rfl⟩,s0,s1,s2,s8,s9,by omega⟩
  have hdl:(dat M p (64*i)).length=64*i:=JR d.len (by omega);have ln:=o'.vals.bl h';rw[hdl]at ln;by_cases hlt:64*i<k
  ·left
   have hi1:i<2:=by omega
   have c1:iLt ((64*i:Nat):Int) (k:Int)=true:=E9 hlt;have xm:=x'.marked;have Rm:=(R.ext W xm);have old:∀ (off:Nat) (kk:C) (F:AFi) (e:Env),JA (.pointer (some ⟨bs,off,none⟩)) kk F e h'.marked=kk F e h'.marked:=fun off kk F e=>Dl (by
    show bs<h'.next;have:=R.lt W;have:=x'.next;omega)
   obtain⟨l0,_⟩:=BG Rm;have k1:=Nk (m:=m+1) (Rm.same (h':=h'.marked.quiet) rfl) (p:=p) (by omega);have q1:∀ e:Env,J 0 e=pt bs->J 1 e=AI AT (p:Int)->Ad .weak (AU 100 [J 0,J 1]) (call AC (m+3)) e h'.marked=.ok (AI AT ((p*3:Nat):Int)) (h'.marked.back h'.marked.quiet):=fun e e1 e2=>by
    refine Hv x'.wf.marked ?_ (IT _);rw[BR,AV,AV,A3,e1,e2];exact k1
   have y2:h'.Ext (h'.marked.back h'.marked.quiet):=Hp.Ext.AGo (Hp.Ext.refl x'.wf).marked (Hp.Ext.refl x'.wf).marked.quiet;have n2:(h'.marked.back h'.marked.quiet).next=h'.next:=rfl;generalize h'.marked.back h'.marked.quiet=h2 at q1 y2 n2;have x2:=x'.trans y2;have a1:=Cc (h:=h2) (i:=p * 3) (by omega);have a2:=UK (h:=h2) (a:=p * 3+1) (b:=i) (by omega);obtain⟨h3,w,k2,y3,mk,n3,_⟩:=WA (m:=m) x2.quiet.wf ((d.ext W x2).same (h':=h2.quiet) rfl) (i:=p * 3+1+i) (by omega);have q2:∀ e:Env,J 22 e=pt bd->J 28 e=AI AT ((p * 3+1+i:Nat):Int)->Ad .free (AU 109 [J 22,J 28]) (call AC (m+3)) e h2=.ok (.tuple ⟨[w,AI AT 0]⟩) (h2.back h3):=fun e e1 e2=>by
    refine BO ?_;rw[BR,AV,AV,A3,e1,e2];exact k2
   have y4:h2.Ext (h2.back h3):=.back y3;have mk4:Mk (h2.back h3) h2.quiet.next w (sec M (p * 3+1+i)):=mk.same rfl;generalize h2.back h3=h4 at q2 y4 mk4;have x4:=x2.trans y4;have hsl:(sec M (p * 3+1+i)).length=64:=J2 d.len (by omega);obtain⟨h5,v5,k5,x5,o5,n5,fr5⟩:=Es (eb:=1) (en:=5) (k:=h.next) x4 (IT _) x4.next ((o'.ext x'.wf y2).ext x2.wf y4) mk4.vals (by rw[OF,hsl];omega) (DZ _) (by rw[OF,OF,hdl,hsl];omega);rw[<- zb,show p * 3+1+i=3 * p+1+i by omega,Zv d.len (by omega)]at o5;have c2:iNe 0 0=false:=CH rfl;have a3:=Cc (i:=i) (h:=h5) (by omega);have hrun:∃ e2,reB (call AC (m+3)) e' h'=.norm e2 h5/\J 0 e2=pt bs/\J 1 e2=AI AT (p:Int)/\J 2 e2=AI AT (k:Int)/\J 8 e2=v5/\J 9 e2=AI AT ((i+1:Nat):Int):=by
    unfold reB;simp only[sT,By,BY,reduceIte,Ah,t8,ln,AK,AJ,t2,c1,A1,Ax,t0,Al,AH,AN,If,ED,old,DV,AM,AP,l0,q1,t1,BM,a1,t9,a2,q2,A7,BC,BE,c2,BN,k5,a3];exact⟨_,rfl,by simp[AG,t0,t1,t2]⟩
   obtain⟨e2,r1,r2,r3,r4,r5,r6⟩:=hrun;exact⟨hi1,e2,h5,r1,v5,x5,o5,r2,r3,r4,r5,r6,by omega⟩
  ·right
   have c1:iLt ((64*i:Nat):Int) (k:Int)=false:=DJ (by omega);have hrun:∃ e2,reB (call AC (m+3)) e' h'=.exit 0 e2 h'/\J 8 e2=v/\J 2 e2=AI AT (k:Int):=by
    unfold reB;simp only[sT,By,BY,reduceIte,Ah,t8,ln,AK,AJ,t2,c1];exact⟨_,rfl,by simp[AG,t8,t2]⟩
   obtain⟨e2,r1,r2,r3⟩:=hrun;rw[r1];exact⟨rfl,e2,h',v,i,rfl,x',o',by omega,hi,r2,r3⟩
 obtain⟨e2,h2,v,i,r1,x2,o2,hk2,hi2,r2,r3⟩:=run;have hdl:(dat M p (64*i)).length=64*i:=JR d.len (by omega);have htk:(dat M p (64*i)).take k=dat M p k:=by
  unfold dat;rw[AEU,ACd hk2]
 have hdk:(dat M p k).length=k:=JR d.len (by omega);rcases o2 with ⟨rfl,hx⟩|⟨b,rfl,R2,hb,AFs⟩
 ·have h0:64*i=0:=by
   have:=congrArg ACA hx;rw[OF,hdl]at this;exact this
  obtain rfl:k=0:=by omega
  have ct:∀ e:Env,J 8 e=.slice none 0 0->J 2 e=AI AT ((0:Nat):Int)->EJ 5 1 (J 8) none (some (J 2)) (some (J 2)) (call AC (m+3)) e h2=.ok (.slice none 0 0) h2:=fun e e1 e2=>Zg e1 e2 e2
  refine⟨h2,.slice none 0 0,?_,x2,.inl ⟨rfl,?_⟩⟩
  ·rw[UT rfl,Ud,p1,cP]
   simp only[BJ,Az,r1,BD,BA];unfold reE;simp only[sT,By,BY,reduceIte,ct,r2,r3,BI,DH]
  ·unfold dat;rfl
 ·rw[OF,hdl]at r2
  have ct:∀ e:Env,J 8 e=.slice (some ⟨b,0,none⟩) (64*i) (64*i)->J 2 e=AI AT (k:Int)->EJ 5 1 (J 8) none (some (J 2)) (some (J 2)) (call AC (m+3)) e h2=.ok (.slice (some ⟨b,0,none⟩) k k) h2:=fun e e1 e2=>fu e1 e2 e2 hk2
  refine⟨h2,.slice (some ⟨b,0,none⟩) k k,?_,x2,.inr ⟨b,0,k,6,_,by rw[OF,hdk],by rw[OF,hdk];exact IT _,R2,by rw[OF,OF,hdk,hdl];omega,?_,hb,.inr rfl⟩⟩
  ·rw[UT rfl,Ud,p1,cP]
   simp only[BJ,Az,r1,BD,BA];unfold reE;simp only[sT,By,BY,reduceIte,ct,r2,r3,BI,DH]
  ·rw[OF,hdk,zr,<- AEh,htk]
end
end
noncomputable section
open Go
set_option maxRecDepth 100000
abbrev f86:IN:=.func (.func 111) ⟨[]⟩ ⟨[]⟩
theorem XV{n:Nat}{h:Hp}{c:Nat}:call AC (n+1) 111 [.int .u8 (c:Int)] h=.ok (.bool (iNe (c:Int) 0)) h:=by
 rw[fD rfl];unfold gH;simp only[iN,IS,sT,By,BY,reduceIte,AK,AJ,lV0]
theorem aN{n:Nat}{h:Hp}{u:IN}{l:List Nat}(V:h.AF5 u (l.map bv))(hl:l.length<=900000){e:Env}(s0:J 0 e=u)(s1:J 1 e=f86)(s7:J 7 e=AI AT (l.length:Int))(s8:J 8 e=AI AT ((0:Nat):Int)):
  (∃ e',A9 ifB (call AC (n+1)) e h=.exit 0 e' h/\∀ x∈l,x=0)\/(∃ e' i,A9 ifB (call AC (n+1)) e h=.ret e' h/\J 4 e'=AI AT ((i:Nat):Int)/\∃ x∈l,x≠0):=by
 refine Bh (I:=fun i e' h'=>h'=h/\J 0 e'=u/\J 1 e'=f86/\J 7 e'=AI AT (l.length:Int)/\J 8 e'=AI AT (i:Int)/\i<=l.length/\((∀ x∈l,x=0)↔∀ x∈l.drop i,x=0))
  (Q:=fun x=>(∃ e',x=.exit 0 e' h/\∀ x∈l,x=0)\/(∃ e' i,x=.ret e' h/\J 4 e'=AI AT ((i:Nat):Int)/\∃ x∈l,x≠0)) l.length (by omega) (fun i e' h' ⟨hh,t0,t1,t7,t8,hi,hr⟩=>?_) ⟨rfl,s0,s1,s7,s8,zL _,by simp⟩
 subst hh;by_cases hlt:i<l.length
 ·obtain⟨a,g1,g2⟩:=JJ V hlt
  have hmem:l.getD i 0∈l:=by
   rw[yf,sh hlt];exact List.getElem_mem hlt
  rw[GS hlt]at hr;generalize l.getD i 0=c at g2 hr hmem;have c1:=E9 hlt;have k1:=XV (n:=n) (h:=h') (c:=c);by_cases hc:c=0
  ·left
   subst hc;have k1:call AC (n+1) 111 [.int .u8 ((0:Nat):Int)] h'=.ok (.bool false) h':=k1;have a3:=Cc (i:=i) (h:=h') (by omega);have hrun:∃ e2,ifB (call AC (n+1)) e' h'=.norm e2 h'/\J 0 e2=u/\J 1 e2=f86/\J 7 e2=AI AT (l.length:Int)/\J 8 e2=AI AT ((i+1:Nat):Int):=by
    unfold ifB;simp only[sT,By,BY,reduceIte,AK,AJ,t8,t7,c1,BB,t0,g1,AM,g2,Ca,t1,Cr,AV,A3,zU,yw,k1,BM,a3];exact⟨_,rfl,by simp[AG,t0,t1,t7]⟩
   obtain⟨e2,q1,q2,q3,q4,q5⟩:=hrun;refine⟨hlt,e2,h',q1,rfl,q2,q3,q4,q5,hlt,hr.trans ?_⟩;simp
  ·right
   have c2:iNe (c:Int) 0=true:=by rw[He];simpa using hc
   rw[c2]at k1;have hrun:∃ e2,ifB (call AC (n+1)) e' h'=.ret e2 h'/\J 4 e2=AI AT (i:Int):=by
    unfold ifB;simp only[sT,By,BY,reduceIte,AK,AJ,t8,t7,c1,BB,t0,g1,AM,g2,Ca,t1,Cr,AV,A3,zU,yw,k1];exact⟨_,rfl,by simp[AG]⟩
   obtain⟨e2,q1,q2⟩:=hrun;rw[q1];exact⟨rfl,.inr ⟨e2,i,rfl,q2,c,hmem,hc⟩⟩
 ·right
  have c1:=DJ (show l.length<=i by omega);have hrun:∃ e2,ifB (call AC (n+1)) e' h'=.exit 0 e2 h':=by
   unfold ifB;simp only[sT,By,BY,reduceIte,AK,AJ,t8,t7,c1];exact⟨_,rfl⟩
  obtain⟨e2,q1⟩:=hrun;rw[q1];refine⟨rfl,.inl ⟨e2,rfl,hr.2 ?_⟩⟩;rw[List.drop_of_length_le (by omega)];intro x hx;cases hx
theorem Se{n:Nat}{h:Hp}{u:IN}{l:List Nat}(V:h.AF5 u (l.map bv))(hl:l.length<=900000):∃ r:Bool,call AC (n+3) 110 [u,f86] h=.ok (.bool r) h/\(r=true↔∃ x∈l,x≠0):=by
 have Vl:=V.bl h;have pre:∃ e1,Nt (call AC (n+1)) (AS e0 0 [u,f86]) h=ifS (call AC (n+1)) e1 h/\J 0 e1=u/\J 1 e1=f86/\J 7 e1=AI AT (l.length:Int)/\J 8 e1=AI AT ((0:Nat):Int):=by
  unfold Nt;simp only[iN,IS,sT,By,BY,reduceIte,Ah,Vl];exact⟨_,rfl,by simp[AG]⟩
 obtain⟨e1,p1,p2,p3,p4,p5⟩:=pre;rcases aN (n:=n) V hl p2 p3 p4 p5 with ⟨e2,q1,q2⟩|⟨e2,i,q1,q2,q3⟩
 ·have k1:call AC (n+2) 134 [u,f86] h=.ok (AI AT (-1)) h:=by
   rw[Ln rfl,Lo,p1,O7];simp only[BJ,Az,q1,BD,BA];unfold ifE;simp only[sT,By,BY,reduceIte,lV0]
  refine⟨false,?_,by simp;exact q2⟩;have c1:iGe (-1) 0=false:=E8 (by omega);rw[Lm rfl];unfold Su;simp only[iN,IS,sT,By,BY,reduceIte,cA0,k1,AK,AJ,c1,lV0]
 ·have k1:call AC (n+2) 134 [u,f86] h=.ok (AI AT (i:Int)) h:=by
   rw[Ln rfl,Lo,p1,O7];simp only[BJ,Az,q1,CQ,DC,lV0,q2]
  refine⟨true,?_,by simp only[true_iff];exact q3⟩;have c1:iGe (i:Int) 0=true:=F7 (by omega);rw[Lm rfl];unfold Su;simp only[iN,IS,sT,By,BY,reduceIte,cA0,k1,AK,AJ,c1,lV0]
def K0:Kt:=⟨0,0,0,0,[],0,.slice none 0 0⟩
theorem dO:Dn.zero=AZ K0:=by kernel_rfl
theorem FF:Bt .mt 0 (AZ K0)=some CU:=by kernel_rfl
section
variable {F:AFi}{e:Env}{h g:Hp}{T M:List Nat}{c0 bad m:Nat}{arm:Int}{lv fv:IN}{ov:Bool}
theorem El{h:Hp}{t u v w:IN}{l:List IN}:GT 3 (.tuple ⟨t::u::v::w::l⟩) h=.ok w h:=rfl
theorem KV:BK Dn.zero [] F e h=.ok (ktV K0) h:=by
 rw[CS,Bs,dO];rfl
theorem UP{a b c:Int}{s p:Nat}{u:IN}{l:List Nat}{g1 g2:O}(h1:g1 e=Bu a b c s u)(h2:g2 e=AI AT (p:Int)):BK Dn.zero [(0,5,g1),(5,1,g2)] F e h=.ok (ktV ⟨a,b,c,s,l,p,u⟩) h:=by
 rw[CS,dO,Af (hk:=by rw[h1];rfl),h1,Af (hk:=by rw[h2];rfl),h2,
  if_pos (show(cellsOf (Bu a b c s u)).length=5 from rfl),if_pos (show 0+5<=(AZ K0).length by show 5<=6;omega),if_pos (show(cellsOf (AI AT (p:Int))).length=1 from rfl),if_pos (show 5+1<=(over (AZ K0) 0 (cellsOf (Bu a b c s u))).length by show 6<=6;omega),Bs]
 rfl
theorem K7(W0:h.Wf)(x:h.Ext g){r:Nat}(hr:h.next<=r){L:List IN}(R:g.Row r 0 L)(hL:L.length=6){k:Kt}(hu:oneCell k.u=true):
  AFr 6 (pt r) (ktV k) g=.ok AFl (g.wr r 0 (AZ k))/\loadN 6 ⟨r,0,none⟩ (g.wr r 0 (AZ k))=.ok (ktV k) (g.wr r 0 (AZ k))/\h.Ext (g.wr r 0 (AZ k))/\(g.wr r 0 (AZ k)).Row r 0 (AZ k)/\(g.wr r 0 (AZ k)).next=g.next:=by
 have AFs:256<=r:=by have:=W0.big;omega
 have ho:0+(AZ k).length<=L.length:=by rw[hL];show 0+6<=6;omega
 have h1:Bc (AZ k)=true:=by
  show(bif oneCell k.u then true else false)=true;rw[hu];rfl
 have st:=R.AFr (n:=6) (off:=0) x.wf AFs (v:=ktV k) rfl ho h1;have wr:=R.AFu x.wf ho;rw[Fi (show L.length=(AZ k).length from hL)]at wr;exact⟨st,wr.loadN (off:=0) (n:=6) (by show 0+6<=6;omega),R.AGE x hr ho,wr,R.AGN ho⟩
def HF(T M:List Nat)(p:Nat)(ns:List Nat):Prop:=LY T (sec M (3*p)) ns/\at6 ns 4<=100/\CE T (dat M p (at6 ns 4))=at6 ns 5
theorem PI:lkB=X8:=rfl
theorem ql:d73=Xh:=rfl
theorem yP{e:Env}{h:Hp}{r4:Nat}{v:IN}{a b:Bool}{c:Int}(s4:J 4 e=pt r4)(s5:J 5 e=.bool a)(s6:J 6 e=.bool b)(s7:J 7 e=AI AT c)(hv:loadN 6 ⟨r4,0,none⟩ h=.ok v h):A4 [.cN (J 4) 6,.t (J 5),.t (J 6),.t (J 7)] (.ret e h)=.ok (.tuple ⟨[v,.bool a,.bool b,AI AT c]⟩) h:=by
 rw[BI,Kl (v:=v) (by rw[s4,Am];exact hv),s5,s6,s7]
def mc(T M:List Nat)(p:Nat)(h h':Hp)(r:R):Prop:=
 (∃ ns u,HF T M p ns/\r=.ok (.tuple ⟨[ktV ⟨at6 ns 1,at6 ns 2,at6 ns 3,at6 ns 0,dat M p (at6 ns 4),p,u⟩,.bool true,.bool false,AI AT 0]⟩) h'/\h'.BS (fun b=>h.next<=b) u ((dat M p (at6 ns 4)).map bv))\/
 ((¬ ∃ ns,HF T M p ns)/\∃ bad:Bool,r=.ok (.tuple ⟨[ktV K0,.bool false,.bool bad,AI AT 0]⟩) h'/\(bad=true↔(∃ x∈sec M (3*p),x≠0)\/∃ ns,LY T (sec M (3*p)) ns/\at6 ns 4<=100))
theorem Ge{T l a b:List Nat}(h1:LY T l a)(h2:LY T l b):a=b:=by
 obtain⟨x,q,a1,a2,a3,_⟩:=h1;obtain⟨y,r,b1,b2,b3,_⟩:=h2;rw[a1]at b1;cases b1;rw[a3]at b3;cases b3;rfl
theorem RO{T l ns:List Nat}(h:LY T l ns):jq ns:=by
 obtain⟨_,_,_,_,_,h4,_⟩:=h;exact jr.1 h4
theorem Vf(W:h.Wf){bs bd bm bc tb n:Nat}(R:h.Row bs 0 (slL bd tb lv fv bad ov))(Rt:h.Row tb 0 (T.map wv))(hT:AGc T)(d:Dk h bd bm bc n M c0 [] arm false){p:Nat}(hp:3*p+3<=n):
  ∃ h',h.Ext h'/\mc T M p h h' (call AC (m+5) 73 [pt bs,AI AT (p:Int)] h):=by
 have hn:=d.n1;have al:=fun (F:AFi) (e:Env)=>BW (F:=F) (e:=e) W (n:=6) (t:=CU)
 have R4:=Hp.Row.alloc W FF (show(AZ K0).length=6 from rfl);have x1:h.Ext (h.push (.cells CU 6 0)):=(Hp.Ext.refl W).push _;have n1:(h.push (.cells CU 6 0)).next=h.next+1:=rfl;generalize h.push (.cells CU 6 0)=h1 at al R4 x1 n1;have xm:=x1.marked;have Rm:=R.ext W xm;have old:∀ (off:Nat) (kk:C) (F:AFi) (e:Env),JA (.pointer (some ⟨bs,off,none⟩)) kk F e h1.marked=kk F e h1.marked:=fun off kk F e=>Dl (by
  show bs<h1.next;have:=R.lt W;omega)
 obtain⟨l0,_⟩:=BG Rm;have k1:=Nk (m:=m+2) (Rm.same (h':=h1.marked.quiet) rfl) (p:=p) (by omega);have q1:∀ e:Env,J 0 e=pt bs->J 1 e=AI AT (p:Int)->Ad .weak (AU 100 [J 0,J 1]) (call AC (m+4)) e h1.marked=.ok (AI AT ((p*3:Nat):Int)) (h1.marked.back h1.marked.quiet):=fun e e1 e2=>by
  refine Hv x1.wf.marked ?_ (IT _);rw[BR,AV,AV,A3,e1,e2];exact k1
 have y2:h1.Ext (h1.marked.back h1.marked.quiet):=Hp.Ext.AGo (Hp.Ext.refl x1.wf).marked (Hp.Ext.refl x1.wf).marked.quiet;have n2:(h1.marked.back h1.marked.quiet).next=h1.next:=rfl;generalize h1.marked.back h1.marked.quiet=h2 at q1 y2 n2;have x2:=x1.trans y2;obtain⟨h3,v,k2,y3,mk,n3,_⟩:=WA (m:=m+1) x2.quiet.wf ((d.ext W x2).same (h':=h2.quiet) rfl) (i:=p * 3) (by omega);have q2:∀ e:Env,J 19 e=pt bd->J 22 e=AI AT ((p * 3:Nat):Int)->Ad .free (AU 109 [J 19,J 22]) (call AC (m+4)) e h2=.ok (.tuple ⟨[v,AI AT 0]⟩) (h2.back h3):=fun e e1 e2=>by
  refine BO ?_;rw[BR,AV,AV,A3,e1,e2];exact k2
 have y4:h2.Ext (h2.back h3):=.back y3;have mk4:Mk (h2.back h3) h2.quiet.next v (sec M (p * 3)):=mk.same rfl;generalize h2.back h3=h4 at q2 y4 mk4;rw[AAP p 3]at mk4;have x4:=x2.trans y4;have c0':iNe 0 0=false:=CH rfl;have hsl:(sec M (3 * p)).length=64:=J2 d.len (by omega);have hsb:=tF d.byt (3 * p);obtain⟨r,k3,hr⟩:=Se (n:=m+1) mk4.vals (by omega);obtain⟨_,l1,_⟩:=BG (R.ext W x4);obtain⟨h5,y5,hpar⟩:=cB (n:=m) x4.wf (Rt.ext W x4) hT mk4.vals mk4.cap hsb (by omega);have x5:=x4.trans y5;have al2:=fun (F:AFi) (e:Env)=>BW (F:=F) (e:=e) x5.wf (n:=5) (t:=DP)
 have R11:=Hp.Row.alloc x5.wf FQ (show(A8 0 0 0 0 AFn).length=5 from rfl);have y6:h5.Ext (h5.push (.cells DP 5 0)):=(Hp.Ext.refl x5.wf).push _;have n6:(h5.push (.cells DP 5 0)).next=h5.next+1:=rfl;generalize h5.push (.cells DP 5 0)=h6 at al2 R11 y6 n6;have x6:=x5.trans y6;have hn5:=x5.next;have AMH:h.next+1<=h5.next:=by
  have:=((y2.trans y4).trans y5).next;omega
 have pre:∀ (a b c:Int) (s many sum:Nat) (ok:Bool),call AC (m+4) 112 [pt tb,v] h4=.ok (.tuple ⟨[Bu a b c s AFn,AI AT (many:Int),.int .u32 (sum:Int),.bool ok]⟩) h5->
   ∃ e1 h7,Xh (call AC (m+4)) (AS e0 0 [pt bs,AI AT (p:Int)]) h=lkB (call AC (m+4)) e1 h7/\h.Ext h7/\h7.Row h5.next 0 (A8 a b c s AFn)/\h7.Row h.next 0 (AZ K0)/\h5.next<h7.next/\J 0 e1=pt bs/\J 1 e1=AI AT (p:Int)/\J 4 e1=pt h.next/\J 10 e1=.bool (!r)/\J 11 e1=pt h5.next/\J 12 e1=AI AT (many:Int)/\J 13 e1=.int .u32 (sum:Int)/\J 14 e1=.bool ok:=fun a b c s many sum ok hk=>by
  obtain⟨st,_,x7,R7,n7⟩:=Lh x5.wf y6 (IT _) R11 rfl (a:=a) (b:=b) (c:=c) (s:=s) (u:=AFn) rfl;have R4':(h6.wr h5.next 0 (A8 a b c s AFn)).Row h.next 0 (AZ K0):=((R4.ext x1.wf ((y2.trans y4).trans y5)).ext x5.wf x7);generalize h6.wr h5.next 0 (A8 a b c s AFn)=h7 at st x7 R7 n7 R4';have hrun:∃ e1,Xh (call AC (m+4)) (AS e0 0 [pt bs,AI AT (p:Int)]) h=lkB (call AC (m+4)) e1 h7/\J 0 e1=pt bs/\J 1 e1=AI AT (p:Int)/\J 4 e1=pt h.next/\J 10 e1=.bool (!r)/\J 11 e1=pt h5.next/\J 12 e1=AI AT (many:Int)/\J 13 e1=.int .u32 (sum:Int)/\J 14 e1=.bool ok:=by
   unfold Xh;simp only[iN,IS,sT,By,BY,reduceIte,al,A1,Ax,Al,AH,AN,If,ED,old,DV,AM,AP,l0,q1,q2,A7,BC,BE,Cx,El,AK,AJ,c0',cA0,k3,Be,Bd,l1,hk,al2,AX,st];exact⟨_,rfl,by simp[AG]⟩
  obtain⟨e1,q⟩:=hrun;exact⟨e1,h7,q.1,x5.trans x7,R7,R4',by omega,q.2⟩
 have res:∀ (hx g:Hp) (e1 e2:Env) (a b:Bool) (v:IN),Xh (call AC (m+4)) (AS e0 0 [pt bs,AI AT (p:Int)]) h=lkB (call AC (m+4)) e1 hx->lkB (call AC (m+4)) e1 hx=.ret e2 g->J 4 e2=pt h.next->J 5 e2=.bool a->J 6 e2=.bool b->J 7 e2=AI AT 0->loadN 6 ⟨h.next,0,none⟩ g=.ok v g->
   call AC (m+5) 73 [pt bs,AI AT (p:Int)] h=.ok (.tuple ⟨[v,.bool a,.bool b,AI AT 0]⟩) g:=fun hx g e1 e2 a b v i1 i2 t4 t5 t6 t7 hv=>by
  rw[pr rfl,ql,i1,i2];exact yP t4 t5 t6 t7 hv
 have K0u:oneCell K0.u=true:=rfl;rcases hpar with ⟨ns,hP,hk⟩|⟨hP,hk⟩
 ·have AI5:=RO hP
  obtain⟨e1,h7,p1,x7,R7,R47,ALI,s0,s1,s4,s10,s11,s12,s13,s14⟩:=pre _ _ _ _ (at6 ns 4) (at6 ns 5) true hk;obtain⟨_,_,l2,_⟩:=BG (R.ext W x7);by_cases AHr:at6 ns 4<=100
  ·have c1:iGt (at6 ns 4:Int) 100=false:=Fa (by omega)
   obtain⟨h8,u,k4,y8,vs8⟩:=ZH (m:=m) x7.wf (R.ext W x7) (d.ext W x7) (p:=p) (k:=at6 ns 4) hp (by omega);have x8:=x7.trans y8;have R8:=R7.ext x7.wf y8;have u1:=vs8.vs.one;have ho4:4+(cellsOf u).length<=(A8 (at6 ns 1) (at6 ns 2) (at6 ns 3) (at6 ns 0) AFn).length:=by rw[u1.1];show 4+1<=5;omega
   have AFs:256<=h5.next:=by have:=W.big;omega
   have st8:AFr 1 (.pointer (some ⟨h5.next,4,none⟩)) u h8=.ok AFl (h8.wr h5.next 4 (cellsOf u)):=R8.AFr (n:=1) (off:=4) x8.wf AFs (by rw[u1.1];rfl) ho4 (by
    rw[u1.1];show(bif oneCell u then true else false)=true;rw[u1.2.1];rfl)
   have R9:=R8.AFu x8.wf ho4;have x9:=R8.AGE x8 (by omega) ho4;have n9:=R8.AGN ho4;have R49:=R8.AGr x8.wf ho4 (R47.ext x7.wf y8) (by omega);have hkeep:∀ b el L,b≠h5.next->h8.Row b el L->(h8.wr h5.next 4 (cellsOf u)).Row b el L:=fun b el L hb r=>R8.AGr x8.wf ho4 r hb
   have hov:over (A8 (at6 ns 1) (at6 ns 2) (at6 ns 3) (at6 ns 0) AFn) 4 (cellsOf u)=A8 (at6 ns 1) (at6 ns 2) (at6 ns 3) (at6 ns 0) u:=by rw[u1.1];rfl
   rw[hov]at R9;have vs9:(h8.wr h5.next 4 (cellsOf u)).BS (fun b=>h7.next<=b) u ((dat M p (at6 ns 4)).map bv):=vs8.keep fun b el L hb _ r=>hkeep b el L (by omega) r
   generalize h8.wr h5.next 4 (cellsOf u)=h9 at st8 R9 x9 n9 R49 vs9;have x9m:=x9.marked;have R9m:h9.marked.Row h5.next 0 (A8 (at6 ns 1) (at6 ns 2) (at6 ns 3) (at6 ns 0) u):=R9.same rfl;obtain⟨_,_,_,_,lu,_⟩:=Bz R9m;obtain⟨_,l1',_⟩:=BG (R.ext W x9m);have hdl:(dat M p (at6 ns 4)).length=at6 ns 4:=JR d.len (by omega);obtain⟨hq,k5,hq2⟩:=Tn (n:=m+3) (h:=h9.marked.quiet) ((Rt.ext W x9).same rfl) hT (vs9.vs.vals.same (h':=h9.marked.quiet) rfl) (Zu d.byt p _) (by omega);have yq:h9.marked.quiet.Ext hq:=by
    rcases hq2 with rfl|rfl
    ·exact Hp.Ext.refl x9m.quiet.wf
    ·exact(Hp.Ext.refl x9m.quiet.wf).marked
   have nq:hq.next=h9.next:=by rcases hq2 with rfl|rfl<;>rfl
   have q5:∀ e:Env,J 72 e=pt tb->J 74 e=u->Ad .free (AU 48 [J 72,J 74]) (call AC (m+4)) e h9.marked=.ok (.int .u32 ((CE T (dat M p (at6 ns 4)):Nat):Int)) (h9.marked.back hq):=fun e e1 e2=>by
    refine BO ?_;rw[BR,AV,AV,A3,e1,e2];exact k5
   have y10:h9.marked.Ext (h9.marked.back hq):=.back yq;have n10:(h9.marked.back hq).next=h9.next:=nq;generalize h9.marked.back hq=h10 at q5 y10 n10;have x10:=x9m.trans y10;have R10:=R9m.ext x9m.wf y10;have AJf:h10.Row h.next 0 (AZ K0):=(R49.same (h':=h9.marked) rfl).ext x9m.wf y10;have ALJ:h10.BS (fun b=>h7.next<=b) u ((dat M p (at6 ns 4)).map bv):=(vs9.same (h':=h9.marked) rfl).ext x9m.wf y10;obtain⟨_,_,_,_,_,ln⟩:=Bz R10;have AKS:at6 ns 0<=2:=AI5.1;by_cases AJg:CE T (dat M p (at6 ns 4))=at6 ns 5
   ·have c2:iNe ((CE T (dat M p (at6 ns 4)):Nat):Int) ((at6 ns 5:Nat):Int)=false:=CH (by rw[AJg])
    have bd1:∀ (F:AFi) (e:Env),J 79 e=Bu (at6 ns 1) (at6 ns 2) (at6 ns 3) (at6 ns 0) u->J 1 e=AI AT (p:Int)->BK Dn.zero [(0,5,J 79),(5,1,J 1)] F e h10=.ok (ktV ⟨at6 ns 1,at6 ns 2,at6 ns 3,at6 ns 0,dat M p (at6 ns 4),p,u⟩) h10:=fun F e e1 e2=>UP e1 e2
    obtain⟨w1,w2,w3,w4,w5⟩:=K7 W x10 (IT _) AJf rfl (k:=⟨at6 ns 1,at6 ns 2,at6 ns 3,at6 ns 0,dat M p (at6 ns 4),p,u⟩) u1.2.1;have ALK:∀ b el L,b≠h.next->h10.Row b el L->(h10.wr h.next 0 (AZ ⟨at6 ns 1,at6 ns 2,at6 ns 3,at6 ns 0,dat M p (at6 ns 4),p,u⟩)).Row b el L:=fun b el L hb r=>AJf.AGr x10.wf (by show 0+6<=6;omega) r hb
    have AKT:(h10.wr h.next 0 (AZ ⟨at6 ns 1,at6 ns 2,at6 ns 3,at6 ns 0,dat M p (at6 ns 4),p,u⟩)).BS (fun b=>h7.next<=b) u ((dat M p (at6 ns 4)).map bv):=ALJ.keep fun b el L hb _ r=>ALK b el L (by have:=x7.next;omega) r
    generalize h10.wr h.next 0 (AZ ⟨at6 ns 1,at6 ns 2,at6 ns 3,at6 ns 0,dat M p (at6 ns 4),p,u⟩)=h11 at w1 w2 w3 w4 w5 AKT;have hrun:∃ e2,lkB (call AC (m+4)) e1 h7=.ret e2 h11/\J 4 e2=pt h.next/\J 5 e2=.bool true/\J 6 e2=.bool false/\J 7 e2=AI AT 0:=by
     rw[PI];unfold X8 lkC;simp only[sT,By,BY,reduceIte,gD,Be,Bd,s14,ze,s12,s0,Ax,Al,AH,AN,If,AM,AP,l2,AK,AJ,c1,cA0,s1,k4,A7,BC,BE,s11,AX,st8,c0',A1,l1',lu,q5,s13,c2,Au,Am,ln,bd1,s4,w1];exact⟨_,rfl,by simp[AG,s4]⟩
    obtain⟨e2,i2,t4,t5,t6,t7⟩:=hrun;exact⟨h11,w3,.inl ⟨ns,u,⟨hP,AHr,AJg⟩,res h7 h11 e1 e2 true false _ p1 i2 t4 t5 t6 t7 w2,AKT.mono fun b hb=>Nat.le_trans x7.next hb⟩⟩
   ·have c2:iNe ((CE T (dat M p (at6 ns 4)):Nat):Int) ((at6 ns 5:Nat):Int)=true:=F8 (by omega)
    obtain⟨w1,w2,w3,w4,w5⟩:=K7 W x10 (IT _) AJf rfl (k:=K0) K0u;generalize h10.wr h.next 0 (AZ K0)=h11 at w1 w2 w3 w4 w5;have hrun:∃ e2,lkB (call AC (m+4)) e1 h7=.ret e2 h11/\J 4 e2=pt h.next/\J 5 e2=.bool false/\J 6 e2=.bool true/\J 7 e2=AI AT 0:=by
     rw[PI];unfold X8 lkC;simp only[sT,By,BY,reduceIte,gD,Be,Bd,s14,ze,s12,s0,Ax,Al,AH,AN,If,AM,AP,l2,AK,AJ,c1,cA0,s1,k4,A7,BC,BE,s11,AX,st8,c0',A1,l1',lu,q5,s13,c2,KV,s4,w1];exact⟨_,rfl,by simp[AG,s4]⟩
    obtain⟨e2,i2,t4,t5,t6,t7⟩:=hrun;refine⟨h11,w3,.inr ⟨?_,true,res h7 h11 e1 e2 false true _ p1 i2 t4 t5 t6 t7 w2,⟨fun _=>.inr ⟨ns,hP,AHr⟩,fun _=>rfl⟩⟩⟩;rintro⟨ns',a1,a2,a3⟩;obtain rfl:=Ge hP a1;exact AJg a3
  ·have c1:iGt (at6 ns 4:Int) 100=true:=GZ (by omega)
   obtain⟨w1,w2,w3,w4,w5⟩:=K7 W x7 (IT _) R47 rfl (k:=K0) K0u;generalize h7.wr h.next 0 (AZ K0)=h11 at w1 w2 w3 w4 w5;have hrun:∃ e2,lkB (call AC (m+4)) e1 h7=.ret e2 h11/\J 4 e2=pt h.next/\J 5 e2=.bool false/\J 6 e2=.bool r/\J 7 e2=AI AT 0:=by
    rw[PI];unfold X8;simp only[sT,By,BY,reduceIte,gD,Be,Bd,s14,ze,s12,s0,Ax,Al,AH,AN,If,AM,AP,l2,AK,AJ,c1,KV,s10,AE0,s4,AX,w1];exact⟨_,rfl,by simp[AG,s4]⟩
   obtain⟨e2,i2,t4,t5,t6,t7⟩:=hrun;refine⟨h11,w3,.inr ⟨?_,r,res h7 h11 e1 e2 false r _ p1 i2 t4 t5 t6 t7 w2,hr.trans ⟨.inl,?_⟩⟩⟩
   ·rintro⟨ns',a1,a2,a3⟩
    obtain rfl:=Ge hP a1;exact AHr a2
   ·rintro (h1|⟨ns',a1,a2⟩)
    ·exact h1
    ·obtain rfl:=Ge hP a1
     exact absurd a2 AHr
 ·obtain⟨e1,h7,p1,x7,R7,R47,ALI,s0,s1,s4,s10,s11,s12,s13,s14⟩:=pre 0 0 0 0 0 0 false hk
  obtain⟨w1,w2,w3,w4,w5⟩:=K7 W x7 (IT _) R47 rfl (k:=K0) K0u;generalize h7.wr h.next 0 (AZ K0)=h11 at w1 w2 w3 w4 w5;have hrun:∃ e2,lkB (call AC (m+4)) e1 h7=.ret e2 h11/\J 4 e2=pt h.next/\J 5 e2=.bool false/\J 6 e2=.bool r/\J 7 e2=AI AT 0:=by
   rw[PI];unfold X8;simp only[sT,By,BY,reduceIte,gD,Be,Bd,s14,zg,KV,s10,AE0,s4,AX,w1];exact⟨_,rfl,by simp[AG,s4]⟩
  obtain⟨e2,i2,t4,t5,t6,t7⟩:=hrun;refine⟨h11,w3,.inr ⟨fun⟨ns',a1,_⟩=>hP ⟨ns',a1⟩,r,res h7 h11 e1 e2 false r _ p1 i2 t4 t5 t6 t7 w2,hr.trans ⟨.inl,?_⟩⟩⟩;rintro (h1|⟨ns',a1,_⟩)
  ·exact h1
  ·exact absurd ⟨ns',a1⟩ hP
end
end
end Go.Proofs.YtbjadbhkogcfeaaGreat

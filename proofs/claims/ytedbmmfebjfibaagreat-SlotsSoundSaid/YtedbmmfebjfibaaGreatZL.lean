/-
  Part ZL of what Lawso stands on: printed by program, names and spaces cut.
-/
import Derived.Test.YtedbmmfebjfibaaGreatZK
set_option linter.unusedVariables false
set_option linter.unusedSimpArgs false
namespace Go.Proofs.YtedbmmfebjfibaaGreat
noncomputable section
open Go
set_option maxRecDepth 100000
section
variable {F:CallF}{e:Env}{h h':Hp}{S:Nat→Prop}{bd bm bc n c0:Nat}{M:List Nat}{cs:List (Nat×List Nat)}{arm:Int}{dn:Bool}
theorem fw{n:Nat}(hn:n≤9223372036854775807):FJ ⟨false,[.i .i64]⟩ (.int .i64 (n:Int))=true:=by
 show(match (match FD .i64 .i64 with|true=>Nat.ble n (Ax .i64)|false=>false)with|true=>true|false=>false)=true
 have h1:FD .i64 .i64=true:=rfl
 have h2:Nat.ble n (Ax .i64)=true:=Aq.2 hn
 simp only[h1,h2]
theorem nM{n m:Nat}(hm:m≤9223372036854775807):G8 ⟨false,[.i .i64]⟩ (.int .i64 (n:Int)) (.int .i64 (m:Int))=some (decide (n=m)):=by
 unfold G8
 rw[fw hm]
 show(match (match FD .i64 .i64 with|true=>some (iEq (n:Int) (m:Int))|false=>none)with|some true=>some true|some false=>some false|none=>none)=_
 have h1:FD .i64 .i64=true:=rfl
 simp only[h1,Dz]
 by_cases h:n=m
 ·subst h;simp
 ·have:((n:Int) == (m:Int))=false:=by rw[beq_eq_false_iff_ne];omega
  rw[this,decide_eq_false h]
theorem Px{k:Nat}{v:Value}:∀ (cs:List (Nat×List Nat)) (i:Nat),(∀ x∈cs,x.1≠k∧x.1≤65536)→MJ ⟨false,[.i .i64]⟩ (.int .i64 (k:Int)) v (entsS i cs)=some none
 |[],_,_=>rfl
 |x::l,i,hx=>by
  obtain⟨h1,h2⟩:=hx x List.mem_cons_self
  show(match G8 ⟨false,[.i .i64]⟩ (.int .i64 (k:Int)) (.int .i64 (x.1:Int))with|some true=>some (some ((⟨.int .i64 (k:Int),v,i⟩:Ent)::entsS (i+1) l))|some false=>(match MJ ⟨false,[.i .i64]⟩ (.int .i64 (k:Int)) v (entsS (i+1) l)with|some (some l')=>some (some ((⟨.int .i64 (x.1:Int),DR x.2,i⟩:Ent)::l'))|some none=>some none|none=>none)|none=>none)=some none
  rw[nM (by omega),decide_eq_false (fun h=>h1 h.symm)]
  simp only
  rw[Px l (i+1) fun y hy=>hx y (List.mem_cons_of_mem _ hy)]
theorem RN{k:Nat}{l:List Nat}:∀ (cs:List (Nat×List Nat)) (i:Nat),Sw ⟨.int .i64 (k:Int),DR l,i+cs.length⟩ (entsS i cs)=entsS i (cs++[(k,l)])
 |[],i=>rfl
 |x::cs,i=>by
  show(⟨.int .i64 (x.1:Int),DR x.2,i⟩:Ent)::Sw ⟨.int .i64 (k:Int),DR l,i+(cs.length+1)⟩ (entsS (i+1) cs)=_::entsS (i+1) (cs++[(k,l)])
  rw[← RN cs (i+1),Nat.add_assoc,Nat.add_comm 1]
theorem Sv:GH.zero=(List.replicate 64 0).map bv:=by
 have:GH.zero=BG ty5.zero 64:=by kernel_rfl
 rw[this,KU]
theorem QK:B6 .mt 0 ((List.replicate 64 0).map bv)=some En:=by kernel_rfl
theorem ZA(R:h.Row bm 0 (M.map bv))(hM:M.length=64 * n){i:Nat}(hi:i<n):loadN 64 ⟨bm,0+i * 64,none⟩ h=.ok (DR (sec M i)) h:=by
 rw[R.loadN (by rw[List.length_map];omega),← List.map_drop,← List.map_take,Nat.zero_add,Nat.mul_comm i 64];rfl
theorem Vu(d:Dk h bd bm bc n M c0 [] arm dn){z:Value}{x y:O}{i:Nat}(hx:x e=.map (some bc))(hy:y e=.int .i64 (i:Int))(hi:i<n):GS ⟨false,[.i .i64]⟩ z true x y F e h=.ok (.tuple ⟨[z,.bool false]⟩) h:=by
 have:=d.n1
 show Hh ⟨false,[.i .i64]⟩ z (x e) (y e) true h=_
 rw[hx,hy]
 have he:Be h bc=.ok [] (c0+0):=by unfold Be;rw[d.map];rfl
 unfold Hh
 rw[fw (by omega)]
 simp only[he,LA]
 unfold DS
 simp only[BA]
theorem TA{g:O}{r:Nat}(hg:g e=pt r):Ff 64 1 g none none none F e h=.ok (.slice (some ⟨r,0,none⟩) 64 64) h:=by
 show(match DW (g e)with|.ok a=>Dv e 64 64 none none none fun l hh m=>CB (some a) 1 l hh m h|.no=>.no)=_
 rw[hg];rfl
theorem Sj{m:Nat}(W:h.Wf)(d:Dk h bd bm bc n M c0 [] arm false){i:Nat}(hi:i<n):
  ∃ h' v,call AG (m+3) 84 [pt bd,.int .i64 (i:Int)] h=.ok (.tuple ⟨[v,.int .i64 0]⟩) h'∧h.Ext h'∧Mk h' h.next v (sec M i)∧h'.next=h.next+1∧h'.mark=h.mark∧h.low=h.low:=by
 have k1:=MA (m:=m) d hi
 obtain⟨l0,l1,_,_⟩:=Cs d.disk
 have c0':iNe 0 0=false:=Db rfl
 have lk:∀ e:Env,AB 19 e=.map (some bc)→AB 1 e=.int .i64 (i:Int)→GS ⟨false,[.i .i64]⟩ (.agg ⟨GH.zero⟩) true (AB 19) (AB 1) (call AG (m+2)) e h=.ok (.tuple ⟨[.agg ⟨GH.zero⟩,.bool false]⟩) h:=fun e h1 h2=>Vu d h1 h2 hi
 have al:=fun (F:CallF) (e:Env)=>Bt (F:=F) (e:=e) W (n:=64) (t:=En)
 have R1:=Hp.Row.alloc W QK (by rw[List.length_map,List.length_replicate])
 have x1:h.Ext (h.push (.cells En 64 0)):=(Hp.Ext.refl W).push _
 have n1:(h.push (.cells En 64 0)).next=h.next+1:=rfl
 have m1:(h.push (.cells En 64 0)).mark=h.mark:=rfl
 generalize h.push (.cells En 64 0)=h1 at al R1 x1 n1 m1
 have hz:((List.replicate 64 0).map bv).length=64:=by rw[List.length_map,List.length_replicate]
 have big:=W.big
 have st:storeR 64 (pt h.next) (.agg ⟨GH.zero⟩) h1=.ok noRes (h1.wr h.next 0 ((List.replicate 64 0).map bv)):=by
  rw[Sv]
  exact R1.storeR (n:=64) (off:=0) x1.wf big (v:=.agg ⟨(List.replicate 64 0).map bv⟩) hz (by show 0+((List.replicate 64 0).map bv).length≤_;omega) (DE _)
 have x2:=R1.wr_ext x1 (Nat.le_refl _) (off:=0) (vs:=(List.replicate 64 0).map bv) (by omega)
 have R2:=R1.wr_self x1.wf (off:=0) (vs:=(List.replicate 64 0).map bv) (by omega)
 rw[HI rfl]at R2
 have n2:(h1.wr h.next 0 ((List.replicate 64 0).map bv)).next=h.next+1:=(R1.wr_next (by omega)).trans n1
 have m2:(h1.wr h.next 0 ((List.replicate 64 0).map bv)).mark=h.mark:=by
  obtain⟨_,_,e,_⟩:=R1.wr_is (off:=0) (vs:=(List.replicate 64 0).map bv) (by omega)
  rw[e];exact m1
 generalize h1.wr h.next 0 ((List.replicate 64 0).map bv)=h2 at st x2 R2 n2 m2
 have d2:=d.ext W x2
 obtain⟨l0,_,_,_⟩:=Cs d2.disk
 have ix:Fa 64 (.slice (some ⟨bm,0,none⟩) n n) (.int .i64 (i:Int)) h2=.ok (.pointer (some ⟨bm,0+i * 64,none⟩)) h2:=D0 hi
 have ld:=ZA d2.med d2.len hi
 have hsl:=EZ d2.len hi
 have hsm:((sec M i).map bv).length=64:=by rw[List.length_map,hsl]
 have st2:storeR 64 (pt h.next) (DR (sec M i)) h2=.ok noRes (h2.wr h.next 0 ((sec M i).map bv)):=R2.storeR (n:=64) (off:=0) x2.wf big (v:=DR (sec M i)) hsm (by show 0+((sec M i).map bv).length≤_;omega) (DE _)
 have x3:=R2.wr_ext x2 (Nat.le_refl _) (off:=0) (vs:=(sec M i).map bv) (by omega)
 have R3:=R2.wr_self x2.wf (off:=0) (vs:=(sec M i).map bv) (by omega)
 rw[HI (by omega)]at R3
 have n3:(h2.wr h.next 0 ((sec M i).map bv)).next=h.next+1:=(R2.wr_next (by omega)).trans n2
 have m3:(h2.wr h.next 0 ((sec M i).map bv)).mark=h.mark:=by
  obtain⟨_,_,e,_⟩:=R2.wr_is (off:=0) (vs:=(sec M i).map bv) (by omega)
  rw[e];exact m2
 generalize h2.wr h.next 0 ((sec M i).map bv)=h3 at st2 x3 R3 n3 m3
 have ct:∀ e:Env,AB 7 e=pt h.next→Ff 64 1 (AB 7) none none none (call AG (m+2)) e h3=.ok (.slice (some ⟨h.next,0,none⟩) 64 64) h3:=fun e he=>TA he
 refine⟨h3,.slice (some ⟨h.next,0,none⟩) 64 64,?_,x3,⟨h.next,0,by rw[hsl],.inl rfl,R3,Nat.le_refl _⟩,n3,m3,rfl⟩
 obtain⟨_,l1,_,_⟩:=Cs d.disk
 rw[eZ rfl]
 unfold d84
 simp only[AJ,AK,Nat.succ_eq_add_one,Nat.zero_add,Nat.reduceAdd,sT,Nat.reduceLT,Nat.reduceEqDiff,if_true,if_false,reduceIte,Ab,AN,AX,k1,AS,AQ,c0',A4,Az,AM,AY,AV,Ac,Nat.zero_add,l1,lk,BM,BV,Ba,al,Av,st,CG,CF,Bool.not_false,l0,Bb,ix,BP,BF,ld,st2,ct,AP,DP]
 simp only[Nat.zero_add]at ld
 simp only[ld,sT,Nat.reduceLT,Nat.reduceEqDiff,if_true,if_false,reduceIte,Av,st2,ct,AP,DP]
theorem iK(W:h.Wf)(d:Dk h bd bm bc n M c0 cs arm dn){i:Nat}(hi:i<n)(hc:∀ x∈cs,x.1≠i∧x.1<n){l:List Nat}{g1 g2 g3:O}(h1:g1 e=.map (some bc))(h2:g2 e=.int .i64 (i:Int))(h3:g3 e=DR l):
  Er ⟨false,[.i .i64]⟩ g1 g2 g3 F e h=.ok noRes (h.put bc (.map (entsS c0 (cs++[(i,l)])) (Nat.succ (c0+cs.length))))∧Fx (fun b=>b=bc) h (h.put bc (.map (entsS c0 (cs++[(i,l)])) (Nat.succ (c0+cs.length))))∧Dk (h.put bc (.map (entsS c0 (cs++[(i,l)])) (Nat.succ (c0+cs.length)))) bd bm bc n M c0 (cs++[(i,l)]) arm dn:=by
 have hn:=d.n1
 have hlt:=(d.lt W).2.2
 have he:Be h bc=.ok (entsS c0 cs) (c0+cs.length):=by unfold Be;rw[d.map];rfl
 have fx:Fx (fun b=>b=bc) h (h.put bc (.map (entsS c0 (cs++[(i,l)])) (Nat.succ (c0+cs.length)))):=Fx.put (S:=fun b=>b=bc) W hlt rfl _
 refine⟨?_,fx,⟨fx.row W d.disk d.bdc,fx.row W d.med d.bmc,d.len,d.byt,?_,d.big,d.n1⟩⟩
 ·show forceV (g2 e) (fun key=>forceV (g3 e) fun v=>KY ⟨false,[.i .i64]⟩ (g1 e) key v h)=_
  rw[BA,BA,h1,h2,h3]
  unfold KY
  rw[fw (by omega)]
  simp only[he,Px cs c0 fun x hx=>⟨(hc x hx).1,by have:=(hc x hx).2;omega⟩,RN]
  rw[Dp W d.big.2.2 hlt];rfl
 ·rw[W.put_get hlt,if_pos rfl,List.length_append];rfl
theorem bV{g:O}{a:Addr}{c:Nat}(hg:g e=.slice (some a) 64 c):PI 64 g F e h=.ok (.pointer (some a)) h:=by
 show(match g e with|.slice (some a) l _=>bif Nat.ble 64 l then R.ok (.pointer (some a)) h else .no|_=>.no)=_
 rw[hg];rfl
theorem QJ{m:Nat}(W:h.Wf)(d:Dk h bd bm bc n M c0 cs arm false){k:Nat}(ha:CT arm (k+1)){i:Nat}(hi:i<n)(hc:∀ x∈cs,x.1≠i∧x.1<n){u:Value}{l:List Nat}(U:h.VS (fun b=>b≠bd) u (l.map bv))(hl:l.length=64):
  ∃ h',call AG (m+3) 75 [pt bd,.int .i64 (i:Int),u] h=.ok (.int .i64 0) h'∧Fx (fun b=>b=bd∨b=bc) h h'∧Dk h' bd bm bc n M c0 (cs++[(i,l)]) (Fq arm) false:=by
 have k1:=MA (m:=m) d hi
 have Ul:=U.vals.bl h
 rw[hl]at Ul
 obtain⟨h1,k2,f1,d1⟩:=Sf (m:=m+1) W d ha
 have U1:=U.fx W f1 (fun b h1 h2=>h1 h2)
 have c1:iNe 0 0=false:=Db rfl
 have c2:iNe ((64:Nat):Int) 64=false:=Db rfl
 rcases U1 with ⟨_,hx⟩|⟨b,off,c,el,L,hu,_,R1,ho,hL,_⟩
 ·have:=congrArg List.length hx
  rw[List.length_map,hl]at this;cases this
 rw[List.length_map,hl]at hu ho hL
 have d1m:=d1.same (h':=h1.marked) rfl
 obtain⟨_,l1,_,_⟩:=Cs d1m.disk
 have Rm:h1.marked.Row b el L:=R1.same rfl
 have ld:loadN 64 ⟨b,off,none⟩ h1.marked=.ok (DR l) h1.marked:=by rw[Rm.loadN ho,hL];rfl
 have ar:∀ (F:CallF) (e:Env),AB 2 e=u→PI 64 (AB 2) F e h1.marked=.ok (.pointer (some ⟨b,off,none⟩)) h1.marked:=fun F e he=>bV (he.trans hu)
 have up:=fun (F:CallF) (e:Env) (g1 g2 g3:O) (e1:g1 e=.map (some bc)) (e2:g2 e=.int .i64 (i:Int)) (e3:g3 e=DR l)=>iK (F:=F) f1.wf.marked.quiet (d1m.same (h':=h1.marked.quiet) rfl) hi hc e1 e2 e3
 obtain⟨_,f2,d2⟩:=up (call AG m) e0 (kV (.map (some bc))) (kV (.int .i64 (i:Int))) (kV (DR l)) rfl rfl rfl
 have up:=fun F e g1 g2 g3 e1 e2 e3=>(up F e g1 g2 g3 e1 e2 e3).1
 generalize h1.marked.quiet.put bc (.map (entsS c0 (cs++[(i,l)])) (Nat.succ (c0+cs.length)))=h2 at up f2 d2
 have u2:∀ (F:CallF) (e:Env),AB 26 e=.map (some bc)→AB 1 e=.int .i64 (i:Int)→AB 30 e=DR l→Ak .free (Er ⟨false,[.i .i64]⟩ (AB 26) (AB 1) (AB 30)) F e h1.marked=.ok noRes (h1.marked.back h2):=fun F e e1 e2 e3=>Bq (up F e _ _ _ e1 e2 e3)
 refine⟨h1.marked.back h2,?_,?_,d2.same rfl⟩
 ·rw[eT rfl]
  unfold d75
  simp only[AJ,AK,Nat.succ_eq_add_one,Nat.zero_add,Nat.reduceAdd,sT,Nat.reduceLT,Nat.reduceEqDiff,if_true,if_false,reduceIte,Ab,AN,AX,k1,AS,AQ,c1,Ay,Ul,c2,k2,BD,A4,Az,AM,AY,AV,Ac,Nat.zero_add,l1,ar,BP,BF,ld,u2,AP,Aa]
 ·exact(f1.mono fun i h=>.inl h).trans (((f2.mono fun i h=>.inr h).from (h:=h1.marked) rfl rfl).same (h2:=h1.marked.back h2) rfl rfl |>.from (h:=h1) rfl rfl)
theorem Wp{M:List Nat}{k x:Nat}(hk:k<M.length):over (M.map bv) k [bv x]=(M.set k x).map bv:=by
 unfold over
 rw[List.set_eq_take_append_cons_drop,if_pos hk,List.map_append,List.map_take,List.map_cons,List.map_drop,List.append_assoc];rfl
theorem Qt(R:h.Row bm 0 (M.map bv)){k:Nat}(hk:k<M.length):load1 ⟨bm,k,none⟩ h=.ok (.int .u8 ((M.getD k 0:Nat):Int)) h:=by
 rw[R.load1 (by rw[List.length_map];exact hk),List.getD_eq_getElem?_getD,List.getElem?_map,List.getD_eq_getElem?_getD,List.getElem?_eq_getElem hk];rfl
def GG(M:List Nat)(k t:Nat):List Nat:=M.set k (Nat.xor (M.getD k 0) t)
theorem XD{m:Nat}(W:h.Wf)(d:Dk h bd bm bc n M c0 cs arm dn){i j t:Nat}(hi:i<n)(hj:j<64)(ht:t<256):
  ∃ h',call AG (m+2) 14 [pt bd,.int .i64 (i:Int),.int .i64 (j:Int),.int .u8 (t:Int)] h=.ok (.int .i64 0) h'∧Fx (fun b=>b=bm) h h'∧Dk h' bd bm bc n (GG M (i * 64+j) t) c0 cs arm dn:=by
 have k1:=KJ (m:=m) d
 have dm:=d.same (h':=h.marked) rfl
 obtain⟨l0,_,_,_⟩:=Cs d.disk
 obtain⟨l0',_,_,_⟩:=Cs dm.disk
 have hk:i * 64+j<M.length:=by rw[d.len];omega
 have c1:iLt (i:Int) 0=false:=F6 (by omega)
 have c2:iGe (i:Int) (n:Int)=false:=FZ (by omega)
 have c3:iLt (j:Int) 0=false:=F6 (by omega)
 have c4:iGe (j:Int) 64=false:=FZ (by omega)
 have i1:Fa 64 (.slice (some ⟨bm,0,none⟩) n n) (.int .i64 (i:Int)) h.marked=.ok (.pointer (some ⟨bm,0+i * 64,none⟩)) h.marked:=D0 hi
 have i2:J5 64 1 (.pointer (some ⟨bm,i * 64,none⟩)) (.int .i64 (j:Int)) h.marked=.ok (.pointer (some ⟨bm,i * 64+j,none⟩)) h.marked:=by
  have:=KG (h:=h.marked) (n:=64) (es:=1) (b:=bm) (off:=i * 64) (i:=j) (k:=.i64) hj
  rwa [Nat.mul_one]at this
 rw[Nat.zero_add]at i1
 have ld:=Qt dm.med hk
 have hg:=Ep d.byt (i * 64+j)
 have x1:=m8 (h:=h.marked) hg ht
 have hx:=I9 hg ht
 have Rq:h.marked.quiet.Row bm 0 (M.map bv):=d.med.same rfl
 have hs:storeR 1 (.pointer (some ⟨bm,i * 64+j,none⟩)) (.int .u8 ((Nat.xor (M.getD (i * 64+j) 0) t:Nat):Int)) h.marked.quiet=.ok noRes (h.marked.quiet.wr bm (i * 64+j) [bv (Nat.xor (M.getD (i * 64+j) 0) t)]):=Rq.storeR (n:=1) W.marked.quiet d.big.2.1 (v:=bv (Nat.xor (M.getD (i * 64+j) 0) t)) rfl (by rw[List.length_map];exact hk) rfl
 have fx:=Fx.wr (S:=fun b=>b=bm) W.marked.quiet Rq (off:=i * 64+j) (vs:=[bv (Nat.xor (M.getD (i * 64+j) 0) t)]) (by rw[List.length_map];exact hk) rfl
 have r1:=Rq.wr_self W.marked.quiet (off:=i * 64+j) (vs:=[bv (Nat.xor (M.getD (i * 64+j) 0) t)]) (by rw[List.length_map];exact hk)
 have mp:=XZ W.marked.quiet Rq (off:=i * 64+j) (vs:=[bv (Nat.xor (M.getD (i * 64+j) 0) t)]) (by rw[List.length_map];exact hk) (show h.marked.quiet.bl.get bc=_ from d.map)
 rw[Wp hk]at r1
 generalize h.marked.quiet.wr bm (i * 64+j) [bv (Nat.xor (M.getD (i * 64+j) 0) t)]=g at hs fx r1 mp
 have d2:Dk g bd bm bc n (GG M (i * 64+j) t) c0 cs arm dn:=⟨fx.row W.marked.quiet (d.disk.same rfl) d.bdm,r1,by unfold GG;rw[List.length_set];exact d.len,fun x hx'=>by
  rcases List.mem_or_eq_of_mem_set hx' with h1|h1
  ·exact d.byt x h1
  ·rw[h1];exact hx,mp,d.big,d.n1⟩
 have q1:∀ (F:CallF) (e:Env),AB 43 e=.pointer (some ⟨bm,i * 64+j,none⟩)→AB 41 e=.int .u8 ((Nat.xor (M.getD (i * 64+j) 0) t:Nat):Int)→Ak .free (Ae 1 (AB 43) (AB 41)) F e h.marked=.ok noRes (h.marked.back g):=fun F e e1 e2=>by
  refine Bq ?_
  rw[Av,e1,e2];exact hs
 refine⟨h.marked.back g,?_,(fx.from (h:=h.marked) rfl rfl).same (h2:=h.marked.back g) rfl rfl |>.from (h:=h) rfl rfl,d2.same rfl⟩
 rw[da rfl]
 unfold d14
 simp only[AJ,AK,Nat.succ_eq_add_one,Nat.zero_add,Nat.reduceAdd,sT,Nat.reduceLT,Nat.reduceEqDiff,if_true,if_false,reduceIte,gD,Ab,AN,AX,k1,AS,AQ,c1,c2,c3,c4,BD,A4,Az,AM,AY,AV,Ac,l0,l0',Ay,E7,Bb,i1,CZ,i2,ld,SX,x1,q1,AP,Aa]
theorem Wx:∀ n:Nat,BG GH.zero n=(List.replicate (64 * n) 0).map bv
 |0=>rfl
 |n+1=>by
  show GH.zero++BG GH.zero n=_
  rw[Wx n,Sv,← List.map_append,List.replicate_append_replicate]
  congr 2;omega
theorem iS:aS.zero=[.slice none 0 0,.map none,.int .i64 0,.bool false]:=by kernel_rfl
theorem Yh{m:Nat}(W:h.Wf)(hn:1≤n∧n≤65536):
  ∃ h' bd bm bc,call AG (m+1) 35 [.int .i64 (n:Int)] h=.ok (.tuple ⟨[pt bd,.int .i64 0]⟩) h'∧h.Ext h'∧Dk h' bd bm bc n (List.replicate (64 * n) 0) 0 [] (-1) false∧h.next≤bd∧h.next≤bm∧h.next≤bc:=by
 have big:=W.big
 have c1:iLt (n:Int) 1=false:=F6 (by omega)
 have c2:iGt (n:Int) 65536=false:=Gk (by omega)
 have mk:∀ (F:CallF) (e:Env),AB 0 e=.int .i64 (n:Int)→GB 64 GH.zero (AB 0) (AB 0) F e h=.ok (.slice (some ⟨h.next,0,none⟩) n n) (h.pushRow 0 ((List.replicate (64 * n) 0).map bv)):=fun F e he=>by
  show O7 64 GH.zero (C8 (AB 0 e)) (C8 (AB 0 e)) h=_
  rw[he,DG]
  unfold O7
  simp only
  have e1:Nat.ble n n=true:=Aq.2 (Nat.le_refl _)
  have e2:Nat.ble (Nat.mul (Nat.succ n) (Nat.succ 64)) most=true:=Aq.2 (by show(n+1) * 65≤1099511627776;omega)
  rw[e1,e2,Wx]
  simp only[cond_true]
  rw[DH W];rfl
 have x1:=(Hp.Ext.refl W).pushRow 0 ((List.replicate (64 * n) 0).map bv)
 have R1:=Hp.Row.new W 0 ((List.replicate (64 * n) 0).map bv)
 have n1:(h.pushRow 0 ((List.replicate (64 * n) 0).map bv)).next=h.next+1:=rfl
 generalize h.pushRow 0 ((List.replicate (64 * n) 0).map bv)=h1 at mk x1 R1 n1
 have mp:∀ (F:CallF) (e:Env),To F e h1=.ok (.map (some h1.next)) (h1.push (.map [] 0)):=fun F e=>by
  unfold To
  rw[Cr x1.wf]
 have y2:h1.Ext (h1.push (.map [] 0)):=(Hp.Ext.refl x1.wf).push _
 have M2:(h1.push (.map [] 0)).bl.get h1.next=.map [] 0:=by rw[x1.wf.push_get,if_pos rfl]
 have n2:(h1.push (.map [] 0)).next=h1.next+1:=rfl
 generalize h1.push (.map [] 0)=h2 at mp y2 M2 n2
 have x2:=x1.trans y2
 have bl:∀ (F:CallF) (e:Env),AB 11 e=.slice (some ⟨h.next,0,none⟩) n n→AB 12 e=.map (some h1.next)→Bj aS.zero [(0,1,AB 11),(1,1,AB 12),(2,1,kV (.int .i64 (-1)))] F e h2=.ok (.agg ⟨dkL h.next h1.next n (-1) false⟩) h2:=fun F e e1 e2=>by
  rw[EO,iS,BC (hk:=by rw[e1];rfl),e1,BC (hk:=by rw[e2];rfl),e2,BC]
  simp only[show cellsOf (.slice (some ⟨h.next,0,none⟩) n n)=[.slice (some ⟨h.next,0,none⟩) n n]from rfl,show cellsOf (.map (some h1.next))=[.map (some h1.next)]from rfl,G6,EG,List.length_singleton,List.length_cons,List.length_nil,over,List.take,List.drop,List.append_eq,List.nil_append,List.cons_append,Nat.reduceAdd,Nat.reduceLeDiff,if_true,CV,reduceIte]
  rfl
 have bx:∀ (F:CallF) (e:Env),AB 13 e=.agg ⟨dkL h.next h1.next n (-1) false⟩→DL (AB 13) F e h2=.ok (pt h2.next) (h2.pushRow 0 (dkL h.next h1.next n (-1) false)):=fun F e he=>by
  rw[Fe,he,FR x2.wf];rfl
 have y3:=(Hp.Ext.refl x2.wf).pushRow 0 (dkL h.next h1.next n (-1) false)
 have R3:=Hp.Row.new x2.wf 0 (dkL h.next h1.next n (-1) false)
 generalize h2.pushRow 0 (dkL h.next h1.next n (-1) false)=h3 at bx y3 R3
 refine⟨h3,h2.next,h.next,h1.next,?_,x2.trans y3,⟨R3,(R1.ext x1.wf y2).ext x2.wf y3,List.length_replicate,fun x hx=>by rw[List.eq_of_mem_replicate hx];decide,?_,⟨by omega,by omega,by omega⟩,hn⟩,by omega,Nat.le_refl _,by omega⟩
 ·rw[dq rfl]
  unfold d35
  simp only[AJ,AK,Nat.succ_eq_add_one,Nat.zero_add,Nat.reduceAdd,sT,Nat.reduceLT,Nat.reduceEqDiff,if_true,if_false,reduceIte,gD,AS,AQ,c1,c2,mk,mp,bl,bx,AP,DP]
 ·rw[y3.get _ (by omega),M2];rfl
end
end
noncomputable section
open Go
set_option maxRecDepth 100000
theorem VT.ext:∀ (a b:VT),(∀ j,a.has j↔b.has j)→(∀ j,a.get j=b.get j)→a=b
 |.mt,.mt,_,_=>rfl
 |.mt,.nd v l r,h,_=>by
  have:=(h 0).2 (by unfold VT.has;trivial)
  unfold VT.has at this;exact this.elim
 |.nd v l r,.mt,h,_=>by
  have:=(h 0).1 (by unfold VT.has;trivial)
  unfold VT.has at this;exact this.elim
 |.nd v l r,.nd v' l' r',h,g=>by
  have e1:v=v':=g 0
  have lo:∀ j,(2 * j) % 2=0∧2 * j / 2=j:=fun j=>by omega
  have hi:∀ j,¬ (2 * j+1) % 2=0∧(2 * j+1) / 2=j:=fun j=>by omega
  have e2:l=l':=VT.ext l l' (fun j=>by
   have:=h (2 * j+1)
   rw[VT.has_succ,VT.has_succ,if_pos (lo j).1,if_pos (lo j).1,(lo j).2]at this;exact this) (fun j=>by
   have:=g (2 * j+1)
   rw[VT.get_nd_succ,VT.get_nd_succ,if_pos (lo j).1,if_pos (lo j).1,(lo j).2]at this;exact this)
  have e3:r=r':=VT.ext r r' (fun j=>by
   have:=h (2 * j+1+1)
   rw[VT.has_succ,VT.has_succ,if_neg (hi j).1,if_neg (hi j).1,(hi j).2]at this;exact this) (fun j=>by
   have:=g (2 * j+1+1)
   rw[VT.get_nd_succ,VT.get_nd_succ,if_neg (hi j).1,if_neg (hi j).1,(hi j).2]at this;exact this)
  rw[e1,e2,e3]
theorem VT.set_same:∀ (t:VT) (i:Nat) (x:Value) (t':VT),t.set i x=some t'→t.has i→∀ j,t'.has j→t.has j
 |.mt,i,x,t',_,h,_,_=>by unfold VT.has at h;exact h.elim
 |.nd v l r,0,x,t',hs,_,j,hj=>by
  have hs:some (VT.nd x l r)=some t':=hs
  cases hs
  cases j with
  |zero=>unfold VT.has;trivial
  |succ k=>rw[VT.has_succ]at hj ⊢;exact hj
 |.nd v l r,k+1,x,t',hs,h,j,hj=>by
  rw[VT.set_nd_succ]at hs
  rw[VT.has_succ]at h
  by_cases hk:k % 2=0
  ·rw[if_pos hk]at hs h
   cases hl:l.set (k / 2) x with
   |none=>rw[hl]at hs;cases hs
   |some l'=>
    rw[hl]at hs;cases hs
    cases j with
    |zero=>unfold VT.has;trivial
    |succ m=>
     rw[VT.has_succ]at hj ⊢
     by_cases hm:m % 2=0
     ·rw[if_pos hm]at hj ⊢;exact VT.set_same l _ x l' hl h _ hj
     ·rw[if_neg hm]at hj ⊢;exact hj
  ·rw[if_neg hk]at hs h
   cases hl:r.set (k / 2) x with
   |none=>rw[hl]at hs;cases hs
   |some l'=>
    rw[hl]at hs;cases hs
    cases j with
    |zero=>unfold VT.has;trivial
    |succ m=>
     rw[VT.has_succ]at hj ⊢
     by_cases hm:m % 2=0
     ·rw[if_pos hm]at hj ⊢;exact hj
     ·rw[if_neg hm]at hj ⊢;exact VT.set_same r _ x l' hl h _ hj
theorem Jy:∀ (vs:List Value) (t:VT) (i:Nat),(∀ j,j<i+vs.length→t.has j)→∃ t',B6 t i vs=some t'∧(∀ j,t'.has j↔t.has j)∧∀ j,t'.get j=if i≤j∧j<i+vs.length then vs.getD (j - i) noRes else t.get j
 |[],t,i,h=>⟨t,rfl,fun _=>Iff.rfl,fun j=>by rw[if_neg (by simp only[List.length_nil];omega)]⟩
 |v::vs,t,i,h=>by
  simp only[List.length_cons]at h
  have hh:∀ j,j<i→t.has j:=fun j hj=>h j (by omega)
  have hs:=VT.lay_is (x:=v) hh
  have h1:∀ j,(t.lay i v).has j↔t.has j:=fun j=>⟨VT.set_same t i v _ hs (h i (by omega)) j,fun hj=>VT.lay_has hh j (.inr hj)⟩
  obtain⟨t',a1,a2,a3⟩:=Jy vs (t.lay i v) (i+1) fun j hj=>(h1 j).2 (h j (by omega))
  refine⟨t',?_,fun j=>(a2 j).trans (h1 j),fun j=>?_⟩
  ·show(match t.set i v with|some t'=>B6 t' (Nat.succ i) vs|none=>none)=_
   rw[hs];exact a1
  ·rw[a3 j,VT.lay_get hh]
   simp only[List.length_cons]
   by_cases c1:i+1≤j∧j<i+1+vs.length
   ·rw[if_pos c1,if_pos (by omega),show j - i=(j - (i+1))+1 by omega];rfl
   ·rw[if_neg c1]
    by_cases c2:j=i
    ·rw[if_pos c2,if_pos (by omega),c2,Nat.sub_self];rfl
    ·rw[if_neg c2,if_neg (by omega)]
section
variable {F:CallF}{e:Env}{h r:Hp}{k:Walk}{body:C}{b:Nat}
theorem NG{b n0:Nat}{r h1:Hp}{tr:Rds}:TH b n0 r h1 tr=true↔VV b n0 r h1:=by
 unfold TH
 split
 ·rename_i h _;exact⟨fun _=>h,fun _=>rfl⟩
 ·rename_i h _;exact⟨fun e=>(by cases e),fun e=>absurd e h⟩
theorem N7{f:Ent→Bool}:∀ {l:List Ent},(∀ x∈l,f x=true)→N6 f l=true
 |[],_=>rfl
 |x::l,h=>by
  show(bif f x then N6 f l else false)=true
  rw[h x List.mem_cons_self,N7 fun y hy=>h y (List.mem_cons_of_mem _ hy)];rfl
theorem H8{fin:Hp→Rds→Bool}:∀ (n:Nat) (h:Hp) (tr:Rds),Jo k body F e b fin n h tr=true→∃ p,Qd k body F e b n h tr=some p∧fin p.1 p.2=true
 |0,h,tr,hx=>by cases hx
 |n+1,h,tr,hx=>by
  unfold Jo Md at hx
  unfold Qd Md
  cases hi:D4 (h.bl.get b)with
  |no=>rw[hi]at hx;cases hx
  |cur _ _ _=>rw[hi]at hx;cases hx
  |pick _ _ _ _=>rw[hi]at hx;cases hx
  |ok m since seen last=>
   rw[hi]at hx
   cases m with
   |none=>cases hx
   |some m=>
    simp only at hx ⊢
    cases he:Be h m with
    |no=>rw[he]at hx;cases hx
    |ok es c=>
     rw[he]at hx
     simp only at hx ⊢
     cases q1:Nat.beq c since with
     |false=>rw[q1]at hx;cases hx
     |true=>
      cases q2:Nat.beq c last with
      |false=>rw[q1,q2]at hx;cases hx
      |true=>
       cases q3:Et c 0 es with
       |false=>rw[q1,q2,q3]at hx;cases hx
       |true=>
        rw[q1,q2,q3]at hx
        simp only[cond_true]at hx ⊢
        cases hr:restE seen es with
        |nil=>rw[hr]at hx;exact⟨_,rfl,hx⟩
        |cons y l=>
         rw[hr]at hx
         have hy:=Kh hx y List.mem_cons_self
         simp only
         cases hst:M1 k body F e b m c seen h y with
         |none=>rw[hst]at hy;cases hy
         |some h1=>
          rw[hst]at hy
          exact H8 n h1 _ hy
theorem QX(W:h.Wf)(S:M9 k body F e h b r)(hn:h.next≤r.next):
  ∃ h',FV k body F e h b=.exit k.out (Env.set k.more (.bool false) (Cp e k.ws)) h'∧h'.Wf∧h'.next=r.next∧(∀ i,i<h.next→i≠b→h'.bl.get i=r.bl.get i)∧h'.mark=h.mark∧h'.low=min h.low r.low:=by
 obtain⟨p,hp,hend⟩:=H8 _ _ _ S.2
 obtain⟨q1,q2,q3,q4⟩:=NG.1 hend
 have hbig:=W.big
 unfold FV
 split
 case h_2=>rename_i hx _;exact absurd ⟨r,S⟩ hx
 rename_i hx _
 have S':=Classical.choose_spec hx
 generalize Classical.choose hx=r' at S'
 obtain⟨p',hp',hend'⟩:=H8 _ _ _ S'.2
 obtain rfl:p'=p:=by rw[hp]at hp';exact(Option.some.inj hp').symm
 obtain⟨t1,t2,t3,t4⟩:=NG.1 hend'
 refine⟨_,rfl,⟨?_,S'.1,fun i hi=>?_⟩,t1.symm.trans q1,fun i hi hib=>?_,rfl,(BK _ _).trans (by rw[t2,← q2])⟩
 ·show 256≤r'.next;omega
 ·have hi:r'.next≤i:=hi
  show r'.bl.get i=_
  rw[t4,if_pos (by omega)]
 ·show r'.bl.get i=_
  rw[t4,q4]
end
end
noncomputable section
open Go
set_option maxRecDepth 100000
def Iy(M:List Nat)(k:Nat)(l:List Nat):List Nat:=M.take (64 * k)++l++M.drop (64 * k+64)
def Fb:List Nat→List (Nat×List Nat)→List Nat
 |M,[]=>M
 |M,y::cs=>Fb (Iy M y.1 y.2) cs
def KeyU(cs:List (Nat×List Nat)):Prop:=∀ (i j:Nat) (y z:Nat×List Nat),cs[i]? =some y→cs[j]? =some z→y.1=z.1→i=j
def SecOk(n:Nat)(cs:List (Nat×List Nat)):Prop:=∀ y∈cs,y.1<n∧y.2.length=64∧∀ x∈y.2,x<256
theorem Dd{M l:List Nat}{n k:Nat}(hM:M.length=64 * n)(hk:k<n)(hl:l.length=64):(Iy M k l).length=64 * n:=by
 unfold Iy
 rw[List.length_append,List.length_append,List.length_take,List.length_drop];omega
theorem Z8{M l:List Nat}{k:Nat}(hM:∀ x∈M,x<256)(hl:∀ x∈l,x<256):∀ x∈Iy M k l,x<256:=fun x hx=>by
 rcases List.mem_append.1 hx with hx|hx
 ·rcases List.mem_append.1 hx with hx|hx
  ·exact hM x (List.mem_of_mem_take hx)
  ·exact hl x hx
 ·exact hM x (List.mem_of_mem_drop hx)
theorem Fh{M l:List Nat}{n k p:Nat}(hM:M.length=64 * n)(hk:k<n)(hl:l.length=64):(Iy M k l).getD p 0=if p / 64=k then l.getD (p % 64) 0 else M.getD p 0:=by
 unfold Iy
 have e1:(M.take (64 * k)).length=64 * k:=by rw[List.length_take];omega
 simp only[List.getD_eq_getElem?_getD]
 by_cases h:p / 64=k
 ·rw[if_pos h,List.append_assoc,List.getElem?_append_right (by omega),List.getElem?_append_left (by omega),e1,show p - 64 * k=p % 64 by omega]
 ·rw[if_neg h]
  rcases Nat.lt_or_ge p (64 * k)with hp|hp
  ·rw[List.append_assoc,List.getElem?_append_left (by omega),List.getElem?_take,if_pos hp]
  ·rw[List.getElem?_append_right (by rw[List.length_append];omega),List.getElem?_drop,List.length_append,e1,hl]
   congr 2;omega
theorem F7:∀ {cs:List (Nat×List Nat)} {M:List Nat} {n:Nat},M.length=64 * n→SecOk n cs→(Fb M cs).length=64 * n
 |[],_,_,h,_=>h
 |y::cs,M,n,h,hc=>F7 (cs:=cs) (Dd h (hc y List.mem_cons_self).1 (hc y List.mem_cons_self).2.1) fun z hz=>hc z (List.mem_cons_of_mem _ hz)
theorem Ow:∀ {cs:List (Nat×List Nat)} {M:List Nat} {n:Nat},(∀ x∈M,x<256)→SecOk n cs→∀ x∈Fb M cs,x<256
 |[],_,_,h,_=>h
 |y::cs,M,n,h,hc=>Ow (cs:=cs) (n:=n) (Z8 h (hc y List.mem_cons_self).2.2) fun z hz=>hc z (List.mem_cons_of_mem _ hz)
theorem KeyU.tail{y:Nat×List Nat}{cs:List (Nat×List Nat)}(h:KeyU (y::cs)):KeyU cs∧∀ z∈cs,z.1≠y.1:=⟨fun i j a b h1 h2 h3=>by
 have:=h (i+1) (j+1) a b (by rw[List.getElem?_cons_succ];exact h1) (by rw[List.getElem?_cons_succ];exact h2) h3
 omega,fun z hz e=>by
 obtain⟨i,hi⟩:=List.mem_iff_getElem?.1 hz
 have:=h (i+1) 0 z y (by rw[List.getElem?_cons_succ];exact hi) rfl e
 omega⟩
theorem JU:∀ {cs:List (Nat×List Nat)} {M:List Nat} {n p:Nat},M.length=64 * n→SecOk n cs→(∀ y∈cs,p / 64≠y.1)→(Fb M cs).getD p 0=M.getD p 0
 |[],_,_,_,_,_,_=>rfl
 |y::cs,M,n,p,h,hc,hp=>by
  obtain⟨c1,c2,c3⟩:=hc y List.mem_cons_self
  show(Fb (Iy M y.1 y.2) cs).getD p 0=_
  rw[JU (cs:=cs) (Dd h c1 c2) (fun z hz=>hc z (List.mem_cons_of_mem _ hz)) fun z hz=>hp z (List.mem_cons_of_mem _ hz),Fh h c1 c2,if_neg (hp y List.mem_cons_self)]
theorem Ov:∀ {cs:List (Nat×List Nat)} {M:List Nat} {n:Nat},M.length=64 * n→SecOk n cs→KeyU cs→∀ y∈cs,∀ q,q<64→(Fb M cs).getD (64 * y.1+q) 0=y.2.getD q 0
 |[],_,_,_,_,_,_,hy,_,_=>by cases hy
 |z::cs,M,n,h,hc,hK,y,hy,q,hq=>by
  obtain⟨c1,c2,c3⟩:=hc z List.mem_cons_self
  obtain⟨k1,k2⟩:=hK.tail
  show(Fb (Iy M z.1 z.2) cs).getD _ 0=_
  rcases List.mem_cons.1 hy with rfl|hy
  ·rw[JU (cs:=cs) (Dd h c1 c2) (fun z hz=>hc z (List.mem_cons_of_mem _ hz)) (fun z hz=>by have:=k2 z hz;omega),Fh h c1 c2,if_pos (by omega),show(64 * y.1+q) % 64=q by omega]
  ·exact Ov (Dd h c1 c2) (fun z hz=>hc z (List.mem_cons_of_mem _ hz)) k1 y hy q hq
def LaidT(T0:VT)(done:List (Nat×List Nat))(T:VT):Prop:=(∀ j,T.has j↔T0.has j)∧(∀ y∈done,∀ q,q<64→T.get (64 * y.1+q)=bv (y.2.getD q 0))∧∀ p,(∀ y∈done,p / 64≠y.1)→T.get p=T0.get p
theorem LaidT.nil(T:VT):LaidT T [] T:=⟨fun _=>Iff.rfl,fun y hy=>(by cases hy),fun _ _=>rfl⟩
theorem LaidT.step{T0 T:VT}{done:List (Nat×List Nat)}{k s:Nat}{l:List Nat}(h:LaidT T0 done T)(hh:∀ j,j<s→T0.has j)(hk:64 * k+64≤s)(hl:l.length=64)(hd:∀ y∈done,y.1≠k):∃ T',B6 T (64 * k) (l.map bv)=some T'∧LaidT T0 (done++[(k,l)]) T':=by
 have hll:(l.map bv).length=64:=by rw[List.length_map,hl]
 obtain⟨T',a1,a2,a3⟩:=Jy (l.map bv) T (64 * k) fun j hj=>(h.1 j).2 (hh j (by omega))
 refine⟨T',a1,fun j=>(a2 j).trans (h.1 j),fun y hy q hq=>?_,fun p hp=>?_⟩
 ·rw[a3,hll]
  rcases List.mem_append.1 hy with hy|hy
  ·rw[if_neg (by have:=hd y hy;omega)]
   exact h.2.1 y hy q hq
  ·obtain rfl:=List.mem_singleton.1 hy
   have hq':64 * k+q - 64 * k=q:=by omega
   rw[if_pos ⟨Nat.le_add_right _ _,by show 64 * k+q<_;omega⟩]
   show(l.map bv).getD (64 * k+q - 64 * k) noRes=bv (l.getD q 0)
   rw[hq',List.getD_eq_getElem?_getD,List.getElem?_map,List.getD_eq_getElem?_getD,List.getElem?_eq_getElem (by omega)];rfl
 ·have:=hp (k,l) (List.mem_append_right _ (List.mem_singleton.2 rfl))
  rw[a3,hll,if_neg (by show ¬ _;have:p / 64≠k:=this;omega)]
  exact h.2.2 p fun y hy=>hp y (List.mem_append_left _ hy)
theorem LaidT.uniq{T0 T T':VT}{a b:List (Nat×List Nat)}(h:LaidT T0 a T)(h':LaidT T0 b T')(hm:∀ y,y∈a↔y∈b):T=T':=by
 refine VT.ext _ _ (fun j=>(h.1 j).trans (h'.1 j).symm) fun p=>?_
 by_cases hp:∃ y∈a,p / 64=y.1
 ·obtain⟨y,hy,he⟩:=hp
  have h1:=h.2.1 y hy (p % 64) (by omega)
  have h2:=h'.2.1 y ((hm y).1 hy) (p % 64) (by omega)
  rw[show 64 * y.1+p % 64=p by omega]at h1 h2
  rw[h1,h2]
 ·rw[h.2.2 p fun y hy he=>hp ⟨y,hy,he⟩,h'.2.2 p fun y hy he=>hp ⟨y,(hm y).2 hy,he⟩]
theorem LaidT.all{T0:VT}{n:Nat}(hh:∀ j,j<64 * n→T0.has j):∀ (cs done:List (Nat×List Nat)) (T:VT),LaidT T0 done T→SecOk n cs→KeyU cs→(∀ y∈cs,∀ z∈done,z.1≠y.1)→∃ T',LaidT T0 (done++cs) T'
 |[],done,T,h,_,_,_=>⟨T,by rw[List.append_nil];exact h⟩
 |y::cs,done,T,h,hc,hK,hd=>by
  obtain⟨c1,c2,c3⟩:=hc y List.mem_cons_self
  obtain⟨k1,k2⟩:=hK.tail
  obtain⟨T1,_,h1⟩:=h.step hh (k:=y.1) (l:=y.2) (by omega) c2 (hd y List.mem_cons_self)
  obtain⟨T2,h2⟩:=LaidT.all hh cs (done++[(y.1,y.2)]) T1 h1 (fun z hz=>hc z (List.mem_cons_of_mem _ hz)) k1 fun z hz w hw=>by
   rcases List.mem_append.1 hw with hw|hw
   ·exact hd z (List.mem_cons_of_mem _ hz) w hw
   ·obtain rfl:=List.mem_singleton.1 hw
    exact fun e=>k2 z hz e.symm
  exact⟨T2,by rw[List.append_assoc]at h2;exact h2⟩
theorem LaidT.is{T0 T:VT}{M:List Nat}{n:Nat}{cs:List (Nat×List Nat)}(h:LaidT T0 cs T)(hT:T0.Is (M.map bv))(hM:M.length=64 * n)(hc:SecOk n cs)(hK:KeyU cs):T.Is ((Fb M cs).map bv):=fun p hp=>by
 rw[List.length_map,F7 hM hc]at hp
 have hp0:=hT p (by rw[List.length_map];omega)
 refine⟨(h.1 p).2 hp0.1,?_⟩
 have e1:∀ L:List Nat,p<L.length→(L.map bv).getD p noRes=bv (L.getD p 0):=fun L hL=>by
  rw[List.getD_eq_getElem?_getD,List.getElem?_map,List.getD_eq_getElem?_getD,List.getElem?_eq_getElem hL];rfl
 rw[e1 _ (by rw[F7 hM hc];exact hp)]
 by_cases hq:∃ y∈cs,p / 64=y.1
 ·obtain⟨y,hy,he⟩:=hq
  have h1:=h.2.1 y hy (p % 64) (by omega)
  have h2:=Ov hM hc hK y hy (p % 64) (by omega)
  rw[show 64 * y.1+p % 64=p by omega]at h1 h2
  rw[h1,h2]
 ·rw[h.2.2 p fun y hy he=>hq ⟨y,hy,he⟩,JU hM hc fun y hy he=>hq ⟨y,hy,he⟩,hp0.2,e1 _ (by omega)]
theorem K8:∀ (cs:List (Nat×List Nat)) (c:Nat),(entsS c cs).length=cs.length
 |[],_=>rfl
 |x::cs,c=>by show(entsS (c+1) cs).length+1=_;rw[K8 cs];rfl
theorem OU:∀ {cs:List (Nat×List Nat)} {c:Nat} {x:Ent},x∈entsS c cs→∃ (i:Nat) (y:Nat×List Nat),cs[i]? =some y∧x=⟨.int .i64 (y.1:Int),DR y.2,c+i⟩
 |[],_,_,h=>by cases h
 |y::cs,c,x,h=>by
  rcases List.mem_cons.1 h with h|h
  ·exact⟨0,y,rfl,h⟩
  ·obtain⟨i,z,h1,h2⟩:=OU h
   exact⟨i+1,z,by rw[List.getElem?_cons_succ];exact h1,by rw[h2,Nat.add_assoc,Nat.add_comm 1]⟩
theorem Ha:∀ {cs:List (Nat×List Nat)} {c i:Nat} {y:Nat×List Nat},cs[i]? =some y→F2 (c+i) (entsS c cs)=some ⟨.int .i64 (y.1:Int),DR y.2,c+i⟩
 |[],_,_,_,h=>by cases h
 |z::cs,c,0,y,h=>by
  have h:some z=some y:=h
  cases h
  show(bif Nat.beq c (c+0)then some (⟨.int .i64 (z.1:Int),DR z.2,c⟩:Ent)else F2 (c+0) (entsS (c+1) cs))=_
  rw[Nat.add_zero,Nat.beq_refl];rfl
 |z::cs,c,i+1,y,h=>by
  rw[List.getElem?_cons_succ]at h
  show(bif Nat.beq c (c+(i+1))then some (⟨.int .i64 (z.1:Int),DR z.2,c⟩:Ent)else F2 (c+(i+1)) (entsS (c+1) cs))=_
  have:Nat.beq c (c+(i+1))=false:=by
   cases e:Nat.beq c (c+(i+1))
   ·rfl
   ·have:=Au.1 e;omega
  rw[this,show c+(i+1)=c+1+i by omega]
  exact Ha h
theorem Jx:∀ {cs:List (Nat×List Nat)} {c lo clk:Nat},lo≤c→c+cs.length≤clk→Et clk lo (entsS c cs)=true
 |[],_,_,_,_,_=>rfl
 |x::cs,c,lo,clk,h1,h2=>by
  rw[List.length_cons]at h2
  show(bif Nat.ble lo c then(bif Nat.blt c clk then Et clk (Nat.succ c) (entsS (c+1) cs)else false)else false)=true
  rw[Aq.2 h1,BL.2 (by omega)]
  exact Jx (Nat.le_refl _) (by omega)
theorem Fd{n:Nat}:∀ {l:List Nat},FL n l=true↔n∈l
 |[]=>⟨fun h=>(by cases h),fun h=>(by cases h)⟩
 |x::l=>by
  show(bif Nat.beq x n then true else FL n l)=true↔_
  cases h:Nat.beq x n with
  |true=>exact⟨fun _=>by rw[Au.1 h];exact List.mem_cons_self,fun _=>rfl⟩
  |false=>
   refine Iff.trans (Fd (l:=l)) ⟨fun h1=>List.mem_cons_of_mem _ h1,fun h1=>?_⟩
   rcases List.mem_cons.1 h1 with h1|h1
   ·rw[h1,Nat.beq_refl]at h;cases h
   ·exact h1
theorem Lx{seen:List Nat}:∀ {es:List Ent} {x:Ent},x∈restE seen es→x∈es∧x.born∉seen
 |[],_,h=>by cases h
 |y::es,x,h=>by
  have h:x∈(bif FL y.born seen then restE seen es else y::restE seen es):=h
  cases hm:FL y.born seen with
  |true=>
   rw[hm]at h
   obtain⟨h1,h2⟩:=Lx (es:=es) h
   exact⟨List.mem_cons_of_mem _ h1,h2⟩
  |false=>
   rw[hm]at h
   rcases List.mem_cons.1 h with h|h
   ·subst h
    exact⟨List.mem_cons_self,fun h1=>by rw[Fd.2 h1]at hm;cases hm⟩
   ·obtain⟨h1,h2⟩:=Lx (es:=es) h
    exact⟨List.mem_cons_of_mem _ h1,h2⟩
theorem Mu{seen:List Nat}{s:Nat}:∀ {cs:List (Nat×List Nat)} {c:Nat},s<c→restE (seen++[s]) (entsS c cs)=restE seen (entsS c cs)
 |[],_,_=>rfl
 |x::cs,c,h=>by
  show(bif FL c (seen++[s])then restE (seen++[s]) (entsS (c+1) cs)else _::restE (seen++[s]) (entsS (c+1) cs))=(bif FL c seen then restE seen (entsS (c+1) cs)else _::restE seen (entsS (c+1) cs))
  rw[Mu (cs:=cs) (by omega)]
  have:FL c (seen++[s])=FL c seen:=by
   rw[Bool.eq_iff_iff,Fd,Fd,List.mem_append,List.mem_singleton]
   exact⟨fun h1=>h1.elim (fun h=>h) fun h1=>by omega,.inl⟩
  rw[this]
theorem Ps{seen:List Nat}{i:Nat}:∀ {cs:List (Nat×List Nat)} {c:Nat},i<cs.length→c+i∉seen→(restE (seen++[c+i]) (entsS c cs)).length+1=(restE seen (entsS c cs)).length
 |[],_,h,_=>by cases h
 |x::cs,c,h,hs=>by
  show(bif FL c (seen++[c+i])then restE (seen++[c+i]) (entsS (c+1) cs)else _::restE (seen++[c+i]) (entsS (c+1) cs)).length+1=(bif FL c seen then restE seen (entsS (c+1) cs)else _::restE seen (entsS (c+1) cs)).length
  cases i with
  |zero=>
   simp only[Nat.add_zero]at hs ⊢
   have h1:FL c seen=false:=by
    cases e:FL c seen
    ·rfl
    ·exact absurd (Fd.1 e) hs
   have h2:FL c (seen++[c])=true:=Fd.2 (List.mem_append_right _ (List.mem_singleton.2 rfl))
   rw[h1,h2,Mu (cs:=cs) (Nat.lt_succ_self c)];rfl
  |succ i=>
   have h1:FL c (seen++[c+(i+1)])=FL c seen:=by
    rw[Bool.eq_iff_iff,Fd,Fd,List.mem_append,List.mem_singleton]
    exact⟨fun h1=>h1.elim (fun h=>h) fun h1=>by omega,.inl⟩
   have e:c+(i+1)=c+1+i:=by omega
   rw[e]at hs h1 ⊢
   have ih:=Ps (seen:=seen) (i:=i) (cs:=cs) (c:=c+1) (by simp only[List.length_cons]at h;omega) hs
   rw[h1]
   cases FL c seen with
   |true=>exact ih
   |false=>exact congrArg (· +1) ih
theorem Jc:∀ (es:List Ent),restE [] es=es
 |[]=>rfl
 |x::es=>by
  show x::restE [] es=_
  rw[Jc es]
end
noncomputable section
open Go
set_option maxRecDepth 100000
def fB:C:=(AF (AC 22) (GC (AB 21))
(AF (AC 23) (AU 0 (AB 22))
(AW (AB 23)
(Ah 1 (AF (AC 24) (HG (AB 21))
(AF (AC 25) (AU 0 (AB 24))
(AF (AC 26) (AU 1 (AB 24))
(AF (AC 6) (A2 64 En)
(AF (AC 5) (AD (AB 25))
(cDo (Ae 64 (AB 6) (AB 26))
(Bm (AF (AC 28) (BJ (AB 0))
(AF (AC 29) (AH 0 (AB 28))
(AF (AC 30) (AL (AB 29))
(AF (AC 32) (BE 64 (AB 6))
(AF (AC 33) (Bp 64 (AB 30) (AB 5))
(cDo (Ak .free (Ae 64 (AB 33) (AB 32)))
Ai))))))))))))))
(Bc 0))))
def fW:C:=(Hy ⟨21,22,23,0,[22,23,24,25,26,6,5,27,28,29,30,31,32,33],[]⟩ (AF (AC 22) (GC (AB 21))
(AF (AC 23) (AU 0 (AB 22))
(AW (AB 23)
(Ah 1 (AF (AC 24) (HG (AB 21))
(AF (AC 25) (AU 0 (AB 24))
(AF (AC 26) (AU 1 (AB 24))
(AF (AC 6) (A2 64 En)
(AF (AC 5) (AD (AB 25))
(cDo (Ae 64 (AB 6) (AB 26))
(Bm (AF (AC 28) (BJ (AB 0))
(AF (AC 29) (AH 0 (AB 28))
(AF (AC 30) (AL (AB 29))
(AF (AC 32) (BE 64 (AB 6))
(AF (AC 33) (Bp 64 (AB 30) (AB 5))
(cDo (Ak .free (Ae 64 (AB 33) (AB 32)))
Ai))))))))))))))
(Bc 0)))))
def fK:Walk:=⟨21,22,23,0,[22,23,24,25,26,6,5,27,28,29,30,31,32,33],[]⟩
theorem bB:fW=Hy fK fB:=rfl
def fE:C:=(AF (AC 35) (BJ (AB 0))
(AF (AC 36) (AH 1 (AB 35))
(AF (AC 37) (AL (AB 36))
(cDo (EP (AB 37))
(AF (AC 2) (AD (kV (.int .i64 0)))
Aj)))))
theorem j0:fS=A5 (Ah 0 fW) fE:=rfl
theorem fa:d76=Yb:=rfl
section
variable {F:CallF}{e:Env}{h g g1:Hp}{it bd bm bc n k c0:Nat}{l:List Nat}{T:VT}{M:List Nat}{cs:List (Nat×List Nat)}{arm:Int}{dn:Bool}
theorem RG{q:Hp}{s el off:Nat}{vs:List Value}{T':VT}(W:q.Wf)(hT:q.bl.get bm=.cells T s el)(hset:B6 T off vs=some T')(ho:off+vs.length≤s)(h1:Bg vs=true)(h256:256≤bm)(hb:bm<q.next){K:Hp→R}:Cw ⟨bm,off,none⟩ vs q K=K (q.put bm (.cells T' s el)):=by
 have hr:rowOf q bm=.ok T s el:=by unfold rowOf;rw[hT];rfl
 unfold Cw
 simp only[hr,Nat.add_eq]
 rw[BW,Aq.2 ho,h1]
 simp only[cond_true,hset]
 rw[Dp W h256 hb]
theorem Oc(W1:g1.Wf)(s0:AB 0 e=pt bd)(s21:AB 21 e=pt it)
  (nx:∀ e,AB 21 e=pt it→GC (AB 21) F e g=.ok (.tuple ⟨[.bool true,.int .i64 (k:Int),DR l]⟩) g1)
  (en:∀ e,AB 21 e=pt it→HG (AB 21) F e g1=.ok (.tuple ⟨[.int .i64 (k:Int),DR l]⟩) g1)
  (D:g1.Row bd 0 (dkL bm bc n arm dn))(hT:g1.bl.get bm=.cells T (64 * n) 0){T':VT}(hs:B6 T (64 * k) (l.map bv)=some T')(hk:k<n)(hl:l.length=64)(h256:256≤bm)(hbm:bm<g1.next):
  ∃ e' g',fB F e g=.norm e' g'∧AB 0 e'=pt bd∧AB 21 e'=pt it∧g'.Wf∧g'.next=g1.next+1∧g'.bl.get bm=.cells T' (64 * n) 0∧(∀ i,i<g1.next→i≠bm→g'.bl.get i=g1.bl.get i)∧g'.low=min (min g1.low g1.next) bm∧g'.high=max (max g1.high g1.next) bm:=by
 have big:=W1.big
 have hll:(l.map bv).length=64:=by rw[List.length_map,hl]
 have al:=fun (F:CallF) (e:Env)=>Bt (F:=F) (e:=e) W1 (n:=64) (t:=En)
 have R1:=Hp.Row.alloc W1 QK (by rw[List.length_map,List.length_replicate])
 have x1:g1.Ext (g1.push (.cells En 64 0)):=(Hp.Ext.refl W1).push _
 have n1:(g1.push (.cells En 64 0)).next=g1.next+1:=rfl
 have lo1:(g1.push (.cells En 64 0)).low=g1.low:=rfl
 have hi1:(g1.push (.cells En 64 0)).high=g1.high:=rfl
 generalize g1.push (.cells En 64 0)=g2 at al R1 x1 n1 lo1 hi1
 have hz:((List.replicate 64 0).map bv).length=64:=by rw[List.length_map,List.length_replicate]
 have st:storeR 64 (pt g1.next) (DR l) g2=.ok noRes (g2.wr g1.next 0 (l.map bv)):=R1.storeR (n:=64) (off:=0) x1.wf big (v:=DR l) hll (by show 0+(l.map bv).length≤_;omega) (DE _)
 have x2:=R1.wr_ext x1 (Nat.le_refl _) (off:=0) (vs:=l.map bv) (by omega)
 have R2:=R1.wr_self x1.wf (off:=0) (vs:=l.map bv) (by omega)
 rw[HI (by omega)]at R2
 have n2:(g2.wr g1.next 0 (l.map bv)).next=g1.next+1:=(R1.wr_next (by omega)).trans n1
 obtain⟨_,_,ew,_⟩:=R1.wr_is (off:=0) (vs:=l.map bv) (by omega)
 have lo2:(g2.wr g1.next 0 (l.map bv)).low=min g1.low g1.next:=by
  rw[ew]
  show CC g2.low g1.next=_
  rw[BK,lo1]
 have hi2:(g2.wr g1.next 0 (l.map bv)).high=max g1.high g1.next:=by
  rw[ew]
  show Cq g2.high g1.next=_
  rw[B8,hi1]
 generalize g2.wr g1.next 0 (l.map bv)=g3 at st x2 R2 n2 lo2 hi2
 have D3:g3.marked.Row bd 0 (dkL bm bc n arm dn):=(D.ext W1 x2).same rfl
 obtain⟨l0,_,_,_⟩:=Cs D3
 have R3:g3.marked.Row g1.next 0 (l.map bv):=R2.same rfl
 have ld:loadN 64 ⟨g1.next,0,none⟩ g3.marked=.ok (DR l) g3.marked:=by
  rw[R3.loadN (by omega),List.drop_zero,List.take_of_length_le (by omega)];rfl
 have ix:Fa 64 (.slice (some ⟨bm,0,none⟩) n n) (.int .i64 (k:Int)) g3.marked=.ok (.pointer (some ⟨bm,0+k * 64,none⟩)) g3.marked:=D0 hk
 rw[Nat.zero_add,Nat.mul_comm]at ix
 have hTq:g3.marked.quiet.bl.get bm=.cells T (64 * n) 0:=by
  show g3.bl.get bm=_
  rw[x2.get bm hbm];exact hT
 have sq:storeR 64 (.pointer (some ⟨bm,64 * k,none⟩)) (DR l) g3.marked.quiet=.ok noRes (g3.marked.quiet.put bm (.cells T' (64 * n) 0)):=by
  show(bif Nat.beq (BI (l.map bv)) 64 then Cw ⟨bm,64 * k,none⟩ (l.map bv) g3.marked.quiet El else .no)=_
  rw[BW,Au.2 hll,cond_true,RG x2.wf.marked.quiet hTq hs (by omega) (DE _) h256 (by show bm<g3.next;omega)];rfl
 have q1:∀ (F:CallF) (e:Env),AB 33 e=.pointer (some ⟨bm,64 * k,none⟩)→AB 32 e=DR l→Ak .free (Ae 64 (AB 33) (AB 32)) F e g3.marked=.ok noRes (g3.marked.back (g3.marked.quiet.put bm (.cells T' (64 * n) 0))):=fun F e e1 e2=>by
  refine Bq ?_
  rw[Av,e1,e2];exact sq
 have pg:=x2.wf.marked.quiet.put_get (b:=bm) (show bm<g3.next by omega) (.cells T' (64 * n) 0)
 have pw:=x2.wf.marked.quiet.put (b:=bm) (show bm<g3.next by omega) (.cells T' (64 * n) 0)
 have hlow:(g3.marked.back (g3.marked.quiet.put bm (.cells T' (64 * n) 0))).low=min (min g1.low g1.next) bm:=by
  show CC g3.low (CC g3.next bm)=_
  rw[BK,BK,lo2,n2];omega
 have hhigh:(g3.marked.back (g3.marked.quiet.put bm (.cells T' (64 * n) 0))).high=max (max g1.high g1.next) bm:=by
  show Cq g3.high (Cq 0 bm)=_
  rw[B8,B8,hi2];omega
 have hrun:∃ e',fB F e g=.norm e' (g3.marked.back (g3.marked.quiet.put bm (.cells T' (64 * n) 0)))∧AB 0 e'=pt bd∧AB 21 e'=pt it:=by
  unfold fB
  have nx':=fun e he=>nx e he
  simp only[sT,Nat.reduceLT,Nat.reduceEqDiff,if_true,if_false,reduceIte,nx e s21,BM,BV,Ba,Cj,en,s21,al,Av,st,BD,A4,s0,Az,AM,AY,AV,Ac,l0,BP,BF,ld,Bb,ix,q1]
  exact⟨_,rfl,by simp only[AE,Nat.reduceLT,Nat.reduceEqDiff,if_true,if_false,reduceIte];exact s0,by simp only[AE,Nat.reduceLT,Nat.reduceEqDiff,if_true,if_false,reduceIte];exact s21⟩
 obtain⟨e',r1,r2,r3⟩:=hrun
 refine⟨e',_,r1,r2,r3,⟨pw.big,pw.has,pw.fresh⟩,by show g3.next=_;exact n2,?_,fun i hi hib=>?_,hlow,hhigh⟩
 ·show(g3.marked.quiet.put bm _).bl.get bm=_
  rw[pg,if_pos rfl]
 ·show(g3.marked.quiet.put bm _).bl.get i=_
  rw[pg,if_neg hib]
  exact x2.get i hi
end
end
noncomputable section
open Go
set_option maxRecDepth 100000
section
variable {F:CallF}{e:Env}{h g g1:Hp}{it bd bm bc n k c0:Nat}{l seen:List Nat}{T T0:VT}{M:List Nat}{cs:List (Nat×List Nat)}{arm:Int}{dn:Bool}
structure FlB (h:Hp)(it bd bm bc n c0:Nat)(cs:List (Nat×List Nat))(arm:Int)(dn:Bool)(T0:VT):Prop where
 wf:h.Wf
 nx:h.next=it+1
 itr:h.bl.get it=.iter (some bc) (c0+cs.length) [] (c0+cs.length)
 disk:h.Row bd 0 (dkL bm bc n arm dn)
 med:h.bl.get bm=.cells T0 (64 * n) 0
 has:∀ j,j<64 * n→T0.has j
 map:h.bl.get bc=.map (entsS c0 cs) (c0+cs.length)
 lt:bd<it∧bm<it∧bc<it
 ne:bd≠bm∧bc≠bm
 big:256≤bm∧256≤it
 sec:SecOk n cs
 key:KeyU cs
structure FlI (h:Hp)(it bm bc n c0:Nat)(cs:List (Nat×List Nat))(T0:VT)(seen:List Nat)(g:Hp):Prop where
 wf:g.Wf
 nx:g.next=h.next+seen.length
 lh:(seen=[]∧g.low=h.next∧g.high=0)∨(seen≠[]∧g.low=bm∧g.high+1=h.next+seen.length)
 itr:g.bl.get it=.iter (some bc) (c0+cs.length) seen (c0+cs.length)
 old:∀ i,i<h.next→i≠it→i≠bm→g.bl.get i=h.bl.get i
 med:∃ (T:VT) (done:List (Nat×List Nat)),g.bl.get bm=.cells T (64 * n) 0∧LaidT T0 done T∧∀ y,y∈done↔∃ i:Nat,cs[i]? =some y∧c0+i∈seen
 cnt:seen.length+(restE seen (entsS c0 cs)).length=cs.length
theorem LP{s:Nat}:∀ l:List Nat,Ox (l++[s])=some s
 |[]=>rfl
 |[x]=>rfl
 |x::y::l=>LP (y::l)
theorem Pk(s:Nat):∀ l:List Nat,Ix s l=l++[s]
 |[]=>rfl
 |x::l=>congrArg (x:: ·) (Pk s l)
theorem Lz{h g:Hp}{b el:Nat}{L:List Value}(r:h.Row b el L)(hb:g.bl.get b=h.bl.get b):g.Row b el L:=by
 obtain⟨c,hc,hl⟩:=r
 exact⟨c,hb.trans hc,hl⟩
theorem WC{g:Hp}{it:Nat}{v:R}(hv:GA ⟨it,0,none⟩ g=v){e:Env}(he:AB 21 e=pt it):GC (AB 21) F e g=v:=by
 show(match DW (AB 21 e)with|.ok a=>bif Nat.beq a.off 0 then GA a g else .no|.no=>.no)=_
 rw[he];exact hv
theorem az{g:Hp}{it:Nat}{v:R}(hv:JO ⟨it,0,none⟩ g=v){e:Env}(he:AB 21 e=pt it):HG (AB 21) F e g=v:=by
 show(match DW (AB 21 e)with|.ok a=>bif Nat.beq a.off 0 then JO a g else .no|.no=>.no)=_
 rw[he];exact hv
theorem OT{g:Hp}{it i:Nat}{y:Nat×List Nat}(hi:cs[i]? =some y){s0:Nat}(hit:g.bl.get it=.iter (some bc) s0 (seen++[c0+i]) (c0+cs.length))(hm:g.bl.get bc=.map (entsS c0 cs) (c0+cs.length)):JO ⟨it,0,none⟩ g=.ok (.tuple ⟨[.int .i64 (y.1:Int),DR y.2]⟩) g:=by
 have hib:D4 (g.bl.get it)=.ok (some bc) s0 (seen++[c0+i]) (c0+cs.length):=by rw[hit];rfl
 have he:Be g bc=.ok (entsS c0 cs) (c0+cs.length):=by unfold Be;rw[hm];rfl
 unfold JO
 simp only[hib,LP]
 unfold HZ
 simp only[he,Nat.beq_refl,cond_true,Ha hi]
theorem RW:AB 0 (Cp e fK.ws)=AB 0 e∧AB 21 (Cp e fK.ws)=AB 21 e:=by
 constructor
 ·simp[fK,Cp,AE]
 ·simp[fK,Cp,AE]
theorem Yp(B:FlB h it bd bm bc n c0 cs arm dn T0)(I:FlI h it bm bc n c0 cs T0 seen g)(s0:AB 0 e=pt bd)(s21:AB 21 e=pt it){x:Ent}(hx:x∈restE seen (entsS c0 cs)):
  ∃ h1,M1 fK fB F e it bc (c0+cs.length) seen g x=some h1∧FlI h it bm bc n c0 cs T0 (seen++[x.born]) h1:=by
 obtain⟨hx1,hns⟩:=Lx hx
 obtain⟨i,y,hi,rfl⟩:=OU hx1
 have hns:c0+i∉seen:=hns
 obtain⟨y1,y2,y3⟩:=B.sec y (List.mem_of_getElem? hi)
 have hil:i<cs.length:=(List.getElem?_eq_some_iff.1 hi).1
 obtain⟨T,done,t1,t2,t3⟩:=I.med
 have hnd:∀ z∈done,z.1≠y.1:=fun z hz he=>by
  obtain⟨j,j1,j2⟩:=(t3 z).1 hz
  have:=B.key j i z y j1 hi he
  rw[this]at j2;exact hns j2
 obtain⟨T',hs,ht'⟩:=t2.step B.has (k:=y.1) (l:=y.2) (by omega) y2 hnd
 have hnx:=I.nx
 have hbn:=B.nx
 have hlt:=B.lt
 have hne:=B.ne
 have hbig:=B.big
 have hitn:it<g.next:=by omega
 have W0:=I.wf.put hitn (.pick bc (c0+i) (c0+cs.length) (some seen))
 have P0:=I.wf.put_get hitn (.pick bc (c0+i) (c0+cs.length) (some seen))
 have e1:g.bl.set it (.pick bc (c0+i) (c0+cs.length) (some seen))=some (g.bl.lay it (.pick bc (c0+i) (c0+cs.length) (some seen))):=BT.lay_is fun j hj=>I.wf.has j (by omega)
 have lo0:(g.put it (.pick bc (c0+i) (c0+cs.length) (some seen))).low=min g.low it:=BK _ _
 have hi0:(g.put it (.pick bc (c0+i) (c0+cs.length) (some seen))).high=max g.high it:=B8 _ _
 have n0:(g.put it (.pick bc (c0+i) (c0+cs.length) (some seen))).next=g.next:=rfl
 have eg:(⟨g.next,CC g.low it,Cq g.high it,g.mark,g.bl.lay it (.pick bc (c0+i) (c0+cs.length) (some seen))⟩:Hp)=g.put it (.pick bc (c0+i) (c0+cs.length) (some seen)):=rfl
 generalize g.put it (.pick bc (c0+i) (c0+cs.length) (some seen))=g0 at W0 P0 lo0 hi0 n0 eg
 have e2:g0.bl.set it (.iter (some bc) (c0+cs.length) (seen++[c0+i]) (c0+cs.length))=some (g0.bl.lay it (.iter (some bc) (c0+cs.length) (seen++[c0+i]) (c0+cs.length))):=BT.lay_is fun j hj=>W0.has j (by omega)
 have G2:∀ j,(g0.bl.lay it (.iter (some bc) (c0+cs.length) (seen++[c0+i]) (c0+cs.length))).get j=if j=it then .iter (some bc) (c0+cs.length) (seen++[c0+i]) (c0+cs.length)else g0.bl.get j:=BT.lay_get fun j hj=>W0.has j (by omega)
 have W2:(⟨g0.next,g0.low,g0.high,g0.mark,g0.bl.lay it (.iter (some bc) (c0+cs.length) (seen++[c0+i]) (c0+cs.length))⟩:Hp).Wf:=⟨W0.big,fun j hj=>BT.lay_has (fun j hj=>W0.has j (by omega)) j (.inr (W0.has j hj)),fun j hj=>by
  have hj:g0.next≤j:=hj
  show(g0.bl.lay _ _).get j=_
  rw[G2,if_neg (by omega)];exact W0.fresh j hj⟩
 have hmap0:g0.bl.get bc=.map (entsS c0 cs) (c0+cs.length):=by rw[P0,if_neg (by omega),I.old bc (by omega) (by omega) hne.2];exact B.map
 have nxv:GA ⟨it,0,none⟩ g0=.ok (.tuple ⟨[.bool true,.int .i64 (y.1:Int),DR y.2]⟩) ⟨g0.next,g0.low,g0.high,g0.mark,g0.bl.lay it (.iter (some bc) (c0+cs.length) (seen++[c0+i]) (c0+cs.length))⟩:=by
  have hib:D4 (g0.bl.get it)=.pick bc (c0+i) (c0+cs.length) (some seen):=by rw[P0,if_pos rfl];rfl
  have he:Be g0 bc=.ok (entsS c0 cs) (c0+cs.length):=by unfold Be;rw[hmap0];rfl
  have hp:Lp bc (c0+i) (c0+cs.length) (some seen)=.iter (some bc) (c0+cs.length) (seen++[c0+i]) (c0+cs.length):=by unfold Lp;simp only[Pk]
  unfold GA
  simp only[hib,he,Ha hi,hp,e2]
 have lo2:(⟨g0.next,g0.low,g0.high,g0.mark,g0.bl.lay it (.iter (some bc) (c0+cs.length) (seen++[c0+i]) (c0+cs.length))⟩:Hp).low=min g.low it:=lo0
 have hi2:(⟨g0.next,g0.low,g0.high,g0.mark,g0.bl.lay it (.iter (some bc) (c0+cs.length) (seen++[c0+i]) (c0+cs.length))⟩:Hp).high=max g.high it:=hi0
 have n2:(⟨g0.next,g0.low,g0.high,g0.mark,g0.bl.lay it (.iter (some bc) (c0+cs.length) (seen++[c0+i]) (c0+cs.length))⟩:Hp).next=g.next:=n0
 have G2:∀ j,(⟨g0.next,g0.low,g0.high,g0.mark,g0.bl.lay it (.iter (some bc) (c0+cs.length) (seen++[c0+i]) (c0+cs.length))⟩:Hp).bl.get j=if j=it then .iter (some bc) (c0+cs.length) (seen++[c0+i]) (c0+cs.length)else g0.bl.get j:=G2
 generalize (⟨g0.next,g0.low,g0.high,g0.mark,g0.bl.lay it (.iter (some bc) (c0+cs.length) (seen++[c0+i]) (c0+cs.length))⟩:Hp)=g2 at W2 nxv lo2 hi2 n2 G2
 have old2:∀ j,j≠it→g2.bl.get j=g.bl.get j:=fun j hj=>by rw[G2,if_neg hj,P0,if_neg hj]
 have env:=OT (g:=g2) hi (G2 it |>.trans (if_pos rfl)) (by rw[G2,if_neg (by omega)];exact hmap0)
 obtain⟨c1,c2⟩:=RW (e:=e)
 obtain⟨e',g',r1,r2,r3,r4,r5,r6,r7,r8,r9⟩:=Oc (F:=F) (e:=Cp e fK.ws) (g:=g0) (g1:=g2) (it:=it) (bd:=bd) (bm:=bm) (bc:=bc) (n:=n) (k:=y.1) (l:=y.2) (T:=T) (arm:=arm) (dn:=dn) W2 (c1.trans s0) (c2.trans s21)
  (fun e he=>WC nxv he) (fun e he=>az env he) (Lz B.disk (by rw[old2 bd (by omega),I.old bd (by omega) (by omega) hne.1])) (by rw[old2 bm (by omega)];exact t1) hs y1 y2 hbig.1 (by omega)
 refine⟨g',?_,⟨r4,?_,.inr ⟨by simp,?_,?_⟩,?_,fun j h1 h2 h3=>?_,⟨T',done++[(y.1,y.2)],r6,ht',fun z=>?_⟩,?_⟩⟩
 ·unfold M1
  show(match g.bl.set it (.pick bc (c0+i) (c0+cs.length) (some seen))with|some bl=>(match fB F (Cp e fK.ws) {next:=g.next,low:=CC g.low it,high:=Cq g.high it,mark:=g.mark,bl:=bl}with|.norm _ h1=>some h1|_=>none)|none=>none)=_
  rw[e1]
  simp only[eg,r1]
 ·rw[r5,n2,hnx,List.length_append];rfl
 ·rw[r8,lo2,n2]
  rcases I.lh with ⟨_,h2,_⟩|⟨_,h2,_⟩<;>omega
 ·rw[r9,hi2,n2,List.length_append]
  show _=h.next+(seen.length+1)
  rcases I.lh with ⟨_,_,h3⟩|⟨_,_,h3⟩<;>omega
 ·rw[r7 it (by omega) (by omega),G2,if_pos rfl]
 ·rw[r7 j (by omega) h3,old2 j h2];exact I.old j h1 h2 h3
 ·constructor
  ·intro hz
   rcases List.mem_append.1 hz with hz|hz
   ·obtain⟨j,j1,j2⟩:=(t3 z).1 hz
    exact⟨j,j1,List.mem_append_left _ j2⟩
   ·obtain rfl:=List.mem_singleton.1 hz
    exact⟨i,hi,List.mem_append_right _ (List.mem_singleton.2 rfl)⟩
  ·rintro⟨j,j1,j2⟩
   rcases List.mem_append.1 j2 with j2|j2
   ·exact List.mem_append_left _ ((t3 z).2 ⟨j,j1,j2⟩)
   ·have:c0+j=c0+i:=List.mem_singleton.1 j2
    have:j=i:=by omega
    rw[this,hi]at j1
    cases j1
    exact List.mem_append_right _ (List.mem_singleton.2 rfl)
 ·have:=Ps (seen:=seen) (cs:=cs) (c:=c0) hil hns
  have h2:=I.cnt
  show(seen++[c0+i]).length+(restE (seen++[c0+i]) (entsS c0 cs)).length=_
  rw[List.length_append,List.length_singleton]
  omega
def FlR(h:Hp)(it bm n:Nat)(cs:List (Nat×List Nat))(Tz:VT)(r:Hp):Prop:=r.next=h.next+cs.length∧r.low=bm∧r.high+1=h.next+cs.length∧∀ i,r.bl.get i=if i=it∨h.next≤i then .dead else if i=bm then .cells Tz (64 * n) 0 else h.bl.get i
theorem Ry{r:Hp}{Tz:VT}(B:FlB h it bd bm bc n c0 cs arm dn T0)(hz:LaidT T0 cs Tz)(hR:FlR h it bm n cs Tz r)(h0:cs≠[])(s0:AB 0 e=pt bd)(s21:AB 21 e=pt it):∀ (m:Nat) (seen:List Nat) (g:Hp) (tr:Rds),FlI h it bm bc n c0 cs T0 seen g→(restE seen (entsS c0 cs)).length<m→Jo fK fB F e it (TH it h.next r) m g tr=true
 |0,_,_,_,_,hm=>absurd hm (Nat.not_lt_zero _)
 |m+1,seen,g,tr,I,hm=>by
  have hib:D4 (g.bl.get it)=.ok (some bc) (c0+cs.length) seen (c0+cs.length):=by rw[I.itr];rfl
  have hlt:=B.lt
  have hbn:=B.nx
  have hnx:=I.nx
  have hmap:g.bl.get bc=.map (entsS c0 cs) (c0+cs.length):=by rw[I.old bc (by omega) (by omega) B.ne.2];exact B.map
  have he:Be g bc=.ok (entsS c0 cs) (c0+cs.length):=by unfold Be;rw[hmap];rfl
  unfold Jo Md
  simp only[hib,he,Nat.beq_refl,cond_true,Jx (Nat.zero_le c0) (Nat.le_refl (c0+cs.length))]
  cases hr:restE seen (entsS c0 cs)with
  |nil=>
   simp only
   have hc:=I.cnt
   rw[hr]at hc
   have hc:seen.length=cs.length:=hc
   have hlen:0<cs.length:=by
    cases cs with
    |nil=>exact absurd rfl h0
    |cons _ _=>exact Nat.succ_pos _
   obtain⟨T,done,t1,t2,t3⟩:=I.med
   have hT:T=Tz:=t2.uniq hz fun y=>by
    rw[t3 y]
    constructor
    ·rintro⟨i,hi,_⟩;exact List.mem_of_getElem? hi
    ·intro hy
     obtain⟨i,hi⟩:=List.mem_iff_getElem?.1 hy
     refine⟨i,hi,?_⟩
     apply Classical.byContradiction
     intro hn
     have h1:(⟨.int .i64 (y.1:Int),DR y.2,c0+i⟩:Ent)∈entsS c0 cs:=(JP (Ha hi)).1
     have:=Lw h1 hn
     rw[hr]at this;cases this
   obtain⟨q1,q2,q3,q4⟩:=hR
   rcases I.lh with ⟨h1,_,_⟩|⟨_,h2,h3⟩
   ·rw[h1]at hc
    have:0=cs.length:=hc
    omega
   refine NG.2 ⟨by rw[hnx,q1,hc],by rw[q2,BK,h2];omega,by rw[B8];omega,fun i=>?_⟩
   rw[q4]
   by_cases c1:i=it∨h.next≤i
   ·rw[if_pos c1,if_pos c1]
   ·rw[if_neg c1,if_neg c1]
    by_cases c2:i=bm
    ·rw[if_pos c2,c2,t1,hT]
    ·rw[if_neg c2,I.old i (by omega) (by omega) c2]
  |cons y l=>
   simp only
   rw[hr]at hm
   refine N7 fun x hx=>?_
   rw[← hr]at hx
   obtain⟨h1,e1,I1⟩:=Yp (F:=F) (e:=e) B I s0 s21 hx
   rw[e1]
   refine Ry B hz hR h0 s0 s21 m _ h1 _ I1 ?_
   have c1:=I1.cnt
   have c2:=I.cnt
   rw[hr]at c2
   rw[List.length_append,List.length_singleton]at c1
   simp only[List.length_cons]at c2 hm
   omega
end
end
noncomputable section
open Go
set_option maxRecDepth 100000
section
variable {F:CallF}{e:Env}{h g g1:Hp}{it bd bm bc n k c0:Nat}{l seen:List Nat}{T T0:VT}{M:List Nat}{cs:List (Nat×List Nat)}{arm:Int}{dn:Bool}
def Jw:Nat→Hp→Hp
 |0,h=>h
 |k+1,h=>Jw k (h.push .dead)
theorem Pj:∀ (k:Nat) {h:Hp} (W:h.Wf),(Jw k h).Wf∧(Jw k h).next=h.next+k∧∀ i,(Jw k h).bl.get i=h.bl.get i
 |0,h,W=>⟨W,rfl,fun _=>rfl⟩
 |k+1,h,W=>by
  obtain⟨a,b,c⟩:=Pj k (W.push .dead)
  refine⟨a,?_,fun i=>?_⟩
  ·show(Jw k (h.push .dead)).next=_
   rw[b]
   show h.next+1+k=_
   omega
  ·show(Jw k (h.push .dead)).bl.get i=_
   rw[c,W.push_get]
   by_cases hi:i=h.next
   ·rw[if_pos hi,W.fresh i (by omega)]
   ·rw[if_neg hi]
theorem fz(B:FlB h it bd bm bc n c0 cs arm dn T0)(h0:cs≠[])(Tz:VT):∃ r,FlR h it bm n cs Tz r∧∀ i,i<r.next→r.bl.has i:=by
 have hbn:=B.nx
 have hlt:=B.lt
 have W1:=B.wf.put (b:=it) (by omega) .dead
 have P1:=B.wf.put_get (b:=it) (by omega) .dead
 have W2:=W1.put (b:=bm) (show bm<h.next by omega) (.cells Tz (64 * n) 0)
 have P2:=W1.put_get (b:=bm) (show bm<h.next by omega) (.cells Tz (64 * n) 0)
 obtain⟨a,b,c⟩:=Pj cs.length W2
 have hlen:0<cs.length:=by
  cases cs with
  |nil=>exact absurd rfl h0
  |cons _ _=>exact Nat.succ_pos _
 refine⟨⟨h.next+cs.length,bm,h.next+cs.length - 1,0,(Jw cs.length ((h.put it .dead).put bm (.cells Tz (64 * n) 0))).bl⟩,⟨rfl,rfl,by show h.next+cs.length - 1+1=_;omega,fun i=>?_⟩,fun i hi=>a.has i (by rw[b];exact hi)⟩
 show(Jw cs.length ((h.put it .dead).put bm (.cells Tz (64 * n) 0))).bl.get i=_
 rw[c,P2,P1]
 by_cases c1:i=it
 ·rw[if_neg (by omega),if_pos c1,if_pos (.inl c1)]
 ·by_cases c2:h.next≤i
  ·rw[if_neg (by omega),if_neg c1,if_pos (.inr c2)]
   exact B.wf.fresh i c2
  ·rw[if_neg (by omega:¬ (i=it∨h.next≤i)),if_neg c1]
theorem Yo(B:FlB h it bd bm bc n c0 cs arm dn T0){y z:Nat×List Nat}{rs:List (Nat×List Nat)}(hcs:cs=y::z::rs)(h60:cs.length≤60)(s0:AB 0 e=pt bd)(s21:AB 21 e=pt it):
  ∃ e' h',fW F e h=.exit 0 e' h'∧AB 0 e'=pt bd∧h'.Wf∧h.next≤h'.next∧(∀ i,i<h.next→i≠it→i≠bm→h'.bl.get i=h.bl.get i)∧∃ T,h'.bl.get bm=.cells T (64 * n) 0∧LaidT T0 cs T∧∀ L,L≤h.low→L≤it→L≤bm→L≤h'.low:=by
 have hbn:=B.nx
 have hlt:=B.lt
 have hbig:=B.big
 have h0:cs≠[]:=by rw[hcs];exact fun h=>by cases h
 obtain⟨Tz,hz⟩:=LaidT.all B.has cs [] T0 (.nil T0) B.sec B.key fun y _ z hz=>by cases hz
 have hz:LaidT T0 cs Tz:=hz
 obtain⟨r,hR,hhas⟩:=fz B h0 Tz
 have W1:(⟨h.next,h.next,0,h.mark,h.bl⟩:Hp).Wf:=⟨B.wf.big,B.wf.has,B.wf.fresh⟩
 have I0:FlI h it bm bc n c0 cs T0 [] ⟨h.next,h.next,0,h.mark,h.bl⟩:=⟨W1,rfl,.inl ⟨rfl,rfl,rfl⟩,B.itr,fun _ _ _ _=>rfl,⟨T0,[],B.med,.nil T0,fun y=>⟨fun h=>(by cases h),fun⟨_,_,h⟩=>by cases h⟩⟩,by rw[Jc,K8];exact Nat.zero_add _⟩
 have S:M9 fK fB F e h it r:=⟨hhas,Ry B hz hR h0 s0 s21 64 [] _ [] I0 (by rw[Jc,K8];omega)⟩
 obtain⟨q1,q2,q3,q4⟩:=hR
 obtain⟨h',a1,a2,a3,a4,_,a6⟩:=QX B.wf S (by omega)
 have hib:D4 (h.bl.get it)=.ok (some bc) (c0+cs.length) [] (c0+cs.length):=by rw[B.itr];rfl
 have he:Be h bc=.ok (entsS c0 cs) (c0+cs.length):=by unfold Be;rw[B.map];rfl
 refine⟨Env.set 23 (.bool false) (Cp e fK.ws),h',?_,?_,a2,by rw[a3];omega,fun i h1 h2 h3=>?_,Tz,?_,hz,fun L h1 _ h3=>by rw[a6];omega⟩
 ·rw[bB]
  unfold Hy
  have s21':AB fK.it e=.pointer (some ⟨it,0,none⟩):=s21
  have es:entsS c0 cs=⟨.int .i64 (y.1:Int),DR y.2,c0⟩::⟨.int .i64 (z.1:Int),DR z.2,c0+1⟩::entsS (c0+1+1) rs:=by rw[hcs];rfl
  rw[es]at he
  have b2:Nat.ble 256 it=true:=Aq.2 hbig.2
  simp only[s21',hib,he,Nat.beq_refl,cond_true,b2]
  exact a1
 ·obtain⟨c1,_⟩:=RW (e:=e)
  rw[AE (by decide) (by decide),if_neg (by decide),c1];exact s0
 ·rw[a4 i h1 h2,q4,if_neg (by omega),if_neg h3]
 ·rw[a4 bm (by omega) (by omega),q4,if_neg (by omega),if_pos rfl]
theorem fy(B:FlB h it bd bm bc n c0 cs arm dn T0){y:Nat×List Nat}(hcs:cs=[y])(s0:AB 0 e=pt bd)(s21:AB 21 e=pt it):
  ∃ e' h',fW F e h=.exit 0 e' h'∧AB 0 e'=pt bd∧h'.Wf∧h.next≤h'.next∧(∀ i,i<h.next→i≠it→i≠bm→h'.bl.get i=h.bl.get i)∧∃ T,h'.bl.get bm=.cells T (64 * n) 0∧LaidT T0 cs T∧∀ L,L≤h.low→L≤it→L≤bm→L≤h'.low:=by
 have hbn:=B.nx
 have hlt:=B.lt
 have hbig:=B.big
 have hib:D4 (h.bl.get it)=.ok (some bc) (c0+cs.length) [] (c0+cs.length):=by rw[B.itr];rfl
 have he:Be h bc=.ok (entsS c0 cs) (c0+cs.length):=by unfold Be;rw[B.map];rfl
 have hi:cs[0]? =some y:=by rw[hcs];rfl
 obtain⟨y1,y2,y3⟩:=B.sec y (List.mem_of_getElem? hi)
 obtain⟨T',hs,ht'⟩:=(LaidT.nil T0).step B.has (k:=y.1) (l:=y.2) (by omega) y2 fun z hz=>by cases hz
 have es:entsS c0 cs=[⟨.int .i64 (y.1:Int),DR y.2,c0⟩]:=by rw[hcs];rfl
 have hl1:cs.length=1:=by rw[hcs];rfl
 have hlf:Ju (c0+cs.length) [] [⟨.int .i64 (y.1:Int),DR y.2,c0⟩]=some [⟨.int .i64 (y.1:Int),DR y.2,c0⟩]:=by
  show(bif Nat.blt c0 (c0+cs.length)then some [_]else none)=_
  rw[BL.2 (by omega)];rfl
 have W2:=B.wf.put (b:=it) (by omega) (.iter (some bc) (c0+cs.length) [c0] (c0+cs.length))
 have P2:=B.wf.put_get (b:=it) (by omega) (.iter (some bc) (c0+cs.length) [c0] (c0+cs.length))
 have nxv:GA ⟨it,0,none⟩ h=.ok (.tuple ⟨[.bool true,.int .i64 (y.1:Int),DR y.2]⟩) (h.put it (.iter (some bc) (c0+cs.length) [c0] (c0+cs.length))):=by
  unfold GA
  simp only[hib,he,es,hlf,cond_false]
  have:Ix c0 []=[c0]:=rfl
  rw[this,Dp B.wf hbig.2 (by omega)]
 have n2:(h.put it (.iter (some bc) (c0+cs.length) [c0] (c0+cs.length))).next=h.next:=rfl
 have lo2:(h.put it (.iter (some bc) (c0+cs.length) [c0] (c0+cs.length))).low=min h.low it:=BK _ _
 generalize h.put it (.iter (some bc) (c0+cs.length) [c0] (c0+cs.length))=g2 at W2 P2 nxv n2 lo2
 have old2:∀ j,j≠it→g2.bl.get j=h.bl.get j:=fun j hj=>by rw[P2,if_neg hj]
 have env:=OT (g:=g2) (seen:=[]) (c0:=c0) (i:=0) hi (by rw[P2,if_pos rfl];rfl) (by rw[old2 bc (by omega)];exact B.map)
 obtain⟨e',g',r1,r2,r3,r4,r5,r6,r7,r8,r9⟩:=Oc (F:=F) (e:=e) (g:=h) (g1:=g2) (it:=it) (bd:=bd) (bm:=bm) (bc:=bc) (n:=n) (k:=y.1) (l:=y.2) (T:=T0) (arm:=arm) (dn:=dn) W2 s0 s21
  (fun e he=>WC nxv he) (fun e he=>az env he) (Lz B.disk (old2 bd (by omega))) ((old2 bm (by omega)).trans B.med) hs y1 y2 hbig.1 (by omega)
 have old3:∀ j,j<h.next→j≠it→j≠bm→g'.bl.get j=h.bl.get j:=fun j h1 h2 h3=>by rw[r7 j (by omega) h3,old2 j h2]
 have nx2:GA ⟨it,0,none⟩ g'=.ok (.tuple ⟨[.bool false]⟩) g':=by
  have hib:D4 (g'.bl.get it)=.ok (some bc) (c0+cs.length) [c0] (c0+cs.length):=by rw[r7 it (by omega) (by omega),P2,if_pos rfl];rfl
  have he:Be g' bc=.ok (entsS c0 cs) (c0+cs.length):=by
   unfold Be
   rw[old3 bc (by omega) (by omega) B.ne.2,B.map];rfl
  have hlf:Ju (c0+cs.length) [c0] [⟨.int .i64 (y.1:Int),DR y.2,c0⟩]=some []:=by
   show(bif (bif Nat.beq c0 c0 then true else false)then some []else _)=_
   rw[Nat.beq_refl];rfl
  have hyg:E4 (c0+cs.length) [⟨.int .i64 (y.1:Int),DR y.2,c0⟩]=false:=by
   show(bif Nat.ble (c0+cs.length) c0 then true else false)=false
   have:Nat.ble (c0+cs.length) c0=false:=by
    cases hb:Nat.ble (c0+cs.length) c0
    ·rfl
    ·have:=Aq.1 hb;omega
   rw[this];rfl
  unfold GA
  simp only[hib,he,es,hlf,hyg,cond_false];rfl
 have hb2:∃ e2,fB F e' g'=.exit 0 e2 g'∧AB 0 e2=pt bd:=by
  have nn:=WC (F:=F) nx2 r3
  unfold fB
  simp only[sT,Nat.reduceLT,Nat.reduceEqDiff,if_true,if_false,reduceIte,nn,BM,BV]
  exact⟨_,rfl,by simp only[AE,Nat.reduceLT,Nat.reduceEqDiff,if_true,if_false,reduceIte];exact r2⟩
 obtain⟨e2,b1,b2⟩:=hb2
 refine⟨e2,g',?_,b2,r4,by omega,old3,T',r6,by rw[hcs];exact ht',fun L h1 h2 h3=>by rw[r8];omega⟩
 rw[bB]
 unfold Hy
 have s21':AB fK.it e=.pointer (some ⟨it,0,none⟩):=s21
 rw[es]at he
 simp only[s21',hib,he]
 refine Bz (I:=fun i e1 h1=>(i=0∧e1=e∧h1=h)∨(i=1∧e1=e'∧h1=g')) (Q:=fun x=>x=.exit 0 e2 g') 1 (by omega) (fun i e1 h1 hI=>?_) (.inl ⟨rfl,rfl,rfl⟩)
 rcases hI with ⟨rfl,rfl,rfl⟩|⟨rfl,rfl,rfl⟩
 ·exact .inl ⟨by omega,e',g',r1,.inr ⟨rfl,rfl,rfl⟩⟩
 ·right
  rw[b1];exact⟨rfl,rfl⟩
theorem VZ{m:Nat}(W:h.Wf)(d:Dk h bd bm bc n M c0 cs arm false){k:Nat}(ha:CT arm (k+1))(hK:KeyU cs)(hc:SecOk n cs)(h0:cs≠[])(h60:cs.length≤60):
  ∃ h',call AG (m+3) 76 [pt bd] h=.ok (.int .i64 0) h'∧Fx (fun b=>b=bd∨b=bm∨b=bc) h h'∧Dk h' bd bm bc n (Fb M cs) (c0+cs.length) [] (Fq arm) false:=by
 have k1:=MA (m:=m) d (i:=0) (by have:=d.n1;omega)
 have k1:call AG (m+2) 95 [pt bd,.int .i64 0] h=.ok (.int .i64 0) h:=k1
 obtain⟨h1,k2,f1,d1⟩:=Sf (m:=m+1) W d ha
 have c1:iNe 0 0=false:=Db rfl
 obtain⟨_,l1,_,_⟩:=Cs d1.disk
 have hlt:=d1.lt f1.wf
 have rg:∀ (F:CallF) (e:Env),AB 20 e=.map (some bc)→JY (AB 20) F e h1=.ok (pt h1.next) (h1.push (.iter (some bc) (c0+cs.length) [] (c0+cs.length))):=fun F e he=>by
  have hen:Be h1 bc=.ok (entsS c0 cs) (c0+cs.length):=by unfold Be;rw[d1.map];rfl
  unfold JY
  rw[he]
  simp only[hen]
  rw[Cr f1.wf];rfl
 have W2:=f1.wf.push (.iter (some bc) (c0+cs.length) [] (c0+cs.length))
 have P2:=f1.wf.push_get (.iter (some bc) (c0+cs.length) [] (c0+cs.length))
 have x2:h1.Ext (h1.push (.iter (some bc) (c0+cs.length) [] (c0+cs.length))):=(Hp.Ext.refl f1.wf).push _
 have n2:(h1.push (.iter (some bc) (c0+cs.length) [] (c0+cs.length))).next=h1.next+1:=rfl
 generalize h1.push (.iter (some bc) (c0+cs.length) [] (c0+cs.length))=h2 at rg W2 P2 x2 n2
 have d2:=d1.ext f1.wf x2
 obtain⟨T0,t1,t2⟩:=d2.med
 rw[List.length_map,d2.len]at t1
 have B:FlB h2 h1.next bd bm bc n c0 cs (Fq arm) false T0:=⟨W2,n2,by rw[P2,if_pos rfl],d2.disk,t1,fun j hj=>(t2 j (by rw[List.length_map,d2.len];exact hj)).1,d2.map,hlt,⟨d.bdm,fun h=>d.bmc h.symm⟩,⟨d.big.2.1,f1.wf.big⟩,hc,hK⟩
 have iL:∀ (F:CallF) (e:Env),AB 0 e=pt bd→AB 21 e=pt h1.next→∃ e' h',fW F e h2=.exit 0 e' h'∧AB 0 e'=pt bd∧h'.Wf∧h2.next≤h'.next∧(∀ i,i<h2.next→i≠h1.next→i≠bm→h'.bl.get i=h2.bl.get i)∧∃ T,h'.bl.get bm=.cells T (64 * n) 0∧LaidT T0 cs T∧∀ L,L≤h2.low→L≤h1.next→L≤bm→L≤h'.low:=fun F e e1 e2=>by
  cases cs with
  |nil=>exact absurd rfl h0
  |cons y l=>
   cases l with
   |nil=>exact fy B rfl e1 e2
   |cons z l=>exact Yo B rfl h60 e1 e2
 have pre:∃ e1,Yb (call AG (m+2)) (AZ e0 0 [pt bd]) h=fS (call AG (m+2)) e1 h2∧AB 0 e1=pt bd∧AB 21 e1=pt h1.next:=by
  unfold Yb
  simp only[AJ,AK,Nat.succ_eq_add_one,Nat.zero_add,Nat.reduceAdd,sT,Nat.reduceLT,Nat.reduceEqDiff,if_true,if_false,reduceIte,Ab,AN,AX,k1,k2,AS,AQ,c1,A4,Az,AM,AY,AV,Ac,Nat.zero_add,l1,rg]
  exact⟨_,rfl,by simp[AE],by simp[AE]⟩
 obtain⟨e1,p1,p2,p3⟩:=pre
 obtain⟨e3,h3,w1,w2,w3,w4,w5,T,w6,w7,w8⟩:=iL (call AG (m+2)) e1 p2 p3
 have d3:h3.Row bd 0 (dkL bm bc n (Fq arm) false):=Lz d2.disk (w5 bd (by omega) (by omega) d.bdm)
 have m3:h3.bl.get bc=.map (entsS c0 cs) (c0+cs.length):=by rw[w5 bc (by omega) (by omega) (fun h=>d.bmc h.symm)];exact d2.map
 have r3:h3.Row bm 0 ((Fb M cs).map bv):=⟨T,by rw[w6,List.length_map,F7 d.len hc],w7.is t2 d.len hc hK⟩
 obtain⟨_,l3,_,_⟩:=Cs d3
 have cl:∀ (F:CallF) (e:Env),AB 37 e=.map (some bc)→EP (AB 37) F e h3=.ok noRes (h3.put bc (.map [] (c0+cs.length))):=fun F e he=>by
  have hen:Be h3 bc=.ok (entsS c0 cs) (c0+cs.length):=by unfold Be;rw[m3];rfl
  unfold EP
  rw[he]
  simp only[hen]
  rw[Dp w3 d.big.2.2 (by omega)];rfl
 have W4:=w3.put (b:=bc) (by omega) (.map [] (c0+cs.length))
 have P4:=w3.put_get (b:=bc) (by omega) (.map [] (c0+cs.length))
 have n4:(h3.put bc (.map [] (c0+cs.length))).next=h3.next:=rfl
 have lo4:(h3.put bc (.map [] (c0+cs.length))).low=min h3.low bc:=BK _ _
 generalize h3.put bc (.map [] (c0+cs.length))=h4 at cl W4 P4 n4 lo4
 refine⟨h4,?_,⟨by have:=f1.next;omega,fun i hi hs=>?_,W4,fun L q1 q2 q3=>by
  have z1:=f1.low L q1 q2 fun b hb=>q3 b (.inl hb)
  have z2:=f1.next
  have z3:=x2.low
  have z4:=w8 L (by omega) (by omega) (q3 bm (.inr (.inl rfl)))
  have z5:=q3 bc (.inr (.inr rfl))
  omega⟩,⟨Lz d3 (by rw[P4,if_neg d.bdc]),Lz r3 (by rw[P4,if_neg d.bmc]),F7 d.len hc,Ow d.byt hc,by rw[P4,if_pos rfl];rfl,d.big,d.n1⟩⟩
 ·rw[eU rfl,fa,p1,j0]
  simp only[BU,A3,w1,A9,BH]
  unfold fE
  simp only[sT,Nat.reduceLT,Nat.reduceEqDiff,if_true,if_false,reduceIte,A4,w2,Az,AM,AY,AV,Ac,Nat.zero_add,l3,cl,AP,Aa]
 ·have hn:=f1.next
  rw[P4,if_neg (fun e=>hs (.inr (.inr e))),w5 i (by omega) (by omega) (fun e=>hs (.inr (.inl e))),x2.get i (by omega),f1.get i hi (fun e=>hs (.inl e))]
end
end
noncomputable section
open Go
set_option maxRecDepth 100000
structure Kt where
 a:Int
 b:Int
 c:Int
 s:Nat
 l:List Nat
 p:Nat
 u:Value
def Al(k:Kt):List Value:=[.int .i64 k.a,.int .i64 k.b,.int .i64 k.c,.int .u8 (k.s:Int),k.u,.int .i64 (k.p:Int)]
def ktV(k:Kt):Value:=.agg ⟨Al k⟩
def flK(ks:List Kt):List Value:=ks.flatMap Al
theorem Dy:∀ ks:List Kt,(flK ks).length=6 * ks.length
 |[]=>rfl
 |k::ks=>by
  show(Al k++flK ks).length=_
  rw[List.length_append,Dy ks,List.length_cons]
  show 6+_=_
  omega
theorem Ru(a b:List Kt):flK (a++b)=flK a++flK b:=List.flatMap_append
theorem Rv:∀ (ks:List Kt) (i:Nat) (k:Kt),ks[i]? =some k→((flK ks).drop (6 * i)).take 6=Al k
 |[],i,k,h=>by cases h
 |x::ks,0,k,h=>by
  have h:some x=some k:=h
  cases h
  show((Al x++flK ks).drop 0).take 6=_
  rw[List.drop_zero]
  exact List.take_left' rfl
 |x::ks,i+1,k,h=>by
  rw[List.getElem?_cons_succ]at h
  show((Al x++flK ks).drop (6 * (i+1))).take 6=_
  have:6 * (i+1)=(Al x).length+6 * i:=by show _=6+_;omega
  rw[this,List.drop_length_add_append]
  exact Rv ks i k h
def Hp.KS(h:Hp)(S:Nat→Prop)(v:Value)(ks:List Kt):Prop:=(v=.slice none 0 0∧ks=[])∨∃ b c el L,v=.slice (some ⟨b,0,none⟩) ks.length c∧ks.length≤c∧h.Row b el L∧6 * ks.length≤L.length∧L.take (6 * ks.length)=flK ks∧(el=84∨el=0)∧S b
section
variable {F:CallF}{e:Env}{h h':Hp}{S S':Nat→Prop}{v:Value}{ks:List Kt}
theorem Hp.KS.keep(o:h.KS S v ks)(hk:∀ b el L,S b→h.Row b el L→h'.Row b el L):h'.KS S v ks:=by
 rcases o with h1|⟨b,c,el,L,h1,h2,h3,h4,h5,h6,h7⟩
 ·exact .inl h1
 ·exact .inr ⟨b,c,el,L,h1,h2,hk _ _ _ h7 h3,h4,h5,h6,h7⟩
theorem Hp.KS.ext(o:h.KS S v ks)(W:h.Wf)(x:h.Ext h'):h'.KS S v ks:=o.keep fun _ _ _ _ r=>r.ext W x
theorem Hp.KS.same(o:h.KS S v ks)(hb:h'.bl=h.bl):h'.KS S v ks:=o.keep fun _ _ _ _ r=>r.same hb
theorem Hp.KS.fx(o:h.KS S v ks)(W:h.Wf){T:Nat→Prop}(x:Fx T h h')(hs:∀ b,S b→¬ T b):h'.KS S v ks:=o.keep fun b _ _ hb r=>x.row W r (hs b hb)
theorem Hp.KS.mono(o:h.KS S v ks)(hs:∀ b,S b→S' b):h.KS S' v ks:=by
 rcases o with h1|⟨b,c,el,L,h1,h2,h3,h4,h5,h6,h7⟩
 ·exact .inl h1
 ·exact .inr ⟨b,c,el,L,h1,h2,h3,h4,h5,h6,hs _ h7⟩
theorem Hp.KS.len(o:h.KS S v ks)(g:Hp):Fc v g=.ok (.int .i64 (ks.length:Int)) g:=by
 rcases o with ⟨rfl,rfl⟩|⟨b,c,el,L,rfl,_⟩<;>rfl
theorem Hp.KS.at(o:h.KS S v ks){i:Nat}{k:Kt}(hi:ks[i]? =some k):∃ b,S b∧Fa 6 v (.int .i64 (i:Int)) h=.ok (.pointer (some ⟨b,6 * i,none⟩)) h∧loadN 6 ⟨b,6 * i,none⟩ h=.ok (ktV k) h∧∀ j w,(Al k)[j]? =some w→load1 ⟨b,6 * i+j,none⟩ h=.ok w h:=by
 have hil:=(List.getElem?_eq_some_iff.1 hi).1
 rcases o with ⟨rfl,rfl⟩|⟨b,c,el,L,rfl,h2,h3,h4,h5,h6,h7⟩
 ·cases hi
 ·have hc:(L.drop (6 * i)).take 6=Al k:=by
   have:=Rv ks i k hi
   rw[← h5,List.drop_take,List.take_take,Nat.min_eq_left (by omega)]at this
   exact this
  refine⟨b,h7,?_,?_,fun j w hj=>?_⟩
  ·have:=D0 (h:=h) (n:=ks.length) (c:=c) (es:=6) (b:=b) (off:=0) (i:=i) (k:=.i64) hil
   rwa [Nat.zero_add,Nat.mul_comm]at this
  ·rw[h3.loadN (by omega),hc];rfl
  ·have hj6:j<6:=(List.getElem?_eq_some_iff.1 hj).1
   rw[← hc,List.getElem?_take,if_pos hj6,List.getElem?_drop]at hj
   rw[h3.load1 (by omega),List.getD_eq_getElem?_getD,hj];rfl
theorem Hp.KS.one(o:h.KS S v ks):cellsOf v=[v]∧A6 v=true∧known v=true:=by
 rcases o with ⟨rfl,_⟩|⟨b,c,el,L,rfl,_⟩<;>exact⟨rfl,rfl,rfl⟩
end
def Hp.KW(h:Hp)(S:Nat→Prop)(v:Value)(ks:List Kt):Prop:=(v=.slice none 0 0∧ks=[])∨∃ b,v=.slice (some ⟨b,0,none⟩) ks.length ks.length∧h.Row b 84 (flK ks)∧S b
theorem Hp.KW.ks{h:Hp}{S:Nat→Prop}{v:Value}{ks:List Kt}(o:h.KW S v ks):h.KS S v ks:=by
 rcases o with h1|⟨b,h1,h2,h3⟩
 ·exact .inl h1
 ·exact .inr ⟨b,_,84,_,h1,Nat.le_refl _,h2,by rw[Dy];omega,by rw[← Dy,List.take_length],.inl rfl,h3⟩
theorem Hp.KW.keep{h h':Hp}{S:Nat→Prop}{v:Value}{ks:List Kt}(o:h.KW S v ks)(hk:∀ b el L,S b→h.Row b el L→h'.Row b el L):h'.KW S v ks:=by
 rcases o with h1|⟨b,h1,h2,h3⟩
 ·exact .inl h1
 ·exact .inr ⟨b,h1,hk _ _ _ h3 h2,h3⟩
def Hp.WI(h:Hp)(S:Nat→Prop)(v:Value)(xs:List Value):Prop:=(v=.slice none 0 0∧xs=[])∨∃ b el,v=.slice (some ⟨b,0,none⟩) xs.length xs.length∧h.Row b el xs∧(el=4∨el=0)∧S b
theorem Hp.WI.keep{h h':Hp}{S:Nat→Prop}{v:Value}{xs:List Value}(o:h.WI S v xs)(hk:∀ b el L,S b→h.Row b el L→h'.Row b el L):h'.WI S v xs:=by
 rcases o with h1|⟨b,el,h1,h2,h3,h4⟩
 ·exact .inl h1
 ·exact .inr ⟨b,el,h1,hk _ _ _ h4 h2,h3,h4⟩
theorem Hp.WI.vals{h:Hp}{S:Nat→Prop}{v:Value}{xs:List Value}(o:h.WI S v xs):h.Vals v xs:=by
 rcases o with h1|⟨b,el,h1,h2,h3,h4⟩
 ·exact .inl h1
 ·exact .inr ⟨b,0,_,el,xs,h1,h2,by omega,by rw[List.drop_zero,List.take_length]⟩
def KtOk(h:Hp)(S:Nat→Prop)(k:Kt):Prop:=h.BS S k.u (k.l.map bv)∧(∀ x∈k.l,x<256)∧k.l.length≤100∧(k.s=1∨k.s=2)∧CA k.a k.b k.c k.s k.l.length=true∧k.p<65536
def slL(bd tb:Nat)(lv fv:Value)(bad:Nat)(ov:Bool):List Value:=[pt bd,pt tb,.int .i64 100,lv,fv,.int .i64 (bad:Int),.bool ov]
structure At where
 bs:Nat
 bd:Nat
 bm:Nat
 bc:Nat
 tb:Nat
 n:Nat
abbrev At.D(A:At):Nat→Prop:=fun b=>b=A.bs∨b=A.bd∨b=A.bm∨b=A.bc
structure Sl (h:Hp)(A:At)(T M:List Nat)(c0:Nat)(arm:Int)(ks:List Kt)(fr:List Nat)(lv fv:Value)(bad:Nat)(ov:Bool):Prop where
 row:h.Row A.bs 0 (slL A.bd A.tb lv fv bad ov)
 dk:Dk h A.bd A.bm A.bc A.n M c0 [] arm false
 tab:h.Row A.tb 0 (T.map wv)
 tok:TblOk T
 ls:h.KW (fun b=>¬ A.D b) lv ks
 ko:∀ k∈ks,KtOk h (fun b=>¬ A.D b) k
 fs:h.WI (fun b=>¬ A.D b) fv (ints .i64 (fr.map Int.ofNat))
 ne:A.bs≠A.bd∧A.bs≠A.bm∧A.bs≠A.bc∧¬ A.D A.tb∧256≤A.bs
 le:ks.length≤1000∧fr.length≤1000∧bad≤1000∧∀ p∈fr,3 * p+3≤A.n
section
variable {F:CallF}{e:Env}{h h':Hp}{A:At}{T M:List Nat}{c0 bad m:Nat}{arm:Int}{ks:List Kt}{fr:List Nat}{lv fv:Value}{ov:Bool}
theorem Sl.keep(s:Sl h A T M c0 arm ks fr lv fv bad ov)(hr:∀ b el L,h.Row b el L→h'.Row b el L)(hm:h'.bl.get A.bc=h.bl.get A.bc):Sl h' A T M c0 arm ks fr lv fv bad ov:=
 ⟨hr _ _ _ s.row,⟨hr _ _ _ s.dk.disk,hr _ _ _ s.dk.med,s.dk.len,s.dk.byt,hm.trans s.dk.map,s.dk.big,s.dk.n1⟩,hr _ _ _ s.tab,s.tok,s.ls.keep fun _ _ _ _ r=>hr _ _ _ r,fun k hk=>⟨(s.ko k hk).1.keep fun _ _ _ _ _ r=>hr _ _ _ r,(s.ko k hk).2⟩,s.fs.keep fun _ _ _ _ r=>hr _ _ _ r,s.ne,s.le⟩
theorem Sl.ext(s:Sl h A T M c0 arm ks fr lv fv bad ov)(W:h.Wf)(x:h.Ext h'):Sl h' A T M c0 arm ks fr lv fv bad ov:=s.keep (fun _ _ _ r=>r.ext W x) (x.get _ (s.dk.lt W).2.2)
theorem Sl.same(s:Sl h A T M c0 arm ks fr lv fv bad ov)(hb:h'.bl=h.bl):Sl h' A T M c0 arm ks fr lv fv bad ov:=s.keep (fun _ _ _ r=>r.same hb) (by rw[hb])
theorem BN{bs bd tb:Nat}(R:h.Row bs 0 (slL bd tb lv fv bad ov)):load1 ⟨bs,0,none⟩ h=.ok (pt bd) h∧load1 ⟨bs,1,none⟩ h=.ok (pt tb) h∧load1 ⟨bs,2,none⟩ h=.ok (.int .i64 100) h∧load1 ⟨bs,3,none⟩ h=.ok lv h∧load1 ⟨bs,4,none⟩ h=.ok fv h∧load1 ⟨bs,5,none⟩ h=.ok (.int .i64 (bad:Int)) h∧load1 ⟨bs,6,none⟩ h=.ok (.bool ov) h:=
 ⟨R.load1 (off:=0) (by show 0<7;omega),R.load1 (off:=1) (by show 1<7;omega),R.load1 (off:=2) (by show 2<7;omega),R.load1 (off:=3) (by show 3<7;omega),R.load1 (off:=4) (by show 4<7;omega),R.load1 (off:=5) (by show 5<7;omega),R.load1 (off:=6) (by show 6<7;omega)⟩
theorem kD{a b:Nat}(h1:a * b≤1000000000):Hu Int.mul .i64 (.int .i64 (a:Int)) (.int .i64 (b:Int)) h=.ok (.int .i64 ((a * b:Nat):Int)) h:=by
 have:Int.mul (a:Int) (b:Int)=((a * b:Nat):Int):=(Int.natCast_mul a b).symm
 rw[DI,this,Br (by omega)]
theorem Kf{a b:Nat}(h1:a+b≤1000000000):Gn .i64 (.int .i64 (a:Int)) (.int .i64 (b:Int)) h=.ok (.int .i64 ((a+b:Nat):Int)) h:=by
 have:(a:Int)+(b:Int)=((a+b:Nat):Int):=by omega
 rw[EU,this,Br (by omega)]
theorem Mx:Mw 100=3:=by decide
theorem MN{bs bd tb:Nat}(R:h.Row bs 0 (slL bd tb lv fv bad ov)){p:Nat}(hp:p≤65536):call AG (m+2) 46 [pt bs,.int .i64 (p:Int)] h=.ok (.int .i64 ((p * 3:Nat):Int)) h:=by
 obtain⟨_,_,l2,_⟩:=BN R
 have k1:=So (n:=m) (h:=h) (z:=100)
 rw[Mx]at k1
 have a1:=kD (h:=h) (a:=p) (b:=3) (by omega)
 rw[d6 rfl]
 unfold d46
 simp only[AJ,AK,Nat.succ_eq_add_one,Nat.zero_add,Nat.reduceAdd,sT,Nat.reduceLT,Nat.reduceEqDiff,if_true,if_false,reduceIte,A4,Az,AM,AY,Nat.zero_add,AV,Ac,l2,Ab,AN,AX,k1,DK,a1,AP,Aa]
theorem HL{f:OpF}{mm:Qm}{v:Value}(W:h.Wf)(hf:f F e h.quiet=.ok v h.quiet)(hm:h.mark≤h.next):Ak mm f F e h=.ok v (h.back h.quiet):=DQ hf (.refl W.quiet) hm
theorem YJ{x y z:O}{b N k:Nat}(hx:x e=.slice (some ⟨b,0,none⟩) N N)(hy:y e=.int .i64 (k:Int))(hz:z e=.int .i64 (k:Int))(hk:k≤N):Dj 5 1 x none (some y) (some z) F e h=.ok (.slice (some ⟨b,0,none⟩) k k) h:=by
 have hb:∀ (d:Nat) (y:O) (Y:Nat) (K:Nat→R),y e=.int .i64 (k:Int)→k≤Y→DM e (some y) d Y K=K k:=fun d y Y K hy hY=>by
  show(match C8 (y e)with|.ok n=>(bif Nat.ble n Y then K n else .no)|.no=>.no)=_
  rw[hy,DG]
  simp only
  rw[Aq.2 hY];rfl
 show(match x e with|.slice a n c=>Dv e n c none (some y) (some z) (fun l hh m=>Fz 5 1 a true l hh m h)|_=>.no)=_
 rw[hx]
 show DM e (some z) N N (fun m=>DM e (some y) N m fun hh=>DM e none 0 hh fun l=>Fz 5 1 (some ⟨b,0,none⟩) true l hh m h)=_
 rw[hb _ _ _ _ hz hk,hb _ _ _ _ hy (Nat.le_refl _)]
 show CB (some ⟨b,0,none⟩) 1 0 k k h=_
 unfold CB
 simp only[Ao]
 cases k with
 |zero=>rfl
 |succ k=>rfl
theorem VA{x y z:O}(hx:x e=.slice none 0 0)(hy:y e=.int .i64 ((0:Nat):Int))(hz:z e=.int .i64 ((0:Nat):Int)):Dj 5 1 x none (some y) (some z) F e h=.ok (.slice none 0 0) h:=by
 show(match x e with|.slice a n c=>Dv e n c none (some y) (some z) (fun l hh m=>Fz 5 1 a true l hh m h)|_=>.no)=_
 rw[hx]
 show(match C8 (z e)with|.ok n=>(bif Nat.ble n 0 then(match C8 (y e)with|.ok n'=>(bif Nat.ble n' n then CB none 1 0 n' n h else .no)|.no=>.no)else .no)|.no=>.no)=_
 rw[hy,hz];rfl
def dat(M:List Nat)(p k:Nat):List Nat:=(M.drop (64 * (3 * p+1))).take k
theorem VN{M:List Nat}{n p i:Nat}(hM:M.length=64 * n)(hi:3 * p+1+i<n):dat M p (64 * i)++sec M (3 * p+1+i)=dat M p (64 * (i+1)):=by
 unfold dat sec
 have:M.drop (64 * (3 * p+1+i))=(M.drop (64 * (3 * p+1))).drop (64 * i):=by rw[List.drop_drop];congr 1;omega
 rw[this,show 64 * (i+1)=64 * i+64 by omega,List.take_add]
theorem IZ{M:List Nat}{n p k:Nat}(hM:M.length=64 * n)(hk:64 * (3 * p+1)+k≤64 * n):(dat M p k).length=k:=by
 unfold dat;rw[List.length_take,List.length_drop];omega
theorem VM{M:List Nat}(hb:∀ x∈M,x<256)(p k:Nat):∀ x∈dat M p k,x<256:=fun x hx=>hb x (List.mem_of_mem_drop (List.mem_of_mem_take hx))
def reB:C:=(AF (AC 13) (BR (AB 8))
(AF (AC 15) (Ad iLt .i64 (AB 13) (AB 2))
(AW (AB 15)
(A5 (Ah 1 (Bm (AF (AC 20) (BJ (AB 0))
(AF (AC 21) (AH 0 (AB 20))
(Ds (AB 21) (Ce (AB 21) []
(AF (AC 22) (AL (AB 21))
(AF (AC 25) (Ak .weak (AO 46 [(AB 0),(AB 1)]))
(AF (AC 26) (Bh .i64 (Ax .i64) (AB 25) (kV (.int .i64 1)))
(AF (AC 28) (Bh .i64 (Ax .i64) (AB 26) (AB 9))
(AF (AC 29) (Ak .free (AO 84 [(AB 22),(AB 28)]))
(AF (AC 30) (AU 0 (AB 29))
(AF (AC 31) (AU 1 (AB 29))
(AF (AC 10) (AD (AB 30))
(AF (AC 11) (AD (AB 31))
(AF (AC 33) (Ad iNe .i64 (AB 11) (kV (.int .i64 0)))
(AW (AB 33)
(AF (AC 6) (AD (kV (.slice none 0 0)))
(AF (AC 7) (AD (AB 11))
Aj))
(AF (AC 37) (A8 1 1 5 (AB 8) (AB 10))
(AF (AC 8) (AD (AB 37))
Ai)))))))))))))))))))
(AF (AC 17) (Bh .i64 (Ax .i64) (AB 9) (kV (.int .i64 1)))
(AF (AC 9) (AD (AB 17))
Ai)))
(Bc 0))))
def reE:C:=(AF (AC 41) (Dj 5 1 (AB 8) none (some (AB 2)) (some (AB 2)))
(AF (AC 6) (AD (AB 41))
(AF (AC 7) (AD (kV (.int .i64 0)))
Aj)))
theorem Wv:reS=A5 (Ah 0 (A1 reB)) reE:=rfl
theorem VL:d88=Yd:=rfl
theorem Uo(W:h.Wf){bs bd bm bc tb n:Nat}(R:h.Row bs 0 (slL bd tb lv fv bad ov))(d:Dk h bd bm bc n M c0 [] arm false){p k:Nat}(hp:3 * p+3≤n)(hk:k≤128):
  ∃ h' v,call AG (m+4) 88 [pt bs,.int .i64 (p:Int),.int .i64 (k:Int)] h=.ok (.tuple ⟨[v,.int .i64 0]⟩) h'∧h.Ext h'∧h'.BS (fun b=>h.next≤b) v ((dat M p k).map bv):=by
 have hn:=d.n1
 have pre:∃ e1,Yd (call AG (m+3)) (AZ e0 0 [pt bs,.int .i64 (p:Int),.int .i64 (k:Int)]) h=reS (call AG (m+3)) e1 h∧AB 0 e1=pt bs∧AB 1 e1=.int .i64 (p:Int)∧AB 2 e1=.int .i64 (k:Int)∧AB 8 e1=.slice none 0 0∧AB 9 e1=.int .i64 ((0:Nat):Int):=by
  unfold Yd
  simp only[AJ,AK,Nat.succ_eq_add_one,Nat.zero_add,Nat.reduceAdd,sT,Nat.reduceLT,Nat.reduceEqDiff,if_true,if_false,reduceIte]
  exact⟨_,rfl,by simp[AE],by simp[AE],by simp[AE],by simp[AE],by simp only[AE,Nat.reduceLT,Nat.reduceEqDiff,if_true,if_false,reduceIte];rfl⟩
 obtain⟨e1,p1,s0,s1,s2,s8,s9⟩:=pre
 have run:∃ e' h' v i,A1 reB (call AG (m+3)) e1 h=.exit 0 e' h'∧h.Ext h'∧h'.Own h.next 5 v ((dat M p (64 * i)).map bv)∧k≤64 * i∧i≤2∧AB 8 e'=v∧AB 2 e'=.int .i64 (k:Int):=by
  refine Bz (I:=fun i e' h'=>∃ v,h.Ext h'∧h'.Own h.next 5 v ((dat M p (64 * i)).map bv)∧AB 0 e'=pt bs∧AB 1 e'=.int .i64 (p:Int)∧AB 2 e'=.int .i64 (k:Int)∧AB 8 e'=v∧AB 9 e'=.int .i64 (i:Int)∧i≤2)
   (Q:=fun x=>∃ e' h' v i,x=.exit 0 e' h'∧h.Ext h'∧h'.Own h.next 5 v ((dat M p (64 * i)).map bv)∧k≤64 * i∧i≤2∧AB 8 e'=v∧AB 2 e'=.int .i64 (k:Int)) 2 (by omega) (fun i e' h' ⟨v,x',o',t0,t1,t2,t8,t9,hi⟩=>?_)
   ⟨_,.refl W,.inl ⟨rfl,rfl⟩,s0,s1,s2,s8,s9,by omega⟩
  have hdl:(dat M p (64 * i)).length=64 * i:=IZ d.len (by omega)
  have ln:=o'.vals.bl h'
  rw[hdl]at ln
  by_cases hlt:64 * i<k
  ·left
   have hi1:i<2:=by omega
   have c1:iLt ((64 * i:Nat):Int) (k:Int)=true:=E8 hlt
   have xm:=x'.marked
   have Rm:=(R.ext W xm)
   have old:∀ (off:Nat) (kk:C) (F:CallF) (e:Env),Ja (.pointer (some ⟨bs,off,none⟩)) kk F e h'.marked=kk F e h'.marked:=fun off kk F e=>D7 (by
    show bs<h'.next
    have:=R.lt W
    have:=x'.next
    omega)
   obtain⟨l0,_⟩:=BN Rm
   have k1:=MN (m:=m+1) (Rm.same (h':=h'.marked.quiet) rfl) (p:=p) (by omega)
   have q1:∀ e:Env,AB 0 e=pt bs→AB 1 e=.int .i64 (p:Int)→Ak .weak (AO 46 [AB 0,AB 1]) (call AG (m+3)) e h'.marked=.ok (.int .i64 ((p * 3:Nat):Int)) (h'.marked.back h'.marked.quiet):=fun e e1 e2=>by
    refine HL x'.wf.marked ?_ (Nat.le_refl _)
    rw[Ab,AN,AN,AX,e1,e2];exact k1
   have y2:h'.Ext (h'.marked.back h'.marked.quiet):=Hp.Ext.back2 (Hp.Ext.refl x'.wf).marked (Hp.Ext.refl x'.wf).marked.quiet
   have n2:(h'.marked.back h'.marked.quiet).next=h'.next:=rfl
   generalize h'.marked.back h'.marked.quiet=h2 at q1 y2 n2
   have x2:=x'.trans y2
   have a1:=C1 (h:=h2) (i:=p * 3) (by omega)
   have a2:=Kf (h:=h2) (a:=p * 3+1) (b:=i) (by omega)
   obtain⟨h3,w,k2,y3,mk,n3,_⟩:=Sj (m:=m) x2.quiet.wf ((d.ext W x2).same (h':=h2.quiet) rfl) (i:=p * 3+1+i) (by omega)
   have q2:∀ e:Env,AB 22 e=pt bd→AB 28 e=.int .i64 ((p * 3+1+i:Nat):Int)→Ak .free (AO 84 [AB 22,AB 28]) (call AG (m+3)) e h2=.ok (.tuple ⟨[w,.int .i64 0]⟩) (h2.back h3):=fun e e1 e2=>by
    refine Bq ?_
    rw[Ab,AN,AN,AX,e1,e2];exact k2
   have y4:h2.Ext (h2.back h3):=.back y3
   have mk4:Mk (h2.back h3) h2.quiet.next w (sec M (p * 3+1+i)):=mk.same rfl
   generalize h2.back h3=h4 at q2 y4 mk4
   have x4:=x2.trans y4
   have hsl:(sec M (p * 3+1+i)).length=64:=EZ d.len (by omega)
   obtain⟨h5,v5,k5,x5,o5,n5,fr5⟩:=GV (eb:=1) (en:=5) (k:=h.next) x4 (Nat.le_refl _) x4.next ((o'.ext x'.wf y2).ext x2.wf y4) mk4.vals (by rw[List.length_map,hsl];omega) (DE _) (by rw[List.length_map,List.length_map,hdl,hsl];omega)
   rw[← List.map_append,show p * 3+1+i=3 * p+1+i by omega,VN d.len (by omega)]at o5
   have c2:iNe 0 0=false:=Db rfl
   have a3:=C1 (i:=i) (h:=h5) (by omega)
   have hrun:∃ e2,reB (call AG (m+3)) e' h'=.norm e2 h5∧AB 0 e2=pt bs∧AB 1 e2=.int .i64 (p:Int)∧AB 2 e2=.int .i64 (k:Int)∧AB 8 e2=v5∧AB 9 e2=.int .i64 ((i+1:Nat):Int):=by
    unfold reB
    simp only[sT,Nat.reduceLT,Nat.reduceEqDiff,if_true,if_false,reduceIte,Ay,t8,ln,AS,AQ,t2,c1,BD,A4,t0,Az,AM,AY,Nat.zero_add,EW,old,DY,AV,Ac,l0,q1,t1,BZ,a1,t9,a2,q2,BM,BV,Ba,c2,Bn,k5,a3]
    exact⟨_,rfl,by simp only[AE,Nat.reduceLT,Nat.reduceEqDiff,if_true,if_false,reduceIte];exact t0,by simp only[AE,Nat.reduceLT,Nat.reduceEqDiff,if_true,if_false,reduceIte];exact t1,by simp only[AE,Nat.reduceLT,Nat.reduceEqDiff,if_true,if_false,reduceIte];exact t2,by simp[AE],by simp[AE]⟩
   obtain⟨e2,r1,r2,r3,r4,r5,r6⟩:=hrun
   exact⟨hi1,e2,h5,r1,v5,x5,o5,r2,r3,r4,r5,r6,by omega⟩
  ·right
   have c1:iLt ((64 * i:Nat):Int) (k:Int)=false:=DU (by omega)
   have hrun:∃ e2,reB (call AG (m+3)) e' h'=.exit 0 e2 h'∧AB 8 e2=v∧AB 2 e2=.int .i64 (k:Int):=by
    unfold reB
    simp only[sT,Nat.reduceLT,Nat.reduceEqDiff,if_true,if_false,reduceIte,Ay,t8,ln,AS,AQ,t2,c1]
    exact⟨_,rfl,by simp only[AE,Nat.reduceLT,Nat.reduceEqDiff,if_true,if_false,reduceIte];exact t8,by simp only[AE,Nat.reduceLT,Nat.reduceEqDiff,if_true,if_false,reduceIte];exact t2⟩
   obtain⟨e2,r1,r2,r3⟩:=hrun
   rw[r1]
   exact⟨rfl,e2,h',v,i,rfl,x',o',by omega,hi,r2,r3⟩
 obtain⟨e2,h2,v,i,r1,x2,o2,hk2,hi2,r2,r3⟩:=run
 have hdl:(dat M p (64 * i)).length=64 * i:=IZ d.len (by omega)
 have htk:(dat M p (64 * i)).take k=dat M p k:=by
  unfold dat
  rw[List.take_take,Nat.min_eq_left hk2]
 have hdk:(dat M p k).length=k:=IZ d.len (by omega)
 rcases o2 with ⟨rfl,hx⟩|⟨b,rfl,R2,hb,h256⟩
 ·have h0:64 * i=0:=by
   have:=congrArg List.length hx
   rw[List.length_map,hdl]at this;exact this
  obtain rfl:k=0:=by omega
  have ct:∀ e:Env,AB 8 e=.slice none 0 0→AB 2 e=.int .i64 ((0:Nat):Int)→Dj 5 1 (AB 8) none (some (AB 2)) (some (AB 2)) (call AG (m+3)) e h2=.ok (.slice none 0 0) h2:=fun e e1 e2=>VA e1 e2 e2
  refine⟨h2,.slice none 0 0,?_,x2,.inl ⟨rfl,?_⟩⟩
  ·rw[U3 rfl,VL,p1,Wv]
   simp only[BU,A3,r1,A9,BH]
   unfold reE
   simp only[sT,Nat.reduceLT,Nat.reduceEqDiff,if_true,if_false,reduceIte,ct,r2,r3,AP,DP]
  ·unfold dat;rfl
 ·rw[List.length_map,hdl]at r2
  have ct:∀ e:Env,AB 8 e=.slice (some ⟨b,0,none⟩) (64 * i) (64 * i)→AB 2 e=.int .i64 (k:Int)→Dj 5 1 (AB 8) none (some (AB 2)) (some (AB 2)) (call AG (m+3)) e h2=.ok (.slice (some ⟨b,0,none⟩) k k) h2:=fun e e1 e2=>YJ e1 e2 e2 hk2
  refine⟨h2,.slice (some ⟨b,0,none⟩) k k,?_,x2,.inr ⟨b,0,k,6,_,by rw[List.length_map,hdk],by rw[List.length_map,hdk];exact Nat.le_refl _,R2,by rw[List.length_map,List.length_map,hdk,hdl];omega,?_,hb,.inr rfl⟩⟩
  ·rw[U3 rfl,VL,p1,Wv]
   simp only[BU,A3,r1,A9,BH]
   unfold reE
   simp only[sT,Nat.reduceLT,Nat.reduceEqDiff,if_true,if_false,reduceIte,ct,r2,r3,AP,DP]
  ·rw[List.length_map,hdk,List.drop_zero,← List.map_take,htk]
end
end
end Go.Proofs.YtedbmmfebjfibaaGreat

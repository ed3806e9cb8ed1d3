/-
  Part ZQ of what Lawru stands on: printed by program, names and spaces cut.
-/
import Derived.Test.YtedbmmfebjfibaaGreatZP
open Nat renaming reduceEqDiff→AI,reduceLT→AT,reduceAdd→By,le_refl→IN,zero_add→sh,succ→vD,ble→vJ,zero_le→vi,le_trans→vw,blt→wF,le_of_not_lt→ABx
open Go renaming Value→BY
open List renaming length_map→If,getElem?_eq_getElem→No,mem_cons_self→vG,mem_cons_of_mem→vH,replicate→vL,mem_singleton→vM,mem_of_getElem?→vN,append_nil→vR,mem_cons→vS,getElem?_eq_some_iff→vW,append_assoc→vX,mem_filter→vZ,mem_append→va,mem_append_left→vk,length_take→vp,mem_map→vu,map_append→v8,range→wI,getElem?_map→wN,mem_of_mem_take→wu,mem_range→w9,pairwise_cons→xk,nodup_cons→xn,take_of_length_le→xy,nodup_append→yL,map_eq_nil_iff→yY,find?_eq_none→yk,nodup_range→zI,nodup_nil→AAV,take_zero→AA7,filter_eq_self→ABS
open Bool renaming not_true→wQ,not_false→wm
open Classical renaming propDecidable→wV,em→ADO
open List.Pairwise renaming sublist→AAx
open List.Perm renaming trans→ABC
open Go.Value renaming map→ABg
set_option linter.unusedVariables false
set_option linter.unusedSimpArgs false
namespace Go.Proofs.YtedbmmfebjfibaaGreat
noncomputable section
open Go
set_option maxRecDepth 100000
def oH(T M:List Nat)(ks:List Kt)(fr:List Nat)(kd a b c:Int)(l:List Nat)(q:List Nat×List (Nat×List Nat)):Prop:=
 (EW kd∧Ev ks fr.length a b c l=none∧∃ p fr2 i,fr=p::fr2∧i<(JV p l (ADa T a b c 1 l)).length∧q=BN M [] ((JV p l (ADa T a b c 1 l)).take i))∨
 ((kd=5∨kd=6)∧∃ (j:Nat) (kx:Kt) (i:Nat),ks[j]? =some kx∧(kx.a=a∧kx.b=b∧kx.c=c)∧Bp a b c ks=false∧i<2∧q=BN M [] ((DP kx.p (ADa T a b c 2 kx.l)).take i))∨
 ((kd=5∨kd=6)∧∃ (j:Nat) (kx:Kt) (i:Nat),ks[j]? =some kx∧(kx.a=a∧kx.b=b∧kx.c=c)∧Bp a b c ks=false∧i<(cmO ks j kx).length+1∧q=BN (D6 M kx.p (ADa T a b c 2 kx.l)) [] ((Dy (cmO ks j kx)).take i))∨
 (kd=7∧∃ (j:Nat) (kx:Kt) (i:Nat),ks[j]? =some kx∧(kx.a=a∧kx.b=b∧kx.c=c)∧Bp a b c ks=false∧i<2∧q=BN M [] ((Dy [kx.p]).take i))∨
 (kd=8∧∃ (o1:List Kt) (x:Kt) (o2:List Kt) (i:Nat),drO a b c ks=o1++x::o2∧i<2∧q=BN (EJ M o1) [] ((Dy [x.p]).take i))
section
variable {fa:Bool}{e:Env}{h h':Hp}{A:At}{T M:List Nat}{c0 bad m k p:Nat}{arm:Int}{ks:List Kt}{fr:List Nat}{lv fv u:BY}{a b c:Int}{l:List Nat}
theorem Nv(W:h.Wf)(s:Sl h A T M c0 arm ks fr lv fv bad false){a b c:Int}{l:List Nat}{u:BY}(V:h.VE u (l.map bv))(hb:∀ x∈l,x<256)(hl:l.length≤1000)(hkl:ks.length≤10)(ha:AEJ fa arm)(hz:Ev ks fr.length a b c l=none):
  ∃ p fr2,fr=p::fr2∧
  ((∃ h' c1 ADu lv' fv' k',call AD (m+8) 11 [pt A.bs,.int .i64 a,.int .i64 b,.int .i64 c,u] h=.ok (.int .i64 0) h'∧Fx A.D h h'∧Sl h' A T (DI T M p l (ADa T a b c 1 l)) c1 ADu (Ch (ks++[k'])) fr2 lv' fv' bad false∧k'.core=⟨a,b,c,1,l,p⟩∧AEJ fa ADu)∨
   (∃ j h',j<(JV p l (ADa T a b c 1 l)).length∧call AD (m+8) 11 [pt A.bs,.int .i64 a,.int .i64 b,.int .i64 c,u] h=.ok (.int .i64 15) h'∧Fx A.D h h'∧AEx fa h' A T (BN M [] ((JV p l (ADa T a b c 1 l)).take j)).1 (BN M [] ((JV p l (ADa T a b c 1 l)).take j)).2)):=by
 unfold Ev at hz;split at hz
 ·cases hz
 rename_i hn;have hr:ADc a b c 1 l.length=true:=by
  cases hq:ADc a b c 1 l.length
  · exact absurd (.inl hq) hn
  · rfl
 have AFD:l.length≤100:=ABx fun h=>hn (.inr h)
 split at hz
 ·split at hz<;>cases hz
 rename_i hfd;split at hz
 ·cases hz
 rename_i hst;split at hz
 ·cases hz
 rename_i hf0;cases fr with
 |nil=>exact absurd rfl hf0
 |cons p fr2=>
  have AGp:ks.any (CN a b c)=false:=by
    rw[List.any_eq_false];intro x hx;exact yk.1 hfd x hx
  have AFo:Bp a b c ks=false:=by
    cases hq:Bp a b c ks
    ·rfl
    ·exact absurd hq hst
  exact⟨p,fr2,rfl,Z3 (m:=m) W s V hb AFD hr AGp AFo hkl ha⟩
theorem PM(R:h.Row A.bs 0 (slL A.bd A.tb lv fv bad true)):call AD (m+1) 38 [pt A.bs] h=.ok (.int .i64 17) h:=by
 obtain⟨l0,_,_,_,_,_,l6⟩:=A7 R;have n1:∀ e:Env,AB 0 e=pt A.bs→oEq LE.k false (AB 0) (kV (.pointer none)) (call AD m) e h=.ok (.bool false) h:=fun e he=>Gf au he
 have n2:∀ e:Env,AB 10 e=pt A.bd→oEq TV.k false (AB 10) (kV (.pointer none)) (call AD m) e h=.ok (.bool false) h:=fun e he=>Gf aq he
 rw[Xb rfl];unfold d38;simp only[iN,By,sT,AT,AI,reduceIte,gD,n1,Ao,Ae,AJ,AO,sh,AN,AQ,l0,n2,l6,lV0]
theorem Z4(R:h.Row A.bs 0 (slL A.bd A.tb lv fv bad true)):call AD (m+8) 11 [pt A.bs,.int .i64 a,.int .i64 b,.int .i64 c,u] h=.ok (.int .i64 17) h:=by
 have k0:=PM (m:=m+6) R;have c1:iNe 17 0=true:=EL (by omega);rw[GT rfl,GX];unfold Lw;simp only[iN,By,sT,AT,AI,reduceIte,gD,cA0,k0,AM,AK,c1,lV0]
theorem Xy(R:h.Row A.bs 0 (slL A.bd A.tb lv fv bad true)):call AD (m+8) 12 [pt A.bs,.int .i64 a,.int .i64 b,.int .i64 c] h=.ok (.int .i64 17) h:=by
 have k0:=PM (m:=m+6) R;have c1:iNe 17 0=true:=EL (by omega);rw[IM rfl,IU];unfold M7;simp only[iN,By,sT,AT,AI,reduceIte,gD,cA0,k0,AM,AK,c1,lV0]
theorem VP(R:h.Row A.bs 0 (slL A.bd A.tb lv fv bad true)):call AD (m+9) 29 [pt A.bs,.int .i64 a,.int .i64 b,.int .i64 c] h=.ok (.int .i64 17) h:=by
 have k0:=PM (m:=m+7) R;have c1:iNe 17 0=true:=EL (by omega);rw[OO rfl];unfold d29;simp only[iN,By,sT,AT,AI,reduceIte,gD,cA0,k0,AM,AK,c1,lV0]
theorem Yb(R:h.Row A.bs 0 (slL A.bd A.tb lv fv bad true)):call AD (m+9) 30 [pt A.bs,.int .i64 a,.int .i64 b,.int .i64 c] h=.ok (.int .i64 17) h:=by
 have k0:=PM (m:=m+7) R;have c1:iNe 17 0=true:=EL (by omega);rw[SO rfl,SV];unfold YA;simp only[iN,By,sT,AT,AI,reduceIte,gD,cA0,k0,AM,AK,c1,lV0]
end
end
noncomputable section
open Go
set_option maxRecDepth 100000
theorem Xg{n:Nat}{args:List BY}{h:Hp}(hl:vJ (A8 args) 160=true):call AD (vD n) 6 args h=A4 [.t (AB 10)] (d6 (call AD n) (AS e0 0 args) h):=by
 have hb:AD.get 6=some b6:=by kernel_rfl
 rw[Ah hb];have hd:b6=⟨[.t (AB 10)],d6⟩:=by kernel_rfl
 rw[hd,AX hl]
theorem kF{n:Nat}{args:List BY}{h:Hp}(hl:vJ (A8 args) 160=true):call AD (vD n) 31 args h=A4 [] (d31 (call AD n) (AS e0 0 args) h):=by
 have hb:AD.get 31=some b31:=by kernel_rfl
 rw[Ah hb];have hd:b31=⟨[],d31⟩:=by kernel_rfl
 rw[hd,AX hl]
end
noncomputable section
open Go
set_option maxRecDepth 100000
theorem Nj:∀ {cs:List (Nat×List Nat)} {c lo clk:Nat},lo≤c→c+cs.length≤clk→(∀ x∈cs,x.1<9223372036854775808)→Kn clk (ADd c cs) lo=some (cs.map (·.1))
 |[],_,_,_,_,_,_=>rfl
 |x::cs,c,lo,clk,h1,h2,h3=>by
  have h2:c+(cs.length+1)≤clk:=h2;have ih:=Nj (cs:=cs) (c:=c+1) (lo:=c+1) (clk:=clk) (IN _) (by omega) fun y hy=>h3 y (vH _ hy)
  have hx:=h3 x vG;show(match wF x.1 9223372036854775808 && (vJ lo c && wF c clk)with|true=>(match Kn clk (ADd (c+1) cs) (vD c)with|some r=>some (x.1::r)|none=>none)|false=>none)=_;have e1:(wF x.1 9223372036854775808 && (vJ lo c && wF c clk))=true:=by rw[A9.2 hx,Ab.2 h1,A9.2 (show c<clk by omega)];rfl
  rw[e1];simp only;rw[show vD c=c+1 from rfl,ih];rfl
theorem Yt{m z:Nat}:∀ {l:List Nat},z∈Si m l↔z=m∨z∈l:=fun {l}=>by
 rw[(KE m l).mem_iff,vS]
theorem QN{m:Nat}:∀ {l:List Nat},l.Pairwise (· < ·)→m∉l→(Si m l).Pairwise (· < ·)
 |[],_,_=>List.pairwise_singleton _ _
 |x::l,h,hm=>by
  have h1:=xk.1 h;have hx:m≠x:=fun e=>hm (by rw[e];exact vG)
  unfold Si;split
  ·rename_i hb
   have hb:=Ab.1 hb;refine xk.2 ⟨fun y hy=>?_,h⟩;rcases vS.1 hy with rfl|hy
   ·omega
   ·have:=h1.1 y hy;omega
  ·rename_i hb
   have hb:¬ m≤x:=fun h=>by
    rw[Ab.2 h]at hb;cases hb
   refine xk.2 ⟨fun y hy=>?_,QN h1.2 fun h=>hm (vH _ h)⟩;rcases Yt.1 hy with rfl|hy
   ·omega
   ·exact h1.1 y hy
theorem N4:∀ {l:List Nat},l.Nodup→(C0 l).Pairwise (· < ·)
 |[],_=>.nil
 |x::l,h=>by
  have h1:=xn.1 h;exact QN (N4 h1.2) fun hx=>h1.1 ((Ds l).mem_iff.1 hx)
theorem Td:∀ {l:List Nat},l.Pairwise (· < ·)→OK l=true
 |[],_=>rfl
 |[x],_=>rfl
 |x::y::l,h=>by
  have h1:=xk.1 h;show(wF x y && OK (y::l))=true;rw[A9.2 (h1.1 y vG),Td h1.2];rfl
theorem Om:∀ {cs:List (Nat×List Nat)},AEk cs→(cs.map (·.1)).Nodup
 |[],_=>AAV
 |y::cs,h=>by
  obtain⟨h1,h2⟩:=h.tail;rw[List.map_cons,xn];refine⟨fun hm=>?_,Om h1⟩;obtain⟨z,hz,e⟩:=vu.1 hm;exact h2 z hz e
theorem tE(l:List Nat):l.map zv=iv l:=by
 unfold iv ints;rw[List.map_map];rfl
section
variable {F:ADS}{e:Env}{h h' h0:Hp}{S:Nat→Prop}{bd bm bc n c0 m:Nat}{M M':List Nat}{cs:List (Nat×List Nat)}{arm:Int}{dn:Bool}{kv:BY}{bs:List Bool}
theorem TN(W:h.Wf){r clk:Nat}(R:h.Row r 0 [.map (some bc)])(hr:256≤r)(hm:h.bl.get bc=.map (ADd c0 cs) (c0+cs.length))(hK:AEk cs)(hS:AEC n cs)(hn:n≤65536)(hl:cs.length≤60):
  ∃ h' v,call AD (m+1) 66 [.func (.func 94) ⟨[]⟩ ⟨[pt r]⟩] h=.ok v h'∧h.Ext h'∧h'.Own h.next 3 v (iv (C0 (cs.map (·.1)))):=by
 have hb:AD.get 66=some bS:=by kernel_rfl
 have hk:=Nj (cs:=cs) (c:=c0) (lo:=0) (clk:=c0+cs.length) (vi _) (IN _) fun x hx=>by have:=(hS x hx).1;omega
 have hlen:vJ (A8 (ADd c0 cs)) 1000000=true:=Ab.2 (by rw[BI,I8];omega);have hs:LY 3 h (.map (some bc))=Fw 3 h (C0 (cs.map (·.1))):=by
  show(match dD (h.bl.get bc)with|.ok es clk=>(match vJ (A8 es) 1000000 with|true=>(match Kn clk es 0 with|some ks=>Fw 3 h (C0 ks)|none=>.no)|false=>.no)|.no=>.no)=_;rw[hm];show(match vJ (A8 (ADd c0 cs)) 1000000 with|true=>(match Kn (c0+cs.length) (ADd c0 cs) 0 with|some ks=>Fw 3 h (C0 ks)|none=>.no)|false=>.no)=_;rw[hlen,hk]
 obtain⟨c,hc,hl2⟩:=R.rowOf;have hA:call AD (m+1) 66 [.func (.func 94) ⟨[]⟩ ⟨[pt r]⟩] h=Fw 3 h (C0 (cs.map (·.1))):=by
  rw[Ah hb,← hs];show Jf 3 ⟨r,0,none⟩ h=_;unfold Jf;have e1:(Nat.beq 0 0 && vJ 256 r)=true:=by rw[Ab.2 hr];rfl
  simp only[e1,hc];have e2:c.get 0=.map (some bc):=(hl2 0 (by show 0<1;omega)).2;show(match Nat.beq 0 0 && wF 0 1 with|true=>LY 3 h (c.get 0)|false=>.no)=_;rw[e2];rfl
 have ha:=Td (N4 (Om hK));rw[hA];cases hz:C0 (cs.map (·.1))with
 |nil=>exact⟨h,ADj,rfl,.refl W,.inl ⟨rfl,rfl⟩⟩
 |cons x l=>
  rw[hz]at ha;refine⟨h.ADR 4 ((x::l).map zv),.slice (some ⟨h.next,0,none⟩) (x::l).length (x::l).length,?_,(Hp.Ext.refl W).ADR _ _,?_⟩
  ·show(match OK (x::l)with|true=>ADi (A8 (x::l)) (fun n=>newRow h (vD 3) ((x::l).map zv) (Ed n n))|false=>.no)=_
   rw[ha];simp only[AZ];rw[Cv W,BI];show Ed _ _ _ _=_;rfl
  ·rw[tE]
   have:=Hp.Row.new W 4 (iv (x::l));exact .inr ⟨h.next,by rw[DW],this,IN _,W.big⟩
theorem SN(W:h.Wf)(d:Dk h bd bm bc n M c0 cs arm dn)(hK:AEk cs)(hS:AEC n cs)(hl:cs.length≤60):
  ∃ h' v,call AD (m+2) 28 [pt bd] h=.ok v h'∧h.Ext h'∧h'.Own h.next 3 v (iv (C0 (cs.map (·.1)))):=by
 have k1:=Hy (m:=m) d;obtain⟨_,l1,_,_⟩:=CL d.disk;have bx:=fun (F:ADS) (e:Env) (he:AB 0 e=.map (some bc))=>show C7 (AB 0) F e h=.ok (pt h.next) (h.ADR 0 [.map (some bc)])by rw[E6,he,E3 W];rfl
 have x1:=(Hp.Ext.refl W).ADR 0 [ABg (some bc)];have R1:=Hp.Row.new W 0 [ABg (some bc)];have big:=W.big;have hm:=d.map;generalize h.ADR 0 [ABg (some bc)]=h1 at bx x1 R1;have k67:call AD (m+1) 67 [.map (some bc)] h=.ok (.func (.func 94) ⟨[]⟩ ⟨[pt h.next]⟩) h1:=by
  rw[km rfl];unfold d67;simp only[iN,By,sT,AT,AI,reduceIte,bx,DY,AW,Az,lV0]
 obtain⟨h2,v,k66,x2,V⟩:=TN (m:=m) (clk:=0) x1.wf R1 big (by rw[x1.get _ (d.lt W).2.2];exact hm) hK hS d.n1.2 hl;refine⟨h2,v,?_,x1.trans x2,V.le x1.next⟩;rw[kE rfl];unfold d28;simp only[iN,By,sT,AT,AI,reduceIte,cA0,k1,Ao,Ae,AJ,AO,sh,AN,AQ,l1,k67,k66,lV0]
def kIs(k:Nat)(x:Nat×List Nat):Bool:=decide (k=x.1)
theorem mf{k:Nat}{x:Nat×List Nat}(h:kIs k x=true):k=x.1:=of_decide_eq_true h
theorem Yw{k:Nat}{x:Nat×List Nat}(h:k=x.1):kIs k x=true:=decide_eq_true h
theorem Pw{k:Nat}{y:Nat×List Nat}:∀ {cs:List (Nat×List Nat)} {i:Nat},(∀ x∈cs,x.1≤65536)→k≤65536→cs.find? (kIs k)=some y→∃ b,IH ⟨false,[.i .i64]⟩ (.int .i64 (k:Int)) (ADd i cs)=some (some ⟨.int .i64 (y.1:Int),Cy y.2,b⟩)
 |[],_,_,_,h=>by cases h
 |x::l,i,hx,hk,h=>by
  have h1:=hx x vG;have e0:IH ⟨false,[.i .i64]⟩ (.int .i64 (k:Int)) (ADd i (x::l))=(match Gx ⟨false,[.i .i64]⟩ (.int .i64 (k:Int)) (.int .i64 (x.1:Int))with|some true=>some (some ⟨.int .i64 (x.1:Int),Cy x.2,i⟩)|some false=>IH ⟨false,[.i .i64]⟩ (.int .i64 (k:Int)) (ADd (i+1) l)|none=>none):=rfl;rw[e0,qV (by omega)];by_cases hkx:k=x.1
  ·rw[List.find?_cons_of_pos (Yw hkx)]at h
   cases h;rw[decide_eq_true hkx];exact⟨i,rfl⟩
  ·rw[List.find?_cons_of_neg (by unfold kIs;rw[decide_eq_false hkx];decide)]at h
   rw[decide_eq_false hkx];exact Pw (fun z hz=>hx z (vH _ hz)) hk h
theorem Y7(d:Dk h bd bm bc n M c0 cs arm dn)(hS:AEC n cs){z:BY}{x y:O}{i:Nat}{q:Nat×List Nat}(hx:x e=.map (some bc))(hy:y e=.int .i64 (i:Int))(hi:i<n)(hq:cs.find? (kIs i)=some q):E7 ⟨false,[.i .i64]⟩ z false x y F e h=.ok (Cy q.2) h:=by
 have hn:=d.n1;show Fp ⟨false,[.i .i64]⟩ z (x e) (y e) false h=_;rw[hx,hy];have he:BP h bc=.ok (ADd c0 cs) (c0+cs.length):=by unfold BP;rw[d.map];rfl
 obtain⟨b,hb⟩:=Pw (i:=c0) (fun x hx=>by have:=(hS x hx).1;omega) (by omega) hq;unfold Fp;rw[dK (by omega)];simp only[he,hb];unfold DN;simp only[BC]
structure Kept (n:Nat)(M:List Nat)(cs:List (Nat×List Nat))(M':List Nat):Prop where
 len:M'.length=64*n
 sct:∀ q,(∀ x,x/64=q→M'.getD x 0=M.getD x 0)∨∃ y∈cs,y.1=q∧∀ x,x/64=q→M'.getD x 0=y.2.getD (x % 64) 0
theorem Kept.put(k:Kept n M cs M')(hS:AEC n cs){y:Nat×List Nat}(hy:y∈cs):Kept n M cs (FU M' y.1 y.2):=by
 obtain⟨h1,h2,_⟩:=hS y hy;refine⟨Cg k.len h1 h2,fun q=>?_⟩;by_cases hq:y.1=q
 ·refine .inr ⟨y,hy,hq,fun x hx=>?_⟩
  rw[C9 k.len h1 h2,if_pos (by omega)]
 ·rcases k.sct q with h|⟨z,hz,hzq,h⟩
  ·refine .inl fun x hx=>?_
   rw[C9 k.len h1 h2,if_neg (by omega)];exact h x hx
  ·refine .inr ⟨z,hz,hzq,fun x hx=>?_⟩
   rw[C9 k.len h1 h2,if_neg (by omega)];exact h x hx
theorem Zt{l:List Nat}{k:Nat}(hl:l.length=64):over (M.map bv) (64*k) (l.map bv)=(FU M k l).map bv:=by
 unfold over FU;rw[If,hl,← List.map_take,← List.map_drop,v8,v8]
structure KB (h:Hp)(kv:BY)(bs:List Bool):Prop where
 len:∀ g:Hp,AEL kv g=.ok (.int .i64 (bs.length:Int)) g
 get:∀ (i:Nat) (b:Bool),bs[i]? =some b→∀ g:Hp,h.Ext g→∃ p,AEP 1 kv (.int .i64 (i:Int)) g=.ok (.pointer (some p)) g∧ADW p g=.ok (.bool b) g
theorem lZ:crS=BK (Ad 0 (Ay crB)) crE:=rfl
theorem li:d31=ce:=rfl
theorem X3(W0:h0.Wf)(x0:h0.Ext h)(hD0:h0.next≤bd∧h0.next≤bm∧h0.next≤bc)(d:Dk h bd bm bc n M c0 cs arm dn)(hK:AEk cs)(hS:AEC n cs)(hl:cs.length≤60)(Kb:KB h0 kv bs):
  ∃ h' M' c1,call AD (m+3) 31 [pt bd,kv] h=.ok ADV h'∧Fx (fun b=>b=bd∨b=bm∨b=bc) h h'∧Dk h' bd bm bc n M' c1 [] (-1) false∧Kept n M cs M':=by
 have W:=x0.wf;have k1:=Hy (m:=m+1) d;obtain⟨h1,v,k2,x1,V⟩:=SN (m:=m) W d hK hS hl;have d1:=d.ext W x1;have x01:=x0.trans x1;have hKl:(C0 (cs.map (·.1))).length=cs.length:=by rw[(Ds _).length_eq,If]
 have hmem:∀ i∈C0 (cs.map (·.1)),∃ y,cs.find? (kIs i)=some y∧y.1=i∧y∈cs:=fun i hi=>by
  obtain⟨z,hz,e⟩:=vu.1 ((Ds _).mem_iff.1 hi);cases hf:cs.find? (kIs i)with
  |none=>exact absurd (Yw e.symm) (yk.1 hf z hz)
  |some y=>exact⟨y,rfl,(mf (List.find?_some hf)).symm,List.mem_of_find?_eq_some hf⟩
 generalize C0 (cs.map (·.1))=ks at V hKl hmem;have vl:=V.vals.len;rw[DW]at vl;have hDx:∀ b,(b=bd∨b=bm∨b=bc)→h0.next≤b:=fun b hb=>by rcases hb with rfl|rfl|rfl<;>omega
 obtain⟨e1,p1,s0,s1,s9,s10,s11⟩:∃ e1,ce (call AD (m+2)) (AS e0 0 [pt bd,kv]) h=crS (call AD (m+2)) e1 h1∧AB 0 e1=pt bd∧AB 1 e1=kv∧AB 9 e1=v∧AB 10 e1=.int .i64 (ks.length:Int)∧AB 11 e1=.int .i64 ((0:Nat):Int):=by
  unfold ce;simp only[iN,By,sT,AT,AI,reduceIte,cA0,k1,k2,Af,vl];exact⟨_,rfl,by simp[AF]⟩
 have run:∃ e' h' M',Ay crB (call AD (m+2)) e1 h1=.exit 0 e' h'∧Fx (fun b=>b=bd∨b=bm∨b=bc) h h'∧Dk h' bd bm bc n M' c0 cs arm dn∧Kept n M cs M'∧AB 0 e'=pt bd:=by
  refine BU (I:=fun i e' h'=>∃ M',Fx (fun b=>b=bd∨b=bm∨b=bc) h h'∧h0.Ext h'∧Dk h' bd bm bc n M' c0 cs arm dn∧Kept n M cs M'∧h'.Own h.next 3 v (iv ks)∧i≤ks.length∧AB 0 e'=pt bd∧AB 1 e'=kv∧AB 9 e'=v∧AB 10 e'=.int .i64 (ks.length:Int)∧AB 11 e'=.int .i64 (i:Int))
   (Q:=fun x=>∃ e' h' M',x=.exit 0 e' h'∧Fx (fun b=>b=bd∨b=bm∨b=bc) h h'∧Dk h' bd bm bc n M' c0 cs arm dn∧Kept n M cs M'∧AB 0 e'=pt bd) ks.length (by omega) (fun i e' h' ⟨M',fx,x',d',kp,V',hi,t0,t1,t9,t10,t11⟩=>?_)
   ⟨M,.of x1,x01,d1,⟨d.len,fun q=>.inl fun _ _=>rfl⟩,V,vi _,s0,s1,s9,s10,s11⟩
  have W':=x'.wf;by_cases hlt:i<ks.length
  ·left
   have c1:=Es hlt;obtain⟨k,hk⟩:∃ k,ks[i]? =some k:=⟨_,No hlt⟩;have hkm:=vN hk;obtain⟨y,hf,hy1,hym⟩:=hmem k hkm;obtain⟨o1,o2,o3⟩:=hS y hym;obtain⟨a,g1,g2⟩:=V'.vals.at (i:=i) (by rw[DW];exact hlt);rw[List.getD_eq_getElem?_getD,hJ hk]at g2;have g2:Gy (.pointer (some a)) h'=.ok (.int .i64 (k:Int)) h':=g2;have kl:=Kb.len h';have a3:=fun g:Hp=>CH (i:=i) (h:=g) (by omega)
   by_cases hik:i<bs.length
   ·have c2:iLt (i:Int) (bs.length:Int)=true:=Es hik
    obtain⟨b,hb⟩:∃ b,bs[i]? =some b:=⟨_,No hik⟩;obtain⟨p,q1,q2⟩:=Kb.get i b hb h' x';cases b with
    |false=>
     obtain⟨e2,r1,r2,r3,r4,r5,r6⟩:∃ e2,crB (call AD (m+2)) e' h'=.norm e2 h'∧AB 0 e2=pt bd∧AB 1 e2=kv∧AB 9 e2=v∧AB 10 e2=.int .i64 (ks.length:Int)∧AB 11 e2=.int .i64 ((i+1:Nat):Int):=by
      unfold crB;simp only[sT,AT,AI,reduceIte,gD,AM,AK,t11,t10,c1,A1,t9,g1,AN,g2,Af,t1,kl,c2,q1,AQ,q2,BF,a3];exact⟨_,rfl,by simp[AF,t0,t1,t9,t10]⟩
     exact⟨hlt,e2,h',r1,M',fx,x',d',kp,V',hlt,r2,r3,r4,r5,r6⟩
    |true=>
     have dm:=d'.same (h':=h'.marked) rfl;obtain⟨l0,l1,_,_⟩:=CL dm.disk;have lk:=fun (F:ADS) (e:Env) (z:BY) (x y':O) (e1:x e=.map (some bc)) (e2:y' e=.int .i64 (k:Int))=>Y7 (F:=F) (z:=z) dm hS e1 e2 (by omega) hf
     have ix:AEP 64 (.slice (some ⟨bm,0,none⟩) n n) (.int .i64 (k:Int)) h'.marked=.ok (.pointer (some ⟨bm,64*k,none⟩)) h'.marked:=by
      have:=DD (h:=h'.marked) (n:=n) (c:=n) (es:=64) (b:=bm) (off:=0) (i:=k) (k:=.i64) (by omega)
      rwa [sh,Nat.mul_comm]at this
     have Rq:h'.marked.quiet.Row bm 0 (M'.map bv):=d'.med.same rfl;have hoo:64*k+(y.2.map bv).length≤(M'.map bv).length:=by rw[If,If,o2,d'.len];omega
     have st:=Rq.ADl (n:=64) (off:=64 * k) W'.marked.quiet d.big.2.1 (v:=Cy y.2) (by show(y.2.map bv).length=64;rw[If];exact o2) hoo (Ct _);have wr:=Rq.ADm W'.marked.quiet hoo;rw[Zt o2]at wr;have fw:=Fx.wr (S:=fun b=>b=bm) W'.marked.quiet Rq hoo rfl;have st:ADl 64 (.pointer (some ⟨bm,64 * k,none⟩)) (Cy y.2) h'.marked.quiet=.ok ADV (h'.marked.quiet.wr bm (64 * k) (y.2.map bv)):=st;generalize h'.marked.quiet.wr bm (64 * k) (y.2.map bv)=g at st wr fw;have q3:∀ (F:ADS) (e:Env),AB 37 e=.pointer (some ⟨bm,64 * k,none⟩)→AB 36 e=Cy y.2→Al .free (Au 64 (AB 37) (AB 36)) F e h'.marked=.ok ADV (h'.marked.back g):=fun F e e1 e2=>BQ (by rw[Aa,e1,e2];exact st)
     have f2:Fx (fun b=>b=bm) h' (h'.marked.back g):=((fw.from (h:=h'.marked) rfl rfl).same (h2:=h'.marked.back g) rfl rfl).from (h:=h') rfl rfl;have R2:(h'.marked.back g).Row bm 0 ((FU M' k y.2).map bv):=wr.same rfl;generalize h'.marked.back g=h2 at q3 f2 R2;have lt:=d'.lt W';have d2:Dk h2 bd bm bc n (FU M' k y.2) c0 cs arm dn:=⟨f2.row W' d'.disk d'.bdm,R2,Cg d'.len (by omega) o2,Uz d'.byt o3,by rw[f2.get _ lt.2.2 (fun h=>d'.bmc h.symm)];exact d'.map,d'.big,d'.n1⟩;have x2:h0.Ext h2:=Fx.xtF x' f2 fun b hb=>by rw[hb];omega
     have V2:h2.Own h.next 3 v (iv ks):=V'.fx W' f2 fun b hb h=>by have:=(d.lt W).2.1;omega
     obtain⟨e2,r1,r2,r3,r4,r5,r6⟩:∃ e2,crB (call AD (m+2)) e' h'=.norm e2 h2∧AB 0 e2=pt bd∧AB 1 e2=kv∧AB 9 e2=v∧AB 10 e2=.int .i64 (ks.length:Int)∧AB 11 e2=.int .i64 ((i+1:Nat):Int):=by
      unfold crB;simp only[sT,AT,AI,reduceIte,gD,AM,AK,t11,t10,c1,A1,t9,g1,AN,g2,Af,t1,kl,c2,q1,AQ,q2,A3,Ao,t0,Ae,AJ,AO,sh,l0,l1];rw[lk _ _ _ _ _ (by simp[AF]) (by simp[AF])];simp only[sT,AT,AI,reduceIte,A1,ix,q3,BF,a3,t11];exact⟨_,rfl,by simp[AF,t0,t1,t9,t10]⟩
     refine⟨hlt,e2,h2,r1,FU M' k y.2,fx.trans (f2.mono fun b hb=>.inr (.inl hb)),x2,d2,by rw[← hy1];exact kp.put hS hym,V2,hlt,r2,r3,r4,r5,r6⟩
   ·have c2:iLt (i:Int) (bs.length:Int)=false:=DE (by omega)
    obtain⟨e2,r1,r2,r3,r4,r5,r6⟩:∃ e2,crB (call AD (m+2)) e' h'=.norm e2 h'∧AB 0 e2=pt bd∧AB 1 e2=kv∧AB 9 e2=v∧AB 10 e2=.int .i64 (ks.length:Int)∧AB 11 e2=.int .i64 ((i+1:Nat):Int):=by
     unfold crB;simp only[sT,AT,AI,reduceIte,gD,AM,AK,t11,t10,c1,A1,t9,g1,AN,g2,Af,t1,kl,c2,BF,a3];exact⟨_,rfl,by simp[AF,t0,t1,t9,t10]⟩
    exact⟨hlt,e2,h',r1,M',fx,x',d',kp,V',hlt,r2,r3,r4,r5,r6⟩
  ·right
   have c1:=DE (show ks.length≤i by omega);obtain⟨e2,r1,r2⟩:∃ e2,crB (call AD (m+2)) e' h'=.exit 0 e2 h'∧AB 0 e2=pt bd:=by
    unfold crB;simp only[sT,AT,AI,reduceIte,AM,AK,t11,t10,c1];exact⟨_,rfl,by simp[AF,t0]⟩
   rw[r1];exact⟨rfl,e2,h',M',rfl,fx,d',kp,r2⟩
 obtain⟨e2,h2,M2,r1,f2,d2,kp2,t0⟩:=run;have W2:=f2.wf;obtain⟨_,l1,_,_⟩:=CL d2.disk;have AG2:=d2.lt W2;have cl:∀ (F:ADS) (e:Env),AB 42 e=.map (some bc)→De (AB 42) F e h2=.ok ADV (h2.put bc (.map [] (c0+cs.length))):=fun F e he=>by
  have hen:BP h2 bc=.ok (ADd c0 cs) (c0+cs.length):=by unfold BP;rw[d2.map];rfl
  unfold De;rw[he];simp only[hen];rw[Df W2 d.big.2.2 AG2.2.2];rfl
 have f3:=Fx.put (S:=fun b=>b=bc) W2 AG2.2.2 rfl (.map [] (c0+cs.length));have P3:=W2.AD0 AG2.2.2 (.map [] (c0+cs.length));generalize h2.put bc (.map [] (c0+cs.length))=h3 at cl f3 P3;have R3:=f3.row W2 d2.disk d2.bdc;obtain⟨h4,st4,R4,n4,f4,_⟩:=DK (v:=.bool false) f3.wf R3 (off:=3) (show 3<4 by omega) d.big.1 rfl rfl;have R4:h4.Row bd 0 (dkL bm bc n arm false):=R4;obtain⟨h5,st5,R5,n5,f5,_⟩:=DK (v:=.int .i64 (-1)) f4.wf R4 (off:=2) (show 2<4 by omega) d.big.1 rfl rfl;have R5:h5.Row bd 0 (dkL bm bc n (-1) false):=R5;have f35:Fx (fun b=>b=bd) h3 h5:=f4.trans f5;have hn3:∀ b,b<h2.next→b<h3.next:=fun b hb=>by have:=f3.next;omega
 refine⟨h5,M2,c0+cs.length,?_,(f2.trans (f3.mono fun b hb=>.inr (.inr hb))).trans (f35.mono fun b hb=>.inl hb),⟨R5,f35.row f3.wf (f3.row W2 d2.med d2.bmc) (fun h=>d2.bdm h.symm),d2.len,d2.byt,?_,d2.big,d2.n1⟩,kp2⟩
 ·rw[kF rfl,li,p1,lZ]
  simp only[BE,Ax,r1,A2,BA];unfold crE;simp only[sT,AT,AI,reduceIte,Ao,t0,Ae,AJ,AO,sh,AN,AQ,l1,cl,Aa,st4,st5,DX,DV]
 ·rw[f35.get _ (hn3 _ AG2.2.2) (fun h=>d2.bdc h.symm),P3,if_pos rfl];rfl
end
end
noncomputable section
open Go
set_option maxRecDepth 100000
instance (x y:Kt):Decidable (dT x y):=by unfold dT;infer_instance
def MG(x y:Kt):Bool:=decide (dT x y)
def ID(all ks:List Kt):List Kt:=ks.filter fun x=> !all.any (MG x)
theorem Pd(all ks:List Kt):(ID all ks).length≤ks.length:=List.length_filter_le _ _
section
variable {F:ADS}{e:Env}{h h':Hp}{S:Nat→Prop}{m k:Nat}{ks:List Kt}{v:BY}
theorem dG(W:h.Wf){r5:Nat}{x y:Kt}(R5:h.Row r5 0 (AV x)):∃ h',call AD (m+1) 89 [ktV y,pt r5] h=.ok (.bool (MG x y)) h'∧h.Ext h':=by
 have bx:=fun (F:ADS) (e:Env) (he:AB 0 e=ktV y)=>HP (F:=F) W he
 have x1:=(Hp.Ext.refl W).ADR 0 (AV y);have R:=Hp.Row.new W 0 (AV y);generalize h.ADR 0 (AV y)=h1 at bx x1 R;obtain⟨l0,l1,l2,l3,_,l5,_⟩:=Bq R;obtain⟨k0,k1,k2,k3,_,k5,_⟩:=Bq (R5.ext W x1);have st1:∃ e1 B,cu (call AD m) (AS e0 0 [ktV y,pt r5]) h=hiB (call AD m) e1 h1∧AB 1 e1=pt r5∧AB 2 e1=pt h.next∧AB 4 e1=.bool B∧(B=true↔y.a=x.a∧y.b=x.b):=by
  unfold cu;rcases GF y.a x.a with ⟨c1,e1⟩|⟨c1,e1⟩
  ·rcases GF y.b x.b with ⟨c2,e2⟩|⟨c2,e2⟩
   ·simp only[iN,By,sT,AT,AI,reduceIte,gD,bx,AJ,AO,sh,AN,AQ,l0,l1,l2,l3,l5,k0,k1,k2,k3,k5,AM,AK,c1,c2]
    exact⟨_,true,rfl,by simp[AF],by simp[AF],by simp[AF],⟨fun _=>⟨e1,e2⟩,fun _=>rfl⟩⟩
   ·simp only[iN,By,sT,AT,AI,reduceIte,gD,bx,AJ,AO,sh,AN,AQ,l0,l1,l2,l3,l5,k0,k1,k2,k3,k5,AM,AK,c1,c2]
    exact⟨_,false,rfl,by simp[AF],by simp[AF],by simp[AF],⟨fun h=>(by cases h),fun h=>absurd h.2 e2⟩⟩
  ·simp only[iN,By,sT,AT,AI,reduceIte,gD,bx,AJ,AO,sh,AN,AQ,l0,l1,l2,l3,l5,k0,k1,k2,k3,k5,AM,AK,c1]
   exact⟨_,false,rfl,by simp[AF],by simp[AF],by simp[AF],⟨fun h=>(by cases h),fun h=>absurd h.1 e1⟩⟩
 obtain⟨e1,B1,p1,t1,t2,t4,h1B⟩:=st1;have st2:∃ e2 B,hiB (call AD m) e1 h1=hiC (call AD m) e2 h1∧AB 1 e2=pt r5∧AB 2 e2=pt h.next∧AB 4 e2=.bool B1∧AB 5 e2=.bool B∧(B=true↔x.c<y.c∨y.c=x.c∧x.s=1):=by
  rw[mN];unfold mO;by_cases g1:x.c<y.c
  ·have c1:iGt y.c x.c=true:=FM g1
   simp only[sT,AT,AI,reduceIte,gD,t1,t2,AJ,AO,sh,AN,AQ,l0,l1,l2,l3,l5,k0,k1,k2,k3,k5,AM,AK,c1];exact⟨_,true,rfl,by simp[AF,t1],by simp[AF,t2],by simp[AF,t4],by simp[AF],⟨fun _=>.inl g1,fun _=>rfl⟩⟩
  ·have c1:iGt y.c x.c=false:=Eq g1
   rcases GF y.c x.c with ⟨c2,e2⟩|⟨c2,e2⟩
   ·rcases GF (x.s:Int) 1 with ⟨c3,e3⟩|⟨c3,e3⟩
    ·simp only[sT,AT,AI,reduceIte,gD,t1,t2,AJ,AO,sh,AN,AQ,l0,l1,l2,l3,l5,k0,k1,k2,k3,k5,AM,AK,c1,c2,c3]
     exact⟨_,true,rfl,by simp[AF,t1],by simp[AF,t2],by simp[AF,t4],by simp[AF],⟨fun _=>.inr ⟨e2,by omega⟩,fun _=>rfl⟩⟩
    ·simp only[sT,AT,AI,reduceIte,gD,t1,t2,AJ,AO,sh,AN,AQ,l0,l1,l2,l3,l5,k0,k1,k2,k3,k5,AM,AK,c1,c2,c3]
     exact⟨_,false,rfl,by simp[AF,t1],by simp[AF,t2],by simp[AF,t4],by simp[AF],⟨fun h=>(by cases h),fun h=>h.elim (fun h=>absurd h g1) (fun h=>absurd h.2 (by omega))⟩⟩
   ·simp only[sT,AT,AI,reduceIte,gD,t1,t2,AJ,AO,sh,AN,AQ,l0,l1,l2,l3,l5,k0,k1,k2,k3,k5,AM,AK,c1,c2]
    exact⟨_,false,rfl,by simp[AF,t1],by simp[AF,t2],by simp[AF,t4],by simp[AF],⟨fun h=>(by cases h),fun h=>h.elim (fun h=>absurd h g1) (fun h=>absurd h.1 e2)⟩⟩
 obtain⟨e2,B2,p2,u1,u2,u4,u5,h2B⟩:=st2;have st3:∃ e3,hiC (call AD m) e2 h1=.ret e3 h1∧AB 3 e3=.bool (MG x y):=by
  unfold hiC;cases B1 with
  |false=>
   have hf:MG x y=false:=decide_eq_false fun h=>by have:=h1B.2 ⟨h.1,h.2.1⟩;cases this
   rw[hf];simp only[sT,AT,AI,reduceIte,gD,u4];exact⟨_,rfl,by simp[AF]⟩
  |true=>
   by_cases e3:y.p=x.p
   ·have c3:iNe (y.p:Int) (x.p:Int)=false:=CV (by rw[e3])
    have hf:MG x y=false:=decide_eq_false fun h=>h.2.2.1 e3
    rw[hf];simp only[sT,AT,AI,reduceIte,gD,u4,u1,u2,AJ,AO,sh,AN,AQ,l0,l1,l2,l3,l5,k0,k1,k2,k3,k5,AM,AK,c3];exact⟨_,rfl,by simp[AF]⟩
   ·have c3:iNe (y.p:Int) (x.p:Int)=true:=EL (by omega)
    rcases GF (y.s:Int) 2 with ⟨c4,e4⟩|⟨c4,e4⟩
    ·have hB:MG x y=B2:=by
      cases B2 with
      |true=>exact decide_eq_true ⟨(h1B.1 rfl).1,(h1B.1 rfl).2,e3,by omega,h2B.1 rfl⟩
      |false=>exact decide_eq_false fun h=>by have:=h2B.2 h.2.2.2.2;cases this
     rw[hB];simp only[sT,AT,AI,reduceIte,gD,u4,u1,u2,u5,AJ,AO,sh,AN,AQ,l0,l1,l2,l3,l5,k0,k1,k2,k3,k5,AM,AK,c3,c4];exact⟨_,rfl,by simp[AF]⟩
    ·have hf:MG x y=false:=decide_eq_false fun h=>by have:=h.2.2.2.1;omega
     rw[hf];simp only[sT,AT,AI,reduceIte,gD,u4,u1,u2,AJ,AO,sh,AN,AQ,l0,l1,l2,l3,l5,k0,k1,k2,k3,k5,AM,AK,c3,c4];exact⟨_,rfl,by simp[AF]⟩
 obtain⟨e3,p3,p4⟩:=st3;refine⟨h1,?_,x1⟩;rw[lJ rfl,ly,p1,p2,p3];simp only[lV0,p4]
theorem Pk(W:h.Wf)(K:h.KS S v ks)(hl:ks.length≤1000)(hu:∀ k∈ks,oneCell k.u=true)(ht:∀ (i j:Nat) (x y:Kt),ks[i]? =some x→ks[j]? =some y→j<i→¬ qy x y):
  ∃ h' w,call AD (m+4) 59 [v] h=.ok w h'∧h.Ext h'∧h'.KO h.next w (ID ks ks):=by
 have ln:=K.len h;have pre:∃ e1,cg (call AD (m+3)) (AS e0 0 [v]) h=coS (call AD (m+3)) e1 h∧AB 0 e1=v∧AB 3 e1=.slice none 0 0∧AB 8 e1=v∧AB 9 e1=.int .i64 (ks.length:Int)∧AB 10 e1=.int .i64 ((0:Nat):Int):=by
  unfold cg;simp only[iN,By,sT,AT,AI,reduceIte,Af,ln];exact⟨_,rfl,by simp[AF]⟩
 obtain⟨e1,p1,s0,s3,s8,s9,s10⟩:=pre;have run:∃ e' h' w,Ay coB (call AD (m+3)) e1 h=.exit 0 e' h'∧h.Ext h'∧h'.KO h.next w (ID ks ks)∧AB 3 e'=w:=by
  refine BU (I:=fun i e' h'=>∃ w,h.Ext h'∧h'.KO h.next w (ID ks (ks.take i))∧AB 0 e'=v∧AB 3 e'=w∧AB 8 e'=v∧AB 9 e'=.int .i64 (ks.length:Int)∧AB 10 e'=.int .i64 (i:Int)∧i≤ks.length)
   (Q:=fun x=>∃ e' h' w,x=.exit 0 e' h'∧h.Ext h'∧h'.KO h.next w (ID ks ks)∧AB 3 e'=w) ks.length (by omega) (fun i e' h' ⟨w,x',o',t0,t3,t8,t9,t10,hi⟩=>?_) ⟨_,.refl W,.inl ⟨rfl,rfl⟩,s0,s3,s8,s9,s10,vi _⟩
  have W':=x'.wf;by_cases hlt:i<ks.length
  ·left
   have c1:=Es hlt;obtain⟨x,hx⟩:∃ x,ks[i]? =some x:=⟨_,No hlt⟩;have hxm:=vN hx;obtain⟨b,_,ix,ld,_⟩:=(K.ext W x').at hx;have al:=fun (F:ADS) (e:Env)=>Bm (F:=F) (e:=e) W' (n:=6) (t:=Dl)
   have Ra:=Hp.Row.alloc W' Gr (show(AV K0).length=6 from rfl);have y1:h'.Ext (h'.push (.cells Dl 6 0)):=(Hp.Ext.refl W').push _;have n1:(h'.push (.cells Dl 6 0)).next=h'.next+1:=rfl;generalize h'.push (.cells Dl 6 0)=h1 at al Ra y1 n1;obtain⟨st,_,y2,R5,n2⟩:=Mp W' y1 (IN _) Ra rfl (k:=x) (hu x hxm);generalize h1.wr h'.next 0 (AV x)=h2 at st y2 R5 n2;have x2:=x'.trans y2;obtain⟨h3,k3,x3⟩:=Ol (m:=m+1) (g:=89) (caps:=[pt h'.next]) (P:=MG x) x2.wf (K.ext W x2) (by omega) fun g xg y hy=>dG (m:=m) xg.wf (R5.ext x2.wf xg)
   have er:ks.take (i+1)=ks.take i++[x]:=by rw[List.take_add_one,hx];rfl
   have ec:ID ks (ks.take (i+1))=if ks.any (MG x)=true then ID ks (ks.take i)else ID ks (ks.take i)++[x]:=by
    rw[er];unfold ID;rw[List.filter_append];cases hq:ks.any (MG x)
    ·rw[if_neg (by decide),List.filter_cons_of_pos (by rw[hq];rfl)];rfl
    ·rw[if_pos rfl,List.filter_cons_of_neg (by rw[hq];decide),List.filter_nil,vR]
   have x23:=x2.trans x3;cases hq:ks.any (MG x)with
   |true=>
    rw[hq]at k3 ec;rw[if_pos rfl]at ec;have a3:=CH (i:=i) (h:=h3) (by omega);have hrun:∃ e2,coB (call AD (m+3)) e' h'=.norm e2 h3∧AB 0 e2=v∧AB 3 e2=w∧AB 8 e2=v∧AB 9 e2=.int .i64 (ks.length:Int)∧AB 10 e2=.int .i64 ((i+1:Nat):Int):=by
     unfold coB;simp only[sT,AT,AI,reduceIte,gD,AM,AK,t10,t9,c1,A1,t8,ix,Aw,Ar,ld,al,Aa,st,DY,AW,Az,BV,t0,k3,Bj,Bh,wQ,BF,a3];exact⟨_,rfl,by simp[AF,t0,t3,t8,t9]⟩
    obtain⟨e2,r1,r2,r3,r4,r5,r6⟩:=hrun;exact⟨hlt,e2,h3,r1,w,x23,by rw[ec];exact o'.ext W' (y2.trans x3),r2,r3,r4,r5,r6,hlt⟩
   |false=>
   rw[hq]at k3 ec;rw[if_neg (by decide)]at ec;obtain⟨w',Kc,ct⟩:=mh (K.ext W x23) hlt;obtain⟨h4,k4,x4⟩:=Ol (m:=m+1) (g:=90) (caps:=[pt h'.next]) (P:=fun _=>false) x23.wf Kc (by rw[vp];omega) fun g xg y hy=>by
    obtain⟨j,hj⟩:=List.mem_iff_getElem?.1 hy;have hji:j<i:=by
     have:=(vW.1 hj).1;rw[vp]at this;omega
    rw[List.getElem?_take,if_pos hji]at hj;exact mE (m:=m) xg.wf ((R5.ext x2.wf x3).ext x23.wf xg) (ht i j x y hx hj hji)
   rw[iO fun _ _=>rfl]at k4;have x24:=x23.trans x4;have y24:=(y2.trans x3).trans x4;have R54:=(R5.ext x2.wf x3).ext x23.wf x4;obtain⟨_,_,_,_,_,_,ld5,_⟩:=Bq R54;have sl:=fun (F:ADS) (e:Env) (he:AB 30 e=ktV x)=>MP (F:=F) x24.wf he
   obtain⟨h5,w5,k5,x5,o5,n5,_⟩:=Sr x24 (IN _) x24.next (o'.ext W' y24) (hu x hxm) (by have:=Pd ks (ks.take i);rw[vp]at this;omega);rw[← ec]at o5;have a3:=CH (i:=i) (h:=h5) (by omega);have hrun:∃ e2,coB (call AD (m+3)) e' h'=.norm e2 h5∧AB 0 e2=v∧AB 3 e2=w5∧AB 8 e2=v∧AB 9 e2=.int .i64 (ks.length:Int)∧AB 10 e2=.int .i64 ((i+1:Nat):Int):=by
    unfold coB;simp only[sT,AT,AI,reduceIte,AM,AK,t10,t9,c1,A1,t8,ix,Aw,Ar,ld,al,Aa,st,DY,AW,Az,BV,t0,k3,Bj,Bh,wm];rw[XY (by omega)];simp only[sT,AT,AI,reduceIte,gD,t0];rw[ct _ _ _ _ (by simp[AF]) (by simp[AF])];simp only[sT,AT,AI,reduceIte,gD,AW,Az,BV,k4,Bj,Bh,wm,Aw,Ar,ld5,sl,BG,t3,k5,BF,a3,t10];exact⟨_,rfl,by simp[AF,t0,t8,t9]⟩
   obtain⟨e2,r1,r2,r3,r4,r5,r6⟩:=hrun;exact⟨hlt,e2,h5,r1,w5,x5,o5,r2,r3,r4,r5,r6,hlt⟩
  ·right
   have c1:=DE (show ks.length≤i by omega);have hrun:∃ e2,coB (call AD (m+3)) e' h'=.exit 0 e2 h'∧AB 3 e2=w:=by
    unfold coB;simp only[sT,AT,AI,reduceIte,AM,AK,t10,t9,c1];exact⟨_,rfl,by simp[AF,t3]⟩
   obtain⟨e2,r1,r2⟩:=hrun;rw[r1];rw[xy (by omega)]at o';exact⟨rfl,e2,h',w,rfl,x',o',r2⟩
 obtain⟨e2,h2,w,r1,x2,o2,r2⟩:=run;refine⟨h2,w,?_,x2,o2⟩;rw[kU rfl,lq,p1,lY];simp only[BE,Ax,r1,A2,BA];unfold coE;simp only[sT,AT,AI,reduceIte,r2,lV0]
end
end
noncomputable section
open Go
set_option maxRecDepth 100000
section
variable {fa:Bool}{F:ADS}{e:Env}{h g:Hp}{T M:List Nat}{bd bm bc tb n m c0 k:Nat}{arm:Int}{v:BY}{ks:List Kt}
theorem Q1(W:h.Wf)(d:Dk h bd bm bc n M c0 [] arm false)(Rt:h.Row tb 0 (T.map wv))(hT:AEM T)(hn:3≤n∧n≤90)(htb:tb≠bd∧tb≠bm∧tb≠bc)
  (hI:∀ ks:List Kt,ks.map Kt.core=kcs T M (n/3)→(ks.map Kt.key).Nodup)(hl:(kcs T M (n/3)).length≤12)(ha:AEJ fa arm):
  (∃ h' bs c1 ADu lv fv ks ks0,call AD (m+8) 16 [pt bd,pt tb,.int .i64 100] h=.ok (.tuple ⟨[pt bs,.int .i64 0]⟩) h'∧Fx (fun b=>b=bd∨b=bm∨b=bc) h h'∧
   Sl h' ⟨bs,bd,bm,bc,tb,n⟩ T (GO M (AE4 ks (mrk T M (n/3)) (n/3))) c1 ADu ks (AEl ks (n/3)) lv fv (AEg T M (n/3)).length false∧ks0.map Kt.core=kcs T M (n/3)∧ks=ID (Ch ks0) (Ch ks0)∧h.next≤bs∧AEJ fa ADu)∨
  (∃ h' j ks ks0,call AD (m+8) 16 [pt bd,pt tb,.int .i64 100] h=.ok (.tuple ⟨[.pointer none,.int .i64 15]⟩) h'∧Fx (At.D ⟨h.next,bd,bm,bc,tb,n⟩) h h'∧j<(AE4 ks (mrk T M (n/3)) (n/3)).length+1∧
   AEx fa h' ⟨h.next,bd,bm,bc,tb,n⟩ T (BN M [] ((Dy (AE4 ks (mrk T M (n/3)) (n/3))).take j)).1 (BN M [] ((Dy (AE4 ks (mrk T M (n/3)) (n/3))).take j)).2∧ks0.map Kt.core=kcs T M (n/3)∧ks=ID (Ch ks0) (Ch ks0)):=by
 have big:=W.big;have s57:∀ (mm:Nat) (g:Hp),call AD (mm+1) 57 [.int .i64 100] g=.ok (.int .i64 3) g:=fun mm g=>by
  have:=VA (n:=mm) (h:=g) (z:=100);rw[N3]at this;exact this
 have AIW:=fun g=>s57 (m+6) g
 have k1:=gC (m:=m+5) d;have k2:=dA (m:=m+5) d;have c1:iEq (n:Int) 0=false:=DL (by omega);have c2:iEq 3 0=false:=DL (by omega);have c3:iGt 3 (n:Int)=false:=Eq (by omega);have ne:∀ (F:ADS) (e:Env),AB 27 e=pt tb→oEq Rv.k false (AB 27) (kV (.pointer none)) F e h=.ok (.bool false) h:=fun F e he=>Gf iE he
 have bl:∀ (F:ADS) (e:Env),AB 0 e=pt bd→AB 1 e=pt tb→AB 2 e=.int .i64 100→Bs ax.zero [(0,1,AB 0),(1,1,AB 1),(2,1,AB 2)] F e h=.ok (.agg ⟨slL bd tb ADj ADj 0 false⟩) h:=fun F e a b c=>bp a b c
 have bx:∀ (F:ADS) (e:Env),AB 46 e=.agg ⟨slL bd tb ADj ADj 0 false⟩→C7 (AB 46) F e h=.ok (pt h.next) (h.ADR 0 (slL bd tb ADj ADj 0 false)):=fun F e he=>by rw[E6,he,E3 W];rfl
 have x1:=(Hp.Ext.refl W).ADR 0 (slL bd tb ADj ADj 0 false);have R1:=Hp.Row.new W 0 (slL bd tb ADj ADj 0 false);have n1:(h.ADR 0 (slL bd tb ADj ADj 0 false)).next=h.next+1:=rfl;generalize h.ADR 0 (slL bd tb ADj ADj 0 false)=h1 at bx x1 R1 n1;obtain⟨h2,al,st,y2,R9,n2,_⟩:=Ix x1.wf gZ (v:=pt h.next) rfl rfl;have x2:=x1.trans y2;have dv:=fun g=>tJ (h:=g) (n:=n) (by omega)
 have pre:∃ e1,cZ (call AD (m+7)) (AS e0 0 [pt bd,pt tb,.int .i64 100]) h=nI (call AD (m+7)) e1 h2∧AB 2 e1=.int .i64 100∧AB 8 e1=.int .i64 (n:Int)∧AB 9 e1=pt h1.next∧AB 10 e1=ADj∧AB 11 e1=ADj∧AB 51 e1=.int .i64 ((n/3:Nat):Int)∧AB 52 e1=.int .i64 ((0:Nat):Int):=by
  unfold cZ;simp only[iN,By,sT,AT,AI,reduceIte,gD,cA0,k1,AM,AK,c1,ne,AIW,c2,c3,k2,bl,bx,al,Aa,st,H3,dv];exact⟨_,rfl,by simp[AF]⟩
 obtain⟨e1,p1,s2,s8,s9,s10,s11,s51,s52⟩:=pre;have hbs:h.next≤h.next∧h.next<h1.next∧h1.next<h2.next:=⟨IN _,by omega,by omega⟩;have o0:O1 h h2 T M h.next h1.next h2.next bd tb 0 ADj ADj []:=⟨x2,R1.ext x1.wf y2,R9,.inl ⟨rfl,rfl⟩,rfl,fun k hk=>(by cases hk),.inl ⟨rfl,rfl⟩,IN _⟩;have AJh:∃ e' g v mv ks,Ay LA (call AD (m+7)) e1 h2=.exit 1 e' g∧O1 h g T M h.next h1.next h2.next bd tb (n/3) v mv ks∧AB 10 e'=v∧AB 11 e'=mv∧AB 2 e'=.int .i64 100∧AB 8 e'=.int .i64 (n:Int)∧AB 9 e'=pt h1.next:=by
  refine BU (I:=fun i e' g=>∃ v mv ks,O1 h g T M h.next h1.next h2.next bd tb i v mv ks∧i≤n/3∧AB 10 e'=v∧AB 11 e'=mv∧AB 52 e'=.int .i64 (i:Int)∧AB 2 e'=.int .i64 100∧AB 8 e'=.int .i64 (n:Int)∧AB 9 e'=pt h1.next∧AB 51 e'=.int .i64 ((n/3:Nat):Int))
   (Q:=fun x=>∃ e' g v mv ks,x=.exit 1 e' g∧O1 h g T M h.next h1.next h2.next bd tb (n/3) v mv ks∧AB 10 e'=v∧AB 11 e'=mv∧AB 2 e'=.int .i64 100∧AB 8 e'=.int .i64 (n:Int)∧AB 9 e'=pt h1.next) (n/3) (by omega) (fun i e' g ⟨v,mv,ks,o,hi,t10,t11,t52,t2,t8,t9,t51⟩=>?_) ⟨_,_,_,o0,vi _,s10,s11,s52,s2,s8,s9,s51⟩
  by_cases hlt:i<n/3
  ·left
   obtain⟨e2,g2,v2,mv2,ks2,r1,o2,r2,r3,r4,r5⟩:=Zm (m:=m+1) W d Rt hT o hbs hlt t9 t10 t11 t51 t52;exact⟨hlt,e2,g2,r1,v2,mv2,ks2,o2,hlt,r2,r3,r4,(r5 2 (by omega)).trans t2,(r5 8 (by omega)).trans t8,(r5 9 (by omega)).trans t9,(r5 51 (by omega)).trans t51⟩
  ·right
   have hie:i=n/3:=by omega
   have c1:iLt (i:Int) ((n/3:Nat):Int)=false:=DE (by omega);have hrun:∃ e2,LA (call AD (m+7)) e' g=.exit 1 e2 g∧∀ j,j=10∨j=11∨j=2∨j=8∨j=9→AB j e2=AB j e':=by
    unfold LA;simp only[sT,AT,AI,reduceIte,AM,AK,t52,t51,c1];refine⟨_,rfl,fun j hj=>?_⟩;rcases hj with rfl|rfl|rfl|rfl|rfl<;>simp only[AF,AT,AI,reduceIte]
   obtain⟨e2,r1,r2⟩:=hrun;rw[r1];exact⟨rfl,e2,g,v,mv,ks,rfl,hie ▸ o,(r2 10 (by omega)).trans t10,(r2 11 (by omega)).trans t11,(r2 2 (by omega)).trans t2,(r2 8 (by omega)).trans t8,(r2 9 (by omega)).trans t9⟩
 obtain⟨e2,g2,v,mv,ks,q1,o,t10,t11,t2,t8,t9⟩:=AJh;have hkl:ks.length≤12:=by rw[← If (f:=Kt.core),o.cs];exact hl
 obtain⟨g3,k3,o3⟩:=gI (m:=m) W o hkl hbs.2.1 hbs.2.2;have hC:=hI ks o.cs;have hcs:=o.cs;clear o;have hm3:∀ k,k∈Ch ks↔k∈ks:=fun k=>FG
 have hl3:(Ch ks).length≤12:=by rw[IA];exact hkl
 have hn3:((Ch ks).map Kt.key).Nodup:=((Mx ks).map Kt.key).nodup_iff.2 hC;generalize AIX:Ch ks=ks3 at o3 hm3 hl3 hn3;have o4:=o3.ext (Hp.Ext.refl o3.x.wf).marked;have lb:=Cw o4.rb;have old:∀ (kk:C) (F:ADS) (e:Env),Ih (pt h1.next) kk F e g3.marked=kk F e g3.marked:=fun kk F e=>DZ (by
  show h1.next<g3.next;have:=o3.le;omega)
 obtain⟨g5,w,k5,x5,kw⟩:=Pk (m:=m+3) o4.x.wf.quiet (o4.ko.lst.same (h':=g3.marked.quiet) rfl) (by omega) (fun k hk=>(o4.ok k hk).1.vs.one.2.1) fun i j x y hx hy hij ht=>absurd ((List.getElem?_inj (i:=i) (j:=j) (by rw[If];exact(vW.1 hx).1) hn3).1 (by rw[wN,wN,hx,hy];obtain⟨e1,e2,e3,_⟩:=ht;show some (x.a,x.b,x.c)=some (y.a,y.b,y.c);rw[e1,e2,e3])) (by omega)
 have hl4:(ID ks3 ks3).length≤12:=vw (Pd _ _) hl3;have hm4:∀ k∈ID ks3 ks3,k∈ks3:=fun k hk=>(vZ.1 hk).1
 generalize AIY:ID ks3 ks3=ks4 at kw hl4 hm4;have q5:∀ e:Env,AB 10 e=v→Al .weak (AU 59 [AB 10]) (call AD (m+7)) e g3.marked=.ok w (g3.marked.back g5):=fun e he=>by
  refine DF ?_ x5 (IN _);rw[BV,AW,Az,he];exact k5
 have y5:g3.marked.Ext (g3.marked.back g5):=.back x5;have kw5:(g3.marked.back g5).KO g3.marked.quiet.next w ks4:=kw.same rfl;generalize g3.marked.back g5=g6 at q5 y5 kw5;have o6:=o4.ext y5;have AIZ:cellsOf w=[w]∧oneCell w=true:=⟨kw5.lst.one.1,kw5.lst.one.2.1⟩;obtain⟨g7,k7,AHj,n7,_,fx7,ex7⟩:=Sd o6.x.wf o6.row (off:=3) (show 3<7 by omega) big AIZ.1 AIZ.2;have x7:=ex7 h o6.x (IN _);have kp7:∀ b el L,b≠h.next→g6.Row b el L→g7.Row b el L:=fun b el L hb r=>fx7.row o6.x.wf r hb
 have AHj:g7.Row h.next 0 (slL bd tb w ADj (AEg T M (n/3)).length false):=AHj;have hk2:h2.next≤g3.marked.quiet.next:=o3.le;have AJi:∀ {u:BY} {xs:List BY},g6.Own h2.next 3 u xs→g7.Own h2.next 3 u xs:=fun o=>by
  rcases o with h1'|⟨b,h1',h2',h3',h4'⟩
  ·exact .inl h1'
  ·exact .inr ⟨b,h1',kp7 b _ _ (by omega) h2',h3',h4'⟩
 have ko7:g7.KO h2.next w ks4:=by
  rcases kw5 with h1'|⟨b,h1',h2',h3',h4'⟩
  ·exact .inl h1'
  ·exact .inr ⟨b,h1',kp7 b _ _ (by omega) h2',by omega,h4'⟩
 have p0:O2 h g7 (mrk T M (n/3)) h.next h1.next h2.next bd tb 0 (AEg T M (n/3)).length w mv ADj ADj ks4:=⟨x7,AHj,kp7 _ _ _ (by omega) o6.rb,ko7,fun k hk=>⟨(o6.ok k (hm4 k hk)).1.keep fun b el L hb he r=>kp7 b el L (by have hb:h1.next<b:=hb;omega) r,(o6.ok k (hm4 k hk)).2⟩,.inl ⟨rfl,rfl⟩,.inl ⟨rfl,rfl⟩,AJi o6.ms,fun b=>⟨fun h=>absurd h F9,fun h=>absurd h F9⟩,by rw[n7];exact o6.le⟩;have mid:∃ e3,Ut (call AD (m+7)) e2 g2=nJ (call AD (m+7)) e3 g7∧AB 9 e3=pt h1.next∧AB 11 e3=mv∧AB 17 e3=.func (.func 60) ⟨[]⟩ ⟨[pt h1.next]⟩∧AB 18 e3=ADj∧AB 102 e3=.int .i64 ((n/3:Nat):Int)∧AB 103 e3=.int .i64 ((0:Nat):Int):=by
  unfold Ut;simp only[sT,AT,AI,reduceIte,cA0,t10,k3,A3,D0,t9,old,DT,AN,AQ,lb,q5,Ao,Ae,AJ,AO,sh];rw[k7 _ _ _ _ (by simp[AF]) (by simp[AF])];simp only[sT,AT,AI,reduceIte,cA0,DY,t9,t2,AIW,t8,H3,dv];exact⟨_,rfl,by simp[AF,t9,t11]⟩
 obtain⟨e3,p3,u9,u11,u17,u18,AJj,AJk⟩:=mid;have AJl:∃ e' g fv ou,Ay LB (call AD (m+7)) e3 g7=.exit 4 e' g∧O2 h g (mrk T M (n/3)) h.next h1.next h2.next bd tb (n/3) (AEg T M (n/3)).length w mv fv ou ks4∧AB 9 e'=pt h1.next∧AB 18 e'=ou:=by
  refine BU (I:=fun i e' g=>∃ fv ou,O2 h g (mrk T M (n/3)) h.next h1.next h2.next bd tb i (AEg T M (n/3)).length w mv fv ou ks4∧i≤n/3∧AB 9 e'=pt h1.next∧AB 11 e'=mv∧AB 17 e'=.func (.func 60) ⟨[]⟩ ⟨[pt h1.next]⟩∧AB 18 e'=ou∧AB 102 e'=.int .i64 ((n/3:Nat):Int)∧AB 103 e'=.int .i64 (i:Int))
   (Q:=fun x=>∃ e' g fv ou,x=.exit 4 e' g∧O2 h g (mrk T M (n/3)) h.next h1.next h2.next bd tb (n/3) (AEg T M (n/3)).length w mv fv ou ks4∧AB 9 e'=pt h1.next∧AB 18 e'=ou) (n/3) (by omega) (fun i e' g ⟨fv,ou,o,hi,t9,t11,t17,t18,Rn,PI⟩=>?_) ⟨_,_,p0,vi _,u9,u11,u17,u18,AJj,AJk⟩
  by_cases hlt:i<n/3
  ·left
   have hml:(mrk T M (n/3)).length≤n/3:=Dg _ _;obtain⟨e2,g2,fv2,ou2,r1,o2,r2,r3,r4⟩:=Zn (m:=m+1) W o hbs hlt (by omega) (by omega) (by omega) t9 t11 t17 t18 Rn PI;exact⟨hlt,e2,g2,r1,fv2,ou2,o2,hlt,(r4 9 (by omega)).trans t9,(r4 11 (by omega)).trans t11,(r4 17 (by omega)).trans t17,r2,(r4 102 (by omega)).trans Rn,r3⟩
  ·right
   have hie:i=n/3:=by omega
   have c1:iLt (i:Int) ((n/3:Nat):Int)=false:=DE (by omega);have hrun:∃ e2,LB (call AD (m+7)) e' g=.exit 4 e2 g∧AB 9 e2=pt h1.next∧AB 18 e2=ou:=by
    unfold LB;simp only[sT,AT,AI,reduceIte,AM,AK,PI,Rn,c1];exact⟨_,rfl,by simp[AF,t9,t18]⟩
   obtain⟨e2,r1,r2,r3⟩:=hrun;rw[r1];exact⟨rfl,e2,g,fv,ou,rfl,hie ▸ o,r2,r3⟩
 obtain⟨e4,g8,fv,ou,q8,o8,v9,v18⟩:=AJl;have W8:=o8.x.wf;have lt:=d.lt W;have nD:∀ b,h.next<b→¬ (⟨h.next,bd,bm,bc,tb,n⟩:At).D b:=fun b hb=>by
  rintro (h1|h1|h1|h1)
  ·have h1:b=h.next:=h1
   omega
  ·have h1:b=bd:=h1
   omega
  ·have h1:b=bm:=h1
   omega
  ·have h1:b=bc:=h1
   omega
 have hbl:(AEg T M (n/3)).length≤n/3:=Dg _ _;have hfl:(AEl ks4 (n/3)).length≤n/3:=Dg _ _;have hol:(AE4 ks4 (mrk T M (n/3)) (n/3)).length≤n/3:=Dg _ _;have AKB:=Rt.lt W;have sl:Sl g8 ⟨h.next,bd,bm,bc,tb,n⟩ T M c0 arm ks4 (AEl ks4 (n/3)) w fv (AEg T M (n/3)).length false:=by
  refine⟨o8.row,d.ext W o8.x,Rt.ext W o8.x,hT,?_,fun k hk=>⟨(o8.ok k hk).1.mono fun b hb=>nD b (by have hb:h1.next<b:=hb;omega),(o8.ok k hk).2⟩,?_,⟨by show h.next≠bd;omega,by show h.next≠bm;omega,by show h.next≠bc;omega,?_,big⟩,⟨by omega,by omega,by omega,fun p hp=>?_⟩⟩
  ·refine Hp.KW.ks ?_
   rcases o8.ko with h1'|⟨b,h1',h2',h3',_⟩
   ·exact .inl h1'
   ·exact .inr ⟨b,h1',h2',nD b (by omega)⟩
  ·rcases o8.fs with h1'|⟨b,h1',h2',h3',_⟩
   ·exact .inl h1'
   ·exact .inr ⟨b,4,h1',h2',.inl rfl,nD b (by omega)⟩
  ·rintro (h1|h1|h1|h1)
   ·have h1:tb=h.next:=h1
    omega
   ·exact htb.1 h1
   ·exact htb.2.1 h1
   ·exact htb.2.2 h1
  ·have:=w9.1 (vZ.1 hp).1
   show 3*p+3≤n;omega
 have lb8:=Cw o8.rb;rcases In (m:=m+1) W8 sl (ps:=AE4 ks4 (mrk T M (n/3)) (n/3)) (pv:=ou) o8.os.vals (fun p hp=>by
  have:=w9.1 (vZ.1 hp).1;show 3*p+3≤n;omega) (zI.filter _) (by omega) ha with ⟨g9,c9,AFp,k9,f9,s9',a9⟩|⟨j,g9,hj,_,k9,f9,d9⟩
 ·have c0':iNe 0 0=false:=CV rfl
  have lb9:=Cw (f9.row W8 o8.rb (by
   rintro (q|q|q)
   ·have q:h1.next=bd:=q
    omega
   ·have q:h1.next=bm:=q
    omega
   ·have q:h1.next=bc:=q
    omega))
  have k9:call AD (m+7) 53 [pt h.next,ou] g8=.ok (.int .i64 0) g9:=k9;refine .inl ⟨g9,h.next,c9,AFp,w,fv,ks4,ks,?_,(Fx.of o8.x).trans f9,s9',hcs,(by rw[← AIY,AIX]),IN _,a9⟩;rw[Xa rfl,X9,p1,Uu];simp only[BE,Ax,q1,A2,BA];rw[Us,p3,Uv];simp only[BE,Ax,q8,A2,BA];unfold fR;simp only[sT,AT,AI,reduceIte,AN,AQ,v9,lb8,cA0,v18,k9,AM,AK,c0',lb9,Be,DB]
 ·have c0':iNe 15 0=true:=EL (by omega)
  have k9:call AD (m+7) 53 [pt h.next,ou] g8=.ok (.int .i64 15) g9:=k9;refine .inr ⟨g9,j,ks4,ks,?_,(Fx.of o8.x).trans f9,hj,d9,hcs,(by rw[← AIY,AIX])⟩;rw[Xa rfl,X9,p1,Uu];simp only[BE,Ax,q1,A2,BA];rw[Us,p3,Uv];simp only[BE,Ax,q8,A2,BA];unfold fR;simp only[sT,AT,AI,reduceIte,AN,AQ,v9,lb8,cA0,v18,k9,AM,AK,c0',Be,DB]
end
end
noncomputable section
open Go
set_option maxRecDepth 100000
section
variable {T M M':List Nat}{ks:List Kt}{fr ps:List Nat}{a b c:Int}{l:List Nat}{n p q k np i:Nat}{cs:List (Nat×List Nat)}
theorem AEN.like(m:AEN np T M ks fr)(h1:M'.length=M.length)(hs:∀ k∈ks,∀ x,x/192=k.p→M'.getD x 0=M.getD x 0)(hf:∀ p∈fr,∀ x,x/64=3*p→M'.getD x 0=M.getD x 0):AEN np T M' ks fr:=by
 refine⟨h1.trans m.len,fun k hk=>?_,fun k hk=>?_,fun p hp r hr=>?_,m.rs,m.pl⟩
 ·rw[GM h1 fun x hx=>hs k hk x (by omega)];exact m.hd k hk
 ·rw[Em h1 (by have:=(m.rs k hk).2;omega) fun x hx=>hs k hk x (by omega)];exact m.dt k hk
 ·rw[hf p hp _ (by omega)];exact m.bl p hp r hr
theorem Kept.none(k:Kept n M [] M')(h1:M.length=64*n):M'.length=M.length∧∀ x,M'.getD x 0=M.getD x 0:=by
 refine⟨k.len.trans h1.symm,fun x=>?_⟩;rcases k.sct (x/64)with h|⟨y,hy,_⟩
 ·exact h x rfl
 ·cases hy
theorem Kept.out(k:Kept n M cs M'){x:Nat}(h:∀ y∈cs,y.1≠x/64):M'.getD x 0=M.getD x 0:=by
 rcases k.sct (x/64)with h1|⟨y,hy,e,_⟩
 ·exact h1 x rfl
 ·exact absurd e (h y hy)
theorem N0:∀ (ps:List Nat) (i:Nat) (M:List Nat) (cs:List (Nat×List Nat)),i≤ps.length→BN M cs ((Dy ps).take i)=(M,cs++(ps.take i).map fun p=>(p*3,A5))
 |ps,0,M,cs,_=>by rw[AA7,AA7,List.map_nil,vR];rfl
 |[],i+1,_,_,h=>by cases h
 |p::ps,i+1,M,cs,h=>by
  have h:i+1≤ps.length+1:=h;show BN M cs (AD6.w (p*3) A5::(Dy ps).take i)=_;rw[Nz];show BN M (cs++[(p*3,A5)]) ((Dy ps).take i)=_;rw[N0 ps i M _ (by omega),vX];rfl
theorem AEH.fil(iv:AEH np ks fr)(P:Kt→Bool):AEH np (ks.filter fun k=> !P k) (fr++(ks.filter P).map Kt.plc):=by
 refine⟨AAx (List.filter_sublist.map _) iv.key,?_⟩;refine ABC ?_ iv.plc;rw[← vX];refine(List.perm_append_comm).trans ?_;rw[← vX,← v8];exact((Hr P ks).map Kt.plc).append_right fr
theorem MO(m:AEN np T M ks fr)(iv:AEH np ks fr)(hk:Kept (3*np) M cs M')(hc:∀ y∈cs,∃ p∈ps,y=(p*3,A5)):
  ∃ P:Kt→Bool,(∀ k∈ks,P k=true→k.p∈ps)∧AEH np (ks.filter fun k=> !P k) (fr++(ks.filter P).map Kt.plc)∧AEN np T M' (ks.filter fun k=> !P k) (fr++(ks.filter P).map Kt.plc):=by
 have h1:M'.length=M.length:=hk.len.trans m.len.symm;have hD:=fun (p:Nat)=>ADO (∀ x,x/64=3*p→M'.getD x 0=M.getD x 0)
 let St:Nat→Bool:=fun p=>match wV (∀ x,x/64=3*p→M'.getD x 0=M.getD x 0)with
  |.isTrue _=>false
  |.isFalse _=>true
 have hSf:∀ p,St p=false→∀ x,x/64=3*p→M'.getD x 0=M.getD x 0:=fun p h=>by
  show _;cases hq:wV (∀ x,x/64=3*p→M'.getD x 0=M.getD x 0)with
  |isTrue h2=>exact h2
  |isFalse h2=>
   have:St p=true:=by show(match wV (∀ x,x/64=3*p→M'.getD x 0=M.getD x 0)with|.isTrue _=>false|.isFalse _=>true)=true;rw[hq]
   rw[this]at h;cases h
 have hSt:∀ p,St p=true→p∈ps∧∀ x,x/64=3*p→M'.getD x 0=0:=fun p h=>by
  have hn:¬ ∀ x,x/64=3*p→M'.getD x 0=M.getD x 0:=fun h2=>by
   have:St p=false:=by
    show(match wV (∀ x,x/64=3*p→M'.getD x 0=M.getD x 0)with|.isTrue _=>false|.isFalse _=>true)=false;cases hq:wV (∀ x,x/64=3*p→M'.getD x 0=M.getD x 0)with
    |isTrue _=>rfl
    |isFalse h3=>exact absurd h2 h3
   rw[this]at h;cases h
  rcases hk.sct (3*p)with h3|⟨y,hy,e,hx⟩
  ·exact absurd h3 hn
  ·obtain⟨p',hp',rfl⟩:=hc y hy
   have hpp:p'=p:=by have e:p'*3=3*p:=e;omega
   subst hpp;refine⟨hp',fun x hx2=>?_⟩;rw[hx x hx2];unfold A5;exact JX
 have AJm:∀ x,x % 192≥64→M'.getD x 0=M.getD x 0:=fun x hx=>hk.out fun y hy e=>by
  obtain⟨p',_,rfl⟩:=hc y hy;have e:p'*3=x/64:=e;omega
 have hs:∀ k∈ks.filter (fun k=> !St k.p),∀ x,x/192=k.p→M'.getD x 0=M.getD x 0:=fun k hk2 x hx=>by
  have hf:St k.p=false:=by
   have:=(vZ.1 hk2).2;cases h:St k.p
   ·rfl
   ·rw[h]at this;cases this
  by_cases h2:x % 192≥64
  ·exact AJm x h2
  ·exact hSf k.p hf x (by omega)
 have AJn:∀ k∈ks,k.p<np:=fun k hk2=>by have:=iv.lt k hk2;omega
 refine⟨fun k=>St k.p,fun k _ h=>(hSt k.p h).1,iv.fil _,⟨h1.trans m.len,fun k hk2=>?_,fun k hk2=>?_,fun p hp r hr=>?_,fun k hk2=>m.rs k (vZ.1 hk2).1,fun p hp=>?_⟩⟩
 ·rw[GM h1 fun x hx=>hs k hk2 x (by omega)]
  exact m.hd k (vZ.1 hk2).1
 ·rw[Em h1 (by have:=(m.rs k (vZ.1 hk2).1).2;omega) fun x hx=>hs k hk2 x (by omega)]
  exact m.dt k (vZ.1 hk2).1
 ·rcases va.1 hp with hp|hp
  ·cases h:St p
   ·rw[hSf p h _ (by omega)];exact m.bl p hp r hr
   ·exact(hSt p h).2 _ (by omega)
  ·obtain⟨y,hy,hyp⟩:=vu.1 hp
   have hyp:y.p=p:=hyp;exact(hSt y.p (vZ.1 hy).2).2 _ (by omega)
 ·rcases va.1 hp with hp|hp
  ·exact m.pl p hp
  ·obtain⟨y,hy,rfl⟩:=vu.1 hp
   exact AJn y (vZ.1 hy).1
theorem U4{kx:Kt}(h:ADc kx.a kx.b kx.c kx.s kx.l.length=true):ADc kx.a kx.b kx.c 2 kx.l.length=true:=by
 obtain⟨g1,g2,g3,g4,g5,g6,g7,g8⟩:=Da h;exact decide_eq_true ⟨g1,g2,g3,g4,g5,g6,.inr rfl,g8⟩
theorem Tq(iv:AEH np ks fr){j:Nat}{kx:Kt}(hj:ks[j]? =some kx):∀ z∈cmK ks j kx,z={kx with s:=2}∨(z∈ks∧z.p≠kx.p):=fun z hz=>by
 have i2:=iv.set (y:={kx with s:=2}) hj rfl rfl;rcases mem_set hj hz with h|h
 ·exact .inl h
 ·by_cases hzp:z.p=kx.p
  ·have hX:({kx with s:=2}:Kt)∈ks.set j {kx with s:=2}:=List.mem_set (vW.1 hj).1 _
   exact .inl (Dv i2.nd hz hX hzp)
  ·exact .inr ⟨h,hzp⟩
theorem Pg(m:AEN np T M ks fr)(iv:AEH np ks fr){j:Nat}{kx:Kt}(hj:ks[j]? =some kx):AEN np T (D6 M kx.p (ADa T kx.a kx.b kx.c 2 kx.l)) (cmK ks j kx) fr:=by
 have hkm:=vN hj;have hp3:=iv.lt kx hkm;have hr0:=m.rs kx hkm;have hr2:=U4 hr0.1;obtain⟨g1,g2⟩:=Lu m.len (p:=kx.p) hp3 (Dd (T:=T) hr2);have ADx:=Tq iv hj;have hs:∀ z∈ks,z.p≠kx.p→∀ x,x/192=z.p→(D6 M kx.p (ADa T kx.a kx.b kx.c 2 kx.l)).getD x 0=M.getD x 0:=fun z hz hzp x hx=>by rw[g2,if_neg (by omega)]
 refine⟨g1,fun k hk=>?_,fun k hk=>?_,fun q hq r hr=>?_,fun k hk=>?_,m.pl⟩
 ·rcases ADx k hk with rfl|⟨h1,h2⟩
  ·exact PD g1 (by show 3*kx.p<3*np;omega) (Dd hr2) fun r hr=>by rw[g2,if_pos (show(64*(3*kx.p)+r)/64=3*kx.p by omega),show(64*(3*kx.p)+r) % 64=r by omega]
  ·rw[GM (g1.trans m.len.symm) fun x hx=>hs k h1 h2 x (by omega)]
   exact m.hd k h1
 ·rcases ADx k hk with rfl|⟨h1,h2⟩
  ·show dat _ kx.p kx.l.length=kx.l
   rw[Em (g1.trans m.len.symm) (by omega) fun x hx=>by rw[g2,if_neg (by omega)]];exact m.dt kx hkm
  ·rw[Em (g1.trans m.len.symm) (by have:=(m.rs k h1).2;omega) fun x hx=>hs k h1 h2 x (by omega)]
   exact m.dt k h1
 ·have hnd:(ks.map Kt.plc++fr).Nodup:=iv.plc.nodup_iff.2 zI
  have hqk:kx.p≠q:=(yL.1 hnd).2.2 kx.p (vu.2 ⟨kx,hkm,rfl⟩) q hq;rw[g2,if_neg (by omega)];exact m.bl q hq r hr
 ·rcases ADx k hk with rfl|⟨h1,h2⟩
  ·exact⟨hr2,hr0.2⟩
  ·exact m.rs k h1
theorem WG(m:AEN np T M ks fr)(iv:AEH np ks fr){j:Nat}{kx:Kt}(hj:ks[j]? =some kx)(hi:i<2)(hk:Kept (3*np) (BN M [] ((DP kx.p (ADa T kx.a kx.b kx.c 2 kx.l)).take i)).1 (BN M [] ((DP kx.p (ADa T kx.a kx.b kx.c 2 kx.l)).take i)).2 M'):
  AEN np T M' ks fr∨AEN np T M' (cmK ks j kx) fr:=by
 have m0:Kept (3*np) M [] M'→AEN np T M' ks fr:=fun hk=>by
  obtain⟨h1,h2⟩:=hk.none m.len;exact m.like h1 (fun _ _ x _=>h2 x) fun _ _ x _=>h2 x
 rcases (show i=0∨i=1 by omega)with rfl|rfl
 ·exact .inl (m0 hk)
 ·have hk:Kept (3*np) M [(kx.p*3,ADa T kx.a kx.b kx.c 2 kx.l)] M':=hk
  have h1:M'.length=M.length:=hk.len.trans m.len.symm;have hkm:=vN hj;have hout:∀ x,x/64≠3*kx.p→M'.getD x 0=M.getD x 0:=fun x hx=>hk.out fun y hy=>by
   rw[vM.1 hy];show kx.p*3≠x/64;omega
  rcases hk.sct (3*kx.p)with h|⟨y,hy,_,h⟩
  ·left
   have h2:∀ x,M'.getD x 0=M.getD x 0:=fun x=>by
    by_cases hx:x/64=3*kx.p
    ·exact h x hx
    ·exact hout x hx
   exact m.like h1 (fun _ _ x _=>h2 x) fun _ _ x _=>h2 x
  ·right
   rw[vM.1 hy]at h;obtain⟨g1,g2⟩:=Lu m.len (p:=kx.p) (iv.lt kx hkm) (Dd (T:=T) (U4 (m.rs kx hkm).1));have h2:∀ x,M'.getD x 0=(D6 M kx.p (ADa T kx.a kx.b kx.c 2 kx.l)).getD x 0:=fun x=>by
    rw[g2];by_cases hx:x/64=3*kx.p
    ·rw[if_pos hx];exact h x hx
    ·rw[if_neg hx];exact hout x hx
   exact(Pg m iv hj).like (hk.len.trans g1.symm) (fun _ _ x _=>h2 x) fun _ _ x _=>h2 x
end
end
noncomputable section
open Go
set_option maxRecDepth 100000
def gf(n:Nat)(Q:Nat→Prop):AD6→Prop
 |.w i l=>Q i∧i<n∧l.length=64∧∀ x∈l,x<256
 |.f=>True
def Aft(ks:List Kt)(fr:List Nat)(kd a b c:Int)(l:List Nat)(ks':List Kt):Prop:=
 ks'=ks∨
 (EW kd∧Ev ks fr.length a b c l=none∧∃ p fr2 k',fr=p::fr2∧k'.core=⟨a,b,c,1,l,p⟩∧ks'=Ch (ks++[k']))∨
 ((kd=5∨kd=6)∧∃ (j:Nat) (kx:Kt) (P:Kt→Bool),ks[j]? =some kx∧(kx.a=a∧kx.b=b∧kx.c=c)∧Bp a b c ks=false∧(∀ k∈cmK ks j kx,P k=true→elB a b c k=true)∧ks'=(cmK ks j kx).filter fun k=> !P k)∨
 (kd=7∧∃ (j:Nat) (kx:Kt) (P:Kt→Bool),ks[j]? =some kx∧(kx.a=a∧kx.b=b∧kx.c=c)∧Bp a b c ks=false∧(∀ k∈ks,P k=true→k.p=kx.p)∧ks'=ks.filter fun k=> !P k)∨
 (kd=8∧∃ P:Kt→Bool,(∀ k∈ks,P k=true→drB a b c k=true)∧ks'=ks.filter fun k=> !P k)
section
variable {T M M':List Nat}{ks ks':List Kt}{fr fr' ps:List Nat}{kd a b c:Int}{l H:List Nat}{n p q k np i:Nat}{cs:List (Nat×List Nat)}{Q:Nat→Prop}
theorem H8:∀ (ds:List AD6) (M:List Nat) (cs:List (Nat×List Nat)),M.length=64*n→AEC n cs→(∀ y∈cs,Q y.1)→(∀ d∈ds,gf n Q d)→
  (BN M cs ds).1.length=64*n∧(∀ x,¬ Q (x/64)→(BN M cs ds).1.getD x 0=M.getD x 0)∧∀ y∈(BN M cs ds).2,Q y.1
 |[],M,cs,h1,_,h3,_=>⟨h1,fun _ _=>rfl,h3⟩
 |.w i l::ds,M,cs,h1,h2,h3,h4=>by
  obtain⟨q1,q2,q3,q4⟩:=h4 _ vG;refine H8 ds M (cs++[(i,l)]) h1 (fun y hy=>?_) (fun y hy=>?_) fun d hd=>h4 d (vH _ hd)
  ·rcases va.1 hy with hy|hy
   ·exact h2 y hy
   ·rw[vM.1 hy];exact⟨q2,q3,q4⟩
  ·rcases va.1 hy with hy|hy
   ·exact h3 y hy
   ·rw[vM.1 hy];exact q1
 |.f::ds,M,cs,h1,h2,h3,h4=>by
  obtain⟨a,b,c⟩:=H8 ds (Er M cs) [] (FC h1 h2) (fun y hy=>by cases hy) (fun y hy=>by cases hy) fun d hd=>h4 d (vH _ hd)
  exact⟨a,fun x hx=>(b x hx).trans (Hv h1 h2 fun y hy e=>hx (by rw[e];exact h3 y hy)),c⟩
theorem RQ(M:List Nat)(cs:List (Nat×List Nat))(d1 d2:List AD6):BN M cs (d1++d2)=BN (BN M cs d1).1 (BN M cs d1).2 d2:=by
 rw[FF,FF,FF,List.foldl_append]
def HY(p:Nat)(l:List Nat):List AD6:=if l=[]then []else F1 p l
theorem Wp(hp:p<np)(hl:l.length≤100)(hb:∀ x∈l,x<256):∀ d∈HY p l,gf (3*np) (fun i=>i=3*p+1∨i=3*p+2) d:=fun d hd=>by
 unfold HY at hd;split at hd
 ·cases hd
 ·unfold F1 at hd
  rcases va.1 hd with hd|hd
  ·obtain⟨j,hj,rfl⟩:=vu.1 hd
   have:=w9.1 hj;exact⟨by omega,by omega,CO _ _,Iy hb _⟩
  ·rw[vM.1 hd];trivial
theorem Z6(M:List Nat):(BN M [] (HY p l)).2=[]:=by
 unfold HY;split
 ·rfl
 ·exact Hb _ _ _
theorem Nw:DI T M p l H=FU (BN M [] (HY p l)).1 (p*3) H:=by
 unfold DI;rw[RQ];have e1:(BN M [] (F1 p l)).2=[]:=Hb _ _ _;have e2:(BN M [] (F1 p l)).1=(BN M [] (HY p l)).1:=by
  unfold HY;split
  ·rename_i h
   rw[h];rfl
  ·rfl
 rw[e1,e2];rfl
theorem WH(m:AEN np T M ks (p::fr'))(iv:AEH np ks (p::fr'))(hc:Com ks)(hb:∀ x∈l,x<256)(hz:Ev ks (p::fr').length a b c l=none)(hi:i<(JV p l (ADa T a b c 1 l)).length)
  (hk:Kept (3*np) (BN M [] ((JV p l (ADa T a b c 1 l)).take i)).1 (BN M [] ((JV p l (ADa T a b c 1 l)).take i)).2 M'):
  AEN np T M' ks (p::fr')∨∃ k':Kt,k'.core=⟨a,b,c,1,l,p⟩∧AEH np (Ch (ks++[k'])) fr'∧AEN np T M' (Ch (ks++[k'])) fr':=by
 have hn:¬ (ADc a b c 1 l.length=false∨100<l.length):=fun h=>by
  unfold Ev at hz;rw[if_pos h]at hz;cases hz
 have hr:ADc a b c 1 l.length=true:=by
  cases hq:ADc a b c 1 l.length
  ·exact absurd (.inl hq) hn
  ·rfl
 have AFD:l.length≤100:=ABx fun h=>hn (.inr h)
 have hp8:=m.pl p vG;have hnd:(ks.map Kt.plc++(p::fr')).Nodup:=iv.plc.nodup_iff.2 zI;have hkp:∀ k∈ks,k.p≠p:=fun k hk h=>(yL.1 hnd).2.2 k.p (vu.2 ⟨k,hk,rfl⟩) p vG h
 have near:∀ N:List Nat,N.length=64*(3*np)→(∀ x,¬ (x/64=3*p+1∨x/64=3*p+2)→N.getD x 0=M.getD x 0)→AEN np T N ks (p::fr'):=fun N h1 h2=>
  m.like (h1.trans m.len.symm) (fun k hk x hx=>h2 x (by have:=hkp k hk;omega)) fun q hq x hx=>h2 x (by omega)
 have hNB:=Wp hp8 AFD hb;have eD:JV p l (ADa T a b c 1 l)=HY p l++DP p (ADa T a b c 1 l):=rfl;rw[eD]at hi hk;by_cases hle:i≤(HY p l).length
 ·rw[List.take_append_of_le_length hle]at hk
  obtain⟨g1,g2,g3⟩:=H8 (Q:=fun i=>i=3*p+1∨i=3*p+2) ((HY p l).take i) M [] m.len (fun y hy=>by cases hy) (fun y hy=>by cases hy) fun d hd=>hNB d (wu hd)
  exact .inl (near M' hk.len fun x hx=>(hk.out fun y hy e=>hx (by rw[← e];exact g3 y hy)).trans (g2 x hx))
 ·have hi2:i<(HY p l).length+2:=by rw[List.length_append]at hi;exact hi
  obtain rfl:i=(HY p l).length+1:=by omega
  rw[List.take_append,xy (by omega),show(HY p l).length+1 - (HY p l).length=1 by omega,RQ,Z6]at hk;obtain⟨g1,g2,g3⟩:=H8 (Q:=fun i=>i=3*p+1∨i=3*p+2) (HY p l) M [] m.len (fun y hy=>by cases hy) (fun y hy=>by cases hy) hNB;have hk:Kept (3*np) (BN M [] (HY p l)).1 [(p*3,ADa T a b c 1 l)] M':=hk;have hout:∀ x,x/64≠3*p→M'.getD x 0=(BN M [] (HY p l)).1.getD x 0:=fun x hx=>hk.out fun y hy=>by
   rw[vM.1 hy];show p*3≠x/64;omega
  rcases hk.sct (3*p)with h|⟨y,hy,_,h⟩
  ·refine .inl (near M' hk.len fun x hx=>?_)
   rw[← g2 x hx];by_cases hx2:x/64=3*p
   ·exact h x hx2
   ·exact hout x hx2
  ·right
   rw[vM.1 hy]at h;have hH:=Dd (T:=T) hr;have hL:=Cg g1 (show p*3<3*np by omega) hH;have tn:∀ k':Kt,k'.core=⟨a,b,c,1,l,p⟩→SE T M ks (p::fr') 1 a b c l (DI T M p l (ADa T a b c 1 l)) (Ch (ks++[k'])) fr':=fun k' h=>.inl ⟨.inl rfl,hz,p,k',rfl,rfl,h,rfl⟩
   have t:=tn ⟨a,b,c,1,l,p,.pointer none⟩ rfl;refine⟨_,rfl,(Ji iv t).1,(Hg iv m hc t).1.like ?_ (fun _ _ x _=>?_) fun _ _ x _=>?_⟩
   ·rw[Nw,hL];exact hk.len
   all_goals
    rw[Nw,C9 g1 (by omega) hH];by_cases hx2:x/64=3*p
    ·rw[if_pos (by omega)];exact h x hx2
    ·rw[if_neg (by omega)];exact hout x hx2
theorem dJ(ks:List Kt)(P P2:Kt→Bool):((ks.filter fun k=> !P k).filter fun k=> !P2 k)=ks.filter fun k=> !(P k || P2 k):=by
 rw[List.filter_filter];refine List.filter_congr fun k _=>?_
 cases P k<;>cases P2 k<;>rfl
theorem PG{ps:List Nat}{M:List Nat}(hi:i<ps.length+1):(BN M [] ((Dy ps).take i)).1=M∧∀ y∈(BN M [] ((Dy ps).take i)).2,∃ p∈ps,y=(p*3,A5):=by
 rw[N0 ps i M [] (by omega)];refine⟨rfl,fun y hy=>?_⟩;obtain⟨p,hp,rfl⟩:=vu.1 hy;exact⟨p,wu hp,rfl⟩
theorem Vu{q:List Nat×List (Nat×List Nat)}(m:AEN np T M ks fr)(iv:AEH np ks fr)(hc:Com ks)(hb:∀ x∈l,x<256)(f:oH T M ks fr kd a b c l q)(hk:Kept (3*np) q.1 q.2 M'):
  ∃ ks' fr',AEH np ks' fr'∧AEN np T M' ks' fr'∧Aft ks fr kd a b c l ks':=by
 rcases f with ⟨h14,hz,p,fr2,i,rfl,hi,rfl⟩|⟨h56,j,kx,i,hj,AEi,hst,hi,rfl⟩|⟨h56,j,kx,i,hj,AEi,hst,hi,rfl⟩|⟨rfl,j,kx,i,hj,AEi,hst,hi,rfl⟩|⟨rfl,o1,x,o2,i,ho,hi,rfl⟩
 ·rcases WH m iv hc hb hz hi hk with h|⟨k',e,i2,m2⟩
  ·exact⟨ks,_,iv,h,.inl rfl⟩
  ·exact⟨_,_,i2,m2,.inr (.inl ⟨h14,hz,p,fr2,k',rfl,e,rfl⟩)⟩
 ·have hk2:=hk
  obtain⟨rfl,rfl,rfl⟩:=AEi;rcases WG m iv hj hi hk with h|h
  ·exact⟨ks,fr,iv,h,.inl rfl⟩
  ·have i2:AEH np (cmK ks j kx) fr:=iv.set hj rfl rfl
   exact⟨cmK ks j kx,fr,i2,h,.inr (.inr (.inl ⟨h56,j,kx,fun _=>false,hj,⟨rfl,rfl,rfl⟩,hst,(fun _ _ h=>by cases h),(ABS.2 fun _ _=>rfl).symm⟩))⟩
 ·obtain⟨rfl,rfl,rfl⟩:=AEi
  obtain⟨e1,e2⟩:=PG (ps:=cmO ks j kx) (M:=D6 M kx.p (ADa T kx.a kx.b kx.c 2 kx.l)) hi;rw[e1]at hk;have i2:AEH np (cmK ks j kx) fr:=iv.set hj rfl rfl;obtain⟨P,hP,i3,m3⟩:=MO (Pg m iv hj) i2 hk e2;refine⟨_,_,i3,m3,.inr (.inr (.inl ⟨h56,j,kx,P,hj,⟨rfl,rfl,rfl⟩,hst,fun k hk2 hp=>?_,rfl⟩))⟩;obtain⟨y,hy,hyp⟩:=vu.1 (hP k hk2 hp);obtain⟨hy1,hy2⟩:=vZ.1 hy;rw[← Dv i2.nd hy1 hk2 hyp];exact hy2
 ·obtain⟨e1,e2⟩:=PG (ps:=[kx.p]) (M:=M) hi
  rw[e1]at hk;obtain⟨P,hP,i3,m3⟩:=MO m iv hk e2;exact⟨_,_,i3,m3,.inr (.inr (.inr (.inl ⟨rfl,j,kx,P,hj,AEi,hst,fun k hk2 hp=>vM.1 (hP k hk2 hp),rfl⟩)))⟩
 ·obtain⟨e1,e2⟩:=PG (ps:=[x.p]) (M:=EJ M o1) hi
  rw[e1,Hm]at hk;rw[Hm]at e2;have hO:∀ z∈o1++x::o2,z∈ks∧drB a b c z=true:=fun z hz=>by
   rw[← ho]at hz;exact vZ.1 (List.mem_reverse.1 hz)
  have hin:∀ z∈o1++x::o2,∀ k∈ks,k.p=z.p→drB a b c k=true:=fun z hz k hk2 hp=>by
   obtain⟨h1,h2⟩:=hO z hz;rw[Dv iv.nd hk2 h1 hp];exact h2
  let P1:Kt→Bool:=fun k=>decide (k.p∈o1.map Kt.plc)
  have hP1:∀ k∈ks,P1 k=true→drB a b c k=true:=fun k hk2 hp=>by
   obtain⟨z,hz,hzp⟩:=vu.1 (of_decide_eq_true hp);exact hin z (vk _ hz) k hk2 hzp.symm
  have i1:=iv.fil P1;have m1:AEN np T (GO M (o1.map Kt.plc)) (ks.filter fun k=> !P1 k) (fr++(ks.filter P1).map Kt.plc):=m.cut (fun k hk2=>?_) (fun p hp=>?_) fun p hp=>?_
  ·obtain⟨P2,hP2,i3,m3⟩:=MO m1 i1 hk e2
   rw[dJ]at i3 m3;refine⟨_,_,i3,m3,.inr (.inr (.inr (.inr ⟨rfl,fun k=>P1 k || P2 k,fun k hk2 hp=>?_,rfl⟩)))⟩;have hp:(P1 k || P2 k)=true:=hp;cases h1:P1 k
   ·rw[h1,Bool.false_or]at hp
    have:=vM.1 (hP2 k (vZ.2 ⟨hk2,by rw[h1];rfl⟩) hp);exact hin x (List.mem_append_right _ vG) k hk2 this
   ·exact hP1 k hk2 h1
  ·obtain⟨h1,h2⟩:=vZ.1 hk2
   refine⟨h1,fun h=>?_⟩;have:P1 k=true:=decide_eq_true h;rw[this]at h2;cases h2
  ·rcases va.1 hp with h|h
   ·exact .inl h
   ·obtain⟨y,hy,rfl⟩:=vu.1 h
    exact .inr (of_decide_eq_true (vZ.1 hy).2)
  ·obtain⟨y,hy,rfl⟩:=vu.1 hp
   exact iv.lt y (hO y (vk _ hy)).1
end
end
noncomputable section
open Go
set_option maxRecDepth 100000
def AGh(np:Nat)(T M:List Nat)(cs:List (Nat×List Nat))(Q:List Kt→Prop):Prop:=∀ M',Kept (3*np) M cs M'→∃ ks fr,AEH np ks fr∧AEN np T M' ks fr∧Q ks
inductive St (h:Hp)(A:At)(np:Nat)(T:List Nat)(Q:List Kt→Prop):Prop
 |up (M:List Nat) (c0:Nat) (arm:Int) (ks:List Kt) (fr:List Nat) (lv fv:BY) (s:Sl h A T M c0 arm ks fr lv fv 0 false) (iv:AEH np ks fr) (md:AEN np T M ks fr) (hc:Com ks) (a:AEJ true arm) (q:Q ks)
 |over (M:List Nat) (cs:List (Nat×List Nat)) (d:AEx true h A T M cs) (g:AGh np T M cs Q)
def Clo(G:Kt→Prop)(kd a b c:Int)(l:List Nat):Prop:=(EW kd→∀ k:Kt,k.a=a→k.b=b→k.c=c→k.s=1→k.l=l→G k)∧((kd=5∨kd=6)→∀ k:Kt,G k→k.a=a→k.b=b→k.c=c→G {k with s:=2})
section
variable {fa:Bool}{e:Env}{h h' h0:Hp}{A:At}{T M M':List Nat}{c0 bad m k p n np bd bm bc tb:Nat}{arm:Int}{ks ks':List Kt}{fr fr':List Nat}{lv fv u kv:BY}{kd a b c z:Int}{l:List Nat}{cs:List (Nat×List Nat)}{G:Kt→Prop}{Q:List Kt→Prop}{bs:List Bool}
theorem ZD:∀ (n:Nat) (l:List Nat),l.Nodup→(∀ x∈l,x<n)→l.length≤n
 |0,[],_,_=>IN _
 |0,x::l,_,h=>absurd (h x vG) (Nat.not_lt_zero _)
 |n+1,l,hd,h=>by
  have h1:=ZD n (l.erase n) (hd.erase _) fun x hx=>by
   have h2:=h x (List.mem_of_mem_erase hx);have h3:x≠n:=fun e=>(hd.mem_erase_iff.1 hx).1 e
   omega
  have h2:=List.length_erase (a:=n) (l:=l);split at h2<;>omega
theorem la(hK:AEk cs)(hS:AEC n cs):cs.length≤n:=by
 have:=ZD n (cs.map (·.1)) (Om hK) fun x hx=>by
  obtain⟨y,hy,rfl⟩:=vu.1 hx;exact(hS y hy).1
 rwa [If]at this
theorem Pf{j:Nat}{kx:Kt}(hj:ks[j]? =some kx)(iv:AEH np ks fr)(hG:∀ k∈ks,G k)(hC:Clo G 5 kx.a kx.b kx.c l):∀ k∈cmK ks j kx,G k:=fun k hk=>by
 rcases Tq iv hj k hk with rfl|⟨h1,_⟩
 ·exact hC.2 (.inl rfl) kx (hG kx (vN hj)) rfl rfl rfl
 ·exact hG k h1
theorem RD{k':Kt}(hG:∀ k∈ks,G k)(hC:Clo G 1 a b c l)(e:k'.core=⟨a,b,c,1,l,p⟩):∀ k∈Ch (ks++[k']),G k:=fun k hk=>by
 rw[FG,va,vM]at hk;rcases hk with hk|rfl
 ·exact hG k hk
 ·obtain⟨e1,e2,e3,e4,e5,_⟩:=Ud (y:=⟨a,b,c,1,l,p,.pointer none⟩) e
  exact hC.1 (.inl rfl) k e1 e2 e3 e4 e5
theorem bQ(iv:AEH np ks fr)(hG:∀ k∈ks,G k)(hC:Clo G kd a b c l)(t:Aft ks fr kd a b c l ks'):∀ k∈ks',G k:=by
 have hC1:EW kd→Clo G 1 a b c l:=fun h=>⟨fun _=>hC.1 h,fun h2=>by omega⟩
 have hC5:kd=5∨kd=6→Clo G 5 a b c l:=fun h=>⟨fun h2=>by unfold EW at h2;omega,fun _=>hC.2 h⟩
 rcases t with rfl|⟨h14,_,p,_,k',_,e,rfl⟩|⟨h56,j,kx,P,hj,⟨rfl,rfl,rfl⟩,_,_,rfl⟩|⟨_,j,kx,P,hj,_,_,_,rfl⟩|⟨_,P,_,rfl⟩
 ·exact hG
 ·exact RD hG (hC1 h14) e
 ·exact fun k hk=>Pf hj iv hG (hC5 h56) k (vZ.1 hk).1
 ·exact fun k hk=>hG k (vZ.1 hk).1
 ·exact fun k hk=>hG k (vZ.1 hk).1
theorem ag(iv:AEH np ks fr)(hG:∀ k∈ks,G k)(hC:Clo G kd a b c l)(t:SE T M ks fr kd a b c l M' ks' fr'):∀ k∈ks',G k:=by
 have hC1:EW kd→Clo G 1 a b c l:=fun h=>⟨fun _=>hC.1 h,fun h2=>by omega⟩
 have hC5:kd=5∨kd=6→Clo G 5 a b c l:=fun h=>⟨fun h2=>by unfold EW at h2;omega,fun _=>hC.2 h⟩
 rcases t with ⟨h14,_,p,k',_,rfl,e,_⟩|⟨h56,j,kx,hj,⟨rfl,rfl,rfl⟩,_,rfl,_⟩|⟨_,j,kx,hj,_,_,rfl,_⟩|⟨_,rfl,_⟩
 ·exact RD hG (hC1 h14) e
 ·exact fun k hk=>Pf hj iv hG (hC5 h56) k (vZ.1 hk).1
 ·exact fun k hk=>hG k (by
   rcases va.1 hk with h|h
   ·exact wu h
   ·exact List.mem_of_mem_drop h)
 ·exact fun k hk=>hG k (vZ.1 hk).1
theorem St.turn{ADu:Int}{c1:Nat}{lv' fv':BY}(iv:AEH np ks fr)(md:AEN np T M ks fr)(hc:Com ks)(hG:∀ k∈ks,G k)(hC:Clo G kd a b c l)(t:SE T M ks fr kd a b c l M' ks' fr')(s:Sl h' A T M' c1 ADu ks' fr' lv' fv' 0 false)(ha:AEJ true ADu):St h' A np T fun ks=>∀ k∈ks,G k:=
 .up M' c1 ADu ks' fr' lv' fv' s (Ji iv t).1 (Hg iv md hc t).1 (Hg iv md hc t).2.1 ha (ag iv hG hC t)
theorem St.fail{q:List Nat×List (Nat×List Nat)}(iv:AEH np ks fr)(md:AEN np T M ks fr)(hc:Com ks)(hb:∀ x∈l,x<256)(hG:∀ k∈ks,G k)(hC:Clo G kd a b c l)(f:oH T M ks fr kd a b c l q)(d:AEx true h' A T q.1 q.2):St h' A np T fun ks=>∀ k∈ks,G k:=
 .over q.1 q.2 d fun M' hk=>by
  obtain⟨ks',fr',i2,m2,t⟩:=Vu md iv hc hb f hk;exact⟨ks',fr',i2,m2,bQ iv hG hC t⟩
theorem St.AJo(W:h.Wf)(st:St h A np T fun ks=>∀ k∈ks,G k)(hA:A.n=3*np)(hnp:np≤8)(V:h.VE u (l.map bv))(hb:∀ x∈l,x<256)(hl:l.length≤1000)(hC:Clo G 1 a b c l):
  ∃ z h',call AD (m+8) 11 [pt A.bs,.int .i64 a,.int .i64 b,.int .i64 c,u] h=.ok (.int .i64 z) h'∧Fx A.D h h'∧St h' A np T fun ks=>∀ k∈ks,G k:=by
 rcases st with ⟨M,c0,arm,ks,fr,lv,fv,s,iv,md,hc,ha,hG⟩|⟨M,cs,d,g⟩
 ·have hlen:=iv.len
  cases hz:Ev ks fr.length a b c l with
  |some z=>
   obtain⟨h2,k2,y2⟩:=Z5 (m:=m) W s V hl hz;exact⟨z,h2,k2,.of y2,.up M c0 arm ks fr lv fv (s.ext W y2) iv md hc ha hG⟩
  |none=>
   obtain⟨p,fr2,rfl,r⟩:=Nv (m:=m) W s V hb hl (by omega) ha hz;rcases r with ⟨h2,c1,ADu,lv',fv',k',k2,f2,s2,hcr,a2⟩|⟨j,h2,hj,k2,f2,dd⟩
   ·exact⟨0,h2,k2,f2,.turn iv md hc hG hC (.inl ⟨.inl rfl,hz,p,k',rfl,rfl,hcr,rfl⟩) s2 a2⟩
   ·exact⟨15,h2,k2,f2,.fail iv md hc hb hG hC (.inl ⟨.inl rfl,hz,p,fr2,j,rfl,hj,rfl⟩) dd⟩
 ·obtain⟨lv,fv,bad,R⟩:=d.row
  exact⟨17,h,Z4 R,.refl W,.over M cs d g⟩
theorem St.comm(W:h.Wf)(st:St h A np T fun ks=>∀ k∈ks,G k)(hA:A.n=3*np)(hnp:np≤8)(hC:Clo G 5 a b c []):
  ∃ z h',call AD (m+8) 12 [pt A.bs,.int .i64 a,.int .i64 b,.int .i64 c] h=.ok (.int .i64 z) h'∧Fx A.D h h'∧St h' A np T fun ks=>∀ k∈ks,G k:=by
 have hb0:∀ x∈([]:List Nat),x<256:=fun x hx=>by cases hx
 rcases st with ⟨M,c0,arm,ks,fr,lv,fv,s,iv,md,hc,ha,hG⟩|⟨M,cs,d,g⟩
 ·have hlen:=iv.len
  cases hz:Iz ks a b c with
  |some z=>
   obtain⟨h2,k2,y2⟩:=Xz (m:=m) W s hz;exact⟨z,h2,k2,.of y2,.up M c0 arm ks fr lv fv (s.ext W y2) iv md hc ha hG⟩
  |none=>
   obtain⟨j,kx,q1,q2,q3,q4,r⟩:=Pe (m:=m) W s (a:=a) (b:=b) (c:=c) (by omega) (fun k hk=>by have:=iv.lt k hk;omega) iv.nd ha hz;obtain⟨rfl,rfl,rfl⟩:=q2;rcases r with ⟨h2,c1,ADu,lv',fv',k2,f2,s2,a2⟩|⟨i,h2,hi,k2,f2,dd⟩|⟨i,h2,hi,k2,f2,dd⟩
   ·exact⟨0,h2,k2,f2,.turn iv md hc hG hC (.inr (.inl ⟨.inl rfl,j,kx,q1,⟨rfl,rfl,rfl⟩,q4,rfl,rfl,rfl⟩)) s2 a2⟩
   ·exact⟨15,h2,k2,f2,.fail iv md hc hb0 hG hC (.inr (.inl ⟨.inl rfl,j,kx,i,q1,⟨rfl,rfl,rfl⟩,q4,hi,rfl⟩)) dd⟩
   ·exact⟨15,h2,k2,f2,.fail iv md hc hb0 hG hC (.inr (.inr (.inl ⟨.inl rfl,j,kx,i,q1,⟨rfl,rfl,rfl⟩,q4,hi,rfl⟩))) dd⟩
 ·obtain⟨lv,fv,bad,R⟩:=d.row
  exact⟨17,h,Xy R,.refl W,.over M cs d g⟩
theorem St.abort(W:h.Wf)(st:St h A np T fun ks=>∀ k∈ks,G k)(hA:A.n=3*np)(hnp:np≤8):
  ∃ z h',call AD (m+9) 29 [pt A.bs,.int .i64 a,.int .i64 b,.int .i64 c] h=.ok (.int .i64 z) h'∧Fx A.D h h'∧St h' A np T fun ks=>∀ k∈ks,G k:=by
 have hb0:∀ x∈([]:List Nat),x<256:=fun x hx=>by cases hx
 have hC:Clo G 7 a b c []:=⟨fun h=>by unfold EW at h;omega,fun h=>by omega⟩;rcases st with ⟨M,c0,arm,ks,fr,lv,fv,s,iv,md,hc,ha,hG⟩|⟨M,cs,d,g⟩
 ·have hlen:=iv.len
  cases hz:abE ks a b c with
  |some z=>
   obtain⟨h2,k2,y2⟩:=iL (m:=m) W s hz;exact⟨z,h2,k2,.of y2,.up M c0 arm ks fr lv fv (s.ext W y2) iv md hc ha hG⟩
  |none=>
   obtain⟨j,kx,q1,q2,q3,r⟩:=VO (m:=m) W s (a:=a) (b:=b) (c:=c) (by omega) (fun k hk=>by have:=iv.lt k hk;omega) ha hz;rcases r with ⟨h2,c1,ADu,lv',fv',k2,f2,s2,a2⟩|⟨i,h2,hi,k2,f2,dd⟩
   ·exact⟨0,h2,k2,f2,.turn iv md hc hG hC (.inr (.inr (.inl ⟨rfl,j,kx,q1,q2,q3,rfl,rfl,rfl⟩))) s2 a2⟩
   ·exact⟨15,h2,k2,f2,.fail iv md hc hb0 hG hC (.inr (.inr (.inr (.inl ⟨rfl,j,kx,i,q1,q2,q3,hi,rfl⟩)))) dd⟩
 ·obtain⟨lv,fv,bad,R⟩:=d.row
  exact⟨17,h,VP R,.refl W,.over M cs d g⟩
theorem St.drop(W:h.Wf)(st:St h A np T fun ks=>∀ k∈ks,G k)(hA:A.n=3*np)(hnp:np≤8):
  ∃ z h',call AD (m+9) 30 [pt A.bs,.int .i64 a,.int .i64 b,.int .i64 c] h=.ok (.int .i64 z) h'∧Fx A.D h h'∧St h' A np T fun ks=>∀ k∈ks,G k:=by
 have hb0:∀ x∈([]:List Nat),x<256:=fun x hx=>by cases hx
 have hC:Clo G 8 a b c []:=⟨fun h=>by unfold EW at h;omega,fun h=>by omega⟩;rcases st with ⟨M,c0,arm,ks,fr,lv,fv,s,iv,md,hc,ha,hG⟩|⟨M,cs,d,g⟩
 ·have hlen:=iv.len
  rcases Ya (m:=m) W s a b c (by omega) (fun k hk=>by have:=iv.lt k hk;omega) ha with ⟨h2,c1,ADu,lv',fv',k2,f2,s2,a2⟩|⟨h2,o1,x,o2,i,k2,ho,hi,f2,dd⟩
  ·exact⟨0,h2,k2,f2,.turn iv md hc hG hC (.inr (.inr (.inr ⟨rfl,rfl,rfl,rfl⟩))) s2 a2⟩
  ·exact⟨15,h2,k2,f2,.fail iv md hc hb0 hG hC (.inr (.inr (.inr (.inr ⟨rfl,o1,x,o2,i,ho,hi,rfl⟩)))) dd⟩
 ·obtain⟨lv,fv,bad,R⟩:=d.row
  exact⟨17,h,Yb R,.refl W,.over M cs d g⟩
theorem St.AHk(W0:h0.Wf)(x0:h0.Ext h)(hD0:∀ b,A.D b→h0.next≤b)(st:St h A np T Q)(hA:A.n=3*np)(hnp:np≤8)(Kb:KB h0 kv bs):
  ∃ h' M' c1 ks fr,call AD (m+3) 31 [pt A.bd,kv] h=.ok ADV h'∧Fx (fun b=>b=A.bd∨b=A.bm∨b=A.bc) h h'∧Dk h' A.bd A.bm A.bc A.n M' c1 [] (-1) false∧h'.Row A.tb 0 (T.map wv)∧AEM T∧¬ A.D A.tb∧AEH np ks fr∧AEN np T M' ks fr∧Q ks:=by
 have hD1:h0.next≤A.bd∧h0.next≤A.bm∧h0.next≤A.bc:=⟨hD0 _ (.inr (.inl rfl)),hD0 _ (.inr (.inr (.inl rfl))),hD0 _ (.inr (.inr (.inr rfl)))⟩;have run:∀ {M:List Nat} {c0:Nat} {cs:List (Nat×List Nat)} {arm:Int} {dn:Bool},Dk h A.bd A.bm A.bc A.n M c0 cs arm dn→AEk cs→AEC A.n cs→h.Row A.tb 0 (T.map wv)→¬ A.D A.tb→∃ h' M' c1,call AD (m+3) 31 [pt A.bd,kv] h=.ok ADV h'∧Fx (fun b=>b=A.bd∨b=A.bm∨b=A.bc) h h'∧Dk h' A.bd A.bm A.bc A.n M' c1 [] (-1) false∧Kept (3*np) M cs M'∧h'.Row A.tb 0 (T.map wv):=fun d hK hS Rt ht=>by
  obtain⟨h',M',c1,k1,f1,d1,kp⟩:=X3 (m:=m) W0 x0 hD1 d hK hS (by have:=la hK hS;omega) Kb;rw[hA]at kp;exact⟨h',M',c1,k1,f1,d1,kp,f1.row x0.wf Rt fun h=>ht (.inr h)⟩
 rcases st with ⟨M,c0,arm,ks,fr,lv,fv,s,iv,md,hc,ha,hG⟩|⟨M,cs,d,g⟩
 ·obtain⟨h',M',c1,k1,f1,d1,kp,R1⟩:=run s.dk (fun i j y z h=>by cases h) (fun y hy=>by cases hy) s.tab s.ne.2.2.2.1
  obtain⟨e1,e2⟩:=kp.none md.len;exact⟨h',M',c1,ks,fr,k1,f1,d1,R1,s.tok,s.ne.2.2.2.1,iv,md.like e1 (fun _ _ x _=>e2 x) (fun _ _ x _=>e2 x),hG⟩
 ·obtain⟨_,dk⟩:=d.dk
  obtain⟨h',M',c1,k1,f1,d1,kp,R1⟩:=run dk d.key d.sec d.tab d.ne.2.2.2.1;obtain⟨ks,fr,iv,md,q⟩:=g M' kp;exact⟨h',M',c1,ks,fr,k1,f1,d1,R1,d.tok,d.ne.2.2.2.1,iv,md,q⟩
theorem Zo(W:h.Wf)(d:Dk h bd bm bc n M c0 [] arm false)(Rt:h.Row tb 0 (T.map wv))(hT:AEM T)(hn:n=3*np)(hnp:1≤np∧np≤8)(htb:tb≠bd∧tb≠bm∧tb≠bc)(iv:AEH np ks fr)(md:AEN np T M ks fr)(ha:AEJ fa arm):
  (∃ h' bs M' c1 ADu lv fv ks3 fr3 ks0,call AD (m+8) 16 [pt bd,pt tb,.int .i64 100] h=.ok (.tuple ⟨[pt bs,.int .i64 0]⟩) h'∧Fx (fun b=>b=bd∨b=bm∨b=bc) h h'∧
   Sl h' ⟨bs,bd,bm,bc,tb,n⟩ T M' c1 ADu ks3 fr3 lv fv 0 false∧(ks0.map Kt.core).Perm (ks.map Kt.core)∧ks3=ID (Ch ks0) (Ch ks0)∧fr3=AEl ks3 np∧M'=GO M (AE4 ks3 (mrk T M np) np)∧h.next≤bs∧AEJ fa ADu)∨
  (∃ h' j ks3 ks0,call AD (m+8) 16 [pt bd,pt tb,.int .i64 100] h=.ok (.tuple ⟨[.pointer none,.int .i64 15]⟩) h'∧Fx (At.D ⟨h.next,bd,bm,bc,tb,n⟩) h h'∧j<(AE4 ks3 (mrk T M np) np).length+1∧
   AEx fa h' ⟨h.next,bd,bm,bc,tb,n⟩ T (BN M [] ((Dy (AE4 ks3 (mrk T M np) np)).take j)).1 (BN M [] ((Dy (AE4 ks3 (mrk T M np) np)).take j)).2∧(ks0.map Kt.core).Perm (ks.map Kt.core)∧ks3=ID (Ch ks0) (Ch ks0)):=by
 have e3:n/3=np:=by omega
 obtain⟨z1,z2,z3⟩:=md.find iv;rcases Q1 (m:=m) (fa:=fa) W d Rt hT (by omega) htb (fun ks' he=>by
  rw[e3]at he;rw[Uh,he];exact(z1.map qU).nodup_iff.2 (by rw[← Uh];exact iv.key)) (by
  rw[e3,z1.length_eq,If];have:=iv.len;omega) ha with ⟨h',bs,c1,ADu,lv,fv,ks3,ks0,k1,f1,s1,e0,e1,l1,a1⟩|⟨h',j,ks3,ks0,k1,f1,hj,d1,e0,e1⟩
 ·rw[e3]at s1 e0
  rw[z2]at s1;exact .inl ⟨h',bs,_,c1,ADu,lv,fv,ks3,_,ks0,k1,f1,s1,by rw[e0];exact z1,e1,rfl,rfl,l1,a1⟩
 ·rw[e3]at d1 hj e0
  exact .inr ⟨h',j,ks3,ks0,k1,f1,hj,d1,by rw[e0];exact z1,e1⟩
end
end
noncomputable section
open Go
set_option maxRecDepth 100000
section
variable {F:ADS}{e:Env}{h h':Hp}{T:List Nat}{m k p n np tb:Nat}{u w:BY}
def G0(a b c:Int)(s:Nat)(l:List Nat)(a' b' c':Int)(s':Nat)(l':List Nat):Bool:=decide (a=a'∧b=b'∧c=c'∧s=s'∧l=l')
theorem Mt(W:h.Wf){a b c a' b' c':Int}{s s':Nat}{u w:BY}{l l':List Nat}(U:h.ADo u (l.map bv))(V:h.ADo w (l'.map bv))(hl:∀ x∈l,x<256)(hl':∀ x∈l',x<256):
  ∃ h',call AD (m+2) 32 [Bz a b c s u,Bz a' b' c' s' w] h=.ok (.bool (G0 a b c s l a' b' c' s' l')) h'∧h.Ext h':=by
 have b1:=fun (F:ADS) (e:Env) (he:AB 0 e=Bz a b c s u)=>aY (F:=F) W he
 have x1:=(Hp.Ext.refl W).ADR 0 (Aq a b c s u);have R1:=Hp.Row.new W 0 (Aq a b c s u);generalize h.ADR 0 (Aq a b c s u)=h1 at b1 x1 R1;have b2:=fun (F:ADS) (e:Env) (he:AB 1 e=Bz a' b' c' s' w)=>aY (F:=F) x1.wf he
 have y2:=(Hp.Ext.refl x1.wf).ADR 0 (Aq a' b' c' s' w);have R2:=Hp.Row.new x1.wf 0 (Aq a' b' c' s' w);generalize h1.ADR 0 (Aq a' b' c' s' w)=h2 at b2 y2 R2;have x2:=x1.trans y2;obtain⟨l0,l1,l2,l3,l4,_⟩:=Bc (R1.ext x1.wf y2);obtain⟨m0,m1,m2,m3,m4,_⟩:=Bc R2;have k1:=qu (n:=m) (U.ext W x2) (V.ext W x2) hl hl';refine⟨h2,?_,x2⟩;rw[kG rfl];unfold d32;rcases GF a a' with ⟨c1,e1⟩|⟨c1,e1⟩
 ·rcases GF b b' with ⟨c2,e2⟩|⟨c2,e2⟩
  ·rcases GF c c' with ⟨c3,e3⟩|⟨c3,e3⟩
   ·rcases GF (s:Int) (s':Int)with ⟨c4,e4⟩|⟨c4,e4⟩
    ·have hB:G0 a b c s l a' b' c' s' l'=decide (l=l'):=by
      unfold G0;exact decide_eq_decide.2 ⟨fun h=>h.2.2.2.2,fun h=>⟨e1,e2,e3,by omega,h⟩⟩
     rw[hB];simp only[iN,By,sT,AT,AI,reduceIte,gD,b1,b2,AJ,AO,sh,AN,AQ,l0,l1,l2,l3,l4,m0,m1,m2,m3,m4,AM,AK,c1,c2,c3,c4,cA0,k1,lV0]
    ·have hB:G0 a b c s l a' b' c' s' l'=false:=decide_eq_false fun h=>e4 (by rw[h.2.2.2.1])
     rw[hB];simp only[iN,By,sT,AT,AI,reduceIte,gD,b1,b2,AJ,AO,sh,AN,AQ,l0,l1,l2,l3,l4,m0,m1,m2,m3,m4,AM,AK,c1,c2,c3,c4,cA0,k1,lV0]
   ·have hB:G0 a b c s l a' b' c' s' l'=false:=decide_eq_false fun h=>e3 h.2.2.1
    rw[hB];simp only[iN,By,sT,AT,AI,reduceIte,gD,b1,b2,AJ,AO,sh,AN,AQ,l0,l1,l2,l3,l4,m0,m1,m2,m3,m4,AM,AK,c1,c2,c3,cA0,k1,lV0]
  ·have hB:G0 a b c s l a' b' c' s' l'=false:=decide_eq_false fun h=>e2 h.2.1
   rw[hB];simp only[iN,By,sT,AT,AI,reduceIte,gD,b1,b2,AJ,AO,sh,AN,AQ,l0,l1,l2,l3,l4,m0,m1,m2,m3,m4,AM,AK,c1,c2,cA0,k1,lV0]
 ·have hB:G0 a b c s l a' b' c' s' l'=false:=decide_eq_false fun h=>e1 h.1
  rw[hB];simp only[iN,By,sT,AT,AI,reduceIte,gD,b1,b2,AJ,AO,sh,AN,AQ,l0,l1,l2,l3,l4,m0,m1,m2,m3,m4,AM,AK,c1,cA0,k1,lV0]
theorem nN{n:Nat}(hn:n<256):OR .u8 (.int .u8 (n:Int)) (.int .u8 3) h=.ok (.int .u8 ((n/3:Nat):Int)) h:=by
 have:((n:Nat):Int).tdiv 3=((n/3:Nat):Int):=rfl;rw[I5 (by omega),this,Gp,Nat.mod_eq_of_lt (by omega)]
theorem O9{n k:Nat}(hk:0<k):NG .u8 (.int .u8 (n:Int)) (.int .u8 (k:Int)) h=.ok (.int .u8 ((n % k:Nat):Int)) h:=by
 have:((n:Nat):Int).tmod (k:Int)=((n % k:Nat):Int):=rfl;rw[PB (by omega),this]
theorem Sb(np:Nat):AEl [] np=wI np:=ABS.2 fun _ _=>rfl
theorem mZ(np:Nat):AEH np [] (wI np):=⟨AAV,.refl _⟩
theorem iA(np:Nat):AEN np T (vL (64*(3*np)) 0) [] (wI np):=
 ⟨List.length_replicate,fun k hk=>(by cases hk),fun k hk=>(by cases hk),fun p _ r _=>JX,fun k hk=>(by cases hk),fun p hp=>w9.1 hp⟩
theorem TG(W:h.Wf)(Rt:h.Row tb 0 (T.map wv))(hT:AEM T)(hnp:1≤np∧np≤8):
  ∃ h' bs bd bm bc lv fv c1 ADu,call AD (m+9) 10 [pt tb,.int .i64 ((3*np:Nat):Int)] h=.ok (.tuple ⟨[pt bd,pt bs,.bool true]⟩) h'∧h.Ext h'∧Sl h' ⟨bs,bd,bm,bc,tb,3*np⟩ T (vL (64*(3*np)) 0) c1 ADu [] (wI np) lv fv 0 false∧h.next≤bs∧h.next≤bd∧h.next≤bm∧h.next≤bc∧AEJ false ADu:=by
 obtain⟨h1,bd,bm,bc,k1,x1,d,l1,l2,l3⟩:=cz (m:=m+7) (n:=3*np) W (by omega);have htb:=Rt.lt W;have e3:3*np/3=np:=by omega
 obtain⟨z1,z2,z3⟩:=(iA (T:=T) np).find (mZ np);have hk0:kcs T (vL (64*(3*np)) 0) np=[]:=List.perm_nil.1 z1;have hm0:mrk T (vL (64*(3*np)) 0) np=[]:=by
  cases hq:mrk T (vL (64*(3*np)) 0) np with
  |nil=>rfl
  |cons p l=>
   obtain⟨k,hk,_⟩:=z3 p (by rw[hq];exact vG);cases hk
 rcases Q1 (m:=m) (fa:=false) x1.wf d (Rt.ext W x1) hT (by omega) ⟨by omega,by omega,by omega⟩ (fun ks' he=>by
  rw[e3,hk0]at he;rw[yY.1 he];exact AAV) (by rw[e3,hk0];exact vi _) (.no (by omega) (by omega))with ⟨h2,bs,c1,ADu,lv,fv,ks3,ks0,k2,f2,s2,e0,e1,l4,ha⟩|⟨_,_,_,_,_,_,_,dd,_⟩
 case inr=>cases dd.may
 rw[e3]at s2 e0;rw[hk0]at e0;have e0:=yY.1 e0;subst e0;have e1:ks3=[]:=e1;subst e1;rw[z2,hm0,Sb]at s2;have hO:AE4 [] [] np=[]:=List.filter_eq_nil_iff.2 fun p _ h=>by
  have h:(true && [].contains p)=true:=h;cases h
 rw[hO]at s2;have k1:call AD (m+8) 35 [.int .i64 ((3*np:Nat):Int)] h=.ok (.tuple ⟨[pt bd,.int .i64 0]⟩) h1:=k1;have x2:h.Ext h2:=Fx.AJJ x1 f2 fun b hb=>by rcases hb with rfl|rfl|rfl<;>assumption
 refine⟨h2,bs,bd,bm,bc,lv,fv,c1,ADu,?_,x2,s2,vw x1.next l4,l1,l2,l3,ha⟩;have c0:iEq 0 0=true:=DM rfl;rw[j7 rfl];unfold d10;simp only[iN,By,sT,AT,AI,reduceIte,gD,cA0,k1,BL,BR,Ba,k2,AM,AK,c0,Be,L7]
end
end
noncomputable section
open Go
set_option maxRecDepth 100000
theorem nU:ruM=nV:=rfl
theorem nT:ruK=BK (Ad 2 ruM) ruI:=rfl
theorem aI:ruL=fu:=rfl
def Reu(s:Nat)(one two:List Nat)(k:Kt):Prop:=k.a=5∧k.b=2∧((k.c=1∧k.s=s∧k.l=one)∨(k.c=2∧(k.s=1∨k.s=2)∧k.l=two))
section
variable {F:ADS}{e:Env}{h h':Hp}{one two:List Nat}{m k n i s r15 r16:Nat}{ks:List Kt}{v u w u1 u2:BY}
theorem Jk{xs:List BY}(V:h.ADo u xs):known u=true∧cellsOf u=[u]∧oneCell u=true:=by
 rcases V with ⟨rfl,rfl⟩|⟨b,off,c,el,L,rfl,_⟩<;>exact⟨rfl,rfl,rfl⟩
theorem aD(W:h.Wf)(V:h.AL k v ks){x:Kt}(hx:ks[i]? =some x)(hG:Reu s one two x)(R15:h.Row r15 0 (Aq 5 2 1 s u1))(R16:h.Row r16 0 (Aq 5 2 2 1 u2))(U1:h.ADo u1 (one.map bv))(U2:h.ADo u2 (two.map bv))(b1:∀ x∈one,x<256)(b2:∀ x∈two,x<256)
  (s15:AB 15 e=pt r15)(s16:AB 16 e=pt r16)(s97:AB 97 e=v)(s98:AB 98 e=.int .i64 (ks.length:Int))(s99:AB 99 e=.int .i64 (i:Int)):
  ∃ e' h',ruM (call AD (m+2)) e h=.norm e' h'∧h.Ext h'∧AB 15 e'=pt r15∧AB 16 e'=pt r16∧AB 97 e'=v∧AB 98 e'=.int .i64 (ks.length:Int)∧AB 99 e'=.int .i64 (i:Int):=by
 obtain⟨b,w,ix,ld,Vx⟩:=V.at hx;have oW:=(Jk Vx).2.2;have oU2:=(Jk U2).2.2;have al1:=fun (F:ADS) (e:Env)=>Bm (F:=F) (e:=e) W (n:=5) (t:=Cc)
 have Ra:=Hp.Row.alloc W Ei (show(Aq 0 0 0 0 ADj).length=5 from rfl);have y1:h.Ext (h.push (.cells Cc 5 0)):=(Hp.Ext.refl W).push _;generalize h.push (.cells Cc 5 0)=h1 at al1 Ra y1;obtain⟨st1,_,y2,R20,_⟩:=KU W y1 (IN _) Ra rfl (a:=x.a) (b:=x.b) (c:=x.c) (s:=x.s) oW;generalize h1.wr h.next 0 (Aq x.a x.b x.c x.s w)=h2 at st1 y2 R20;have AHl:=R16.ext W y2;obtain⟨_,_,_,_,_,AJp⟩:=Bc AHl;have al2:=fun (F:ADS) (e:Env)=>Bm (F:=F) (e:=e) y2.wf (n:=5) (t:=Cc)
 have Rb:=Hp.Row.alloc y2.wf Ei (show(Aq 0 0 0 0 ADj).length=5 from rfl);have y3:h2.Ext (h2.push (.cells Cc 5 0)):=(Hp.Ext.refl y2.wf).push _;generalize h2.push (.cells Cc 5 0)=h3 at al2 Rb y3;obtain⟨st2,_,y4,R21,_⟩:=KU y2.wf y3 (IN _) Rb rfl (a:=5) (b:=2) (c:=2) (s:=1) oU2;generalize h3.wr h2.next 0 (Aq 5 2 2 1 u2)=h4 at st2 y4 R21;obtain⟨h5,st3,AHm,_,_,ex5⟩:=DK (v:=.int .u8 2) y4.wf R21 (off:=3) (show 3<5 by omega) (by have:=y2.wf.big;omega) rfl rfl;have AHm:h5.Row h2.next 0 (Aq 5 2 2 2 u2):=AHm;have y5:h2.Ext h5:=ex5 h2 y4 (IN _);have x5:h.Ext h5:=y2.trans y5;have AHn:=R20.ext y2.wf y5;have AHo:=R15.ext W x5;have AJq:=R16.ext W x5;obtain⟨_,_,_,_,_,g20⟩:=Bc AHn;obtain⟨_,_,_,_,_,g15⟩:=Bc AHo;have AKC:=st1;obtain⟨e1,p1,t15,t16,t97,t98,t99,t20,t21⟩:∃ e1,ruM (call AD (m+2)) e h=ruN (call AD (m+2)) e1 h5∧AB 15 e1=pt r15∧AB 16 e1=pt r16∧AB 97 e1=v∧AB 98 e1=.int .i64 (ks.length:Int)∧AB 99 e1=.int .i64 (i:Int)∧AB 20 e1=pt h.next∧AB 21 e1=pt h2.next:=by
  rw[nU];unfold nV;simp only[sT,AT,AI,reduceIte,gD,A1,s97,s99,ix,Aw,Ar,ld,al1,Aa,st1,s16,AJp,al2,st2,AJ,AO,sh,st3];exact⟨_,rfl,by simp[AF,s15,s16,s97,s98,s99]⟩
 obtain⟨ga,gb,gc⟩:=hG;have W5:=x5.wf;have bx:∀ y∈x.l,y<256:=by
  rcases gc with ⟨_,_,e⟩|⟨_,_,e⟩<;>rw[e]<;>assumption
 obtain⟨h6,k6,x6⟩:=Mt (m:=m) W5 (Vx.ext W x5) (U1.ext W x5) bx b1 (a:=x.a) (b:=x.b) (c:=x.c) (s:=x.s) (a':=5) (b':=2) (c':=1) (s':=s);have x06:=x5.trans x6;obtain⟨_,_,_,_,_,q20⟩:=Bc (AHn.ext W5 x6);obtain⟨_,_,_,_,_,q16⟩:=Bc (AJq.ext W5 x6);obtain⟨h7,k7,x7⟩:=Mt (m:=m) x6.wf (Vx.ext W x06) (U2.ext W x06) bx b2 (a:=x.a) (b:=x.b) (c:=x.c) (s:=x.s) (a':=5) (b':=2) (c':=2) (s':=1);have x07:=x06.trans x7;obtain⟨_,_,_,_,_,j20⟩:=Bc ((AHn.ext W5 x6).ext x6.wf x7);obtain⟨_,_,_,_,_,j21⟩:=Bc ((AHm.ext W5 x6).ext x6.wf x7);obtain⟨h8,k8,x8⟩:=Mt (m:=m) x7.wf (Vx.ext W x07) (U2.ext W x07) bx b2 (a:=x.a) (b:=x.b) (c:=x.c) (s:=x.s) (a':=5) (b':=2) (c':=2) (s':=2);rw[p1];rcases gc with ⟨c1,c2,c3⟩|⟨c1,c2,c3⟩
 ·have hB:G0 x.a x.b x.c x.s x.l 5 2 1 s one=true:=decide_eq_true ⟨ga,gb,c1,c2,c3⟩
  rw[hB]at k6;obtain⟨e2,r1,r2⟩:∃ e2,ruN (call AD (m+2)) e1 h5=.norm e2 h6∧∀ j,(j=15∨j=16∨j=97∨j=98∨j=99)→AB j e2=AB j e1:=by
   unfold ruN;simp only[sT,AT,AI,reduceIte,gD,Aw,Ar,t20,g20,t15,g15,cA0,k6,Bj,Bh,wQ];refine⟨_,rfl,fun j hj=>?_⟩;rcases hj with rfl|rfl|rfl|rfl|rfl<;>simp only[AF,AT,AI,reduceIte]
  exact⟨e2,h6,r1,x06,(r2 15 (by omega)).trans t15,(r2 16 (by omega)).trans t16,(r2 97 (by omega)).trans t97,(r2 98 (by omega)).trans t98,(r2 99 (by omega)).trans t99⟩
 ·have hB:G0 x.a x.b x.c x.s x.l 5 2 1 s one=false:=decide_eq_false fun h=>by have:=h.2.2.1;omega
  rw[hB]at k6;rcases c2 with c2|c2
  ·have hB2:G0 x.a x.b x.c x.s x.l 5 2 2 1 two=true:=decide_eq_true ⟨ga,gb,c1,c2,c3⟩
   rw[hB2]at k7;obtain⟨e2,r1,r2⟩:∃ e2,ruN (call AD (m+2)) e1 h5=.norm e2 h7∧∀ j,(j=15∨j=16∨j=97∨j=98∨j=99)→AB j e2=AB j e1:=by
    unfold ruN;simp only[sT,AT,AI,reduceIte,gD,Aw,Ar,t20,g20,t15,g15,cA0,k6,Bj,Bh,wQ,wm,q20,t16,q16,k7];refine⟨_,rfl,fun j hj=>?_⟩;rcases hj with rfl|rfl|rfl|rfl|rfl<;>simp only[AF,AT,AI,reduceIte]
   exact⟨e2,h7,r1,x07,(r2 15 (by omega)).trans t15,(r2 16 (by omega)).trans t16,(r2 97 (by omega)).trans t97,(r2 98 (by omega)).trans t98,(r2 99 (by omega)).trans t99⟩
  ·have hB2:G0 x.a x.b x.c x.s x.l 5 2 2 1 two=false:=decide_eq_false fun h=>by have:=h.2.2.2.1;omega
   have hB3:G0 x.a x.b x.c x.s x.l 5 2 2 2 two=true:=decide_eq_true ⟨ga,gb,c1,c2,c3⟩;rw[hB2]at k7;rw[hB3]at k8;obtain⟨e2,r1,r2⟩:∃ e2,ruN (call AD (m+2)) e1 h5=.norm e2 h8∧∀ j,(j=15∨j=16∨j=97∨j=98∨j=99)→AB j e2=AB j e1:=by
    unfold ruN;simp only[sT,AT,AI,reduceIte,gD,Aw,Ar,t20,g20,t15,g15,cA0,k6,Bj,Bh,wQ,wm,q20,t16,q16,k7,j20,t21,j21,k8];refine⟨_,rfl,fun j hj=>?_⟩;rcases hj with rfl|rfl|rfl|rfl|rfl<;>simp only[AF,AT,AI,reduceIte]
   exact⟨e2,h8,r1,x07.trans x8,(r2 15 (by omega)).trans t15,(r2 16 (by omega)).trans t16,(r2 97 (by omega)).trans t97,(r2 98 (by omega)).trans t98,(r2 99 (by omega)).trans t99⟩
theorem aC(W:h.Wf)(V:h.AL k v ks)(hl:ks.length≤1000)(hG:∀ x∈ks,Reu s one two x)(R15:h.Row r15 0 (Aq 5 2 1 s u1))(R16:h.Row r16 0 (Aq 5 2 2 1 u2))(U1:h.ADo u1 (one.map bv))(U2:h.ADo u2 (two.map bv))(b1:∀ x∈one,x<256)(b2:∀ x∈two,x<256)
  (s15:AB 15 e=pt r15)(s16:AB 16 e=pt r16)(s97:AB 97 e=v)(s98:AB 98 e=.int .i64 (ks.length:Int))(s99:AB 99 e=.int .i64 ((0:Nat):Int)):
  ∃ e' h',Ay ruL (call AD (m+2)) e h=.exit 1 e' h'∧h.Ext h':=by
 refine BU (I:=fun i e' h'=>h.Ext h'∧AB 15 e'=pt r15∧AB 16 e'=pt r16∧AB 97 e'=v∧AB 98 e'=.int .i64 (ks.length:Int)∧AB 99 e'=.int .i64 (i:Int))
  (Q:=fun x=>∃ e' h',x=.exit 1 e' h'∧h.Ext h') ks.length (by omega) (fun i e' h' ⟨x',t15,t16,t97,t98,t99⟩=>?_) ⟨.refl W,s15,s16,s97,s98,s99⟩
 have W':=x'.wf;by_cases hlt:i<ks.length
 ·left
  have c1:=Es hlt;obtain⟨x,hx⟩:∃ x,ks[i]? =some x:=⟨_,No hlt⟩;obtain⟨e1,p1,q15,q16,q97,q98,q99⟩:∃ e1,ruL (call AD (m+2)) e' h'=ruK (call AD (m+2)) e1 h'∧AB 15 e1=pt r15∧AB 16 e1=pt r16∧AB 97 e1=v∧AB 98 e1=.int .i64 (ks.length:Int)∧AB 99 e1=.int .i64 (i:Int):=by
   rw[aI];unfold fu;simp only[sT,AT,AI,reduceIte,AM,AK,t99,t98,c1];exact⟨_,rfl,by simp[AF,t15,t16,t97,t98,t99]⟩
  obtain⟨e2,h2,r1,x2,z15,z16,z97,z98,z99⟩:=aD (m:=m) W' (V.ext W x') hx (hG x (vN hx)) (R15.ext W x') (R16.ext W x') (U1.ext W x') (U2.ext W x') b1 b2 q15 q16 q97 q98 q99;have a3:=CH (i:=i) (h:=h2) (by omega);obtain⟨e3,r2,w15,w16,w97,w98,w99⟩:∃ e3,ruI (call AD (m+2)) e2 h2=.norm e3 h2∧AB 15 e3=pt r15∧AB 16 e3=pt r16∧AB 97 e3=v∧AB 98 e3=.int .i64 (ks.length:Int)∧AB 99 e3=.int .i64 ((i+1:Nat):Int):=by
   unfold ruI;simp only[sT,AT,AI,reduceIte,BF,z99,a3];exact⟨_,rfl,by simp[AF,z15,z16,z97,z98]⟩
  refine⟨hlt,e3,h2,?_,x'.trans x2,w15,w16,w97,w98,w99⟩;rw[p1,nT];simp only[BE,Ax,r1,BA,DR,r2]
 ·right
  have c1:=DE (show ks.length≤i by omega);obtain⟨e2,r1⟩:∃ e2,ruL (call AD (m+2)) e' h'=.exit 1 e2 h':=by
   rw[aI];unfold fu;simp only[sT,AT,AI,reduceIte,AM,AK,t99,t98,c1];exact⟨_,rfl⟩
  rw[r1];exact⟨rfl,e2,h',rfl,x'⟩
end
end
end Go.Proofs.YtedbmmfebjfibaaGreat

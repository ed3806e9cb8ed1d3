/-
  Part ZE of what Lawnw stands on: printed by program, names and spaces cut.
-/
import Derived.Test.YtldjiljipddebaaGreatZD
open Option renaming some→BY,none→By
open Bool renaming true→IN,false→IT
open Go.Value renaming int→AI
open Go.IntKind renaming i64→AT
open Nat renaming reduceEqDiff→sh,reduceLT→xT,reduceAdd→xV,le_refl→xW,zero_add→xZ,succ→xz,beq→yA,zero_le→yH,ble→yI,lt_or_ge→yM,le_trans→yS,eq_zero_or_pos→yl,mul→yv,add_zero→zQ,add_eq→zS,beq_refl→zU,mul_comm→zb,reduceLeDiff→zg,zero_mul→AAa,min_eq_left→AAb,succ_pos→ABE,min_le_right→ABI,sub_self→ACZ,mul_zero→ACa,add_comm→ADC,add_assoc→AEB
open Go renaming Value→xU
open List renaming length_append→xY,length_map→xa,getElem?_eq_getElem→xc,getD_eq_getElem?_getD→xe,length_cons→xh,mem_cons_of_mem→xn,mem_cons_self→xp,replicate→xx,mem_of_getElem?→xy,mem_cons→yC,append_assoc→yD,append_nil→yF,mem_singleton→yG,getElem?_append_left→yL,getElem?_eq_some_iff→yN,mem_append→yO,length_take→yP,getElem?_append_right→yR,nil_append→yT,length_nil→yU,length_drop→yX,map_append→yZ,mem_append_right→yc,length_singleton→yd,mem_append_left→yh,drop_zero→yk,drop_of_length_le→ym,length_replicate→yn,take_length→yz,eq_nil_of_length_eq_zero→zA,getElem?_cons_succ→zD,getElem?_map→zE,mem_of_mem_take→zJ,cons_append→zK,range→zP,mem_of_mem_drop→zd,take_of_length_le→ze,drop_eq_getElem_cons→zf,take_append_drop→zi,nodup_cons→zm,append_eq→zp,getElem?_take→zy,length→AAC,singleton_append→AAO,mem_iff_getElem?→AAP,drop_length_add_append→AAQ,reverse_append→AAc,length_reverse→AAe,eq_of_mem_replicate→AAi,drop→AAo,take→AA0,reverse_reverse→AA3,getElem?_drop→ABJ,length_range→ABh,find?_cons_of_neg→ABi,range_succ→ABq,take_append_of_le_length→ACA,mem_reverse→ACC,map_take→ACD,reverse_cons→ACI,foldl_append→ACJ,take_take→ACV,any_cons→ACj,map_drop→AD4,map_nil→AED
open Bool renaming not_true→yY,not_false→yg,eq_iff_iff→zk,not_not→AEH
open Int renaming sub→yi,ofNat→zZ
open Go.IntKind renaming i64→AAX
open Classical renaming propDecidable→AA7,choose_spec→ACL,choose→ACl,byContradiction→AEe
set_option linter.unusedVariables false
set_option linter.unusedSimpArgs false
namespace Go.Proofs.YtldjiljipddebaaGreat
set_option maxRecDepth 100000
noncomputable section
open Go
structure Fx (S:Nat->Prop)(h h':Hp):Prop where
 next:h.next<=h'.next
 get:∀i,i<h.next->¬S i->h'.bl.get i=h.bl.get i
 wf:h'.Wf
 low:∀L,L<=h.low->L<=h.next->(∀b,S b->L<=b)->L<=h'.low
theorem RE{h g:Hp}:(h.back g).low=min h.low g.low:=BU _ _
section
variable {S T:Nat->Prop}{h h' h1 h2:Hp}
theorem Fx.refl(a:h.Wf):Fx S h h:=⟨xW _,λ_ _ _=>rfl,a,λ_ h1 _ _=>h1⟩
theorem Fx.of(x:h.Ext h'):Fx S h h':=⟨x.next,λb a _=>x.get b a,x.wf,λc h1 h2 _=>by have:=x.low;omega⟩
theorem Fx.trans(a:Fx S h h1)(b:Fx S h1 h2):Fx S h h2:=⟨yS a.next b.next,λg e f=>by rw[b.get g (Nat.lt_of_lt_of_le e a.next) f,a.get g e f],b.wf,λc h1 h2 d=>b.low c (a.low c h1 h2 d) (yS h2 a.next) d⟩
theorem Fx.mono(a:Fx S h h')(c:∀i,S i->T i):Fx T h h':=⟨a.next,λi g j=>a.get i g λk=>j (c i k),a.wf,λd h1 h2 e=>a.low d h1 h2 λb f=>e b (c b f)⟩
theorem lq(a:h.Wf)(c:h'.bl=h.bl)(b:h'.next=h.next):h'.Wf:=⟨by rw[b];exact a.big,by rw[b,c];exact a.has,by rw[b,c];exact a.fresh⟩
theorem Fx.same(a:Fx S h h1)(b:h2.bl=h1.bl)(c:h2.next=h1.next)(l:min h.low h1.low<=h2.low:=by first|exact Nat.le_of_eq RE.symm|exact Nat.min_le_right _ _):Fx S h h2:=⟨by rw[c];exact a.next,λg e f=>by rw[b];exact a.get g e f,lq a.wf b c,λd i j k=>by have:=a.low d i j k;omega⟩
theorem Fx.from(a:Fx S h1 h')(d:h1.bl=h.bl)(b:h1.next=h.next)(j:min h.low h.next<=h1.low:=by first|exact Nat.min_le_left _ _|exact Nat.min_le_right _ _):Fx S h h':=⟨by rw[<- b];exact a.next,λg e f=>by rw[<- d];exact a.get g (by rw[b];exact e) f,a.wf,λc k l i=>a.low c (by omega) (by omega) i⟩
theorem Fx.back(x:Fx S h.quiet h'):Fx S h (h.back h'):=⟨x.next,x.get,⟨x.wf.big,x.wf.has,x.wf.fresh⟩,λa h1 h2 c=>by
 have b:a<=h.quiet.next:=h2;have:=x.low a h2 b c;rw[RE];omega⟩
theorem Fx.row(x:Fx S h h')(a:h.Wf){b el:Nat}{l:List xU}(r:h.Row b el l)(d:¬S b):h'.Row b el l:=by
 have:=r.lt a;obtain⟨c,e,f⟩:=r;exact⟨c,(x.get b this d).trans e,f⟩
theorem Fx.put(a:h.Wf){b:Nat}(d:b<h.next)(e:S b)(o:Blk):Fx S h (h.put b o):=⟨xW _,λk j g=>by
 rw[a.AFL d];exact No λc=>g (by rw[c];exact e),a.put d o,λi h1 _ f=>by
 have:=f b e;have c:(h.put b o).low=min h.low b:=BU _ _;omega⟩
theorem Fx.wr(a:h.Wf){b el off:Nat}{l vs:List xU}(r:h.Row b el l)(d:off+vs.length<=l.length)(e:S b):Fx S h (h.wr b off vs):=by
 obtain⟨f,_,c,_⟩:=r.AFt d;rw[c];exact Fx.put a (r.lt a) e _
theorem uR{b el off bc:Nat}{l vs:List xU}{es:List Ent}{k:Nat}(a:h.Wf)(r:h.Row b el l)(f:off+vs.length<=l.length)(m:h.bl.get bc=.map es k):(h.wr b off vs).bl.get bc=.map es k:=by
 obtain⟨d,_,e,_⟩:=r.AFt f;rw[e,a.AFL (r.lt a),No]
 ·exact m
 ·rintro rfl
  obtain⟨d,c,_⟩:=r;rw[m]at c;cases c
end
def Hp.VS(h:Hp)(S:Nat->Prop)(v:xU)(xs:List xU):Prop:=(v=AEk/\xs=[])\/∃b c d e a,v=.slice (BY ⟨b,c,By⟩) xs.length d/\xs.length<=d/\h.Row b e a/\c+xs.length<=a.length/\(a.drop c).take xs.length=xs/\S b
section
variable {h h':Hp}{S S':Nat->Prop}{v:xU}{xs:List xU}
theorem Hp.VS.vals(o:h.VS S v xs):h.AE7 v xs:=by
 rcases o with a|⟨c,j,d,e,b,a,k,f,g,i,_⟩
 ·exact .inl a
 ·exact .inr ⟨c,j,d,e,b,a,f,g,i⟩
theorem Hp.VS.keep(o:h.VS S v xs)(hk:∀b el a,S b->h.Row b el a->h'.Row b el a):h'.VS S v xs:=by
 rcases o with c|⟨b,k,e,el,a,c,f,g,i,j,d⟩
 ·exact .inl c
 ·exact .inr ⟨b,k,e,el,a,c,f,hk _ _ _ d g,i,j,d⟩
theorem Hp.VS.same(o:h.VS S v xs)(a:h'.bl=h.bl):h'.VS S v xs:=o.keep λ_ _ _ _ b=>b.same a
theorem Hp.VS.mono(o:h.VS S v xs)(l:∀b,S b->S' b):h.VS S' v xs:=by
 rcases o with a|⟨b,m,d,e,c,a,f,g,i,j,k⟩
 ·exact .inl a
 ·exact .inr ⟨b,m,d,e,c,a,f,g,i,j,l _ k⟩
theorem Hp.VS.one(o:h.VS S v xs):cellsOf v=[v]/\oneCell v=IN/\known v=IN:=by
 rcases o with ⟨rfl,_⟩|⟨b,e,c,d,a,rfl,_⟩<;>exact⟨rfl,rfl,rfl⟩
theorem Hp.VS.fx(o:h.VS S v xs)(a:h.Wf){T:Nat->Prop}(x:Fx T h h')(d:∀b,S b->¬T b):h'.VS S v xs:=o.keep λb _ _ c e=>x.row a e (d b c)
theorem Qj{l:List xU}(h:∀x∈l,oneCell x=IN):Bc l=IN:=by
 induction l with
 |nil=>rfl
 |cons a l c=>
  show(bif oneCell a then Bc l else IT)=IN;rw[h a xp,c λx b=>h x (xn _ b)];rfl
end
def Hp.BS(h:Hp)(S:Nat->Prop)(v:xU)(xs:List xU):Prop:=(v=AEk/\xs=[])\/∃b d e c a,v=.slice (BY ⟨b,d,By⟩) xs.length e/\xs.length<=e/\h.Row b c a/\d+xs.length<=a.length/\(a.drop d).take xs.length=xs/\S b/\(c=0\/c=6)
section
variable {h h':Hp}{S S':Nat->Prop}{v:xU}{xs:List xU}
theorem Hp.BS.vs(o:h.BS S v xs):h.VS S v xs:=by
 rcases o with a|⟨c,l,d,e,b,a,f,g,i,j,k,_⟩
 ·exact .inl a
 ·exact .inr ⟨c,l,d,e,b,a,f,g,i,j,k⟩
theorem Hp.BS.keep(o:h.BS S v xs)(hk:∀b el a,S b->(el=0\/el=6)->h.Row b el a->h'.Row b el a):h'.BS S v xs:=by
 rcases o with c|⟨b,l,f,el,a,c,g,i,j,k,d,e⟩
 ·exact .inl c
 ·exact .inr ⟨b,l,f,el,a,c,g,hk _ _ _ d e i,j,k,d,e⟩
theorem Hp.BS.ext(o:h.BS S v xs)(a:h.Wf)(x:h.Ext h'):h'.BS S v xs:=o.keep λ_ _ _ _ _ b=>b.ext a x
theorem Hp.BS.same(o:h.BS S v xs)(a:h'.bl=h.bl):h'.BS S v xs:=o.keep λ_ _ _ _ _ b=>b.same a
theorem Hp.BS.mono(o:h.BS S v xs)(m:∀b,S b->S' b):h.BS S' v xs:=by
 rcases o with a|⟨b,n,d,e,c,a,f,g,i,j,k,l⟩
 ·exact .inl a
 ·exact .inr ⟨b,n,d,e,c,a,f,g,i,j,m _ k,l⟩
end
def D0(l:List Nat):xU:=.agg ⟨l.map bv⟩
def AE0:Nat->List (Nat×List Nat)->List Ent
 |_,[]=>[]
 |i,a::b=>⟨AI AT (a.1:Int),D0 a.2,i⟩::AE0 (i+1) b
def sec(M:List Nat)(i:Nat):List Nat:=(M.drop (64*i)).take 64
theorem KP{M:List Nat}{n i:Nat}(a:M.length=64*n)(hi:i<n):(sec M i).length=64:=by
 unfold sec;rw[yP,yX];omega
theorem tc{M:List Nat}(a:∀x∈M,x<256)(i:Nat):∀x∈sec M i,x<256:=λx b=>a x (zd (zJ b))
def dkL(bm bc n:Nat)(arm:Int)(dn:Bool):List xU:=[.slice (BY ⟨bm,0,By⟩) n n,.map (BY bc),AI AT arm,.bool dn]
structure Dk (h:Hp)(bd bm bc n:Nat)(M:List Nat)(c0:Nat)(cs:List (Nat×List Nat))(arm:Int)(dn:Bool):Prop where
 disk:h.Row bd 0 (dkL bm bc n arm dn)
 med:h.Row bm 0 (M.map bv)
 len:M.length=64*n
 byt:∀x∈M,x<256
 map:h.bl.get bc=.map (AE0 c0 cs) (c0+cs.length)
 big:256<=bd/\256<=bm/\256<=bc
 n1:1<=n/\n<=65536
section
variable {F:AEh}{e:Env}{h h':Hp}{S:Nat->Prop}{bd bm bc n c0:Nat}{M:List Nat}{cs:List (Nat×List Nat)}{arm:Int}{dn:Bool}
theorem jO{h:Hp}{b b' el g:Nat}{a c:List xU}(r:h.Row b el a)(k:h.Row b' g c)(j:a.length≠c.length):b≠b':=λi=>by
 subst i;obtain⟨_,e,_⟩:=r;obtain⟨_,d,_⟩:=k;rw[e]at d;injection d with _ f _
 exact j f
theorem Dk.bdm(d:Dk h bd bm bc n M c0 cs arm dn):bd≠bm:=jO d.disk d.med (by
 rw[xa,d.len];show 4≠_;have:=d.n1;omega)
theorem KH{h:Hp}{b bc el k:Nat}{a:List xU}{es:List Ent}(r:h.Row b el a)(m:h.bl.get bc=.map es k):b≠bc:=λd=>by
 subst d;obtain⟨_,c,_⟩:=r;rw[c]at m;cases m
theorem Dk.bdc(d:Dk h bd bm bc n M c0 cs arm dn):bd≠bc:=KH d.disk d.map
theorem Dk.bmc(d:Dk h bd bm bc n M c0 cs arm dn):bm≠bc:=KH d.med d.map
theorem Dk.lt(d:Dk h bd bm bc n M c0 cs arm dn)(a:h.Wf):bd<h.next/\bm<h.next/\bc<h.next:=⟨d.disk.lt a,d.med.lt a,by
 rcases yM bc h.next with b|b
 ·exact b
 ·have:=a.fresh bc b
  rw[d.map]at this;cases this⟩
theorem Dk.same(d:Dk h bd bm bc n M c0 cs arm dn)(a:h'.bl=h.bl):Dk h' bd bm bc n M c0 cs arm dn:=⟨d.disk.same a,d.med.same a,d.len,d.byt,by rw[a];exact d.map,d.big,d.n1⟩
theorem Dk.fr(d:Dk h bd bm bc n M c0 cs arm dn)(a:h.Wf)(x:Fx S h h')(b:¬S bd)(h2:¬S bm)(c:¬S bc):Dk h' bd bm bc n M c0 cs arm dn:=⟨x.row a d.disk b,x.row a d.med h2,d.len,d.byt,by rw[x.get bc (d.lt a).2.2 c];exact d.map,d.big,d.n1⟩
theorem Dk.ext(d:Dk h bd bm bc n M c0 cs arm dn)(a:h.Wf)(x:h.Ext h'):Dk h' bd bm bc n M c0 cs arm dn:=d.fr (S:=λ_=>False) a (.of x) (λh=>h) (λh=>h) (λh=>h)
theorem DR(R:h.Row bd 0 (dkL bm bc n arm dn)):AEi ⟨bd,0,By⟩ h=.ok (.slice (BY ⟨bm,0,By⟩) n n) h/\AEi ⟨bd,1,By⟩ h=.ok (.map (BY bc)) h/\AEi ⟨bd,2,By⟩ h=.ok (AI AT arm) h/\AEi ⟨bd,3,By⟩ h=.ok (.bool dn) h:=
 ⟨R.AEi (off:=0) (by show 0<4;omega),R.AEi (off:=1) (by show 1<4;omega),R.AEi (off:=2) (by show 2<4;omega),R.AEi (off:=3) (by show 3<4;omega)⟩
theorem GU{k:TK}{t:Nat}{a:Addr}{g:O}(hk:k=.ptr t)(b:g e=.pointer (BY a)):oEq k IT g (W (.pointer By)) F e h=.ok (.bool IT) h:=by
 subst hk;show(match eqV (.ptr t) (g e) (.pointer By)with|some c=>okB (IT != c) h|none=>.no)=_;rw[b];exact FU
theorem jQ{k:TK}{a b r:Nat}{g:O}(hk:k=.map a b)(c:g e=.map (BY r)):oEq k IT g (W (.map By)) F e h=.ok (.bool IT) h:=by
 subst hk;show(match eqV (.map a b) (g e) (.map By)with|some r=>okB (IT != r) h|none=>.no)=_;rw[c];exact FU
theorem mV:ZT.k=.ptr 69:=by kernel_rfl
theorem wV:lZ.k=.map 3 82:=by kernel_rfl
theorem MQ{m:Nat}(d:Dk h bd bm bc n M c0 cs arm dn):call AC (m+1) 26 [pt bd] h=.ok (.bool IT) h:=by
 obtain⟨_,f,_,_⟩:=DR d.disk;have b:∀e:Env,J 0 e=pt bd->oEq ZT.k IT (J 0) (W (.pointer By)) (call AC m) e h=.ok (.bool IT) h:=λe a=>GU mV a
 have c:∀e:Env,J 9 e=.map (BY bc)->oEq lZ.k IT (J 9) (W (.map By)) (call AC m) e h=.ok (.bool IT) h:=λe a=>jQ wV a
 rw[oQ rfl];unfold d26;simp only[iN,xV,sT,xT,sh,reduceIte,gD,b,Ax,Am,AH,AO,AN,AQ,f,c,lV0]
theorem OI{m:Nat}(d:Dk h bd bm bc n M c0 cs arm IT){i:Nat}(hi:i<n):call AC (m+2) 130 [pt bd,AI AT (i:Int)] h=.ok (AI AT 0) h:=by
 obtain⟨e,_,_,f⟩:=DR d.disk;have c:=MQ (m:=m) d;have a:iLt (i:Int) 0=IT:=FI (by omega);have b:iGe (i:Int) (n:Int)=IT:=EX (by omega);rw[gb rfl];unfold qf;simp only[iN,xV,sT,xT,sh,reduceIte,gD,cA0,c,Ax,Am,AH,AO,AN,AQ,e,f,AX,EO,AK,AJ,a,b,lV0]
theorem lJ{m:Nat}(d:Dk h bd bm bc n M c0 cs arm dn):call AC (m+2) 67 [pt bd] h=.ok (AI AT (n:Int)) h:=by
 obtain⟨b,_,_,c⟩:=DR d.disk;have a:=MQ (m:=m) d;rw[pJ rfl];unfold d67;simp only[iN,xV,sT,xT,sh,reduceIte,gD,cA0,a,Ax,Am,AH,AO,AN,AQ,b,c,AX,EO,lV0]
theorem Wi{m:Nat}(d:Dk h bd bm bc n M c0 cs arm dn):call AC (m+2) 10 [pt bd] h=.ok (.bool dn) h:=by
 obtain⟨b,_,_,c⟩:=DR d.disk;have a:=MQ (m:=m) d;rw[oI rfl];unfold d10;simp only[iN,xV,sT,xT,sh,reduceIte,gD,cA0,a,BJ,BI,yg,Ax,Am,AH,AO,AN,AQ,b,c,lV0]
theorem cW{x y:O}{k j:IntKind}{a b:Int}(d:x e=.int k a)(f:y e=.int j b):VF x y F e h=.ok (.int k (max a b)) h:=by
 show H9 IT (x e) (y e) h=_;rw[d,f];show(bif iLt a b then R.ok (.int k b) h else .ok (.int k a) h)=_;rw[Da];by_cases c:a<b
 ·rw[decide_eq_true c,Int.max_eq_right (by omega)];rfl
 ·rw[decide_eq_false c,Int.max_eq_left (by omega)];rfl
def Ga(a:Int):Int:=max (a - 1) (-1)
def CL(a:Int)(k:Nat):Prop:=a<=1099511627776/\-1<=a/\(a<0\/(k:Int)<=a)
theorem CL.one{a:Int}{k:Nat}(h:CL a (k+1)):CL (Ga a) k/\a≠0:=by
 unfold CL Ga at *;omega
theorem CL.le{a:Int}{k j:Nat}(h:CL a k)(b:j<=k):CL a j:=by
 unfold CL at *;omega
theorem Xe{m:Nat}(a:h.Wf)(d:Dk h bd bm bc n M c0 cs arm IT){k:Nat}(c:CL arm (k+1)):
  ∃h',call AC (m+1) 144 [pt bd] h=.ok (AI AT 0) h'/\Fx (λi=>i=bd) h h'/\Dk h' bd bm bc n M c0 cs (Ga arm) IT:=by
 obtain⟨_,_,o,_⟩:=DR d.disk;obtain⟨_,j⟩:=c.one;have f:iEq arm 0=IT:=CF j;have b:=d.disk.AEn (n:=1) (off:=2) a d.big.1 (v:=AI AT (Ga arm)) rfl (by show 2+1<=4;omega) rfl;have fr:=Fx.wr (S:=λi=>i=bd) a d.disk (off:=2) (vs:=[AI AT (Ga arm)]) (by show 2+1<=4;omega) rfl;have q:=d.disk.AEt a (off:=2) (vs:=[AI AT (Ga arm)]) (by show 2+1<=4;omega);have l:AAX.wrap (yi arm 1)=arm - 1:=by
  obtain⟨r,s,t⟩:=c;show AAX.wrap (arm - 1)=_;rcases Int.lt_or_le arm 1 with w|u
  ·have:arm= -1\/arm=0:=by omega
   rcases this with rfl|rfl<;>rfl
  ·exact fV (by omega) (by omega)
 have p:∀e:Env,J 19 e=AI AT (arm - 1)->VF (J 19) (W (AI AT (-1))) (call AC m) e h=.ok (AI AT (Ga arm)) h:=λe g=>cW g rfl
 have b:AEn 1 (.pointer (BY ⟨bd,2,By⟩)) (AI AT (Ga arm)) h=.ok AEl (h.wr bd 2 [AI AT (Ga arm)]):=b;refine⟨_,?_,fr,⟨q,fr.row a d.med (λh=>d.bdm h.symm),d.len,d.byt,uR a d.disk (by show 2+1<=4;omega) d.map,d.big,d.n1⟩⟩;rw[ge rfl];unfold qn;simp only[iN,xV,sT,xT,sh,reduceIte,Ax,Am,AH,AO,AN,AQ,xZ,o,AK,AJ,f,B6,Cn,l,p,AW,b,lV0]
end
section
variable {F:AEh}{e:Env}{h h':Hp}{S:Nat->Prop}{bd bm bc n c0:Nat}{M:List Nat}{cs:List (Nat×List Nat)}{arm:Int}{dn:Bool}
theorem ra{n:Nat}(c:n<=9223372036854775807):Gc ⟨IT,[.i .i64]⟩ (AI AT (n:Int))=IN:=by
 show(match (match Dz .i64 .i64 with|true=>yI n (BE .i64)|false=>IT)with|true=>IN|false=>IT)=IN;have a:Dz .i64 .i64=IN:=rfl;have b:yI n (BE .i64)=IN:=As.2 c;simp only[a,b]
theorem wu{n m:Nat}(b:m<=9223372036854775807):Gw ⟨IT,[.i .i64]⟩ (AI AT (n:Int)) (AI AT (m:Int))=BY (decide (n=m)):=by
 unfold Gw;rw[ra b];show(match (match Dz .i64 .i64 with|true=>BY (iEq (n:Int) (m:Int))|false=>By)with|some IN=>BY IN|some IT=>BY IT|none=>By)=_;have a:Dz .i64 .i64=IN:=rfl;simp only[a,Dv];by_cases h:n=m
 ·subst h;simp
 ·have:((n:Int) == (m:Int))=IT:=by rw[beq_eq_false_iff_ne];omega
  rw[this,decide_eq_false h]
theorem TQ{k:Nat}{v:xU}:∀(cs:List (Nat×List Nat)) (i:Nat),(∀x∈cs,x.1≠k/\x.1<=65536)->Od ⟨IT,[.i .i64]⟩ (AI AT (k:Int)) v (AE0 i cs)=BY By
 |[],_,_=>rfl
 |x::a,i,b=>by
  obtain⟨c,g⟩:=b x xp;show(match Gw ⟨IT,[.i .i64]⟩ (AI AT (k:Int)) (AI AT (x.1:Int))with|some IN=>BY (BY ((⟨AI AT (k:Int),v,i⟩:Ent)::AE0 (i+1) a))|some IT=>(match Od ⟨IT,[.i .i64]⟩ (AI AT (k:Int)) v (AE0 (i+1) a)with|some (BY e)=>BY (BY ((⟨AI AT (x.1:Int),D0 x.2,i⟩:Ent)::e))|some By=>BY By|none=>By)|none=>By)=BY By;rw[wu (by omega),decide_eq_false (λh=>c h.symm)];simp only;rw[TQ a (i+1) λf d=>b f (xn _ d)]
theorem Vs{k:Nat}{l:List Nat}:∀(cs:List (Nat×List Nat)) (i:Nat),YL ⟨AI AT (k:Int),D0 l,i+cs.length⟩ (AE0 i cs)=AE0 i (cs++[(k,l)])
 |[],i=>rfl
 |x::cs,i=>by
  show(⟨AI AT (x.1:Int),D0 x.2,i⟩:Ent)::YL ⟨AI AT (k:Int),D0 l,i+(cs.length+1)⟩ (AE0 (i+1) cs)=_::AE0 (i+1) (cs++[(k,l)]);rw[<- Vs cs (i+1),AEB,ADC 1]
theorem YF:Lb.zero=(xx 64 0).map bv:=by
 have:Lb.zero=BP ty5.zero 64:=by kernel_rfl
 rw[this,MW]
theorem YI:Bs .mt 0 ((xx 64 0).map bv)=BY Jc:=by kernel_rfl
theorem jS(R:h.Row bm 0 (M.map bv))(a:M.length=64*n){i:Nat}(hi:i<n):loadN 64 ⟨bm,0+i*64,By⟩ h=.ok (D0 (sec M i)) h:=by
 rw[R.loadN (by rw[xa];omega),<- AD4,<- ACD,xZ,zb i 64];rfl
theorem cU(d:Dk h bd bm bc n M c0 [] arm dn){z:xU}{x y:O}{i:Nat}(b:x e=.map (BY bc))(c:y e=AI AT (i:Int))(hi:i<n):HQ ⟨IT,[.i .i64]⟩ z IN x y F e h=.ok (.tuple ⟨[z,.bool IT]⟩) h:=by
 have:=d.n1;show Ig ⟨IT,[.i .i64]⟩ z (x e) (y e) IN h=_;rw[b,c];have a:Bp h bc=.ok [] (c0+0):=by unfold Bp;rw[d.map];rfl
 unfold Ig;rw[ra (by omega)];simp only[a,NH];unfold FC;simp only[Ba]
theorem YS{g:O}{r:Nat}(b:g e=pt r):GT 64 1 g By By By F e h=.ok (.slice (BY ⟨r,0,By⟩) 64 64) h:=by
 show(match EI (g e)with|.ok a=>DY e 64 64 By By By λd c f=>Bz (BY a) 1 d c f h|.no=>.no)=_;rw[b];rfl
theorem Xl{m:Nat}(g:h.Wf)(d:Dk h bd bm bc n M c0 [] arm IT){i:Nat}(hi:i<n):
  ∃h' v,call AC (m+3) 106 [pt bd,AI AT (i:Int)] h=.ok (.tuple ⟨[v,AI AT 0]⟩) h'/\h.Ext h'/\Mk h' h.next v (sec M i)/\h'.next=h.next+1/\h'.mark=h.mark/\h.low=h.low:=by
 have P:=OI (m:=m) d hi;obtain⟨x,y,_,_⟩:=DR d.disk;have I:iNe 0 0=IT:=B0 rfl;have Q:∀e:Env,J 19 e=.map (BY bc)->J 1 e=AI AT (i:Int)->HQ ⟨IT,[.i .i64]⟩ (.agg ⟨Lb.zero⟩) IN (J 19) (J 1) (call AC (m+2)) e h=.ok (.tuple ⟨[.agg ⟨Lb.zero⟩,.bool IT]⟩) h:=λe c a=>cU d c a hi
 have s:=λ(F:AEh) (e:Env)=>BO (F:=F) (e:=e) g (n:=64) (t:=Jc)
 have f:=Hp.Row.alloc g YI (by rw[xa,yn]);have l:h.Ext (h.push (.cells Jc 64 0)):=(Hp.Ext.refl g).push _;have C:(h.push (.cells Jc 64 0)).next=h.next+1:=rfl;have z:(h.push (.cells Jc 64 0)).mark=h.mark:=rfl;generalize h.push (.cells Jc 64 0)=c at s f l C z;have N:((xx 64 0).map bv).length=64:=by rw[xa,yn]
 have big:=g.big;have G:AEn 64 (pt h.next) (.agg ⟨Lb.zero⟩) c=.ok AEl (c.wr h.next 0 ((xx 64 0).map bv)):=by
  rw[YF];exact f.AEn (n:=64) (off:=0) l.wf big (v:=.agg ⟨(xx 64 0).map bv⟩) N (by show 0+((xx 64 0).map bv).length<=_;omega) (DD _)
 have j:=f.AFC l (xW _) (off:=0) (vs:=(xx 64 0).map bv) (by omega);have b:=f.AEt l.wf (off:=0) (vs:=(xx 64 0).map bv) (by omega);rw[EW rfl]at b;have D:(c.wr h.next 0 ((xx 64 0).map bv)).next=h.next+1:=(f.AFP (by omega)).trans C;have A:(c.wr h.next 0 ((xx 64 0).map bv)).mark=h.mark:=by
  obtain⟨_,_,e,_⟩:=f.AFt (off:=0) (vs:=(xx 64 0).map bv) (by omega);rw[e];exact z
 generalize c.wr h.next 0 ((xx 64 0).map bv)=a at G j b D A;have k:=d.ext g j;obtain⟨x,_,_,_⟩:=DR k.disk;have O:AFV 64 (.slice (BY ⟨bm,0,By⟩) n n) (AI AT (i:Int)) a=.ok (.pointer (BY ⟨bm,0+i * 64,By⟩)) a:=Cy hi;have q:=jS k.med k.len hi;have w:=KP k.len hi;have L:((sec M i).map bv).length=64:=by rw[xa,w]
 have r:AEn 64 (pt h.next) (D0 (sec M i)) a=.ok AEl (a.wr h.next 0 ((sec M i).map bv)):=b.AEn (n:=64) (off:=0) j.wf big (v:=D0 (sec M i)) L (by show 0+((sec M i).map bv).length<=_;omega) (DD _);have H:=b.AFC j (xW _) (off:=0) (vs:=(sec M i).map bv) (by omega);have o:=b.AEt j.wf (off:=0) (vs:=(sec M i).map bv) (by omega);rw[EW (by omega)]at o;have E:(a.wr h.next 0 ((sec M i).map bv)).next=h.next+1:=(b.AFP (by omega)).trans D;have B:(a.wr h.next 0 ((sec M i).map bv)).mark=h.mark:=by
  obtain⟨_,_,e,_⟩:=b.AFt (off:=0) (vs:=(sec M i).map bv) (by omega);rw[e];exact A
 generalize a.wr h.next 0 ((sec M i).map bv)=p at r H o E B;have u:∀e:Env,J 7 e=pt h.next->GT 64 1 (J 7) By By By (call AC (m+2)) e p=.ok (.slice (BY ⟨h.next,0,By⟩) 64 64) p:=λe K=>YS K
 refine⟨p,.slice (BY ⟨h.next,0,By⟩) 64 64,?_,H,⟨h.next,0,by rw[w],.inl rfl,o,xW _⟩,E,B,rfl⟩;obtain⟨_,y,_,_⟩:=DR d.disk;rw[gM rfl];unfold qJ;simp only[iN,xV,sT,xT,sh,reduceIte,cA0,P,AK,AJ,I,Ax,Am,AH,AO,AN,AQ,xZ,y,Q,Aq,Az,A1,s,AW,G,BJ,BI,yg,x,BA,O,An,Ah,q,r,u,Av,CO];simp only[xZ]at q;simp only[q,sT,xT,sh,reduceIte,AW,r,u,Av,CO]
theorem uN(a:h.Wf)(d:Dk h bd bm bc n M c0 cs arm dn){i:Nat}(hi:i<n)(f:∀x∈cs,x.1≠i/\x.1<n){l:List Nat}{g1 g2 g3:O}(j:g1 e=.map (BY bc))(h2:g2 e=AI AT (i:Int))(k:g3 e=D0 l):
  Fa ⟨IT,[.i .i64]⟩ g1 g2 g3 F e h=.ok AEl (h.put bc (.map (AE0 c0 (cs++[(i,l)])) (xz (c0+cs.length))))/\Fx (λb=>b=bc) h (h.put bc (.map (AE0 c0 (cs++[(i,l)])) (xz (c0+cs.length))))/\Dk (h.put bc (.map (AE0 c0 (cs++[(i,l)])) (xz (c0+cs.length)))) bd bm bc n M c0 (cs++[(i,l)]) arm dn:=by
 have o:=d.n1;have c:=(d.lt a).2.2;have m:Bp h bc=.ok (AE0 c0 cs) (c0+cs.length):=by unfold Bp;rw[d.map];rfl
 have fx:Fx (λb=>b=bc) h (h.put bc (.map (AE0 c0 (cs++[(i,l)])) (xz (c0+cs.length)))):=Fx.put (S:=λb=>b=bc) a c rfl _;refine⟨?_,fx,⟨fx.row a d.disk d.bdc,fx.row a d.med d.bmc,d.len,d.byt,?_,d.big,d.n1⟩⟩
 ·show AEw (g2 e) (λkey=>AEw (g3 e) λv=>Ma ⟨IT,[.i .i64]⟩ (g1 e) key v h)=_
  rw[Ba,Ba,j,h2,k];unfold Ma;rw[ra (by omega)];simp only[m,TQ cs c0 λx g=>⟨(f x g).1,by have:=(f x g).2;omega⟩,Vs];rw[Ea a d.big.2.2 c];rfl
 ·rw[a.AFL c,If rfl,xY];rfl
theorem mj{g:O}{a:Addr}{c:Nat}(b:g e=.slice (BY a) 64 c):Se 64 g F e h=.ok (.pointer (BY a)) h:=by
 show(match g e with|.slice (BY a) d _=>bif yI 64 d then R.ok (.pointer (BY a)) h else .no|_=>.no)=_;rw[b];rfl
theorem Tj{m:Nat}(s:h.Wf)(d:Dk h bd bm bc n M c0 cs arm IT){k:Nat}(Q:CL arm (k+1)){i:Nat}(hi:i<n)(R:∀x∈cs,x.1≠i/\x.1<n){u:xU}{l:List Nat}(q:h.VS (λb=>b≠bd) u (l.map bv))(p:l.length=64):
  ∃h',call AC (m+3) 120 [pt bd,AI AT (i:Int),u] h=.ok (AI AT 0) h'/\Fx (λb=>b=bd\/b=bc) h h'/\Dk h' bd bm bc n M c0 (cs++[(i,l)]) (Ga arm) IT:=by
 have U:=OI (m:=m) d hi;have r:=q.vals.bl h;rw[p]at r;obtain⟨a,V,o,N⟩:=Xe (m:=m+1) s d Q;have H:=q.fx s o (λb a h2=>a h2);have K:iNe 0 0=IT:=B0 rfl;have L:iNe ((64:Nat):Int) 64=IT:=B0 rfl;rcases H with ⟨_,T⟩|⟨b,C,a0,P,D,B,_,E,A,z,_⟩
 ·have:=congrArg AAC T
  rw[xa,p]at this;cases this
 rw[xa,p]at B A z;have t:=N.same (h':=a.marked) rfl;obtain⟨_,X,_,_⟩:=DR t.disk;have G:a.marked.Row b P D:=E.same rfl;have Y:loadN 64 ⟨b,C,By⟩ a.marked=.ok (D0 l) a.marked:=by rw[G.loadN A,z];rfl
 have I:∀(F:AEh) (e:Env),J 2 e=u->Se 64 (J 2) F e a.marked=.ok (.pointer (BY ⟨b,C,By⟩)) a.marked:=λF e S=>mj (S.trans B)
 have j:=λ(F:AEh) (e:Env) (g1 g2 g3:O) (c:g1 e=.map (BY bc)) (f:g2 e=AI AT (i:Int)) (g:g3 e=D0 l)=>uN (F:=F) o.wf.marked.quiet (t.same (h':=a.marked.quiet) rfl) hi R c f g
 obtain⟨_,y,w⟩:=j (call AC m) e0 (W (.map (BY bc))) (W (AI AT (i:Int))) (W (D0 l)) rfl rfl rfl;have j:=λF e g1 g2 g3 c f g=>(j F e g1 g2 g3 c f g).1
 generalize a.marked.quiet.put bc (.map (AE0 c0 (cs++[(i,l)])) (xz (c0+cs.length)))=h2 at j y w;have Z:∀(F:AEh) (e:Env),J 26 e=.map (BY bc)->J 1 e=AI AT (i:Int)->J 30 e=D0 l->Ac .free (Fa ⟨IT,[.i .i64]⟩ (J 26) (J 1) (J 30)) F e a.marked=.ok AEl (a.marked.back h2):=λF e c f g=>BF (j F e _ _ _ c f g)
 refine⟨a.marked.back h2,?_,?_,w.same rfl⟩
 ·rw[gS rfl]
  unfold qU;simp only[iN,xV,sT,xT,sh,reduceIte,cA0,U,AK,AJ,K,AX,r,L,V,Aw,Ax,Am,AH,AO,AN,AQ,xZ,X,I,An,Ah,Y,Z,lV0]
 ·exact(o.mono λi h=>.inl h).trans (((y.mono λi h=>.inr h).from (h:=a.marked) rfl rfl).same (h2:=a.marked.back h2) rfl rfl |>.from (h:=a) rfl rfl)
theorem eD:∀n:Nat,BP Lb.zero n=(xx (64*n) 0).map bv
 |0=>rfl
 |n+1=>by
  show Lb.zero++BP Lb.zero n=_;rw[eD n,YF,<- yZ,List.replicate_append_replicate]
  congr 2;omega
theorem uZ:lg.zero=[.slice By 0 0,.map By,AI AT 0,.bool IT]:=by kernel_rfl
theorem ia{m:Nat}(f:h.Wf)(w:1<=n/\n<=65536):
  ∃h' bd bm bc,call AC (m+1) 25 [AI AT (n:Int)] h=.ok (.tuple ⟨[pt bd,AI AT 0]⟩) h'/\h.Ext h'/\Dk h' bd bm bc n (xx (64*n) 0) 0 [] (-1) IT/\h.next<=bd/\h.next<=bm/\h.next<=bc:=by
 have big:=f.big;have s:iLt (n:Int) 1=IT:=FI (by omega);have t:iGt (n:Int) 65536=IT:=FW (by omega);have mk:∀(F:AEh) (e:Env),J 0 e=AI AT (n:Int)->Hi 64 Lb.zero (J 0) (J 0) F e h=.ok (.slice (BY ⟨h.next,0,By⟩) n n) (h.AEg 0 ((xx (64*n) 0).map bv)):=λF e k=>by
  show SW 64 Lb.zero (Db (J 0 e)) (Db (J 0 e)) h=_;rw[k,Dm];unfold SW;simp only;have g:yI n n=IN:=As.2 (xW _);have i:yI (yv (xz n) (xz 64)) most=IN:=As.2 (by show(n+1)*65<=1099511627776;omega);rw[g,i,eD];simp only[cond_true];rw[Cm f];rfl
 have c:=(Hp.Ext.refl f).AEg 0 ((xx (64 * n) 0).map bv);have p:=Hp.Row.new f 0 ((xx (64 * n) 0).map bv);have y:(h.AEg 0 ((xx (64 * n) 0).map bv)).next=h.next+1:=rfl;generalize h.AEg 0 ((xx (64 * n) 0).map bv)=a at mk c p y;have mp:∀(F:AEh) (e:Env),Y3 F e a=.ok (.map (BY a.next)) (a.push (.map [] 0)):=λF e=>by
  unfold Y3;rw[C7 c.wf]
 have l:a.Ext (a.push (.map [] 0)):=(Hp.Ext.refl c.wf).push _;have o:(a.push (.map [] 0)).bl.get a.next=.map [] 0:=by rw[c.wf.AE8,If rfl]
 have z:(a.push (.map [] 0)).next=a.next+1:=rfl;generalize a.push (.map [] 0)=b at mp l o z;have d:=c.trans l;have bl:∀(F:AEh) (e:Env),J 11 e=.slice (BY ⟨h.next,0,By⟩) n n->J 12 e=.map (BY a.next)->BG lg.zero [(0,1,J 11),(1,1,J 12),(2,1,W (AI AT (-1)))] F e b=.ok (.agg ⟨dkL h.next a.next n (-1) IT⟩) b:=λF e g i=>by
  rw[CX,uZ,Ad (hk:=by rw[g];rfl),g,Ad (hk:=by rw[i];rfl),i,Ad];simp only[show cellsOf (.slice (BY ⟨h.next,0,By⟩) n n)=[.slice (BY ⟨h.next,0,By⟩) n n]from rfl,show cellsOf (.map (BY a.next))=[.map (BY a.next)]from rfl,EY,Cj,yd,xh,yU,over,AA0,AAo,zp,yT,zK,xV,zg,if_true,Bo,reduceIte];rfl
 have r:∀(F:AEh) (e:Env),J 13 e=.agg ⟨dkL h.next a.next n (-1) IT⟩->CV (J 13) F e b=.ok (pt b.next) (b.AEg 0 (dkL h.next a.next n (-1) IT)):=λF e k=>by
  rw[DN,k,DM d.wf];rfl
 have j:=(Hp.Ext.refl d.wf).AEg 0 (dkL h.next a.next n (-1) IT);have q:=Hp.Row.new d.wf 0 (dkL h.next a.next n (-1) IT);generalize b.AEg 0 (dkL h.next a.next n (-1) IT)=u at r j q;refine⟨u,b.next,h.next,a.next,?_,d.trans j,⟨q,(p.ext c.wf l).ext d.wf j,yn,λA x=>by rw[AAi x];decide,?_,⟨by omega,by omega,by omega⟩,w⟩,by omega,xW _,by omega⟩
 ·rw[oP rfl]
  unfold d25;simp only[iN,xV,sT,xT,sh,reduceIte,gD,AK,AJ,s,t,mk,mp,bl,r,Av,CO]
 ·rw[j.get _ (by omega),o];rfl
end
theorem VT.ext:∀(a b:VT),(∀j,a.has j↔b.has j)->(∀j,a.get j=b.get j)->a=b
 |.mt,.mt,_,_=>rfl
 |.mt,.nd v f g,c,_=>by
  have:=(c 0).2 (by unfold VT.has;trivial);unfold VT.has at this;exact this.elim
 |.nd v f g,.mt,c,_=>by
  have:=(c 0).1 (by unfold VT.has;trivial);unfold VT.has at this;exact this.elim
 |.nd v f g,.nd o i k,c,h=>by
  have l:v=o:=h 0;have e:∀j,(2*j) % 2=0/\2*j/2=j:=λj=>by omega
  have d:∀j,¬(2*j+1) % 2=0/\(2*j+1)/2=j:=λj=>by omega
  have m:f=i:=VT.ext f i (λj=>by
   have:=c (2*j+1);rw[VT.AEu,VT.AEu,If (e j).1,If (e j).1,(e j).2]at this;exact this) (λj=>by
   have:=h (2*j+1);rw[VT.AEq,VT.AEq,If (e j).1,If (e j).1,(e j).2]at this;exact this)
  have n:g=k:=VT.ext g k (λj=>by
   have:=c (2*j+1+1);rw[VT.AEu,VT.AEu,No (d j).1,No (d j).1,(d j).2]at this;exact this) (λj=>by
   have:=h (2*j+1+1);rw[VT.AEq,VT.AEq,No (d j).1,No (d j).1,(d j).2]at this;exact this)
  rw[l,m,n]
theorem VT.AGC:∀(t:VT) (i:Nat) (x:xU) (e:VT),t.set i x=BY e->t.has i->∀j,e.has j->t.has j
 |.mt,i,x,e,_,c,_,_=>by unfold VT.has at c;exact c.elim
 |.nd v h k,0,x,e,a,_,j,b=>by
  have a:BY (VT.nd x h k)=BY e:=a;cases a;cases j with
  |zero=>unfold VT.has;trivial
  |succ g=>rw[VT.AEu]at b ⊢;exact b
 |.nd v h k,g+1,x,e,a,c,j,b=>by
  rw[VT.AFE]at a;rw[VT.AEu]at c;by_cases n:g % 2=0
  ·rw[If n]at a c
   cases d:h.set (g/2) x with
   |none=>rw[d]at a;cases a
   |some l=>
    rw[d]at a;cases a;cases j with
    |zero=>unfold VT.has;trivial
    |succ m=>
     rw[VT.AEu]at b ⊢;by_cases f:m % 2=0
     ·rw[If f]at b ⊢;exact VT.AGC h _ x l d c _ b
     ·rw[No f]at b ⊢;exact b
  ·rw[No n]at a c
   cases d:k.set (g/2) x with
   |none=>rw[d]at a;cases a
   |some l=>
    rw[d]at a;cases a;cases j with
    |zero=>unfold VT.has;trivial
    |succ m=>
     rw[VT.AEu]at b ⊢;by_cases f:m % 2=0
     ·rw[If f]at b ⊢;exact b
     ·rw[No f]at b ⊢;exact VT.AGC k _ x l d c _ b
theorem Lw:∀(vs:List xU) (t:VT) (i:Nat),(∀j,j<i+vs.length->t.has j)->∃a,Bs t i vs=BY a/\(∀j,a.has j↔t.has j)/\∀j,a.get j=if i<=j/\j<i+vs.length then vs.getD (j - i) AEl else t.get j
 |[],t,i,b=>⟨t,rfl,λ_=>Iff.rfl,λj=>by rw[No (by simp only[yU];omega)]⟩
 |v::vs,t,i,b=>by
  simp only[xh]at b;have d:∀j,j<i->t.has j:=λj e=>b j (by omega)
  have h:=VT.AFO (x:=v) d;have g:∀j,(t.lay i v).has j↔t.has j:=λj=>⟨VT.AGC t i v _ h (b i (by omega)) j,λe=>VT.AFo d j (.inr e)⟩
  obtain⟨a,k,l,m⟩:=Lw vs (t.lay i v) (i+1) λj e=>(g j).2 (b j (by omega))
  refine⟨a,?_,λj=>(l j).trans (g j),λj=>?_⟩
  ·show(match t.set i v with|some a=>Bs a (xz i) vs|none=>By)=_
   rw[h];exact k
  ·rw[m j,VT.AFf d]
   simp only[xh];by_cases f:i+1<=j/\j<i+1+vs.length
   ·rw[If f,If (by omega),show j - i=(j - (i+1))+1 by omega];rfl
   ·rw[No f]
    by_cases c:j=i
    ·rw[If c,If (by omega),c,ACZ];rfl
    ·rw[No c,No (by omega)]
section
variable {F:AEh}{e:Env}{h r:Hp}{k:Walk}{body:C}{b:Nat}
theorem QD{b c:Nat}{r a:Hp}{tr:Rds}:Yc b c r a tr=IN↔bQ b c r a:=by
 unfold Yc;split
 ·rename_i h _;exact⟨λ_=>h,λ_=>rfl⟩
 ·rename_i h _;exact⟨λe=>(by cases e),λe=>absurd e h⟩
theorem Q8{f:Ent->Bool}:∀{l:List Ent},(∀x∈l,f x=IN)->Q7 f l=IN
 |[],_=>rfl
 |x::l,h=>by
  show(bif f x then Q7 f l else IT)=IN;rw[h x xp,Q8 λb a=>h b (xn _ a)];rfl
theorem JK{fin:Hp->Rds->Bool}:∀(n:Nat) (h:Hp) (tr:Rds),Lj k body F e b fin n h tr=IN->∃p,UX k body F e b n h tr=BY p/\fin p.1 p.2=IN
 |0,h,tr,a=>by cases a
 |n+1,h,tr,a=>by
  unfold Lj PB at a;unfold UX PB;cases d:Ej (h.bl.get b)with
  |no=>rw[d]at a;cases a
  |cur _ _ _=>rw[d]at a;cases a
  |pick _ _ _ _=>rw[d]at a;cases a
  |ok g w seen u=>
   rw[d]at a;cases g with
   |none=>cases a
   |some g=>
    simp only at a ⊢;cases m:Bp h g with
    |no=>rw[m]at a;cases a
    |ok l c=>
     rw[m]at a;simp only at a ⊢;cases i:yA c w with
     |false=>rw[i]at a;cases a
     |true=>
      cases j:yA c u with
      |false=>rw[i,j]at a;cases a
      |true=>
       cases r:Fd c 0 l with
       |false=>rw[i,j,r]at a;cases a
       |true=>
        rw[i,j,r]at a;simp only[cond_true]at a ⊢;cases o:AFG seen l with
        |nil=>rw[o]at a;exact⟨_,rfl,a⟩
        |cons s x=>
         rw[o]at a;have f:=Mg a s xp;simp only;cases q:Pi k body F e b g c seen h s with
         |none=>rw[q]at f;cases f
         |some t=>
          rw[q]at f;exact JK n t _ f
theorem UK(l:h.Wf)(S:Pr k body F e h b r)(x:h.next<=r.next):
  ∃h',GH k body F e h b=.exit k.out (Env.set k.more (.bool IT) (DC e k.ws)) h'/\h'.Wf/\h'.next=r.next/\(∀i,i<h.next->i≠b->h'.bl.get i=r.bl.get i)/\h'.mark=h.mark/\h'.low=min h.low r.low:=by
 obtain⟨o,n,m⟩:=JK _ _ _ S.2;obtain⟨q,s,y,t⟩:=QD.1 m;have u:=l.big;unfold GH;split
 case h_2=>rename_i a _;exact absurd ⟨r,S⟩ a
 rename_i a _;have d:=ACL a;generalize ACl a=c at d;obtain⟨p,g,j⟩:=JK _ _ _ d.2;obtain rfl:p=o:=by rw[n]at g;exact(Option.some.inj g).symm
 obtain⟨t1,t2,t3,t4⟩:=QD.1 j;refine⟨_,rfl,⟨?_,d.1,λi f=>?_⟩,t1.symm.trans q,λi f w=>?_,rfl,(BU _ _).trans (by rw[t2,<- s])⟩
 ·show 256<=c.next;omega
 ·have f:c.next<=i:=f
  show c.bl.get i=_;rw[t4,If (by omega)]
 ·show c.bl.get i=_
  rw[t4,t]
end
def It(M:List Nat)(k:Nat)(l:List Nat):List Nat:=M.take (64*k)++l++M.drop (64*k+64)
def GO:List Nat->List (Nat×List Nat)->List Nat
 |M,[]=>M
 |M,a::b=>GO (It M a.1 a.2) b
def AGo(cs:List (Nat×List Nat)):Prop:=∀(a b:Nat) (c d:Nat×List Nat),cs[a]? =BY c->cs[b]? =BY d->c.1=d.1->a=b
def AFz(n:Nat)(cs:List (Nat×List Nat)):Prop:=∀a∈cs,a.1<n/\a.2.length=64/\∀b∈a.2,b<256
theorem Dg{M l:List Nat}{n k:Nat}(a:M.length=64*n)(hk:k<n)(b:l.length=64):(It M k l).length=64*n:=by
 unfold It;rw[xY,xY,yP,yX];omega
theorem km{M l:List Nat}{k:Nat}(a:∀x∈M,x<256)(b:∀x∈l,x<256):∀x∈It M k l,x<256:=λx hx=>by
 rcases yO.1 hx with hx|hx
 ·rcases yO.1 hx with hx|hx
  ·exact a x (zJ hx)
  ·exact b x hx
 ·exact a x (zd hx)
theorem Eo{M l:List Nat}{n k p:Nat}(d:M.length=64*n)(hk:k<n)(c:l.length=64):(It M k l).getD p 0=if p/64=k then l.getD (p % 64) 0 else M.getD p 0:=by
 unfold It;have a:(M.take (64*k)).length=64*k:=by rw[yP];omega
 simp only[xe];by_cases b:p/64=k
 ·rw[If b,yD,yR (by omega),yL (by omega),a,show p - 64*k=p % 64 by omega]
 ·rw[No b]
  rcases yM p (64*k)with hp|hp
  ·rw[yD,yL (by omega),zy,If hp]
  ·rw[yR (by rw[xY];omega),ABJ,xY,a,c]
   congr 2;omega
theorem Gx:∀{cs:List (Nat×List Nat)} {M:List Nat} {n:Nat},M.length=64*n->AFz n cs->(GO M cs).length=64*n
 |[],_,_,a,_=>a
 |y::cs,M,n,a,b=>Gx (cs:=cs) (Dg a (b y xp).1 (b y xp).2.1) λd c=>b d (xn _ c)
theorem SN:∀{cs:List (Nat×List Nat)} {M:List Nat} {n:Nat},(∀x∈M,x<256)->AFz n cs->∀x∈GO M cs,x<256
 |[],_,_,a,_=>a
 |y::cs,M,n,a,b=>SN (cs:=cs) (n:=n) (km a (b y xp).2.2) λd c=>b d (xn _ c)
theorem AGo.tail{y:Nat×List Nat}{cs:List (Nat×List Nat)}(h:AGo (y::cs)):AGo cs/\∀z∈cs,z.1≠y.1:=⟨λa k b c e f g=>by
 have:=h (a+1) (k+1) b c (by rw[zD];exact e) (by rw[zD];exact f) g;omega,λz j d=>by
 obtain⟨a,i⟩:=AAP.1 j;have:=h (a+1) 0 z y (by rw[zD];exact i) rfl d;omega⟩
theorem LM:∀{cs:List (Nat×List Nat)} {M:List Nat} {n p:Nat},M.length=64*n->AFz n cs->(∀y∈cs,p/64≠y.1)->(GO M cs).getD p 0=M.getD p 0
 |[],_,_,_,_,_,_=>rfl
 |y::cs,M,n,p,e,f,g=>by
  obtain⟨c,d,h⟩:=f y xp;show(GO (It M y.1 y.2) cs).getD p 0=_;rw[LM (cs:=cs) (Dg e c d) (λb a=>f b (xn _ a)) λb a=>g b (xn _ a),Eo e c d,No (g y xp)]
theorem SM:∀{cs:List (Nat×List Nat)} {M:List Nat} {n:Nat},M.length=64*n->AFz n cs->AGo cs->∀y∈cs,∀q,q<64->(GO M cs).getD (64*y.1+q) 0=y.2.getD q 0
 |[],_,_,_,_,_,_,a,_,_=>by cases a
 |z::cs,M,n,e,f,g,y,a,q,h=>by
  obtain⟨c,d,k⟩:=f z xp;obtain⟨i,j⟩:=g.tail;show(GO (It M z.1 z.2) cs).getD _ 0=_;rcases yC.1 a with rfl|a
  ·rw[LM (cs:=cs) (Dg e c d) (λz b=>f z (xn _ b)) (λz b=>by have:=j z b;omega),Eo e c d,If (by omega),show(64*y.1+q) % 64=q by omega]
  ·exact SM (Dg e c d) (λz b=>f z (xn _ b)) i y a q h
def AFW(T0:VT)(done:List (Nat×List Nat))(T:VT):Prop:=(∀d,T.has d↔T0.has d)/\(∀a∈done,∀c,c<64->T.get (64*a.1+c)=bv (a.2.getD c 0))/\∀b,(∀a∈done,b/64≠a.1)->T.get b=T0.get b
theorem AFW.nil(T:VT):AFW T [] T:=⟨λ_=>Iff.rfl,λb a=>(by cases a),λ_ _=>rfl⟩
theorem AFW.step{T0 T:VT}{done:List (Nat×List Nat)}{k s:Nat}{l:List Nat}(h:AFW T0 done T)(o:∀j,j<s->T0.has j)(hk:64*k+64<=s)(p:l.length=64)(n:∀y∈done,y.1≠k):∃c,Bs T (64*k) (l.map bv)=BY c/\AFW T0 (done++[(k,l)]) c:=by
 have e:(l.map bv).length=64:=by rw[xa,p]
 obtain⟨c,i,m,d⟩:=Lw (l.map bv) T (64*k) λj t=>(h.1 j).2 (o j (by omega))
 refine⟨c,i,λj=>(m j).trans (h.1 j),λy a b q=>?_,λg f=>?_⟩
 ·rw[d,e]
  rcases yO.1 a with a|a
  ·rw[No (by have:=n y a;omega)]
   exact h.2.1 y a b q
  ·obtain rfl:=yG.1 a
   have r:64*k+b - 64*k=b:=by omega
   rw[If ⟨Nat.le_add_right _ _,by show 64*k+b<_;omega⟩];show(l.map bv).getD (64*k+b - 64*k) AEl=bv (l.getD b 0);rw[r,xe,zE,xe,xc (by omega)];rfl
 ·have:=f (k,l) (yc _ (yG.2 rfl))
  rw[d,e,No (by show ¬ _;have:g/64≠k:=this;omega)];exact h.2.2 g λy a=>f y (yh _ a)
theorem AFW.uniq{T0 T g:VT}{a b:List (Nat×List Nat)}(h:AFW T0 a T)(h':AFW T0 b g)(k:∀y,y∈a↔y∈b):T=g:=by
 refine VT.ext _ _ (λl=>(h.1 l).trans (h'.1 l).symm) λc=>?_
 by_cases f:∃y∈a,c/64=y.1
 ·obtain⟨y,d,e⟩:=f
  have i:=h.2.1 y d (c % 64) (by omega);have j:=h'.2.1 y ((k y).1 d) (c % 64) (by omega);rw[show 64*y.1+c % 64=c by omega]at i j;rw[i,j]
 ·rw[h.2.2 c λy d e=>f ⟨y,d,e⟩,h'.2.2 c λy d e=>f ⟨y,(k y).2 d,e⟩]
theorem AFW.all{T0:VT}{n:Nat}(g:∀j,j<64*n->T0.has j):∀(cs done:List (Nat×List Nat)) (T:VT),AFW T0 done T->AFz n cs->AGo cs->(∀y∈cs,∀z∈done,z.1≠y.1)->∃h,AFW T0 (done++cs) h
 |[],done,T,c,_,_,_=>⟨T,by rw[yF];exact c⟩
 |y::cs,done,T,c,e,p,f=>by
  obtain⟨t,i,u⟩:=e y xp;obtain⟨q,r⟩:=p.tail;obtain⟨T1,_,o⟩:=c.step g (k:=y.1) (l:=y.2) (by omega) i (f y xp);obtain⟨T2,d⟩:=AFW.all g cs (done++[(y.1,y.2)]) T1 o (λz b=>e z (xn _ b)) q λz b s a=>by
   rcases yO.1 a with a|a
   ·exact f z (xn _ b) s a
   ·obtain rfl:=yG.1 a
    exact λm=>r z b m.symm
  exact⟨T2,by rw[yD]at d;exact d⟩
theorem AFW.is{T0 T:VT}{M:List Nat}{n:Nat}{cs:List (Nat×List Nat)}(h:AFW T0 cs T)(r:T0.Is (M.map bv))(e:M.length=64*n)(f:AFz n cs)(p:AGo cs):T.Is ((GO M cs).map bv):=λa m=>by
 rw[xa,Gx e f]at m;have o:=r a (by rw[xa];omega);refine⟨(h.1 a).2 o.1,?_⟩;have j:∀d:List Nat,a<d.length->(d.map bv).getD a AEl=bv (d.getD a 0):=λd q=>by
  rw[xe,zE,xe,xc q];rfl
 rw[j _ (by rw[Gx e f];exact m)];by_cases i:∃b∈cs,a/64=b.1
 ·obtain⟨b,c,g⟩:=i
  have k:=h.2.1 b c (a % 64) (by omega);have l:=SM e f p b c (a % 64) (by omega);rw[show 64*b.1+a % 64=a by omega]at k l;rw[k,l]
 ·rw[h.2.2 a λb c g=>i ⟨b,c,g⟩,LM e f λb c g=>i ⟨b,c,g⟩,o.2,j _ (by omega)]
theorem NE:∀(cs:List (Nat×List Nat)) (c:Nat),(AE0 c cs).length=cs.length
 |[],_=>rfl
 |x::cs,c=>by show(AE0 (c+1) cs).length+1=_;rw[NE cs];rfl
theorem RW:∀{cs:List (Nat×List Nat)} {c:Nat} {x:Ent},x∈AE0 c cs->∃(i:Nat) (y:Nat×List Nat),cs[i]? =BY y/\x=⟨AI AT (y.1:Int),D0 y.2,c+i⟩
 |[],_,_,h=>by cases h
 |y::cs,c,x,h=>by
  rcases yC.1 h with h|h
  ·exact⟨0,y,rfl,h⟩
  ·obtain⟨i,d,a,b⟩:=RW h
   exact⟨i+1,d,by rw[zD];exact a,by rw[b,AEB,ADC 1]⟩
theorem Ia:∀{cs:List (Nat×List Nat)} {c i:Nat} {y:Nat×List Nat},cs[i]? =BY y->Gl (c+i) (AE0 c cs)=BY ⟨AI AT (y.1:Int),D0 y.2,c+i⟩
 |[],_,_,_,a=>by cases a
 |z::cs,c,0,y,a=>by
  have a:BY z=BY y:=a;cases a;show(bif yA c (c+0)then BY (⟨AI AT (z.1:Int),D0 z.2,c⟩:Ent)else Gl (c+0) (AE0 (c+1) cs))=_;rw[zQ,zU];rfl
 |z::cs,c,i+1,y,a=>by
  rw[zD]at a;show(bif yA c (c+(i+1))then BY (⟨AI AT (z.1:Int),D0 z.2,c⟩:Ent)else Gl (c+(i+1)) (AE0 (c+1) cs))=_;have:yA c (c+(i+1))=IT:=by
   cases b:yA c (c+(i+1))
   ·rfl
   ·have:=A0.1 b;omega
  rw[this,show c+(i+1)=c+1+i by omega];exact Ia a
theorem Lu:∀{cs:List (Nat×List Nat)} {c lo clk:Nat},lo<=c->c+cs.length<=clk->Fd clk lo (AE0 c cs)=IN
 |[],_,_,_,_,_=>rfl
 |x::cs,c,lo,clk,a,b=>by
  rw[xh]at b;show(bif yI lo c then(bif Nat.blt c clk then Fd clk (xz c) (AE0 (c+1) cs)else IT)else IT)=IN;rw[As.2 a,BV.2 (by omega)];exact Lu (xW _) (by omega)
theorem GP{n:Nat}:∀{l:List Nat},GD n l=IN↔n∈l
 |[]=>⟨λa=>(by cases a),λa=>(by cases a)⟩
 |x::l=>by
  show(bif yA x n then IN else GD n l)=IN↔_;cases a:yA x n with
  |true=>exact⟨λ_=>by rw[A0.1 a];exact xp,λ_=>rfl⟩
  |false=>
   refine Iff.trans (GP (l:=l)) ⟨λb=>xn _ b,λb=>?_⟩;rcases yC.1 b with b|b
   ·rw[b,zU]at a;cases a
   ·exact b
theorem N3{seen:List Nat}:∀{es:List Ent} {x:Ent},x∈AFG seen es->x∈es/\x.born∉seen
 |[],_,h=>by cases h
 |y::es,x,h=>by
  have h:x∈(bif GD y.born seen then AFG seen es else y::AFG seen es):=h;cases b:GD y.born seen with
  |true=>
   rw[b]at h;obtain⟨a,c⟩:=N3 (es:=es) h;exact⟨xn _ a,c⟩
  |false=>
   rw[b]at h;rcases yC.1 h with h|h
   ·subst h
    exact⟨xp,λa=>by rw[GP.2 a]at b;cases b⟩
   ·obtain⟨a,c⟩:=N3 (es:=es) h
    exact⟨xn _ a,c⟩
theorem PZ{seen:List Nat}{s:Nat}:∀{cs:List (Nat×List Nat)} {c:Nat},s<c->AFG (seen++[s]) (AE0 c cs)=AFG seen (AE0 c cs)
 |[],_,_=>rfl
 |x::cs,c,a=>by
  show(bif GD c (seen++[s])then AFG (seen++[s]) (AE0 (c+1) cs)else _::AFG (seen++[s]) (AE0 (c+1) cs))=(bif GD c seen then AFG seen (AE0 (c+1) cs)else _::AFG seen (AE0 (c+1) cs));rw[PZ (cs:=cs) (by omega)];have:GD c (seen++[s])=GD c seen:=by
   rw[zk,GP,GP,yO,yG];exact⟨λb=>b.elim (λa=>a) λb=>by omega,.inl⟩
  rw[this]
theorem TL{seen:List Nat}{i:Nat}:∀{cs:List (Nat×List Nat)} {c:Nat},i<cs.length->c+i∉seen->(AFG (seen++[c+i]) (AE0 c cs)).length+1=(AFG seen (AE0 c cs)).length
 |[],_,b,_=>by cases b
 |x::cs,c,b,d=>by
  show(bif GD c (seen++[c+i])then AFG (seen++[c+i]) (AE0 (c+1) cs)else _::AFG (seen++[c+i]) (AE0 (c+1) cs)).length+1=(bif GD c seen then AFG seen (AE0 (c+1) cs)else _::AFG seen (AE0 (c+1) cs)).length;cases i with
  |zero=>
   simp only[zQ]at d ⊢;have a:GD c seen=IT:=by
    cases e:GD c seen
    ·rfl
    ·exact absurd (GP.1 e) d
   have g:GD c (seen++[c])=IN:=GP.2 (yc _ (yG.2 rfl));rw[a,g,PZ (cs:=cs) (Nat.lt_succ_self c)];rfl
  |succ i=>
   have a:GD c (seen++[c+(i+1)])=GD c seen:=by
    rw[zk,GP,GP,yO,yG];exact⟨λa=>a.elim (λb=>b) λa=>by omega,.inl⟩
   have e:c+(i+1)=c+1+i:=by omega
   rw[e]at d a ⊢;have f:=TL (seen:=seen) (i:=i) (cs:=cs) (c:=c+1) (by simp only[xh]at b;omega) d;rw[a];cases GD c seen with
   |true=>exact f
   |false=>exact congrArg (· +1) f
theorem LW:∀(es:List Ent),AFG [] es=es
 |[]=>rfl
 |x::es=>by
  show x::AFG [] es=_;rw[LW es]
def fB:C:=(G 22 (Hj (J 21))
(G 23 (AU 0 (J 22))
(Bg 23
(AY 1 (G 24 (JS (J 21))
(G 25 (AU 0 (J 24))
(G 26 (AU 1 (J 24))
(G 6 (BN 64 Jc)
(G 5 (Aa 25)
(cDo (AZ 64 (J 6) (J 26))
(B2 (G 28 (Bh (J 0))
(G 29 (AE 0 (J 28))
(G 30 (AM (J 29))
(G 32 (BC 64 (J 6))
(G 33 (CI 64 (J 30) (J 5))
(cDo (Ac .free (AZ 64 (J 33) (J 32)))
Ar))))))))))))))
(CC 0))))
def fK:Walk:=⟨21,22,23,0,[22,23,24,25,26,6,5,27,28,29,30,31,32,33],[]⟩
theorem mN:fW=Jh fK fB:=rfl
theorem uz:fS=BB (AY 0 fW) fE:=rfl
theorem iA:qV=Wb:=rfl
section
variable {F:AEh}{e:Env}{g g1:Hp}{it bd bm bc n k:Nat}{l:List Nat}{T:VT}{arm:Int}{dn:Bool}
theorem VQ{q:Hp}{s el off:Nat}{vs:List xU}{a:VT}(d:q.Wf)(f:q.bl.get bm=.cells T s el)(c:Bs T off vs=BY a)(h:off+vs.length<=s)(e:Bc vs=IN)(b:256<=bm)(g:bm<q.next){K:Hp->R}:DA ⟨bm,off,By⟩ vs q K=K (q.put bm (.cells a s el)):=by
 have i:rowOf q bm=.ok T s el:=by unfold rowOf;rw[f];rfl
 unfold DA;simp only[i,zS];rw[Bm,As.2 h,e];simp only[cond_true,c];rw[Ea d b g]
theorem Ro(j:g1.Wf)(s0:J 0 e=pt bd)(r:J 21 e=pt it)
  (nx:∀e,J 21 e=pt it->Hj (J 21) F e g=.ok (.tuple ⟨[.bool IN,AI AT (k:Int),D0 l]⟩) g1)
  (en:∀e,J 21 e=pt it->JS (J 21) F e g1=.ok (.tuple ⟨[AI AT (k:Int),D0 l]⟩) g1)
  (D:g1.Row bd 0 (dkL bm bc n arm dn))(P:g1.bl.get bm=.cells T (64*n) 0){a:VT}(Y:Bs T (64*k) (l.map bv)=BY a)(hk:k<n)(W:l.length=64)(H:256<=bm)(R:bm<g1.next):
  ∃c d,fB F e g=.norm c d/\J 0 c=pt bd/\J 21 c=pt it/\d.Wf/\d.next=g1.next+1/\d.bl.get bm=.cells a (64*n) 0/\(∀i,i<g1.next->i≠bm->d.bl.get i=g1.bl.get i)/\d.low=min (min g1.low g1.next) bm/\d.high=max (max g1.high g1.next) bm:=by
 have big:=j.big;have y:(l.map bv).length=64:=by rw[xa,W]
 have s:=λ(F:AEh) (e:Env)=>BO (F:=F) (e:=e) j (n:=64) (t:=Jc)
 have h:=Hp.Row.alloc j YI (by rw[xa,yn]);have m:g1.Ext (g1.push (.cells Jc 64 0)):=(Hp.Ext.refl j).push _;have C:(g1.push (.cells Jc 64 0)).next=g1.next+1:=rfl;have A:(g1.push (.cells Jc 64 0)).low=g1.low:=rfl;have w:(g1.push (.cells Jc 64 0)).high=g1.high:=rfl;generalize g1.push (.cells Jc 64 0)=g2 at s h m C A w;have hz:((xx 64 0).map bv).length=64:=by rw[xa,yn]
 have G:AEn 64 (pt g1.next) (D0 l) g2=.ok AEl (g2.wr g1.next 0 (l.map bv)):=h.AEn (n:=64) (off:=0) m.wf big (v:=D0 l) y (by show 0+(l.map bv).length<=_;omega) (DD _);have f:=h.AFC m (xW _) (off:=0) (vs:=l.map bv) (by omega);have o:=h.AEt m.wf (off:=0) (vs:=l.map bv) (by omega);rw[EW (by omega)]at o;have p:(g2.wr g1.next 0 (l.map bv)).next=g1.next+1:=(h.AFP (by omega)).trans C;obtain⟨_,_,u,_⟩:=h.AFt (off:=0) (vs:=l.map bv) (by omega);have B:(g2.wr g1.next 0 (l.map bv)).low=min g1.low g1.next:=by
  rw[u];show CD g2.low g1.next=_;rw[BU,A]
 have x:(g2.wr g1.next 0 (l.map bv)).high=max g1.high g1.next:=by
  rw[u];show C9 g2.high g1.next=_;rw[B8,w]
 generalize g2.wr g1.next 0 (l.map bv)=g3 at G f o p B x;have L:g3.marked.Row bd 0 (dkL bm bc n arm dn):=(D.ext j f).same rfl;obtain⟨Z,_,_,_⟩:=DR L;have M:g3.marked.Row g1.next 0 (l.map bv):=o.same rfl;have ld:loadN 64 ⟨g1.next,0,By⟩ g3.marked=.ok (D0 l) g3.marked:=by
  rw[M.loadN (by omega),yk,ze (by omega)];rfl
 have z:AFV 64 (.slice (BY ⟨bm,0,By⟩) n n) (AI AT (k:Int)) g3.marked=.ok (.pointer (BY ⟨bm,0+k*64,By⟩)) g3.marked:=Cy hk;rw[xZ,zb]at z;have Q:g3.marked.quiet.bl.get bm=.cells T (64*n) 0:=by
  show g3.bl.get bm=_;rw[f.get bm R];exact P
 have sq:AEn 64 (.pointer (BY ⟨bm,64*k,By⟩)) (D0 l) g3.marked.quiet=.ok AEl (g3.marked.quiet.put bm (.cells a (64*n) 0)):=by
  show(bif yA (Dw (l.map bv)) 64 then DA ⟨bm,64*k,By⟩ (l.map bv) g3.marked.quiet EV else .no)=_;rw[Bm,A0.2 y,cond_true,VQ f.wf.marked.quiet Q Y (by omega) (DD _) H (by show bm<g3.next;omega)];rfl
 have q1:∀(F:AEh) (e:Env),J 33 e=.pointer (BY ⟨bm,64*k,By⟩)->J 32 e=D0 l->Ac .free (AZ 64 (J 33) (J 32)) F e g3.marked=.ok AEl (g3.marked.back (g3.marked.quiet.put bm (.cells a (64*n) 0))):=λF e N O=>by
  refine BF ?_;rw[AW,N,O];exact sq
 have E:=f.wf.marked.quiet.AFL (b:=bm) (show bm<g3.next by omega) (.cells a (64*n) 0);have q:=f.wf.marked.quiet.put (b:=bm) (show bm<g3.next by omega) (.cells a (64*n) 0);have K:(g3.marked.back (g3.marked.quiet.put bm (.cells a (64*n) 0))).low=min (min g1.low g1.next) bm:=by
  show CD g3.low (CD g3.next bm)=_;rw[BU,BU,B,p];omega
 have I:(g3.marked.back (g3.marked.quiet.put bm (.cells a (64*n) 0))).high=max (max g1.high g1.next) bm:=by
  show C9 g3.high (C9 0 bm)=_;rw[B8,B8,x];omega
 have X:∃c,fB F e g=.norm c (g3.marked.back (g3.marked.quiet.put bm (.cells a (64*n) 0)))/\J 0 c=pt bd/\J 21 c=pt it:=by
  unfold fB;have a0:=λe S=>nx e S
  simp only[sT,xT,sh,reduceIte,nx e r,Aq,Az,A1,Bx,en,r,s,AW,G,Aw,Ax,s0,Am,AH,AO,AN,AQ,Z,An,Ah,ld,BA,z,q1];exact⟨_,rfl,by simp[AG,s0,r]⟩
 obtain⟨c,r1,r2,r3⟩:=X;refine⟨c,_,r1,r2,r3,⟨q.big,q.has,q.fresh⟩,by show g3.next=_;exact p,?_,λi U V=>?_,K,I⟩
 ·show(g3.marked.quiet.put bm _).bl.get bm=_
  rw[E,If rfl]
 ·show(g3.marked.quiet.put bm _).bl.get i=_
  rw[E,No V];exact f.get i U
end
section
variable {F:AEh}{e:Env}{h g g1:Hp}{it bd bm bc n k c0:Nat}{l seen:List Nat}{T T0:VT}{cs:List (Nat×List Nat)}{arm:Int}{dn:Bool}
structure FlB (h:Hp)(it bd bm bc n c0:Nat)(cs:List (Nat×List Nat))(arm:Int)(dn:Bool)(T0:VT):Prop where
 wf:h.Wf
 nx:h.next=it+1
 itr:h.bl.get it=.iter (BY bc) (c0+cs.length) [] (c0+cs.length)
 disk:h.Row bd 0 (dkL bm bc n arm dn)
 med:h.bl.get bm=.cells T0 (64*n) 0
 has:∀j,j<64*n->T0.has j
 map:h.bl.get bc=.map (AE0 c0 cs) (c0+cs.length)
 lt:bd<it/\bm<it/\bc<it
 ne:bd≠bm/\bc≠bm
 big:256<=bm/\256<=it
 sec:AFz n cs
 key:AGo cs
structure FlI (h:Hp)(it bm bc n c0:Nat)(cs:List (Nat×List Nat))(T0:VT)(seen:List Nat)(g:Hp):Prop where
 wf:g.Wf
 nx:g.next=h.next+seen.length
 lh:(seen=[]/\g.low=h.next/\g.high=0)\/(seen≠[]/\g.low=bm/\g.high+1=h.next+seen.length)
 itr:g.bl.get it=.iter (BY bc) (c0+cs.length) seen (c0+cs.length)
 old:∀i,i<h.next->i≠it->i≠bm->g.bl.get i=h.bl.get i
 med:∃(T:VT) (done:List (Nat×List Nat)),g.bl.get bm=.cells T (64*n) 0/\AFW T0 done T/\∀y,y∈done↔∃i:Nat,cs[i]? =BY y/\c0+i∈seen
 cnt:seen.length+(AFG seen (AE0 c0 cs)).length=cs.length
theorem NZ{s:Nat}:∀l:List Nat,SO (l++[s])=BY s
 |[]=>rfl
 |[x]=>rfl
 |x::a::l=>NZ (a::l)
theorem TA(s:Nat):∀l:List Nat,KE s l=l++[s]
 |[]=>rfl
 |x::l=>congrArg (x:: ·) (TA s l)
theorem N4{h g:Hp}{b el:Nat}{a:List xU}(r:h.Row b el a)(d:g.bl.get b=h.bl.get b):g.Row b el a:=by
 obtain⟨c,e,f⟩:=r;exact⟨c,d.trans e,f⟩
theorem cj{g:Hp}{it:Nat}{v:R}(c:Gz ⟨it,0,By⟩ g=v){e:Env}(b:J 21 e=pt it):Hj (J 21) F e g=v:=by
 show(match EI (J 21 e)with|.ok a=>bif yA a.off 0 then Gz a g else .no|.no=>.no)=_;rw[b];exact c
theorem mM{g:Hp}{it:Nat}{v:R}(c:K8 ⟨it,0,By⟩ g=v){e:Env}(b:J 21 e=pt it):JS (J 21) F e g=v:=by
 show(match EI (J 21 e)with|.ok a=>bif yA a.off 0 then K8 a g else .no|.no=>.no)=_;rw[b];exact c
theorem RU{g:Hp}{it i:Nat}{y:Nat×List Nat}(hi:cs[i]? =BY y){s0:Nat}(c:g.bl.get it=.iter (BY bc) s0 (seen++[c0+i]) (c0+cs.length))(d:g.bl.get bc=.map (AE0 c0 cs) (c0+cs.length)):K8 ⟨it,0,By⟩ g=.ok (.tuple ⟨[AI AT (y.1:Int),D0 y.2]⟩) g:=by
 have b:Ej (g.bl.get it)=.ok (BY bc) s0 (seen++[c0+i]) (c0+cs.length):=by rw[c];rfl
 have a:Bp g bc=.ok (AE0 c0 cs) (c0+cs.length):=by unfold Bp;rw[d];rfl
 unfold K8;simp only[b,NZ];unfold IZ;simp only[a,zU,cond_true,Ia hi]
theorem WO:J 0 (DC e fK.ws)=J 0 e/\J 21 (DC e fK.ws)=J 21 e:=by
 constructor
 ·simp[fK,DC,AG]
 ·simp[fK,DC,AG]
theorem iw(B:FlB h it bd bm bc n c0 cs arm dn T0)(I:FlI h it bm bc n c0 cs T0 seen g)(s0:J 0 e=pt bd)(a7:J 21 e=pt it){x:Ent}(hx:x∈AFG seen (AE0 c0 cs)):
  ∃t,Pi fK fB F e it bc (c0+cs.length) seen g x=BY t/\FlI h it bm bc n c0 cs T0 (seen++[x.born]) t:=by
 obtain⟨a6,z⟩:=N3 hx;obtain⟨b,f,p,rfl⟩:=RW a6;have z:c0+b∉seen:=z;obtain⟨y1,S,y3⟩:=B.sec f (xy p);have a2:b<cs.length:=(yN.1 p).1;obtain⟨T,done,t1,t2,t3⟩:=I.med;have a3:∀s∈done,s.1≠f.1:=λs q o=>by
  obtain⟨a,r,i⟩:=(t3 s).1 q;have:=B.key a b s f r p o;rw[this]at i;exact z i
 obtain⟨V,hs,a5⟩:=t2.step B.has (k:=f.1) (l:=f.2) (by omega) S a3;have a4:=I.nx;have a8:=B.nx;have a9:=B.lt;have M:=B.ne;have U:=B.big;have E:it<g.next:=by omega
 have m:=I.wf.put E (.pick bc (c0+b) (c0+cs.length) (BY seen));have w:=I.wf.AFL E (.pick bc (c0+b) (c0+cs.length) (BY seen));have Y:g.bl.set it (.pick bc (c0+b) (c0+cs.length) (BY seen))=BY (g.bl.lay it (.pick bc (c0+b) (c0+cs.length) (BY seen))):=BT.AFO λa d=>I.wf.has a (by omega)
 have N:(g.put it (.pick bc (c0+b) (c0+cs.length) (BY seen))).low=min g.low it:=BU _ _;have K:(g.put it (.pick bc (c0+b) (c0+cs.length) (BY seen))).high=max g.high it:=B8 _ _;have P:(g.put it (.pick bc (c0+b) (c0+cs.length) (BY seen))).next=g.next:=rfl;have H:(⟨g.next,CD g.low it,C9 g.high it,g.mark,g.bl.lay it (.pick bc (c0+b) (c0+cs.length) (BY seen))⟩:Hp)=g.put it (.pick bc (c0+b) (c0+cs.length) (BY seen)):=rfl;generalize g.put it (.pick bc (c0+b) (c0+cs.length) (BY seen))=g0 at m w N K P H;have Z:g0.bl.set it (.iter (BY bc) (c0+cs.length) (seen++[c0+b]) (c0+cs.length))=BY (g0.bl.lay it (.iter (BY bc) (c0+cs.length) (seen++[c0+b]) (c0+cs.length))):=BT.AFO λa d=>m.has a (by omega)
 have j:∀a,(g0.bl.lay it (.iter (BY bc) (c0+cs.length) (seen++[c0+b]) (c0+cs.length))).get a=if a=it then .iter (BY bc) (c0+cs.length) (seen++[c0+b]) (c0+cs.length)else g0.bl.get a:=BT.AFf λa d=>m.has a (by omega)
 have G:(⟨g0.next,g0.low,g0.high,g0.mark,g0.bl.lay it (.iter (BY bc) (c0+cs.length) (seen++[c0+b]) (c0+cs.length))⟩:Hp).Wf:=⟨m.big,λa d=>BT.AFo (λa d=>m.has a (by omega)) a (.inr (m.has a d)),λa d=>by
  have d:g0.next<=a:=d;show(g0.bl.lay _ _).get a=_;rw[j,No (by omega)];exact m.fresh a d⟩
 have D:g0.bl.get bc=.map (AE0 c0 cs) (c0+cs.length):=by rw[w,No (by omega),I.old bc (by omega) (by omega) M.2];exact B.map
 have Q:Gz ⟨it,0,By⟩ g0=.ok (.tuple ⟨[.bool IN,AI AT (f.1:Int),D0 f.2]⟩) ⟨g0.next,g0.low,g0.high,g0.mark,g0.bl.lay it (.iter (BY bc) (c0+cs.length) (seen++[c0+b]) (c0+cs.length))⟩:=by
  have a1:Ej (g0.bl.get it)=.pick bc (c0+b) (c0+cs.length) (BY seen):=by rw[w,If rfl];rfl
  have o:Bp g0 bc=.ok (AE0 c0 cs) (c0+cs.length):=by unfold Bp;rw[D];rfl
  have hp:Nu bc (c0+b) (c0+cs.length) (BY seen)=.iter (BY bc) (c0+cs.length) (seen++[c0+b]) (c0+cs.length):=by unfold Nu;simp only[TA]
  unfold Gz;simp only[a1,o,Ia p,hp,Z]
 have O:(⟨g0.next,g0.low,g0.high,g0.mark,g0.bl.lay it (.iter (BY bc) (c0+cs.length) (seen++[c0+b]) (c0+cs.length))⟩:Hp).low=min g.low it:=N;have L:(⟨g0.next,g0.low,g0.high,g0.mark,g0.bl.lay it (.iter (BY bc) (c0+cs.length) (seen++[c0+b]) (c0+cs.length))⟩:Hp).high=max g.high it:=K;have A:(⟨g0.next,g0.low,g0.high,g0.mark,g0.bl.lay it (.iter (BY bc) (c0+cs.length) (seen++[c0+b]) (c0+cs.length))⟩:Hp).next=g.next:=P;have j:∀a,(⟨g0.next,g0.low,g0.high,g0.mark,g0.bl.lay it (.iter (BY bc) (c0+cs.length) (seen++[c0+b]) (c0+cs.length))⟩:Hp).bl.get a=if a=it then .iter (BY bc) (c0+cs.length) (seen++[c0+b]) (c0+cs.length)else g0.bl.get a:=j
 generalize (⟨g0.next,g0.low,g0.high,g0.mark,g0.bl.lay it (.iter (BY bc) (c0+cs.length) (seen++[c0+b]) (c0+cs.length))⟩:Hp)=g2 at G Q O L A j;have C:∀a,a≠it->g2.bl.get a=g.bl.get a:=λa d=>by rw[j,No d,w,No d]
 have a0:=RU (g:=g2) p (j it |>.trans (If rfl)) (by rw[j,No (by omega)];exact D);obtain⟨W,X⟩:=WO (e:=e);obtain⟨e',g',r1,r2,r3,r4,r5,r6,R,r8,r9⟩:=Ro (F:=F) (e:=DC e fK.ws) (g:=g0) (g1:=g2) (it:=it) (bd:=bd) (bm:=bm) (bc:=bc) (n:=n) (k:=f.1) (l:=f.2) (T:=T) (arm:=arm) (dn:=dn) G (W.trans s0) (X.trans a7)
  (λe o=>cj Q o) (λe o=>mM a0 o) (N4 B.disk (by rw[C bd (by omega),I.old bd (by omega) (by omega) M.1])) (by rw[C bm (by omega)];exact t1) hs y1 S U.1 (by omega)
 refine⟨g',?_,⟨r4,?_,.inr ⟨by simp,?_,?_⟩,?_,λa t u y=>?_,⟨V,done++[(f.1,f.2)],r6,a5,λs=>?_⟩,?_⟩⟩
 ·unfold Pi
  show(match g.bl.set it (.pick bc (c0+b) (c0+cs.length) (BY seen))with|some bl=>(match fB F (DC e fK.ws) {next:=g.next,low:=CD g.low it,high:=C9 g.high it,mark:=g.mark,bl:=bl}with|.norm _ t=>BY t|_=>By)|none=>By)=_;rw[Y];simp only[H,r1]
 ·rw[r5,A,a4,xY];rfl
 ·rw[r8,O,A]
  rcases I.lh with ⟨_,u,_⟩|⟨_,u,_⟩<;>omega
 ·rw[r9,L,A,xY]
  show _=h.next+(seen.length+1);rcases I.lh with ⟨_,_,y⟩|⟨_,_,y⟩<;>omega
 ·rw[R it (by omega) (by omega),j,If rfl]
 ·rw[R a (by omega) y,C a u];exact I.old a t u y
 ·constructor
  ·intro q
   rcases yO.1 q with q|q
   ·obtain⟨a,r,i⟩:=(t3 s).1 q
    exact⟨a,r,yh _ i⟩
   ·obtain rfl:=yG.1 q
    exact⟨b,p,yc _ (yG.2 rfl)⟩
  ·rintro⟨a,r,i⟩
   rcases yO.1 i with i|i
   ·exact yh _ ((t3 s).2 ⟨a,r,i⟩)
   ·have:c0+a=c0+b:=yG.1 i
    have:a=b:=by omega
    rw[this,p]at r;cases r;exact yc _ (yG.2 rfl)
 ·have:=TL (seen:=seen) (cs:=cs) (c:=c0) a2 z
  have u:=I.cnt;show(seen++[c0+b]).length+(AFG (seen++[c0+b]) (AE0 c0 cs)).length=_;rw[xY,yd];omega
def FlR(h:Hp)(it bm n:Nat)(cs:List (Nat×List Nat))(b:VT)(r:Hp):Prop:=r.next=h.next+cs.length/\r.low=bm/\r.high+1=h.next+cs.length/\∀a,r.bl.get a=if a=it\/h.next<=a then .dead else if a=bm then .cells b (64*n) 0 else h.bl.get a
theorem Wv{r:Hp}{q:VT}(B:FlB h it bd bm bc n c0 cs arm dn T0)(w:AFW T0 cs q)(t:FlR h it bm n cs q r)(h0:cs≠[])(s0:J 0 e=pt bd)(x:J 21 e=pt it):∀(m:Nat) (seen:List Nat) (g:Hp) (tr:Rds),FlI h it bm bc n c0 cs T0 seen g->(AFG seen (AE0 c0 cs)).length<m->Lj fK fB F e it (Yc it h.next r) m g tr=IN
 |0,_,_,_,_,o=>absurd o (Nat.not_lt_zero _)
 |m+1,seen,g,tr,a,o=>by
  have D:Ej (g.bl.get it)=.ok (BY bc) (c0+cs.length) seen (c0+cs.length):=by rw[a.itr];rfl
  have Q:=B.lt;have O:=B.nx;have H:=a.nx;have E:g.bl.get bc=.map (AE0 c0 cs) (c0+cs.length):=by rw[a.old bc (by omega) (by omega) B.ne.2];exact B.map
  have C:Bp g bc=.ok (AE0 c0 cs) (c0+cs.length):=by unfold Bp;rw[E];rfl
  unfold Lj PB;simp only[D,C,zU,cond_true,Lu (yH c0) (xW (c0+cs.length))];cases j:AFG seen (AE0 c0 cs)with
  |nil=>
   simp only;have f:=a.cnt;rw[j]at f;have f:seen.length=cs.length:=f;have P:0<cs.length:=by
    cases cs with
    |nil=>exact absurd rfl h0
    |cons _ _=>exact ABE _
   obtain⟨T,done,t1,t2,t3⟩:=a.med;have A:T=q:=t2.uniq w λp=>by
    rw[t3 p];constructor
    ·rintro⟨b,k,_⟩;exact xy k
    ·intro I
     obtain⟨b,k⟩:=AAP.1 I;refine⟨b,k,?_⟩;apply AEe;intro G;have i:(⟨AI AT (p.1:Int),D0 p.2,c0+b⟩:Ent)∈AE0 c0 cs:=(LA (Ia k)).1;have:=N1 i G;rw[j]at this;cases this
   obtain⟨K,L,R,M⟩:=t;rcases a.lh with ⟨i,_,_⟩|⟨_,z,N⟩
   ·rw[i]at f
    have:0=cs.length:=f;omega
   refine QD.2 ⟨by rw[H,K,f],by rw[L,BU,z];omega,by rw[B8];omega,λb=>?_⟩;rw[M];by_cases d:b=it\/h.next<=b
   ·rw[If d,If d]
   ·rw[No d,No d]
    by_cases c:b=bm
    ·rw[If c,c,t1,A]
    ·rw[No c,a.old b (by omega) (by omega) c]
  |cons p l=>
   simp only;rw[j]at o;refine Q8 λS u=>?_
   rw[<- j]at u;obtain⟨i,y,s⟩:=iw (F:=F) (e:=e) B a s0 x u;rw[y];refine Wv B w t h0 s0 x m _ i _ s ?_;have d:=s.cnt;have c:=a.cnt;rw[j]at c;rw[xY,yd]at d;simp only[xh]at c o;omega
end
section
variable {F:AEh}{e:Env}{h g g1:Hp}{it bd bm bc n k c0:Nat}{l seen:List Nat}{T T0:VT}{M:List Nat}{cs:List (Nat×List Nat)}{arm:Int}{dn:Bool}
def Lt:Nat->Hp->Hp
 |0,h=>h
 |k+1,h=>Lt k (h.push .dead)
theorem S9:∀(k:Nat) {h:Hp} (a:h.Wf),(Lt k h).Wf/\(Lt k h).next=h.next+k/\∀i,(Lt k h).bl.get i=h.bl.get i
 |0,h,a=>⟨a,rfl,λ_=>rfl⟩
 |k+1,h,a=>by
  obtain⟨c,d,e⟩:=S9 k (a.push .dead);refine⟨c,?_,λi=>?_⟩
  ·show(Lt k (h.push .dead)).next=_
   rw[d];show h.next+1+k=_;omega
  ·show(Lt k (h.push .dead)).bl.get i=_
   rw[e,a.AE8];by_cases b:i=h.next
   ·rw[If b,a.fresh i (by omega)]
   ·rw[No b]
theorem re(B:FlB h it bd bm bc n c0 cs arm dn T0)(h0:cs≠[])(a:VT):∃r,FlR h it bm n cs a r/\∀i,i<r.next->r.bl.has i:=by
 have o:=B.nx;have q:=B.lt;have d:=B.wf.put (b:=it) (by omega) .dead;have f:=B.wf.AFL (b:=it) (by omega) .dead;have j:=d.put (b:=bm) (show bm<h.next by omega) (.cells a (64*n) 0);have g:=d.AFL (b:=bm) (show bm<h.next by omega) (.cells a (64*n) 0);obtain⟨k,b,l⟩:=S9 cs.length j;have p:0<cs.length:=by
  cases cs with
  |nil=>exact absurd rfl h0
  |cons _ _=>exact ABE _
 refine⟨⟨h.next+cs.length,bm,h.next+cs.length - 1,0,(Lt cs.length ((h.put it .dead).put bm (.cells a (64*n) 0))).bl⟩,⟨rfl,rfl,by show h.next+cs.length - 1+1=_;omega,λi=>?_⟩,λi m=>k.has i (by rw[b];exact m)⟩;show(Lt cs.length ((h.put it .dead).put bm (.cells a (64*n) 0))).bl.get i=_;rw[l,g,f];by_cases c:i=it
 ·rw[No (by omega),If c,If (.inl c)]
 ·by_cases e:h.next<=i
  ·rw[No (by omega),No c,If (.inr e)]
   exact B.wf.fresh i e
  ·rw[No (by omega:¬(i=it\/h.next<=i)),No c]
theorem iu(B:FlB h it bd bm bc n c0 cs arm dn T0){y z:Nat×List Nat}{q:List (Nat×List Nat)}(m:cs=y::z::q)(O:cs.length<=60)(s0:J 0 e=pt bd)(r:J 21 e=pt it):
  ∃f h',fW F e h=.exit 0 f h'/\J 0 f=pt bd/\h'.Wf/\h.next<=h'.next/\(∀i,i<h.next->i≠it->i≠bm->h'.bl.get i=h.bl.get i)/\∃T,h'.bl.get bm=.cells T (64*n) 0/\AFW T0 cs T/\∀b,b<=h.low->b<=it->b<=bm->b<=h'.low:=by
 have P:=B.nx;have Q:=B.lt;have s:=B.big;have g:cs≠[]:=by rw[m];exact λh=>by cases h
 obtain⟨c,a⟩:=AFW.all B.has cs [] T0 (.nil T0) B.sec B.key λy _ z a=>by cases a
 have a:AFW T0 cs c:=a;obtain⟨N,l,t⟩:=re B g c;have A:(⟨h.next,h.next,0,h.mark,h.bl⟩:Hp).Wf:=⟨B.wf.big,B.wf.has,B.wf.fresh⟩;have w:FlI h it bm bc n c0 cs T0 [] ⟨h.next,h.next,0,h.mark,h.bl⟩:=⟨A,rfl,.inl ⟨rfl,rfl,rfl⟩,B.itr,λ_ _ _ _=>rfl,⟨T0,[],B.med,.nil T0,λy=>⟨λh=>(by cases h),λ⟨_,_,h⟩=>by cases h⟩⟩,by rw[LW,NE];exact xZ _⟩;have x:Pr fK fB F e h it N:=⟨t,Wv B a l g s0 r 64 [] _ [] w (by rw[LW,NE];omega)⟩;obtain⟨R,S,U,p⟩:=l;obtain⟨h',C,D,E,d,_,G⟩:=UK B.wf x (by omega);have M:Ej (h.bl.get it)=.ok (BY bc) (c0+cs.length) [] (c0+cs.length):=by rw[B.itr];rfl
 have o:Bp h bc=.ok (AE0 c0 cs) (c0+cs.length):=by unfold Bp;rw[B.map];rfl
 refine⟨Env.set 23 (.bool IT) (DC e fK.ws),h',?_,?_,D,by rw[E];omega,λi j L k=>?_,c,?_,a,λb j _ k=>by rw[G];omega⟩
 ·rw[mN]
  unfold Jh;have u:J fK.it e=.pointer (BY ⟨it,0,By⟩):=r;have K:AE0 c0 cs=⟨AI AT (y.1:Int),D0 y.2,c0⟩::⟨AI AT (z.1:Int),D0 z.2,c0+1⟩::AE0 (c0+1+1) q:=by rw[m];rfl
  rw[K]at o;have H:yI 256 it=IN:=As.2 s.2;simp only[u,M,o,zU,cond_true,H];exact C
 ·obtain⟨I,_⟩:=WO (e:=e)
  rw[AG (by decide) (by decide),No (by decide),I];exact s0
 ·rw[d i j L,p,No (by omega),No k]
 ·rw[d bm (by omega) (by omega),p,No (by omega),If rfl]
theorem rc(B:FlB h it bd bm bc n c0 cs arm dn T0){y:Nat×List Nat}(r:cs=[y])(s0:J 0 e=pt bd)(K:J 21 e=pt it):
  ∃f h',fW F e h=.exit 0 f h'/\J 0 f=pt bd/\h'.Wf/\h.next<=h'.next/\(∀i,i<h.next->i≠it->i≠bm->h'.bl.get i=h.bl.get i)/\∃T,h'.bl.get bm=.cells T (64*n) 0/\AFW T0 cs T/\∀j,j<=h.low->j<=it->j<=bm->j<=h'.low:=by
 have a3:=B.nx;have a5:=B.lt;have x:=B.big;have s:Ej (h.bl.get it)=.ok (BY bc) (c0+cs.length) [] (c0+cs.length):=by rw[B.itr];rfl
 have d:Bp h bc=.ok (AE0 c0 cs) (c0+cs.length):=by unfold Bp;rw[B.map];rfl
 have E:cs[0]? =BY y:=by rw[r];rfl
 obtain⟨y1,L,y3⟩:=B.sec y (xy E);obtain⟨N,X,Y⟩:=(AFW.nil T0).step B.has (k:=y.1) (l:=y.2) (by omega) L λa6 hz=>by cases hz
 have u:AE0 c0 cs=[⟨AI AT (y.1:Int),D0 y.2,c0⟩]:=by rw[r];rfl
 have a4:cs.length=1:=by rw[r];rfl
 have w:Lp (c0+cs.length) [] [⟨AI AT (y.1:Int),D0 y.2,c0⟩]=BY [⟨AI AT (y.1:Int),D0 y.2,c0⟩]:=by
  show(bif Nat.blt c0 (c0+cs.length)then BY [_]else By)=_;rw[BV.2 (by omega)];rfl
 have A:=B.wf.put (b:=it) (by omega) (.iter (BY bc) (c0+cs.length) [c0] (c0+cs.length));have q:=B.wf.AFL (b:=it) (by omega) (.iter (BY bc) (c0+cs.length) [c0] (c0+cs.length));have G:Gz ⟨it,0,By⟩ h=.ok (.tuple ⟨[.bool IN,AI AT (y.1:Int),D0 y.2]⟩) (h.put it (.iter (BY bc) (c0+cs.length) [c0] (c0+cs.length))):=by
  unfold Gz;simp only[s,d,u,w,cond_false];have:KE c0 []=[c0]:=rfl;rw[this,Ea B.wf x.2 (by omega)]
 have n2:(h.put it (.iter (BY bc) (c0+cs.length) [c0] (c0+cs.length))).next=h.next:=rfl;have a0:(h.put it (.iter (BY bc) (c0+cs.length) [c0] (c0+cs.length))).low=min h.low it:=BU _ _;generalize h.put it (.iter (BY bc) (c0+cs.length) [c0] (c0+cs.length))=g2 at A q G n2 a0;have p:∀a,a≠it->g2.bl.get a=h.bl.get a:=λa W=>by rw[q,No W]
 have R:=RU (g:=g2) (seen:=[]) (c0:=c0) (i:=0) E (by rw[q,If rfl];rfl) (by rw[p bc (by omega)];exact B.map);obtain⟨f,c,r1,r2,r3,r4,r5,r6,H,r8,r9⟩:=Ro (F:=F) (e:=e) (g:=h) (g1:=g2) (it:=it) (bd:=bd) (bm:=bm) (bc:=bc) (n:=n) (k:=y.1) (l:=y.2) (T:=T0) (arm:=arm) (dn:=dn) A s0 K
  (λe d=>cj G d) (λe d=>mM R d) (N4 B.disk (p bd (by omega))) ((p bm (by omega)).trans B.med) X y1 L x.1 (by omega)
 have z:∀a,a<h.next->a≠it->a≠bm->c.bl.get a=h.bl.get a:=λa o C D=>by rw[H a (by omega) D,p a C]
 have a1:Gz ⟨it,0,By⟩ c=.ok (.tuple ⟨[.bool IT]⟩) c:=by
  have s:Ej (c.bl.get it)=.ok (BY bc) (c0+cs.length) [c0] (c0+cs.length):=by rw[H it (by omega) (by omega),q,If rfl];rfl
  have d:Bp c bc=.ok (AE0 c0 cs) (c0+cs.length):=by
   unfold Bp;rw[z bc (by omega) (by omega) B.ne.2,B.map];rfl
  have w:Lp (c0+cs.length) [c0] [⟨AI AT (y.1:Int),D0 y.2,c0⟩]=BY []:=by
   show(bif (bif yA c0 c0 then IN else IT)then BY []else _)=_;rw[zU];rfl
  have Z:Fo (c0+cs.length) [⟨AI AT (y.1:Int),D0 y.2,c0⟩]=IT:=by
   show(bif yI (c0+cs.length) c0 then IN else IT)=IT;have:yI (c0+cs.length) c0=IT:=by
    cases U:yI (c0+cs.length) c0
    ·rfl
    ·have:=As.1 U;omega
   rw[this];rfl
  unfold Gz;simp only[s,d,u,w,Z,cond_false];rfl
 have V:∃m,fB F f c=.exit 0 m c/\J 0 m=pt bd:=by
  have nn:=cj (F:=F) a1 r3;unfold fB;simp only[sT,xT,sh,reduceIte,nn,Aq,Az];exact⟨_,rfl,by simp[AG,r2]⟩
 obtain⟨m,O,P⟩:=V;refine⟨m,c,?_,P,r4,by omega,z,N,r6,by rw[r];exact Y,λj o C D=>by rw[r8];omega⟩;rw[mN];unfold Jh;have M:J fK.it e=.pointer (BY ⟨it,0,By⟩):=K;rw[u]at d;simp only[M,s,d];refine Bd (I:=λi t o=>(i=0/\t=e/\o=h)\/(i=1/\t=f/\o=c)) (Q:=λa2=>a2=.exit 0 m c) 1 (by omega) (λi t o S=>?_) (.inl ⟨rfl,rfl,rfl⟩);rcases S with ⟨rfl,rfl,rfl⟩|⟨rfl,rfl,rfl⟩
 ·exact .inl ⟨by omega,f,c,r1,.inr ⟨rfl,rfl,rfl⟩⟩
 ·right
  rw[O];exact⟨rfl,rfl⟩
theorem bZ{m:Nat}(Q:h.Wf)(d:Dk h bd bm bc n M c0 cs arm IT){k:Nat}(V:CL arm (k+1))(N:AGo cs)(r:AFz n cs)(h0:cs≠[])(U:cs.length<=60):
  ∃h',call AC (m+3) 121 [pt bd] h=.ok (AI AT 0) h'/\Fx (λb=>b=bd\/b=bm\/b=bc) h h'/\Dk h' bd bm bc n (GO M cs) (c0+cs.length) [] (Ga arm) IT:=by
 have y:=OI (m:=m) d (i:=0) (by have:=d.n1;omega);have y:call AC (m+2) 130 [pt bd,AI AT 0] h=.ok (AI AT 0) h:=y;obtain⟨a,k2,c,s⟩:=Xe (m:=m+1) Q d V;have R:iNe 0 0=IT:=B0 rfl;obtain⟨_,l1,_,_⟩:=DR s.disk;have Z:=s.lt c.wf;have P:∀(F:AEh) (e:Env),J 20 e=.map (BY bc)->LV (J 20) F e a=.ok (pt a.next) (a.push (.iter (BY bc) (c0+cs.length) [] (c0+cs.length))):=λF e u=>by
  have w:Bp a bc=.ok (AE0 c0 cs) (c0+cs.length):=by unfold Bp;rw[s.map];rfl
  unfold LV;rw[u];simp only[w];rw[C7 c.wf];rfl
 have E:=c.wf.push (.iter (BY bc) (c0+cs.length) [] (c0+cs.length));have D:=c.wf.AE8 (.iter (BY bc) (c0+cs.length) [] (c0+cs.length));have t:a.Ext (a.push (.iter (BY bc) (c0+cs.length) [] (c0+cs.length))):=(Hp.Ext.refl c.wf).push _;have O:(a.push (.iter (BY bc) (c0+cs.length) [] (c0+cs.length))).next=a.next+1:=rfl;generalize a.push (.iter (BY bc) (c0+cs.length) [] (c0+cs.length))=p at P E D t O;have o:=s.ext c.wf t;obtain⟨T0,t1,t2⟩:=o.med;rw[xa,o.len]at t1;have C:FlB p a.next bd bm bc n c0 cs (Ga arm) IT T0:=⟨E,O,by rw[D,If rfl],o.disk,t1,λa0 Y=>(t2 a0 (by rw[xa,o.len];exact Y)).1,o.map,Z,⟨d.bdm,λh=>d.bmc h.symm⟩,⟨d.big.2.1,c.wf.big⟩,r,N⟩;have uP:∀(F:AEh) (e:Env),J 0 e=pt bd->J 21 e=pt a.next->∃K h',fW F e p=.exit 0 K h'/\J 0 K=pt bd/\h'.Wf/\p.next<=h'.next/\(∀i,i<p.next->i≠a.next->i≠bm->h'.bl.get i=p.bl.get i)/\∃T,h'.bl.get bm=.cells T (64 * n) 0/\AFW T0 cs T/\∀j,j<=p.low->j<=a.next->j<=bm->j<=h'.low:=λF e g L=>by
  cases cs with
  |nil=>exact absurd rfl h0
  |cons a3 l=>
   cases l with
   |nil=>exact rc C rfl g L
   |cons a4 l=>exact iu C rfl U g L
 have a2:∃g,Wb (call AC (m+2)) (Au e0 0 [pt bd]) h=fS (call AC (m+2)) g p/\J 0 g=pt bd/\J 21 g=pt a.next:=by
  unfold Wb;simp only[iN,xV,sT,xT,sh,reduceIte,cA0,y,k2,AK,AJ,R,Ax,Am,AH,AO,AN,AQ,xZ,l1,P];exact⟨_,rfl,by simp[AG]⟩
 obtain⟨g,p1,p2,p3⟩:=a2;obtain⟨e3,f,w1,w2,A,w4,B,T,w6,w7,w8⟩:=uP (call AC (m+2)) g p2 p3;have I:f.Row bd 0 (dkL bm bc n (Ga arm) IT):=N4 o.disk (B bd (by omega) (by omega) d.bdm);have m3:f.bl.get bc=.map (AE0 c0 cs) (c0+cs.length):=by rw[B bc (by omega) (by omega) (λh=>d.bmc h.symm)];exact o.map
 have r3:f.Row bm 0 ((GO M cs).map bv):=⟨T,by rw[w6,xa,Gx d.len r],w7.is t2 d.len r N⟩;obtain⟨_,l3,_,_⟩:=DR I;have H:∀(F:AEh) (e:Env),J 37 e=.map (BY bc)->Fj (J 37) F e f=.ok AEl (f.put bc (.map [] (c0+cs.length))):=λF e u=>by
  have w:Bp f bc=.ok (AE0 c0 cs) (c0+cs.length):=by unfold Bp;rw[m3];rfl
  unfold Fj;rw[u];simp only[w];rw[Ea A d.big.2.2 (by omega)];rfl
 have G:=A.put (b:=bc) (by omega) (.map [] (c0+cs.length));have q:=A.AFL (b:=bc) (by omega) (.map [] (c0+cs.length));have n4:(f.put bc (.map [] (c0+cs.length))).next=f.next:=rfl;have a1:(f.put bc (.map [] (c0+cs.length))).low=min f.low bc:=BU _ _;generalize f.put bc (.map [] (c0+cs.length))=S at H G q n4 a1;refine⟨S,?_,⟨by have:=c.next;omega,λi X x=>?_,G,λj q1 q2 z=>by
  have z1:=c.low j q1 q2 λb W=>z b (.inl W)
  have z2:=c.next;have z3:=t.low;have z4:=w8 j (by omega) (by omega) (z bm (.inr (.inl rfl)));have z5:=z bc (.inr (.inr rfl));omega⟩,⟨N4 I (by rw[q,No d.bdc]),N4 r3 (by rw[q,No d.bmc]),Gx d.len r,SN d.byt r,by rw[q,If rfl];rfl,d.big,d.n1⟩⟩
 ·rw[gT rfl,iA,p1,uz]
  simp only[A7,Ap,w1,A5,Ay];unfold fE;simp only[sT,xT,sh,reduceIte,Ax,w2,Am,AH,AO,AN,AQ,xZ,l3,H,lV0]
 ·have hn:=c.next
  rw[q,No (λe=>x (.inr (.inr e))),B i (by omega) (by omega) (λe=>x (.inr (.inl e))),t.get i (by omega),c.get i X (λe=>x (.inl e))]
end
structure Kt where
 a:Int
 b:Int
 c:Int
 s:Nat
 l:List Nat
 p:Nat
 u:xU
def Aj(k:Kt):List xU:=[AI AT k.a,AI AT k.b,AI AT k.c,.int .u8 (k.s:Int),k.u,AI AT (k.p:Int)]
def ktV(k:Kt):xU:=.agg ⟨Aj k⟩
def flK(ks:List Kt):List xU:=ks.flatMap Aj
theorem Cu:∀ks:List Kt,(flK ks).length=6*ks.length
 |[]=>rfl
 |k::ks=>by
  show(Aj k++flK ks).length=_;rw[xY,Cu ks,xh];show 6+_=_;omega
theorem MM(a b:List Kt):flK (a++b)=flK a++flK b:=List.flatMap_append
theorem Wt:∀(ks:List Kt) (i:Nat) (k:Kt),ks[i]? =BY k->((flK ks).drop (6*i)).take 6=Aj k
 |[],i,k,a=>by cases a
 |x::ks,0,k,a=>by
  have a:BY x=BY k:=a;cases a;show((Aj x++flK ks).drop 0).take 6=_;rw[yk];exact List.take_left' rfl
 |x::ks,i+1,k,a=>by
  rw[zD]at a;show((Aj x++flK ks).drop (6*(i+1))).take 6=_;have:6*(i+1)=(Aj x).length+6*i:=by show _=6+_;omega
  rw[this,AAQ];exact Wt ks i k a
def Hp.KS(h:Hp)(S:Nat->Prop)(v:xU)(ks:List Kt):Prop:=(v=.slice By 0 0/\ks=[])\/∃b d c a,v=.slice (BY ⟨b,0,By⟩) ks.length d/\ks.length<=d/\h.Row b c a/\6*ks.length<=a.length/\a.take (6*ks.length)=flK ks/\(c=125\/c=0)/\S b
section
variable {h h':Hp}{S S':Nat->Prop}{v:xU}{ks:List Kt}
theorem Hp.KS.keep(o:h.KS S v ks)(hk:∀b el a,S b->h.Row b el a->h'.Row b el a):h'.KS S v ks:=by
 rcases o with c|⟨b,e,el,a,c,f,g,i,j,k,d⟩
 ·exact .inl c
 ·exact .inr ⟨b,e,el,a,c,f,hk _ _ _ d g,i,j,k,d⟩
theorem Hp.KS.ext(o:h.KS S v ks)(a:h.Wf)(x:h.Ext h'):h'.KS S v ks:=o.keep λ_ _ _ _ b=>b.ext a x
theorem Hp.KS.mono(o:h.KS S v ks)(m:∀b,S b->S' b):h.KS S' v ks:=by
 rcases o with a|⟨b,d,e,c,a,f,g,i,j,k,l⟩
 ·exact .inl a
 ·exact .inr ⟨b,d,e,c,a,f,g,i,j,k,m _ l⟩
theorem Hp.KS.len(o:h.KS S v ks)(g:Hp):AFB v g=.ok (AI AT (ks.length:Int)) g:=by
 rcases o with ⟨rfl,rfl⟩|⟨b,c,d,a,rfl,_⟩<;>rfl
theorem Hp.KS.at(o:h.KS S v ks){i:Nat}{k:Kt}(hi:ks[i]? =BY k):∃b,S b/\AFV 6 v (AI AT (i:Int)) h=.ok (.pointer (BY ⟨b,6*i,By⟩)) h/\loadN 6 ⟨b,6*i,By⟩ h=.ok (ktV k) h/\∀j w,(Aj k)[j]? =BY w->AEi ⟨b,6*i+j,By⟩ h=.ok w h:=by
 have hil:=(yN.1 hi).1;rcases o with ⟨rfl,rfl⟩|⟨b,c,el,L,rfl,h2,h3,h4,h5,h6,h7⟩
 ·cases hi
 ·have hc:(L.drop (6*i)).take 6=Aj k:=by
   have:=Wt ks i k hi;rw[<- h5,List.drop_take,ACV,AAb (by omega)]at this;exact this
  refine⟨b,h7,?_,?_,λj w hj=>?_⟩
  ·have:=Cy (h:=h) (n:=ks.length) (c:=c) (es:=6) (b:=b) (off:=0) (i:=i) (k:=.i64) hil
   rwa [xZ,zb]at this
  ·rw[h3.loadN (by omega),hc];rfl
  ·have hj6:j<6:=(yN.1 hj).1
   rw[<- hc,zy,If hj6,ABJ]at hj;rw[h3.AEi (by omega),xe,hj];rfl
theorem Hp.KS.one(o:h.KS S v ks):cellsOf v=[v]/\oneCell v=IN/\known v=IN:=by
 rcases o with ⟨rfl,_⟩|⟨b,c,d,a,rfl,_⟩<;>exact⟨rfl,rfl,rfl⟩
end
def Hp.KW(h:Hp)(S:Nat->Prop)(v:xU)(ks:List Kt):Prop:=(v=.slice By 0 0/\ks=[])\/∃a,v=.slice (BY ⟨a,0,By⟩) ks.length ks.length/\h.Row a 125 (flK ks)/\S a
theorem Hp.KW.ks{h:Hp}{S:Nat->Prop}{v:xU}{ks:List Kt}(o:h.KW S v ks):h.KS S v ks:=by
 rcases o with a|⟨b,a,c,d⟩
 ·exact .inl a
 ·exact .inr ⟨b,_,_,_,a,xW _,c,by rw[Cu];omega,by rw[<- Cu,yz],.inl rfl,d⟩
theorem Hp.KS.ks{h:Hp}{S:Nat->Prop}{v:xU}{ks:List Kt}(o:h.KS S v ks):h.KS S v ks:=o
def Hp.WI(h:Hp)(S:Nat->Prop)(v:xU)(xs:List xU):Prop:=(v=.slice By 0 0/\xs=[])\/∃a b,v=.slice (BY ⟨a,0,By⟩) xs.length xs.length/\h.Row a b xs/\(b=4\/b=0)/\S a
theorem Hp.WI.keep{h h':Hp}{S:Nat->Prop}{v:xU}{xs:List xU}(o:h.WI S v xs)(hk:∀b el c,S b->h.Row b el c->h'.Row b el c):h'.WI S v xs:=by
 rcases o with a|⟨b,el,a,e,f,d⟩
 ·exact .inl a
 ·exact .inr ⟨b,el,a,hk _ _ _ d e,f,d⟩
theorem Hp.WI.vals{h:Hp}{S:Nat->Prop}{v:xU}{xs:List xU}(o:h.WI S v xs):h.AE7 v xs:=by
 rcases o with a|⟨b,c,a,d,e,f⟩
 ·exact .inl a
 ·exact .inr ⟨b,0,_,c,xs,a,d,by omega,by rw[yk,yz]⟩
def AHW(h:Hp)(S:Nat->Prop)(k:Kt):Prop:=h.BS S k.u (k.l.map bv)/\(∀a∈k.l,a<256)/\k.l.length<=100/\(k.s=1\/k.s=2)/\AEz k.a k.b k.c k.s k.l.length=IN/\k.p<65536
def slL(bd e:Nat)(c b:xU)(a:Nat)(d:Bool):List xU:=[pt bd,pt e,AI AT 100,c,b,AI AT (a:Int),.bool d]
structure At where
 bs:Nat
 bd:Nat
 bm:Nat
 bc:Nat
 tb:Nat
 n:Nat
abbrev At.D(A:At):Nat->Prop:=λa=>a=A.bs\/a=A.bd\/a=A.bm\/a=A.bc
structure Sl (h:Hp)(A:At)(T M:List Nat)(c0:Nat)(arm:Int)(ks:List Kt)(fr:List Nat)(lv fv:xU)(bad:Nat)(ov:Bool):Prop where
 row:h.Row A.bs 0 (slL A.bd A.tb lv fv bad ov)
 dk:Dk h A.bd A.bm A.bc A.n M c0 [] arm IT
 tab:h.Row A.tb 0 (T.map wv)
 tok:AFQ T
 ls:h.KS (λb=>¬A.D b) lv ks
 ko:∀k∈ks,AHW h (λb=>¬A.D b) k
 fs:h.WI (λb=>¬A.D b) fv (ints .i64 (fr.map zZ))
 ne:A.bs≠A.bd/\A.bs≠A.bm/\A.bs≠A.bc/\¬A.D A.tb/\256<=A.bs
 le:ks.length<=1000/\fr.length<=1000/\bad<=1000/\∀p∈fr,3*p+3<=A.n
section
variable {F:AEh}{e:Env}{h h':Hp}{A:At}{T M:List Nat}{c0 bad m:Nat}{arm:Int}{ks:List Kt}{fr:List Nat}{lv fv:xU}{ov:Bool}
theorem Sl.keep(s:Sl h A T M c0 arm ks fr lv fv bad ov)(a:∀b el d,h.Row b el d->h'.Row b el d)(g:h'.bl.get A.bc=h.bl.get A.bc):Sl h' A T M c0 arm ks fr lv fv bad ov:=
 ⟨a _ _ _ s.row,⟨a _ _ _ s.dk.disk,a _ _ _ s.dk.med,s.dk.len,s.dk.byt,g.trans s.dk.map,s.dk.big,s.dk.n1⟩,a _ _ _ s.tab,s.tok,s.ls.keep λ_ _ _ _ c=>a _ _ _ c,λf e=>⟨(s.ko f e).1.keep λ_ _ _ _ _ c=>a _ _ _ c,(s.ko f e).2⟩,s.fs.keep λ_ _ _ _ c=>a _ _ _ c,s.ne,s.le⟩
theorem Sl.ext(s:Sl h A T M c0 arm ks fr lv fv bad ov)(a:h.Wf)(x:h.Ext h'):Sl h' A T M c0 arm ks fr lv fv bad ov:=s.keep (λ_ _ _ b=>b.ext a x) (x.get _ (s.dk.lt a).2.2)
theorem Sl.same(s:Sl h A T M c0 arm ks fr lv fv bad ov)(a:h'.bl=h.bl):Sl h' A T M c0 arm ks fr lv fv bad ov:=s.keep (λ_ _ _ b=>b.same a) (by rw[a])
theorem BK{bs bd a:Nat}(R:h.Row bs 0 (slL bd a lv fv bad ov)):AEi ⟨bs,0,By⟩ h=.ok (pt bd) h/\AEi ⟨bs,1,By⟩ h=.ok (pt a) h/\AEi ⟨bs,2,By⟩ h=.ok (AI AT 100) h/\AEi ⟨bs,3,By⟩ h=.ok lv h/\AEi ⟨bs,4,By⟩ h=.ok fv h/\AEi ⟨bs,5,By⟩ h=.ok (AI AT (bad:Int)) h/\AEi ⟨bs,6,By⟩ h=.ok (.bool ov) h:=
 ⟨R.AEi (off:=0) (by show 0<7;omega),R.AEi (off:=1) (by show 1<7;omega),R.AEi (off:=2) (by show 2<7;omega),R.AEi (off:=3) (by show 3<7;omega),R.AEi (off:=4) (by show 4<7;omega),R.AEi (off:=5) (by show 5<7;omega),R.AEi (off:=6) (by show 6<7;omega)⟩
theorem vI{a b:Nat}(c:a*b<=1000000000):Fp Int.mul .i64 (AI AT (a:Int)) (AI AT (b:Int)) h=.ok (AI AT ((a*b:Nat):Int)) h:=by
 have:Int.mul (a:Int) (b:Int)=((a*b:Nat):Int):=(Int.natCast_mul a b).symm;rw[Cn,this,Bf (by omega)]
theorem Vt{a b:Nat}(c:a+b<=1000000000):GC .i64 (AI AT (a:Int)) (AI AT (b:Int)) h=.ok (AI AT ((a+b:Nat):Int)) h:=by
 have:(a:Int)+(b:Int)=((a+b:Nat):Int):=by omega
 rw[EQ,this,Bf (by omega)]
theorem Pd:Pc 100=3:=by decide
theorem Oi{bs bd f:Nat}(R:h.Row bs 0 (slL bd f lv fv bad ov)){p:Nat}(g:p<=65536):call AC (m+2) 97 [pt bs,AI AT (p:Int)] h=.ok (AI AT ((p*3:Nat):Int)) h:=by
 obtain⟨_,_,e,_⟩:=BK R;have c:=Xu (n:=m) (h:=h) (z:=100);rw[Pd]at c;have d:=vI (h:=h) (a:=p) (b:=3) (by omega);rw[pi rfl];unfold d97;simp only[iN,xV,sT,xT,sh,reduceIte,Ax,Am,AH,AO,xZ,AN,AQ,e,cA0,c,B6,d,lV0]
theorem IF{f:OpF}{d:Qm}{v:xU}(a:h.Wf)(b:f F e h.quiet=.ok v h.quiet)(c:h.mark<=h.next):Ac d f F e h=.ok v (h.back h.quiet):=Cq b (.refl a.quiet) c
theorem gu{x y z:O}{b N k:Nat}(p:x e=.slice (BY ⟨b,0,By⟩) N N)(f:y e=AI AT (k:Int))(q:z e=AI AT (k:Int))(hk:k<=N):Dr 5 1 x By (BY y) (BY z) F e h=.ok (.slice (BY ⟨b,0,By⟩) k k) h:=by
 have j:∀(i:Nat) (y:O) (a:Nat) (K:Nat->R),y e=AI AT (k:Int)->k<=a->Cs e (BY y) i a K=K k:=λi y a K f o=>by
  show(match Db (y e)with|.ok d=>(bif yI d a then K d else .no)|.no=>.no)=_;rw[f,Dm];simp only;rw[As.2 o];rfl
 show(match x e with|.slice l d n=>DY e d n By (BY y) (BY z) (λg c m=>ES 5 1 l IN g c m h)|_=>.no)=_;rw[p];show Cs e (BY z) N N (λm=>Cs e (BY y) N m λc=>Cs e By 0 c λg=>ES 5 1 (BY ⟨b,0,By⟩) IN g c m h)=_;rw[j _ _ _ _ q hk,j _ _ _ _ f (xW _)];show Bz (BY ⟨b,0,By⟩) 1 0 k k h=_;unfold Bz;simp only[Ao];cases k with
 |zero=>rfl
 |succ k=>rfl
theorem aT{x y z:O}(g:x e=.slice By 0 0)(i:y e=AI AT ((0:Nat):Int))(j:z e=AI AT ((0:Nat):Int)):Dr 5 1 x By (BY y) (BY z) F e h=.ok (.slice By 0 0) h:=by
 show(match x e with|.slice c a d=>DY e a d By (BY y) (BY z) (λk f m=>ES 5 1 c IN k f m h)|_=>.no)=_;rw[g];show(match Db (z e)with|.ok a=>(bif yI a 0 then(match Db (y e)with|.ok b=>(bif yI b a then Bz By 1 0 b a h else .no)|.no=>.no)else .no)|.no=>.no)=_;rw[i,j];rfl
def dat(M:List Nat)(p k:Nat):List Nat:=(M.drop (64*(3*p+1))).take k
theorem bA{M:List Nat}{n p i:Nat}(a:M.length=64*n)(hi:3*p+1+i<n):dat M p (64*i)++sec M (3*p+1+i)=dat M p (64*(i+1)):=by
 unfold dat sec;have:M.drop (64*(3*p+1+i))=(M.drop (64*(3*p+1))).drop (64*i):=by rw[List.drop_drop];congr 1;omega
 rw[this,show 64*(i+1)=64*i+64 by omega,List.take_add]
theorem MI{M:List Nat}{n p k:Nat}(a:M.length=64*n)(hk:64*(3*p+1)+k<=64*n):(dat M p k).length=k:=by
 unfold dat;rw[yP,yX];omega
theorem rL{M:List Nat}(a:∀x∈M,x<256)(p k:Nat):∀x∈dat M p k,x<256:=λx b=>a x (zd (zJ b))
theorem eA:reS=BB (AY 0 (A3 reB)) reE:=rfl
theorem WS:qM=WT:=rfl
theorem Zy(u:h.Wf){bs bd bm bc tb n:Nat}(R:h.Row bs 0 (slL bd tb lv fv bad ov))(d:Dk h bd bm bc n M c0 [] arm IT){p k:Nat}(hp:3*p+3<=n)(hk:k<=128):
  ∃h' v,call AC (m+4) 110 [pt bs,AI AT (p:Int),AI AT (k:Int)] h=.ok (.tuple ⟨[v,AI AT 0]⟩) h'/\h.Ext h'/\h'.BS (λb=>h.next<=b) v ((dat M p k).map bv):=by
 have hn:=d.n1;have a7:∃j,WT (call AC (m+3)) (Au e0 0 [pt bs,AI AT (p:Int),AI AT (k:Int)]) h=reS (call AC (m+3)) j h/\J 0 j=pt bs/\J 1 j=AI AT (p:Int)/\J 2 j=AI AT (k:Int)/\J 8 j=.slice By 0 0/\J 9 j=AI AT ((0:Nat):Int):=by
  unfold WT;simp only[iN,xV,sT,xT,sh,reduceIte];exact⟨_,rfl,by simp[AG]⟩
 obtain⟨j,T,s0,s1,s2,s8,s9⟩:=a7;have a8:∃g h' v i,A3 reB (call AC (m+3)) j h=.exit 0 g h'/\h.Ext h'/\h'.Own h.next 5 v ((dat M p (64*i)).map bv)/\k<=64*i/\i<=2/\J 8 g=v/\J 2 g=AI AT (k:Int):=by
  refine Bd (I:=λi g h'=>∃v,h.Ext h'/\h'.Own h.next 5 v ((dat M p (64*i)).map bv)/\J 0 g=pt bs/\J 1 g=AI AT (p:Int)/\J 2 g=AI AT (k:Int)/\J 8 g=v/\J 9 g=AI AT (i:Int)/\i<=2)
   (Q:=λa9=>∃g h' v i,a9=.exit 0 g h'/\h.Ext h'/\h'.Own h.next 5 v ((dat M p (64*i)).map bv)/\k<=64*i/\i<=2/\J 8 g=v/\J 2 g=AI AT (k:Int)) 2 (by omega) (λi g h' ⟨v,l,G,t0,t1,t2,t8,t9,hi⟩=>?_)
   ⟨_,.refl u,.inl ⟨rfl,rfl⟩,s0,s1,s2,s8,s9,by omega⟩
  have r:(dat M p (64*i)).length=64*i:=MI d.len (by omega);have E:=G.vals.bl h';rw[r]at E;by_cases a4:64*i<k
  ·left
   have a0:i<2:=by omega
   have y:iLt ((64*i:Nat):Int) (k:Int)=IN:=EU a4;have xm:=l.marked;have L:=(R.ext u xm);have a6:∀(S:Nat) (D:C) (F:AEh) (e:Env),Ir (.pointer (BY ⟨bs,S,By⟩)) D F e h'.marked=D F e h'.marked:=λS D F e=>Df (by
    show bs<h'.next;have:=R.lt u;have:=l.next;omega)
   obtain⟨l0,_⟩:=BK L;have k1:=Oi (m:=m+1) (L.same (h':=h'.marked.quiet) rfl) (p:=p) (by omega);have U:∀e:Env,J 0 e=pt bs->J 1 e=AI AT (p:Int)->Ac .weak (AS 97 [J 0,J 1]) (call AC (m+3)) e h'.marked=.ok (AI AT ((p*3:Nat):Int)) (h'.marked.back h'.marked.quiet):=λe j c=>by
    refine IF l.wf.marked ?_ (xW _);rw[BX,AV,AV,A4,j,c];exact k1
   have H:h'.Ext (h'.marked.back h'.marked.quiet):=Hp.Ext.AFp (Hp.Ext.refl l.wf).marked (Hp.Ext.refl l.wf).marked.quiet;have n2:(h'.marked.back h'.marked.quiet).next=h'.next:=rfl;generalize h'.marked.back h'.marked.quiet=f at U H n2;have q:=l.trans H;have a1:=Cc (h:=f) (i:=p * 3) (by omega);have a2:=Vt (h:=f) (a:=p * 3+1) (b:=i) (by omega);obtain⟨w,X,k2,y3,mk,n3,_⟩:=Xl (m:=m) q.quiet.wf ((d.ext u q).same (h':=f.quiet) rfl) (i:=p * 3+1+i) (by omega);have V:∀e:Env,J 22 e=pt bd->J 28 e=AI AT ((p * 3+1+i:Nat):Int)->Ac .free (AS 106 [J 22,J 28]) (call AC (m+3)) e f=.ok (.tuple ⟨[X,AI AT 0]⟩) (f.back w):=λe j c=>by
    refine BF ?_;rw[BX,AV,AV,A4,j,c];exact k2
   have K:f.Ext (f.back w):=.back y3;have P:Mk (f.back w) f.quiet.next X (sec M (p * 3+1+i)):=mk.same rfl;generalize f.back w=h4 at V K P;have Y:=q.trans K;have O:(sec M (p * 3+1+i)).length=64:=KP d.len (by omega);obtain⟨A,W,k5,x5,o5,n5,b1⟩:=E7 (eb:=1) (en:=5) (k:=h.next) Y (xW _) Y.next ((G.ext l.wf H).ext q.wf K) P.vals (by rw[xa,O];omega) (DD _) (by rw[xa,xa,r,O];omega);rw[<- yZ,show p * 3+1+i=3 * p+1+i by omega,bA d.len (by omega)]at o5;have c2:iNe 0 0=IT:=B0 rfl;have a3:=Cc (i:=i) (h:=A) (by omega);have B:∃c,reB (call AC (m+3)) g h'=.norm c A/\J 0 c=pt bs/\J 1 c=AI AT (p:Int)/\J 2 c=AI AT (k:Int)/\J 8 c=W/\J 9 c=AI AT ((i+1:Nat):Int):=by
    unfold reB;simp only[sT,xT,sh,reduceIte,AX,t8,E,AK,AJ,t2,y,Aw,Ax,t0,Am,AH,AO,xZ,ED,a6,DQ,AN,AQ,l0,U,t1,BW,a1,t9,a2,V,Aq,Az,A1,c2,Bb,k5,a3];exact⟨_,rfl,by simp[AG,t0,t1,t2]⟩
   obtain⟨c,s,o,t,r4,r5,r6⟩:=B;exact⟨a0,c,A,s,W,x5,o5,o,t,r4,r5,r6,by omega⟩
  ·right
   have y:iLt ((64*i:Nat):Int) (k:Int)=IT:=Cz (by omega);have B:∃c,reB (call AC (m+3)) g h'=.exit 0 c h'/\J 8 c=v/\J 2 c=AI AT (k:Int):=by
    unfold reB;simp only[sT,xT,sh,reduceIte,AX,t8,E,AK,AJ,t2,y];exact⟨_,rfl,by simp[AG,t8,t2]⟩
   obtain⟨c,s,o,t⟩:=B;rw[s];exact⟨rfl,c,h',v,i,rfl,l,G,by omega,hi,o,t⟩
 obtain⟨c,f,v,i,s,q,o2,N,b2,o,t⟩:=a8;have r:(dat M p (64*i)).length=64*i:=MI d.len (by omega);have a5:(dat M p (64*i)).take k=dat M p k:=by
  unfold dat;rw[ACV,AAb N]
 have x:(dat M p k).length=k:=MI d.len (by omega);rcases o2 with ⟨rfl,hx⟩|⟨b,rfl,Z,hb,b0⟩
 ·have h0:64*i=0:=by
   have:=congrArg AAC hx;rw[xa,r]at this;exact this
  obtain rfl:k=0:=by omega
  have z:∀e:Env,J 8 e=.slice By 0 0->J 2 e=AI AT ((0:Nat):Int)->Dr 5 1 (J 8) By (BY (J 2)) (BY (J 2)) (call AC (m+3)) e f=.ok (.slice By 0 0) f:=λe j c=>aT j c c
  refine⟨f,.slice By 0 0,?_,q,.inl ⟨rfl,?_⟩⟩
  ·rw[WF rfl,WS,T,eA]
   simp only[A7,Ap,s,A5,Ay];unfold reE;simp only[sT,xT,sh,reduceIte,z,o,t,Av,CO]
  ·unfold dat;rfl
 ·rw[xa,r]at o
  have z:∀e:Env,J 8 e=.slice (BY ⟨b,0,By⟩) (64*i) (64*i)->J 2 e=AI AT (k:Int)->Dr 5 1 (J 8) By (BY (J 2)) (BY (J 2)) (call AC (m+3)) e f=.ok (.slice (BY ⟨b,0,By⟩) k k) f:=λe j c=>gu j c c N
  refine⟨f,.slice (BY ⟨b,0,By⟩) k k,?_,q,.inr ⟨b,0,k,6,_,by rw[xa,x],by rw[xa,x];exact xW _,Z,by rw[xa,xa,x,r];omega,?_,hb,.inr rfl⟩⟩
  ·rw[WF rfl,WS,T,eA]
   simp only[A7,Ap,s,A5,Ay];unfold reE;simp only[sT,xT,sh,reduceIte,z,o,t,Av,CO]
  ·rw[xa,x,yk,<- ACD,a5]
end
abbrev f86:xU:=.func (.func 108) ⟨[]⟩ ⟨[]⟩
theorem YN{n:Nat}{h:Hp}{c:Nat}:call AC (n+1) 108 [.int .u8 (c:Int)] h=.ok (.bool (iNe (c:Int) 0)) h:=by
 rw[gN rfl];unfold qK;simp only[iN,xV,sT,xT,sh,reduceIte,AK,AJ,lV0]
theorem bt{n:Nat}{h:Hp}{u:xU}{l:List Nat}(s:h.AE7 u (l.map bv))(F:l.length<=900000){e:Env}(s0:J 0 e=u)(s1:J 1 e=f86)(s7:J 7 e=AI AT (l.length:Int))(s8:J 8 e=AI AT ((0:Nat):Int)):
  (∃a,A3 ifB (call AC (n+1)) e h=.exit 0 a h/\∀x∈l,x=0)\/(∃a i,A3 ifB (call AC (n+1)) e h=.ret a h/\J 4 a=AI AT ((i:Nat):Int)/\∃x∈l,x≠0):=by
 refine Bd (I:=λi a d=>d=h/\J 0 a=u/\J 1 a=f86/\J 7 a=AI AT (l.length:Int)/\J 8 a=AI AT (i:Int)/\i<=l.length/\((∀x∈l,x=0)↔∀x∈l.drop i,x=0))
  (Q:=λx=>(∃a,x=.exit 0 a h/\∀x∈l,x=0)\/(∃a i,x=.ret a h/\J 4 a=AI AT ((i:Nat):Int)/\∃x∈l,x≠0)) l.length (by omega) (λi a d ⟨y,t0,t1,t7,t8,E,o⟩=>?_) ⟨rfl,s0,s1,s7,s8,yH _,by simp⟩
 subst y;by_cases f:i<l.length
 ·obtain⟨D,g1,g2⟩:=Jg s f
  have r:l.getD i 0∈l:=by
   rw[xe,xc f];exact List.getElem_mem f
  rw[Gj f]at o;generalize l.getD i 0=c at g2 o r;have m:=EU f;have j:=YN (n:=n) (h:=d) (c:=c);by_cases p:c=0
  ·left
   subst p;have j:call AC (n+1) 108 [.int .u8 ((0:Nat):Int)] d=.ok (.bool IT) d:=j;have t:=Cc (i:=i) (h:=d) (by omega);have g:∃b,ifB (call AC (n+1)) a d=.norm b d/\J 0 b=u/\J 1 b=f86/\J 7 b=AI AT (l.length:Int)/\J 8 b=AI AT ((i+1:Nat):Int):=by
    unfold ifB;simp only[sT,xT,sh,reduceIte,AK,AJ,t8,t7,m,BA,t0,g1,AN,g2,CU,t1,Cf,AV,A4,yT,yF,j,BW,t];exact⟨_,rfl,by simp[AG,t0,t1,t7]⟩
   obtain⟨b,k,q,A,B,C⟩:=g;refine⟨f,b,d,k,rfl,q,A,B,C,f,o.trans ?_⟩;simp
  ·right
   have w:iNe (c:Int) 0=IN:=by rw[H3];simpa using p
   rw[w]at j;have g:∃b,ifB (call AC (n+1)) a d=.ret b d/\J 4 b=AI AT (i:Int):=by
    unfold ifB;simp only[sT,xT,sh,reduceIte,AK,AJ,t8,t7,m,BA,t0,g1,AN,g2,CU,t1,Cf,AV,A4,yT,yF,j];exact⟨_,rfl,by simp[AG]⟩
   obtain⟨b,k,q⟩:=g;rw[k];exact⟨rfl,.inr ⟨b,i,rfl,q,c,r,p⟩⟩
 ·right
  have m:=Cz (show l.length<=i by omega);have g:∃b,ifB (call AC (n+1)) a d=.exit 0 b d:=by
   unfold ifB;simp only[sT,xT,sh,reduceIte,AK,AJ,t8,t7,m];exact⟨_,rfl⟩
  obtain⟨b,k⟩:=g;rw[k];refine⟨rfl,.inl ⟨b,rfl,o.2 ?_⟩⟩;rw[ym (by omega)];intro x z;cases z
theorem Tq{n:Nat}{h:Hp}{u:xU}{l:List Nat}(f:h.AE7 u (l.map bv))(m:l.length<=900000):∃r:Bool,call AC (n+3) 107 [u,f86] h=.ok (.bool r) h/\(r=IN↔∃x∈l,x≠0):=by
 have j:=f.bl h;have t:∃a,Ot (call AC (n+1)) (Au e0 0 [u,f86]) h=ifS (call AC (n+1)) a h/\J 0 a=u/\J 1 a=f86/\J 7 a=AI AT (l.length:Int)/\J 8 a=AI AT ((0:Nat):Int):=by
  unfold Ot;simp only[iN,xV,sT,xT,sh,reduceIte,AX,j];exact⟨_,rfl,by simp[AG]⟩
 obtain⟨a,i,o,p,q,s⟩:=t;rcases bt (n:=n) f m o p q s with ⟨k,d,e⟩|⟨k,g,d,e,w⟩
 ·have c:call AC (n+2) 131 [u,f86] h=.ok (AI AT (-1)) h:=by
   rw[MG rfl,MH,i,QO];simp only[A7,Ap,d,A5,Ay];unfold ifE;simp only[sT,xT,sh,reduceIte,lV0]
  refine⟨IT,?_,by simp;exact e⟩;have b:iGe (-1) 0=IT:=EX (by omega);rw[MF rfl];unfold YT;simp only[iN,xV,sT,xT,sh,reduceIte,cA0,c,AK,AJ,b,lV0]
 ·have c:call AC (n+2) 131 [u,f86] h=.ok (AI AT (g:Int)) h:=by
   rw[MG rfl,MH,i,QO];simp only[A7,Ap,d,CE,Cr,lV0,e]
  refine⟨IN,?_,by simp only[true_iff];exact w⟩;have b:iGe (g:Int) 0=IN:=GL (by omega);rw[MF rfl];unfold YT;simp only[iN,xV,sT,xT,sh,reduceIte,cA0,c,AK,AJ,b,lV0]
def K0:Kt:=⟨0,0,0,0,[],0,.slice By 0 0⟩
theorem fc:EA.zero=Aj K0:=by kernel_rfl
theorem GB:Bs .mt 0 (Aj K0)=BY C1:=by kernel_rfl
section
variable {F:AEh}{e:Env}{h g:Hp}{T M:List Nat}{c0 bad m:Nat}{arm:Int}{lv fv:xU}{ov:Bool}
theorem HI{h:Hp}{t u v w:xU}{l:List xU}:Gk 3 (.tuple ⟨t::u::v::w::l⟩) h=.ok w h:=rfl
theorem Ku:BG EA.zero [] F e h=.ok (ktV K0) h:=by
 rw[CX,Bo,fc];rfl
theorem WA{a b c:Int}{s p:Nat}{u:xU}{l:List Nat}{g1 g2:O}(d:g1 e=Bn a b c s u)(h2:g2 e=AI AT (p:Int)):BG EA.zero [(0,5,g1),(5,1,g2)] F e h=.ok (ktV ⟨a,b,c,s,l,p,u⟩) h:=by
 rw[CX,fc,Ad (hk:=by rw[d];rfl),d,Ad (hk:=by rw[h2];rfl),h2,
  If (show(cellsOf (Bn a b c s u)).length=5 from rfl),If (show 0+5<=(Aj K0).length by show 5<=6;omega),If (show(cellsOf (AI AT (p:Int))).length=1 from rfl),If (show 5+1<=(over (Aj K0) 0 (cellsOf (Bn a b c s u))).length by show 6<=6;omega),Bo]
 rfl
theorem N0(e:h.Wf)(x:h.Ext g){r:Nat}(i:h.next<=r){a:List xU}(R:g.Row r 0 a)(c:a.length=6){k:Kt}(j:oneCell k.u=IN):
  AEn 6 (pt r) (ktV k) g=.ok AEl (g.wr r 0 (Aj k))/\loadN 6 ⟨r,0,By⟩ (g.wr r 0 (Aj k))=.ok (ktV k) (g.wr r 0 (Aj k))/\h.Ext (g.wr r 0 (Aj k))/\(g.wr r 0 (Aj k)).Row r 0 (Aj k)/\(g.wr r 0 (Aj k)).next=g.next:=by
 have d:256<=r:=by have:=e.big;omega
 have b:0+(Aj k).length<=a.length:=by rw[c];show 0+6<=6;omega
 have f:Bc (Aj k)=IN:=by
  show(bif oneCell k.u then IN else IT)=IN;rw[j];rfl
 have l:=R.AEn (n:=6) (off:=0) x.wf d (v:=ktV k) rfl b f;have wr:=R.AEt x.wf b;rw[EW (show a.length=(Aj k).length from c)]at wr;exact⟨l,wr.loadN (off:=0) (n:=6) (by show 0+6<=6;omega),R.AFC x i b,wr,R.AFP b⟩
def Hd(T M:List Nat)(p:Nat)(ns:List Nat):Prop:=L1 T (sec M (3*p)) ns/\at6 ns 4<=100/\CJ T (dat M p (at6 ns 4))=at6 ns 5
theorem QX:lkB=Yn:=rfl
theorem rE:d69=YX:=rfl
theorem xI{e:Env}{h:Hp}{d:Nat}{v:xU}{a b:Bool}{c:Int}(s4:J 4 e=pt d)(s5:J 5 e=.bool a)(s6:J 6 e=.bool b)(s7:J 7 e=AI AT c)(f:loadN 6 ⟨d,0,By⟩ h=.ok v h):H7 [.cN (J 4) 6,.t (J 5),.t (J 6),.t (J 7)] (.ret e h)=.ok (.tuple ⟨[v,.bool a,.bool b,AI AT c]⟩) h:=by
 rw[Av,LB (v:=v) (by rw[s4,Ah];exact f),s5,s6,s7]
def mY(T M:List Nat)(p:Nat)(h h':Hp)(r:R):Prop:=
 (∃a b,Hd T M p a/\r=.ok (.tuple ⟨[ktV ⟨at6 a 1,at6 a 2,at6 a 3,at6 a 0,dat M p (at6 a 4),p,b⟩,.bool IN,.bool IT,AI AT 0]⟩) h'/\h'.BS (λc=>h.next<=c) b ((dat M p (at6 a 4)).map bv))\/
 ((¬ ∃a,Hd T M p a)/\∃bad:Bool,r=.ok (.tuple ⟨[ktV K0,.bool IT,.bool bad,AI AT 0]⟩) h'/\(bad=IN↔(∃d∈sec M (3*p),d≠0)\/∃a,L1 T (sec M (3*p)) a/\at6 a 4<=100))
theorem G3{T l a b:List Nat}(g:L1 T l a)(h2:L1 T l b):a=b:=by
 obtain⟨m,j,e,h,f,_⟩:=g;obtain⟨n,k,c,i,d,_⟩:=h2;rw[e]at c;cases c;rw[f]at d;cases d;rfl
theorem da{T l ns:List Nat}(h:L1 T l ns):kD ns:=by
 obtain⟨_,_,_,_,_,a,_⟩:=h;exact kE.1 a
theorem XQ(W:h.Wf){bs bd bm bc tb n:Nat}(R:h.Row bs 0 (slL bd tb lv fv bad ov))(Rt:h.Row tb 0 (T.map wv))(hT:AFQ T)(d:Dk h bd bm bc n M c0 [] arm IT){p:Nat}(hp:3*p+3<=n):
  ∃h',h.Ext h'/\mY T M p h h' (call AC (m+5) 69 [pt bs,AI AT (p:Int)] h):=by
 have hn:=d.n1;have al:=λ(F:AEh) (e:Env)=>BO (F:=F) (e:=e) W (n:=6) (t:=C1)
 have R4:=Hp.Row.alloc W GB (show(Aj K0).length=6 from rfl);have x1:h.Ext (h.push (.cells C1 6 0)):=(Hp.Ext.refl W).push _;have n1:(h.push (.cells C1 6 0)).next=h.next+1:=rfl;generalize h.push (.cells C1 6 0)=h1 at al R4 x1 n1;have xm:=x1.marked;have Rm:=R.ext W xm;have old:∀(off:Nat) (kk:C) (F:AEh) (e:Env),Ir (.pointer (BY ⟨bs,off,By⟩)) kk F e h1.marked=kk F e h1.marked:=λoff kk F e=>Df (by
  show bs<h1.next;have:=R.lt W;omega)
 obtain⟨l0,_⟩:=BK Rm;have k1:=Oi (m:=m+2) (Rm.same (h':=h1.marked.quiet) rfl) (p:=p) (by omega);have q1:∀e:Env,J 0 e=pt bs->J 1 e=AI AT (p:Int)->Ac .weak (AS 97 [J 0,J 1]) (call AC (m+4)) e h1.marked=.ok (AI AT ((p*3:Nat):Int)) (h1.marked.back h1.marked.quiet):=λe e1 e2=>by
  refine IF x1.wf.marked ?_ (xW _);rw[BX,AV,AV,A4,e1,e2];exact k1
 have y2:h1.Ext (h1.marked.back h1.marked.quiet):=Hp.Ext.AFp (Hp.Ext.refl x1.wf).marked (Hp.Ext.refl x1.wf).marked.quiet;have n2:(h1.marked.back h1.marked.quiet).next=h1.next:=rfl;generalize h1.marked.back h1.marked.quiet=h2 at q1 y2 n2;have x2:=x1.trans y2;obtain⟨h3,v,k2,y3,mk,n3,_⟩:=Xl (m:=m+1) x2.quiet.wf ((d.ext W x2).same (h':=h2.quiet) rfl) (i:=p * 3) (by omega);have q2:∀e:Env,J 19 e=pt bd->J 22 e=AI AT ((p * 3:Nat):Int)->Ac .free (AS 106 [J 19,J 22]) (call AC (m+4)) e h2=.ok (.tuple ⟨[v,AI AT 0]⟩) (h2.back h3):=λe e1 e2=>by
  refine BF ?_;rw[BX,AV,AV,A4,e1,e2];exact k2
 have y4:h2.Ext (h2.back h3):=.back y3;have mk4:Mk (h2.back h3) h2.quiet.next v (sec M (p * 3)):=mk.same rfl;generalize h2.back h3=h4 at q2 y4 mk4;rw[zb p 3]at mk4;have x4:=x2.trans y4;have c0':iNe 0 0=IT:=B0 rfl;have hsl:(sec M (3 * p)).length=64:=KP d.len (by omega);have hsb:=tc d.byt (3 * p);obtain⟨r,k3,hr⟩:=Tq (n:=m+1) mk4.vals (by omega);obtain⟨_,l1,_⟩:=BK (R.ext W x4);obtain⟨h5,y5,hpar⟩:=de (n:=m) x4.wf (Rt.ext W x4) hT mk4.vals mk4.cap hsb (by omega);have x5:=x4.trans y5;have al2:=λ(F:AEh) (e:Env)=>BO (F:=F) (e:=e) x5.wf (n:=5) (t:=DV)
 have R11:=Hp.Row.alloc x5.wf Fg (show(A9 0 0 0 0 AEk).length=5 from rfl);have y6:h5.Ext (h5.push (.cells DV 5 0)):=(Hp.Ext.refl x5.wf).push _;have n6:(h5.push (.cells DV 5 0)).next=h5.next+1:=rfl;generalize h5.push (.cells DV 5 0)=h6 at al2 R11 y6 n6;have x6:=x5.trans y6;have hn5:=x5.next;have ALK:h.next+1<=h5.next:=by
  have:=((y2.trans y4).trans y5).next;omega
 have pre:∀(a b c:Int) (s many sum:Nat) (ok:Bool),call AC (m+4) 109 [pt tb,v] h4=.ok (.tuple ⟨[Bn a b c s AEk,AI AT (many:Int),.int .u32 (sum:Int),.bool ok]⟩) h5->
   ∃e1 h7,YX (call AC (m+4)) (Au e0 0 [pt bs,AI AT (p:Int)]) h=lkB (call AC (m+4)) e1 h7/\h.Ext h7/\h7.Row h5.next 0 (A9 a b c s AEk)/\h7.Row h.next 0 (Aj K0)/\h5.next<h7.next/\J 0 e1=pt bs/\J 1 e1=AI AT (p:Int)/\J 4 e1=pt h.next/\J 10 e1=.bool (!r)/\J 11 e1=pt h5.next/\J 12 e1=AI AT (many:Int)/\J 13 e1=.int .u32 (sum:Int)/\J 14 e1=.bool ok:=λa b c s many sum ok hk=>by
  obtain⟨st,_,x7,R7,n7⟩:=MA x5.wf y6 (xW _) R11 rfl (a:=a) (b:=b) (c:=c) (s:=s) (u:=AEk) rfl;have R4':(h6.wr h5.next 0 (A9 a b c s AEk)).Row h.next 0 (Aj K0):=((R4.ext x1.wf ((y2.trans y4).trans y5)).ext x5.wf x7);generalize h6.wr h5.next 0 (A9 a b c s AEk)=h7 at st x7 R7 n7 R4';have hrun:∃e1,YX (call AC (m+4)) (Au e0 0 [pt bs,AI AT (p:Int)]) h=lkB (call AC (m+4)) e1 h7/\J 0 e1=pt bs/\J 1 e1=AI AT (p:Int)/\J 4 e1=pt h.next/\J 10 e1=.bool (!r)/\J 11 e1=pt h5.next/\J 12 e1=AI AT (many:Int)/\J 13 e1=.int .u32 (sum:Int)/\J 14 e1=.bool ok:=by
   unfold YX;simp only[iN,xV,sT,xT,sh,reduceIte,al,Aw,Ax,Am,AH,AO,xZ,ED,old,DQ,AN,AQ,l0,q1,q2,Aq,Az,A1,Bx,HI,AK,AJ,c0',cA0,k3,BJ,BI,l1,hk,al2,AW,st];exact⟨_,rfl,by simp[AG]⟩
  obtain⟨e1,q⟩:=hrun;exact⟨e1,h7,q.1,x5.trans x7,R7,R4',by omega,q.2⟩
 have res:∀(hx g:Hp) (e1 e2:Env) (a b:Bool) (v:xU),YX (call AC (m+4)) (Au e0 0 [pt bs,AI AT (p:Int)]) h=lkB (call AC (m+4)) e1 hx->lkB (call AC (m+4)) e1 hx=.ret e2 g->J 4 e2=pt h.next->J 5 e2=.bool a->J 6 e2=.bool b->J 7 e2=AI AT 0->loadN 6 ⟨h.next,0,By⟩ g=.ok v g->
   call AC (m+5) 69 [pt bs,AI AT (p:Int)] h=.ok (.tuple ⟨[v,.bool a,.bool b,AI AT 0]⟩) g:=λhx g e1 e2 a b v i1 i2 t4 t5 t6 t7 hv=>by
  rw[pL rfl,rE,i1,i2];exact xI t4 t5 t6 t7 hv
 have K0u:oneCell K0.u=IN:=rfl;rcases hpar with ⟨ns,hP,hk⟩|⟨hP,hk⟩
 ·have AKM:=da hP
  obtain⟨e1,h7,p1,x7,R7,R47,AKN,s0,s1,s4,s10,s11,s12,s13,s14⟩:=pre _ _ _ _ (at6 ns 4) (at6 ns 5) IN hk;obtain⟨_,_,l2,_⟩:=BK (R.ext W x7);by_cases AGw:at6 ns 4<=100
  ·have c1:iGt (at6 ns 4:Int) 100=IT:=FW (by omega)
   obtain⟨h8,u,k4,y8,vs8⟩:=Zy (m:=m) x7.wf (R.ext W x7) (d.ext W x7) (p:=p) (k:=at6 ns 4) hp (by omega);have x8:=x7.trans y8;have R8:=R7.ext x7.wf y8;have u1:=vs8.vs.one;have ho4:4+(cellsOf u).length<=(A9 (at6 ns 1) (at6 ns 2) (at6 ns 3) (at6 ns 0) AEk).length:=by rw[u1.1];show 4+1<=5;omega
   have AEs:256<=h5.next:=by have:=W.big;omega
   have st8:AEn 1 (.pointer (BY ⟨h5.next,4,By⟩)) u h8=.ok AEl (h8.wr h5.next 4 (cellsOf u)):=R8.AEn (n:=1) (off:=4) x8.wf AEs (by rw[u1.1];rfl) ho4 (by
    rw[u1.1];show(bif oneCell u then IN else IT)=IN;rw[u1.2.1];rfl)
   have R9:=R8.AEt x8.wf ho4;have x9:=R8.AFC x8 (by omega) ho4;have n9:=R8.AFP ho4;have R49:=R8.AFw x8.wf ho4 (R47.ext x7.wf y8) (by omega);have hkeep:∀b el L,b≠h5.next->h8.Row b el L->(h8.wr h5.next 4 (cellsOf u)).Row b el L:=λb el L hb r=>R8.AFw x8.wf ho4 r hb
   have hov:over (A9 (at6 ns 1) (at6 ns 2) (at6 ns 3) (at6 ns 0) AEk) 4 (cellsOf u)=A9 (at6 ns 1) (at6 ns 2) (at6 ns 3) (at6 ns 0) u:=by rw[u1.1];rfl
   rw[hov]at R9;have vs9:(h8.wr h5.next 4 (cellsOf u)).BS (λb=>h7.next<=b) u ((dat M p (at6 ns 4)).map bv):=vs8.keep λb el L hb _ r=>hkeep b el L (by omega) r
   generalize h8.wr h5.next 4 (cellsOf u)=h9 at st8 R9 x9 n9 R49 vs9;have x9m:=x9.marked;have R9m:h9.marked.Row h5.next 0 (A9 (at6 ns 1) (at6 ns 2) (at6 ns 3) (at6 ns 0) u):=R9.same rfl;obtain⟨_,_,_,_,lu,_⟩:=Bw R9m;obtain⟨_,l1',_⟩:=BK (R.ext W x9m);have hdl:(dat M p (at6 ns 4)).length=at6 ns 4:=MI d.len (by omega);obtain⟨hq,k5,hq2⟩:=eo (n:=m+3) (h:=h9.marked.quiet) ((Rt.ext W x9).same rfl) hT (vs9.vs.vals.same (h':=h9.marked.quiet) rfl) (rL d.byt p _) (by omega);have yq:h9.marked.quiet.Ext hq:=by
    rcases hq2 with rfl|rfl
    ·exact Hp.Ext.refl x9m.quiet.wf
    ·exact(Hp.Ext.refl x9m.quiet.wf).marked
   have nq:hq.next=h9.next:=by rcases hq2 with rfl|rfl<;>rfl
   have q5:∀e:Env,J 72 e=pt tb->J 74 e=u->Ac .free (AS 80 [J 72,J 74]) (call AC (m+4)) e h9.marked=.ok (.int .u32 ((CJ T (dat M p (at6 ns 4)):Nat):Int)) (h9.marked.back hq):=λe e1 e2=>by
    refine BF ?_;rw[BX,AV,AV,A4,e1,e2];exact k5
   have y10:h9.marked.Ext (h9.marked.back hq):=.back yq;have n10:(h9.marked.back hq).next=h9.next:=nq;generalize h9.marked.back hq=h10 at q5 y10 n10;have x10:=x9m.trans y10;have R10:=R9m.ext x9m.wf y10;have AIh:h10.Row h.next 0 (Aj K0):=(R49.same (h':=h9.marked) rfl).ext x9m.wf y10;have AKO:h10.BS (λb=>h7.next<=b) u ((dat M p (at6 ns 4)).map bv):=(vs9.same (h':=h9.marked) rfl).ext x9m.wf y10;obtain⟨_,_,_,_,_,ln⟩:=Bw R10;have AJX:at6 ns 0<=2:=AKM.1;by_cases AIi:CJ T (dat M p (at6 ns 4))=at6 ns 5
   ·have c2:iNe ((CJ T (dat M p (at6 ns 4)):Nat):Int) ((at6 ns 5:Nat):Int)=IT:=B0 (by rw[AIi])
    have bd1:∀(F:AEh) (e:Env),J 79 e=Bn (at6 ns 1) (at6 ns 2) (at6 ns 3) (at6 ns 0) u->J 1 e=AI AT (p:Int)->BG EA.zero [(0,5,J 79),(5,1,J 1)] F e h10=.ok (ktV ⟨at6 ns 1,at6 ns 2,at6 ns 3,at6 ns 0,dat M p (at6 ns 4),p,u⟩) h10:=λF e e1 e2=>WA e1 e2
    obtain⟨w1,w2,w3,w4,w5⟩:=N0 W x10 (xW _) AIh rfl (k:=⟨at6 ns 1,at6 ns 2,at6 ns 3,at6 ns 0,dat M p (at6 ns 4),p,u⟩) u1.2.1;have AKP:∀b el L,b≠h.next->h10.Row b el L->(h10.wr h.next 0 (Aj ⟨at6 ns 1,at6 ns 2,at6 ns 3,at6 ns 0,dat M p (at6 ns 4),p,u⟩)).Row b el L:=λb el L hb r=>AIh.AFw x10.wf (by show 0+6<=6;omega) r hb
    have AJY:(h10.wr h.next 0 (Aj ⟨at6 ns 1,at6 ns 2,at6 ns 3,at6 ns 0,dat M p (at6 ns 4),p,u⟩)).BS (λb=>h7.next<=b) u ((dat M p (at6 ns 4)).map bv):=AKO.keep λb el L hb _ r=>AKP b el L (by have:=x7.next;omega) r
    generalize h10.wr h.next 0 (Aj ⟨at6 ns 1,at6 ns 2,at6 ns 3,at6 ns 0,dat M p (at6 ns 4),p,u⟩)=h11 at w1 w2 w3 w4 w5 AJY;have hrun:∃e2,lkB (call AC (m+4)) e1 h7=.ret e2 h11/\J 4 e2=pt h.next/\J 5 e2=.bool IN/\J 6 e2=.bool IT/\J 7 e2=AI AT 0:=by
     rw[QX];unfold Yn lkC;simp only[sT,xT,sh,reduceIte,gD,BJ,BI,s14,yY,s12,s0,Ax,Am,AH,AO,xZ,AN,AQ,l2,AK,AJ,c1,cA0,s1,k4,Aq,Az,A1,s11,AW,st8,c0',Aw,l1',lu,q5,s13,c2,An,Ah,ln,bd1,s4,w1];exact⟨_,rfl,by simp[AG,s4]⟩
    obtain⟨e2,i2,t4,t5,t6,t7⟩:=hrun;exact⟨h11,w3,.inl ⟨ns,u,⟨hP,AGw,AIi⟩,res h7 h11 e1 e2 IN IT _ p1 i2 t4 t5 t6 t7 w2,AJY.mono λb hb=>yS x7.next hb⟩⟩
   ·have c2:iNe ((CJ T (dat M p (at6 ns 4)):Nat):Int) ((at6 ns 5:Nat):Int)=IN:=EG (by omega)
    obtain⟨w1,w2,w3,w4,w5⟩:=N0 W x10 (xW _) AIh rfl (k:=K0) K0u;generalize h10.wr h.next 0 (Aj K0)=h11 at w1 w2 w3 w4 w5;have hrun:∃e2,lkB (call AC (m+4)) e1 h7=.ret e2 h11/\J 4 e2=pt h.next/\J 5 e2=.bool IT/\J 6 e2=.bool IN/\J 7 e2=AI AT 0:=by
     rw[QX];unfold Yn lkC;simp only[sT,xT,sh,reduceIte,gD,BJ,BI,s14,yY,s12,s0,Ax,Am,AH,AO,xZ,AN,AQ,l2,AK,AJ,c1,cA0,s1,k4,Aq,Az,A1,s11,AW,st8,c0',Aw,l1',lu,q5,s13,c2,Ku,s4,w1];exact⟨_,rfl,by simp[AG,s4]⟩
    obtain⟨e2,i2,t4,t5,t6,t7⟩:=hrun;refine⟨h11,w3,.inr ⟨?_,IN,res h7 h11 e1 e2 IT IN _ p1 i2 t4 t5 t6 t7 w2,⟨λ_=>.inr ⟨ns,hP,AGw⟩,λ_=>rfl⟩⟩⟩;rintro⟨ns',a1,a2,a3⟩;obtain rfl:=G3 hP a1;exact AIi a3
  ·have c1:iGt (at6 ns 4:Int) 100=IN:=GM (by omega)
   obtain⟨w1,w2,w3,w4,w5⟩:=N0 W x7 (xW _) R47 rfl (k:=K0) K0u;generalize h7.wr h.next 0 (Aj K0)=h11 at w1 w2 w3 w4 w5;have hrun:∃e2,lkB (call AC (m+4)) e1 h7=.ret e2 h11/\J 4 e2=pt h.next/\J 5 e2=.bool IT/\J 6 e2=.bool r/\J 7 e2=AI AT 0:=by
    rw[QX];unfold Yn;simp only[sT,xT,sh,reduceIte,gD,BJ,BI,s14,yY,s12,s0,Ax,Am,AH,AO,xZ,AN,AQ,l2,AK,AJ,c1,Ku,s10,AEH,s4,AW,w1];exact⟨_,rfl,by simp[AG,s4]⟩
   obtain⟨e2,i2,t4,t5,t6,t7⟩:=hrun;refine⟨h11,w3,.inr ⟨?_,r,res h7 h11 e1 e2 IT r _ p1 i2 t4 t5 t6 t7 w2,hr.trans ⟨.inl,?_⟩⟩⟩
   ·rintro⟨ns',a1,a2,a3⟩
    obtain rfl:=G3 hP a1;exact AGw a2
   ·rintro (h1|⟨ns',a1,a2⟩)
    ·exact h1
    ·obtain rfl:=G3 hP a1
     exact absurd a2 AGw
 ·obtain⟨e1,h7,p1,x7,R7,R47,AKN,s0,s1,s4,s10,s11,s12,s13,s14⟩:=pre 0 0 0 0 0 0 IT hk
  obtain⟨w1,w2,w3,w4,w5⟩:=N0 W x7 (xW _) R47 rfl (k:=K0) K0u;generalize h7.wr h.next 0 (Aj K0)=h11 at w1 w2 w3 w4 w5;have hrun:∃e2,lkB (call AC (m+4)) e1 h7=.ret e2 h11/\J 4 e2=pt h.next/\J 5 e2=.bool IT/\J 6 e2=.bool r/\J 7 e2=AI AT 0:=by
   rw[QX];unfold Yn;simp only[sT,xT,sh,reduceIte,gD,BJ,BI,s14,yg,Ku,s10,AEH,s4,AW,w1];exact⟨_,rfl,by simp[AG,s4]⟩
  obtain⟨e2,i2,t4,t5,t6,t7⟩:=hrun;refine⟨h11,w3,.inr ⟨λ⟨ns',a1,_⟩=>hP ⟨ns',a1⟩,r,res h7 h11 e1 e2 IT r _ p1 i2 t4 t5 t6 t7 w2,hr.trans ⟨.inl,?_⟩⟩⟩;rintro (h1|⟨ns',a1,_⟩)
  ·exact h1
  ·exact absurd ⟨ns',a1⟩ hP
end
theorem FZ{h:Hp}{b b' el c:Nat}{d e:List xU}(r:h.Row b el d)(k:h.Row b' c e)(j:el≠c):b≠b':=λi=>by
 subst i;obtain⟨_,f,_⟩:=r;obtain⟨_,a,_⟩:=k;rw[f]at a;injection a with _ _ g
 exact j g
def Hp.Cl(h:Hp)(S:Nat->Prop)(en:Nat)(v:xU)(xs:List xU):Prop:=(v=AEk/\xs=[])\/∃a b,v=.slice (BY ⟨a,0,By⟩) xs.length xs.length/\h.Row a b xs/\(b=en+1\/b=0/\xs=[])/\S a/\256<=a
section
variable {F:AEh}{e:Env}{h h0 h':Hp}{S:Nat->Prop}{en:Nat}{v u:xU}{xs:List xU}
theorem Hp.Cl.vs(o:h.Cl S en v xs):h.VS S v xs:=by
 rcases o with a|⟨b,c,a,d,f,e,g⟩
 ·exact .inl a
 ·exact .inr ⟨b,0,_,c,xs,a,xW _,d,by omega,by rw[yk,yz],e⟩
theorem E4{es eb b n:Nat}{cs:List xU}(i:h0.Ext h)(r:h.Row b 0 [])(w:∀k:List xU->R,BM h es u n k=k cs)(s:lenV u=.ok n)(x:cs.length=n*es)(y:0<n)(p:Bc cs=IN)(t:(n+1)*(eb+1)<=1099511627776):
  ∃h',DU es eb en (.slice (BY ⟨b,0,By⟩) 0 0) u h=.ok (.slice (BY ⟨h.next,0,By⟩) n n) h'/\h0.Ext h'/\h'.Row h.next (en+1) cs/\h'.next=h.next+1/\h.Ext h'/\h'.mark=h.mark/\h'.low=h.low/\h'.high=h.high:=by
 have c:=i.wf;obtain⟨g,a,q⟩:=r.rowOf;obtain⟨f,o,d⟩:=EF cs g [] 0 q (.inr rfl);have d:f.Is cs:=by simpa using d
 refine⟨h.push (.cells f cs.length (en+1)),?_,i.push _,⟨f,by rw[c.AE8,If rfl],d⟩,rfl,(Hp.Ext.refl c).push _,rfl,rfl,rfl⟩;unfold DU DL;simp only[s,w,Ao,zS,xZ];have j:yI n 0=IT:=by
  cases e:yI n 0
  ·rfl
  ·have:=As.1 e;omega
 have l:yI (yv (xz n) (xz eb)) JP=IN:=As.2 (HO t);rw[j];simp only[l,cond_true,p];unfold Gs;have a:rowOf h b=.ok g 0 0:=a;have m:yA 0 (yv 0 es)=IN:=A0.2 (AAa es).symm;simp only[a,m,o];unfold Eu;simp only[a,Bm,zS,xZ];unfold Cb;rw[Ao,C7 c];rfl
theorem IA{es eb b:Nat}(c:h.Wf)(a:256<=b)(r:h.Row b 0 [])(g:∀k:List xU->R,BM h es u 0 k=k [])(f:lenV u=.ok 0):
  DU es eb en (.slice (BY ⟨b,0,By⟩) 0 0) u h=.ok (.slice (BY ⟨b,0,By⟩) 0 0) (h.wr b 0 []):=by
 unfold DU DL;simp only[f,g,Ao,zS];have d:yI 0 0=IN:=rfl;have e0:0+0=0:=rfl;simp only[e0,d];have e:Ew ⟨b,0,By⟩ (yv 0 es)=⟨b,0,By⟩:=by
  rw[show yv 0 es=0 from AAa es];rfl
 rw[e,r.store c a (by simp) rfl]
theorem Hp.Row.AGd{es b el off n c sl:Nat}{l:List xU}(r:h.Row b el l)(a:off+n*es<=l.length){k:List xU->R}:BM h es (.slice (BY ⟨b,off,By⟩) sl c) n k=k ((l.drop off).take (n*es)):=by
 obtain⟨g,d,f⟩:=r.rowOf;unfold BM;simp only[d];have e:yv n es=n*es:=rfl;rw[e];simp only[zS];rw[As.2 a];simp only[cond_true,GK,yF,Is.AF2 f off _ a]
theorem J4{t el:Nat}{k:TK}{g:O}{a:Addr}{n c:Nat}(hk:k=.slice el)(b:g e=.slice (BY a) n c):oEq k IT g (W (.slice By 0 0)) F e h=.ok (.bool IT) h:=by
 subst hk;show(match eqV (.slice el) (g e) (.slice By 0 0)with|some d=>okB (IT != d) h|none=>.no)=_;rw[b];exact FU
theorem J5{t el:Nat}{k:TK}{g:O}(hk:k=.slice el)(a:g e=.slice By 0 0):oEq k IT g (W (.slice By 0 0)) F e h=.ok (.bool IN) h:=by
 subst hk;show(match eqV (.slice el) (g e) (.slice By 0 0)with|some b=>okB (IT != b) h|none=>.no)=_;rw[a];exact FU
theorem K7{t:List xU}(a:h.Wf):Ab 0 (BP t 0) [] F e h=.ok (.slice (BY ⟨h.next,0,By⟩) 0 0) (h.AEg 0 []):=by
 have:BP t 0=[]:=rfl;rw[this,B5,Bo,Cm a];rfl
end
section
variable {h0 h:Hp}{u:xU}{es eb en:Nat}{cs vs:List xU}
theorem Ij(b:h0.Ext h)(i:∀k:List xU->R,BM h es u 1 k=k vs)(f:lenV u=.ok 1)(j:vs.length=es)(e:Bc vs=IN)(g:2*(eb+1)<=70368744177664):
  ∃h',DU es eb en AEk u h=.ok (.slice (BY ⟨h.next,0,By⟩) 1 1) h'/\h0.Ext h'/\h'.Row h.next (en+1) vs/\h'.next=h.next+1/\(h'.mark=h.mark/\h'.low=h.low/\h'.high=h.high)/\h.Ext h':=by
 have a:=b.wf;obtain⟨t1,t2⟩:=IC vs;refine⟨h.push (.cells (ofL vs) vs.length (en+1)),?_,b.push _,⟨ofL vs,by rw[a.AE8,If rfl],t2⟩,rfl,⟨rfl,rfl,rfl⟩,(Hp.Ext.refl a).push _⟩;unfold DU DL;simp only[f,i,Ao,zS,xZ];have c:yI 1 0=IT:=rfl;have d:yI (yv (xz 1) (xz eb)) JP=IN:=As.2 g;simp only[c,d,cond_true,e];unfold Gs BM J0;simp only[yT,t1];unfold Eu;simp only[Bm];unfold Cb;rw[Ao,C7 a];rfl
theorem LF{n b:Nat}(j:h0.Ext h)(E:∀k:List xU->R,BM h es u 1 k=k vs)(B:lenV u=.ok 1)(J:vs.length=es)(I:0<es)(w:Bc vs=IN)(r:h.Row b (en+1) cs)(A:cs.length=n*es)(x:h0.next<=b)(y:256<=b)(C:(n+2)*(eb+1)<=70368744177664):
  ∃h',DU es eb en (.slice (BY ⟨b,0,By⟩) n n) u h=.ok (.slice (BY ⟨h.next,0,By⟩) (n+1) (n+1)) h'/\h0.Ext h'/\h'.Row h.next (en+1) (cs++vs)/\h'.next=h.next+1/\(h'.mark=h.mark/\h'.low=CD h.low b/\h'.high=C9 h.high b)/\∀b',b'<h.next->b'≠b->h'.bl.get b'=h.bl.get b':=by
 have a:=j.wf;obtain⟨m,i,z⟩:=r.rowOf;obtain⟨e,t,c⟩:=EF vs m cs cs.length z (.inr rfl);have c:e.Is (cs++vs):=by
  have g:cs.drop (cs.length+vs.length)=[]:=ym (by omega);rw[g]at c
  simpa using c
 have l:(cs++vs).length=cs.length+vs.length:=xY;have d:=r.lt a;have f:(h.put b .dead).Wf:=a.put d _;have G:h0.Ext (h.put b .dead):=j.put x d _;refine⟨(h.put b .dead).push (.cells e (cs.length+vs.length) (en+1)),?_,G.push _,⟨e,by
  have:=f.AE8 (.cells e (cs.length+vs.length) (en+1)) h.next;rw[this,If (show h.next=(h.put b .dead).next from rfl),l],c⟩,rfl,⟨rfl,rfl,rfl⟩,λb' H D=>?_⟩
 ·unfold DU DL
  simp only[B,E,Ao,zS];have o:yI (n+1) n=IT:=by
   cases g:yI (n+1) n
   ·rfl
   ·have:=As.1 g;omega
  have p:yI (yv (xz (n+1)) (xz eb)) JP=IN:=As.2 C;rw[o];simp only[p,cond_true,w];unfold Gs;have q:yA cs.length (yv n es)=IN:=A0.2 A;simp only[i,q,t];unfold Eu;have s:Lg 0 n es cs.length=IN:=by
   unfold Lg;cases n with
   |zero=>rfl
   |succ F=>exact A0.2 (by show 0+(F+1)*es=cs.length;omega)
  simp only[i,Bm,zS,zU,cond_true,s];rw[Ea a y d];unfold Cb;rw[Ao,C7 f];rfl
 ·rw[f.AE8,No (by show b'≠h.next;omega),a.AFL d,No D]
theorem J1{n b:Nat}(d:h0.Ext h)(C:∀k:List xU->R,BM h es u 1 k=k vs)(z:lenV u=.ok 1)(D:vs.length=es)(w:0<es)(o:Bc vs=IN)(r:h.Row b (en+1) cs)(y:cs.length=n*es)(p:h0.next<=b)(s:256<=b)(A:(n+2)*(eb+1)<=70368744177664):
  ∃h',DU es eb en (.slice (BY ⟨b,0,By⟩) n n) u h=.ok (.slice (BY ⟨h.next,0,By⟩) (n+1) (n+1)) h'/\h0.Ext h'/\h'.Row h.next (en+1) (cs++vs)/\h'.next=h.next+1/\(h'.mark=h.mark/\h'.low=CD h.low b/\h'.high=C9 h.high b)/\∀b' el a,b'≠b->h.Row b' el a->h'.Row b' el a:=by
 obtain⟨h',e,f,g,i,j,l⟩:=LF d C z D w o r y p s A;refine⟨h',e,f,g,i,j,λb' el a B c=>?_⟩;have q:=c.lt d.wf;obtain⟨m,t,x⟩:=c;exact⟨m,(l b' q B).trans t,x⟩
end
theorem RD{g:Hp}{a lo hi:Nat}(b:a<=lo)(h2:hi<=a):JD (.ok a) g lo hi=IN:=by
 show(bif yI a lo then yI hi a else IT)=IN;rw[As.2 b,As.2 h2];rfl
theorem aL{h0 h:Hp}{S:Nat->Prop}{eb en:Nat}{v w:xU}{xs:List xU}{bw:Nat}(i:h0.Ext h)(o:h.Cl S en v xs)(H:∀b,S b->h0.next<=b)(L:h.Row bw 0 [w])(K:oneCell w=IN)(N:xs.length<=1000000)(M:eb<=1000):
  ∃h' b',DU 1 eb en v (.slice (BY ⟨bw,0,By⟩) 1 1) h=.ok (.slice (BY ⟨b',0,By⟩) (xs.length+1) (xs.length+1)) h'/\h0.Ext h'/\h'.Row b' (en+1) (xs++[w])/\b'=h.next/\h'.next=h.next+1/\h'.mark=h.mark/\(∀b el a,¬S b->h.Row b el a->h'.Row b el a)/\(∀b el a,el≠en+1->h.Row b el a->h'.Row b el a)/\
   (h.low=h.next->h.high=0->∀g:Hp,g.next=h.next->JD (AE9 v) g h'.low h'.high=IN):=by
 have z:∀A,BM h 1 (.slice (BY ⟨bw,0,By⟩) 1 1) 1 A=A [w]:=λA=>L.AGd (es:=1) (off:=0) (n:=1) (by show 0+1*1<=1;omega)
 have u:Bc [w]=IN:=by
  show(bif oneCell w then IN else IT)=IN;rw[K];rfl
 have y:(xs.length+2)*(eb+1)<=70368744177664:=by
  have:(xs.length+2)*(eb+1)<=1000002*1001:=Nat.mul_le_mul (by omega) (by omega);omega
 rcases o with ⟨rfl,rfl⟩|⟨b,el,rfl,e,I,B,C⟩
 ·obtain⟨d,j,k,l,m,⟨p,q,s⟩,c⟩:=Ij (eb:=eb) (en:=en) i z rfl rfl u (by have:=y;simp only[yU]at this;omega)
  exact⟨d,h.next,j,k,l,rfl,m,p,λb el a _ e=>e.ext i.wf c,λb el a _ e=>e.ext i.wf c,λr t g x=>by
   show yI g.next d.low=IN;rw[q,r,x];exact As.2 (xW _)⟩
 ·have O:=e.lt i.wf
  rcases I with rfl|⟨rfl,rfl⟩
  ·obtain⟨d,j,k,l,m,⟨p,q,s⟩,c⟩:=J1 (eb:=eb) (en:=en) (n:=xs.length) i z rfl rfl (by omega) u e (Nat.mul_one _).symm (H b B) C y
   refine⟨d,h.next,j,k,l,rfl,m,p,λb' el a J f=>c _ _ _ (λD=>J (D ▸ B)) f,λb' el a G f=>c _ _ _ (FZ f e G) f,λr t g x=>?_⟩;have E:d.low=b:=by rw[q,r,BU];omega
   have F:d.high=b:=by rw[s,t,B8];omega
   rw[E,F];exact RD (xW _) (xW _)
  ·obtain⟨d,j,k,l,m,c,p,q,s⟩:=E4 (eb:=eb) (en:=en) (n:=1) i e z rfl rfl (by omega) u (by have:=y;simp only[yU]at this;omega)
   refine⟨d,h.next,j,k,l,rfl,m,p,λb' el a _ f=>f.ext i.wf c,λb' el a _ f=>f.ext i.wf c,λr t g x=>?_⟩;rw[q,s,r,t];show JD (.ok b) g h.next 0=IN;exact RD (by omega) (yH _)
theorem Vy{h h':Hp}{F:AEh}{e:Env}{x y:O}{eb en:Nat}{v u w:xU}(b:x e=v)(c:y e=u)(a:DU 1 eb en v u h.quiet=.ok w h')(hk:JD (AE9 v) h h'.low h'.high=IN):JQ x (Bk 1 eb en x y) F e h=.ok w (h.back h'):=by
 show(match Bk 1 eb en x y F e h.quiet with|.ok v h'=>bif JD (AE9 (x e)) h h'.low h'.high then DP h v h' else .no|.no=>.no)=_;rw[Bb,b,c,a];show(bif JD (AE9 v) h h'.low h'.high then DP h w h' else .no)=_;rw[hk];show DP h w h'=_;unfold DP;simp only[Ao];rfl
inductive AFY where
 |w (i:Nat) (l:List Nat)
 |f
def Bj:List Nat:=xx 64 0
def Iv(h:Hp)(A:At)(S:Nat->Prop)(v:xU):AFY->Prop
 |.w g i=>(∃d b f j,v=.func (.func 126) ⟨[]⟩ ⟨[pt d,pt b,pt f]⟩/\h.Row d 0 [pt A.bs]/\h.Row b 0 [AI AT (g:Int)]/\h.Row f 0 [j]/\h.BS S j (i.map bv)/\S d/\S b/\S f)\/
  (∃c e a,v=.func (.func 119) ⟨[]⟩ ⟨[pt c,pt e]⟩/\h.Row c 0 [pt A.bs]/\h.Row e 0 [AI AT ((a:Nat):Int)]/\g=a*3/\a<=65536/\i=Bj/\S c/\S e)
 |.f=>v=.func (.func 121) ⟨[pt A.bd]⟩ ⟨[]⟩
theorem Hp.BS.AFq{h h':Hp}{S e:Nat->Prop}{v:xU}{xs:List xU}(o:h.BS S v xs)(hk:∀b el a,S b->(el=0\/el=6)->h.Row b el a->h'.Row b el a/\e b):h'.BS e v xs:=by
 rcases o with c|⟨b,m,i,el,a,c,j,f,k,l,g,d⟩
 ·exact .inl c
 ·exact .inr ⟨b,m,i,el,a,c,j,(hk _ _ _ g d f).1,k,l,(hk _ _ _ g d f).2,d⟩
theorem Iv.AFq{h h':Hp}{A:At}{S p:Nat->Prop}{v:xU}{d:AFY}(o:Iv h A S v d)(q:∀b el j,S b->(el=0\/el=6)->h.Row b el j->h'.Row b el j/\p b):Iv h' A p v d:=by
 cases d with
 |f=>exact o
 |w D E=>
  have a:=λb j r t=>q b 0 j r (.inl rfl) t
  rcases o with ⟨y,u,B,C,m,c,e,k,n,l,g,i⟩|⟨x,z,s,m,c,e,k,n,l,g,i⟩
  ·exact .inl ⟨y,u,B,C,m,(a _ _ l c).1,(a _ _ g e).1,(a _ _ i k).1,n.AFq q,(a _ _ l c).2,(a _ _ g e).2,(a _ _ i k).2⟩
  ·exact .inr ⟨x,z,s,m,(a _ _ g c).1,(a _ _ i e).1,k,n,l,(a _ _ g c).2,(a _ _ i e).2⟩
theorem bE{h:Hp}{A:At}{S:Nat->Prop}{v:xU}{d:AFY}(o:Iv h A S v d):oneCell v=IN:=by
 cases d with
 |f=>have o:v=_:=o;rw[o];rfl
 |w b c=>rcases o with ⟨j,g,l,m,a,_⟩|⟨i,k,e,a,_⟩<;>rw[a]<;>rfl
abbrev Kj(h:Hp)(A:At)(v:xU)(d:AFY):Prop:=Iv h A (λa=>¬A.D a) v d
def Fb(n:Nat):List (Nat×List Nat)->List AFY->Prop
 |_,[]=>True
 |cs,.w b c::a=>(∀d∈cs,d.1≠b)/\b<n/\c.length=64/\(∀d∈c,d<256)/\Fb n (cs++[(b,c)]) a
 |cs,.f::a=>cs≠[]/\cs.length<=60/\Fb n [] a
def G5:List Nat->List (Nat×List Nat)->List AFY->List Nat×List (Nat×List Nat)
 |M,a,[]=>(M,a)
 |M,a,.w c d::b=>G5 M (a++[(c,d)]) b
 |M,a,.f::b=>G5 (GO M a) [] b
structure Sc (h:Hp)(A:At)(T:List Nat)(ks:List Kt)(fr:List Nat)(lv fv:xU)(bad:Nat)(ov:Bool):Prop where
 row:h.Row A.bs 0 (slL A.bd A.tb lv fv bad ov)
 tab:h.Row A.tb 0 (T.map wv)
 tok:AFQ T
 ls:h.KS (λb=>¬A.D b) lv ks
 ko:∀k∈ks,AHW h (λb=>¬A.D b) k
 fs:h.WI (λb=>¬A.D b) fv (ints .i64 (fr.map zZ))
 ne:A.bs≠A.bd/\A.bs≠A.bm/\A.bs≠A.bc/\¬A.D A.tb/\256<=A.bs
 le:ks.length<=1000/\fr.length<=1000/\bad<=1000/\∀p∈fr,3*p+3<=A.n
section
variable {F:AEh}{e:Env}{h h':Hp}{A:At}{T M:List Nat}{c0 bad m:Nat}{arm:Int}{ks:List Kt}{fr:List Nat}{lv fv:xU}{ov:Bool}
theorem Sl.sc(s:Sl h A T M c0 arm ks fr lv fv bad ov):Sc h A T ks fr lv fv bad ov:=⟨s.row,s.tab,s.tok,s.ls,s.ko,s.fs,s.ne,s.le⟩
theorem Sc.sl(s:Sc h A T ks fr lv fv bad ov)(d:Dk h A.bd A.bm A.bc A.n M c0 [] arm IT):Sl h A T M c0 arm ks fr lv fv bad ov:=⟨s.row,d,s.tab,s.tok,s.ls,s.ko,s.fs,s.ne,s.le⟩
theorem Sc.keep(s:Sc h A T ks fr lv fv bad ov)(c:∀b el g,b≠A.bd->b≠A.bm->b≠A.bc->h.Row b el g->h'.Row b el g):Sc h' A T ks fr lv fv bad ov:=by
 have nd:∀b,¬A.D b->b≠A.bd/\b≠A.bm/\b≠A.bc:=λb a=>⟨λe=>a (.inr (.inl e)),λe=>a (.inr (.inr (.inl e))),λe=>a (.inr (.inr (.inr e)))⟩
 have f:=nd _ s.ne.2.2.2.1;exact⟨c _ _ _ s.ne.1 s.ne.2.1 s.ne.2.2.1 s.row,c _ _ _ f.1 f.2.1 f.2.2 s.tab,s.tok,s.ls.keep λb _ _ a d=>c _ _ _ (nd b a).1 (nd b a).2.1 (nd b a).2.2 d,λj i=>⟨(s.ko j i).1.keep λb _ _ a _ d=>c _ _ _ (nd b a).1 (nd b a).2.1 (nd b a).2.2 d,(s.ko j i).2⟩,s.fs.keep λb _ _ a d=>c _ _ _ (nd b a).1 (nd b a).2.1 (nd b a).2.2 d,s.ne,s.le⟩
abbrev At.K(A:At):Nat->Prop:=λa=>a=A.bd\/a=A.bm\/a=A.bc
theorem Sc.fx(s:Sc h A T ks fr lv fv bad ov)(a:h.Wf)(x:Fx A.K h h'):Sc h' A T ks fr lv fv bad ov:=s.keep λd e c f g i b=>x.row a b (by rintro (h|h|h)<;>contradiction)
theorem Kj.keep{v:xU}{d:AFY}(o:Kj h A v d)(g:True)(e:∀b el a,¬A.D b->h.Row b el a->h'.Row b el a):Kj h' A v d:=o.AFq λb el a c _ f=>⟨e b el a c f,c⟩
theorem cZ{b:Nat}(h:¬A.D b):¬A.K b:=λa=>h (.inr a)
theorem iV(b:h.Wf)(R:h.Row A.bs 0 (slL A.bd A.tb lv fv bad ov))(a4:¬A.K A.bs){cs:List (Nat×List Nat)}(d:Dk h A.bd A.bm A.bc A.n M c0 cs arm IT){k:Nat}(L:CL arm (k+1)){v:xU}{i:Nat}{l:List Nat}(o:Kj h A v (.w i l))(hi:i<A.n)(O:∀x∈cs,x.1≠i/\x.1<A.n)(hl:l.length=64):
  ∃h',JC (call AC (m+4)) v [] h=.ok (AI AT 0) h'/\Fx A.K h h'/\Dk h' A.bd A.bm A.bc A.n M c0 (cs++[(i,l)]) (Ga arm) IT:=by
 rcases o with ⟨U,Q,X,u,rfl,h2,z,q,B,h6,h7,h8⟩|⟨G,V,p,rfl,h2,z,rfl,B,rfl,h7,h8⟩
 ·obtain⟨E,_⟩:=BK (R.same (h':=h.marked) rfl)
  have m3:AEi ⟨U,0,By⟩ h.marked=.ok (pt A.bs) h.marked:=(h2.same (h':=h.marked) rfl).AEi (off:=0) (by show 0<1;omega);have a0:AEi ⟨Q,0,By⟩ h.marked=.ok (AI AT (i:Int)) h.marked:=(z.same (h':=h.marked) rfl).AEi (off:=0) (by show 0<1;omega);have m9:AEi ⟨X,0,By⟩ h.marked=.ok u h.marked:=(q.same (h':=h.marked) rfl).AEi (off:=0) (by show 0<1;omega);obtain⟨w,D,f1,d1⟩:=Tj (m:=m) b.marked.quiet (d.same (h':=h.marked.quiet) rfl) L hi O ((B.vs.same (h':=h.marked.quiet) rfl).mono λK r e=>r (.inr (.inl e))) hl;have s:∀e:Env,J 7 e=pt A.bd->J 8 e=AI AT (i:Int)->J 9 e=u->Ac .free (AS 120 [J 7,J 8,J 9]) (call AC (m+3)) e h.marked=.ok (AI AT 0) (h.marked.back w):=λe j n t=>by
   refine BF ?_;rw[BX,AV,AV,AV,A4,j,n,t];exact D
  refine⟨h.marked.back w,?_,((f1.mono (T:=A.K) λK r=>r.elim .inl λh=>.inr (.inr h)).from (h:=h.marked) rfl rfl).same (h2:=h.marked.back w) rfl rfl |>.from (h:=h) rfl rfl,d1.same rfl⟩;rw[Cf];show call AC (m+3+1) 126 [pt U,pt Q,pt X] h=_;rw[gY rfl];unfold qa;simp only[iN,xV,sT,xT,sh,reduceIte,Aw,AN,AQ,m3,Ax,Am,AH,AO,xZ,E,a0,m9,s,lV0]
 ·have m2:AEi ⟨G,0,By⟩ h.marked=.ok (pt A.bs) h.marked:=(h2.same (h':=h.marked) rfl).AEi (off:=0) (by show 0<1;omega)
  have m7:AEi ⟨V,0,By⟩ h.marked=.ok (AI AT (p:Int)) h.marked:=(z.same (h':=h.marked) rfl).AEi (off:=0) (by show 0<1;omega);obtain⟨E,_⟩:=BK (R.same (h':=h.marked) rfl);have o1:∀(off:Nat) (c:C) (F:AEh) (e:Env),Ir (.pointer (BY ⟨G,off,By⟩)) c F e h.marked=c F e h.marked:=λoff c F e=>Df (h2.lt b)
  have o2:∀(off:Nat) (c:C) (F:AEh) (e:Env),Ir (.pointer (BY ⟨A.bs,off,By⟩)) c F e h.marked=c F e h.marked:=λoff c F e=>Df (R.lt b)
  have D:=Oi (m:=m+1) (R.same (h':=h.marked.quiet) rfl) (p:=p) B;have s:∀e:Env,J 7 e=pt A.bs->J 8 e=AI AT (p:Int)->Ac .weak (AS 97 [J 7,J 8]) (call AC (m+3)) e h.marked=.ok (AI AT ((p*3:Nat):Int)) (h.marked.back h.marked.quiet):=λe j n=>by
   refine IF b.marked ?_ (xW _);rw[BX,AV,AV,A4,j,n];exact D
  have g:h.Ext (h.marked.back h.marked.quiet):=Hp.Ext.AFp (Hp.Ext.refl b).marked (Hp.Ext.refl b).marked.quiet;have n2:(h.marked.back h.marked.quiet).next=h.next:=rfl;have Z:(h.marked.back h.marked.quiet).bl=h.bl:=rfl;have a1:(h.marked.back h.marked.quiet).mark=h.next:=rfl;generalize h.marked.back h.marked.quiet=a at s g n2 Z a1;have P:∀(F:AEh) (e:Env),Ac .AEv (Hi 1 ty5.zero (W (AI AT 64)) (W (AI AT 64))) F e a=.ok (.slice (BY ⟨a.next,0,By⟩) 64 64) (a.back (a.quiet.AEg 0 (Bj.map bv))):=λF e=>by
   have:=Qf (F:=F) (e:=e) g.quiet.wf (x:=W (AI AT 64)) (y:=W (AI AT 64)) (N:=64) rfl rfl (by omega);have hz:xx 64 0=Bj:=rfl;exact Cq this ((Hp.Ext.refl g.quiet.wf).AEg _ _) (by omega)
  have Y:a.Ext (a.back (a.quiet.AEg 0 (Bj.map bv))):=.back ((Hp.Ext.refl g.wf.quiet).AEg _ _);have I:(a.back (a.quiet.AEg 0 (Bj.map bv))).Row a.next 0 (Bj.map bv):=(Hp.Row.new g.wf.quiet 0 (Bj.map bv)).same rfl;have n3:(a.back (a.quiet.AEg 0 (Bj.map bv))).next=a.next+1:=rfl;generalize a.back (a.quiet.AEg 0 (Bj.map bv))=f at P Y I n3;have H:=g.trans Y;have a3:=(d.lt b).1;have a2:Bj.length=64:=rfl;obtain⟨q,k4,f4,d4⟩:=Tj (m:=m) H.wf.quiet ((d.ext b H).same (h':=f.quiet) rfl) L hi O (u:=.slice (BY ⟨a.next,0,By⟩) 64 64) (l:=Bj) (.inr ⟨a.next,0,64,0,_,rfl,xW _,I.same rfl,xW _,rfl,by omega⟩) rfl;have q4:∀e:Env,J 6 e=pt A.bd->J 9 e=AI AT ((p * 3:Nat):Int)->J 10 e=.slice (BY ⟨a.next,0,By⟩) 64 64->Ac .free (AS 120 [J 6,J 9,J 10]) (call AC (m+3)) e f=.ok (AI AT 0) (f.back q):=λe j n t=>by
   refine BF ?_;rw[BX,AV,AV,AV,A4,j,n,t];exact k4
  refine⟨f.back q,?_,(Fx.of (S:=A.K) H).trans (((f4.mono (T:=A.K) λK r=>r.elim .inl λh=>.inr (.inr h)).from (h:=f) rfl rfl).same (h2:=f.back q) rfl rfl),d4.same rfl⟩;rw[Cf];show call AC (m+3+1) 119 [pt G,pt V] h=_;rw[gR rfl];unfold qT;simp only[iN,xV,sT,xT,sh,reduceIte,Aw,ED,o1,o2,DQ,AN,AQ,m2,Ax,Am,AH,AO,xZ,E,m7,s,P,q4,lV0]
theorem me:alS=BB (AY 0 (A3 alB)) alE:=rfl
theorem rK:d98=iU:=rfl
theorem To(W:h.Wf)(R:h.Row A.bs 0 (slL A.bd A.tb lv fv bad ov))(hne:¬A.K A.bs)(d:Dk h A.bd A.bm A.bc A.n M c0 [] arm IT){ds:List AFY}{vs:List xU}{dv:xU}(V:h.VS (λb=>¬A.D b) dv vs)(hlen:vs.length=ds.length)(hd:∀(i:Nat) (v:xU) (x:AFY),vs[i]? =BY v->ds[i]? =BY x->Kj h A v x)(hok:Fb A.n [] ds)(ha:CL arm ds.length)(AG2:ds.length<=100):
  ∃h' c1 AFF,call AC (m+5) 98 [pt A.bs,dv] h=.ok (AI AT 0) h'/\Fx A.K h h'/\Dk h' A.bd A.bm A.bc A.n (G5 M [] ds).1 c1 (G5 M [] ds).2 AFF IT/\AFF=(zP ds.length).foldl (λa _=>Ga a) arm:=by
 have Vl:=V.vals.len;have pre:∃e1,iU (call AC (m+4)) (Au e0 0 [pt A.bs,dv]) h=alS (call AC (m+4)) e1 h/\J 0 e1=pt A.bs/\J 8 e1=dv/\J 9 e1=AI AT (vs.length:Int)/\J 10 e1=AI AT ((0:Nat):Int):=by
  unfold iU;simp only[iN,xV,sT,xT,sh,reduceIte,AX,Vl];exact⟨_,rfl,by simp[AG]⟩
 obtain⟨e1,p1,s0,s8,s9,s10⟩:=pre;have run:∃e' h' c1 AFF,A3 alB (call AC (m+4)) e1 h=.exit 0 e' h'/\Fx A.K h h'/\Dk h' A.bd A.bm A.bc A.n (G5 M [] ds).1 c1 (G5 M [] ds).2 AFF IT/\AFF=(zP ds.length).foldl (λa _=>Ga a) arm:=by
  refine Bd (I:=λi e' h'=>∃(M':List Nat) (cs':List (Nat×List Nat)) (c1:Nat) (AFF:Int),Fx A.K h h'/\Dk h' A.bd A.bm A.bc A.n M' c1 cs' AFF IT/\AFF=(zP i).foldl (λa _=>Ga a) arm/\CL AFF (ds.length - i)/\Fb A.n cs' (ds.drop i)/\G5 M [] ds=G5 M' cs' (ds.drop i)/\AGo cs'/\AFz A.n cs'/\i<=ds.length/\J 0 e'=pt A.bs/\J 8 e'=dv/\J 9 e'=AI AT (vs.length:Int)/\J 10 e'=AI AT (i:Int))
   (Q:=λx=>∃e' h' c1 AFF,x=.exit 0 e' h'/\Fx A.K h h'/\Dk h' A.bd A.bm A.bc A.n (G5 M [] ds).1 c1 (G5 M [] ds).2 AFF IT/\AFF=(zP ds.length).foldl (λa _=>Ga a) arm) ds.length (by omega) (λi e' h' ⟨M',cs',c1,AFF,x',d',ea,ha',ok',er,hK,hS,hi,t0,t8,t9,t10⟩=>?_)
   ⟨M,[],c0,arm,.refl W,d,rfl,by rw[Nat.sub_zero];exact ha,by rw[yk];exact hok,by rw[yk],λi j y z h=>(by cases h),λy hy=>(by cases hy),yH _,s0,s8,s9,s10⟩
  by_cases hlt:i<ds.length
  ·left
   have hiv:i<vs.length:=by omega
   have c1':iLt (i:Int) (vs.length:Int)=IN:=EU hiv;have V':=V.fx W x' λb hb=>cZ hb
   obtain⟨a,g1,g2⟩:=V'.vals.at hiv;have hv:vs[i]? =BY (vs.getD i AEl):=by rw[xe,xc hiv];rfl
   have hx:ds[i]? =BY (ds[i]'hlt):=xc hlt;have dI:=(hd i _ _ hv hx).keep (h':=h') trivial λb el L hb r=>x'.row W r (cZ hb)
   generalize vs.getD i AEl=v at g2 dI;have AHI:ds.drop i=ds[i]'hlt::ds.drop (i+1):=zf hlt;rw[AHI]at ok' er;generalize ds[i]'hlt=x at dI ok' er;have hk:ds.length - i=(ds.length - (i+1))+1:=by omega
   rw[hk]at ha';have R':=x'.row W R hne;have step:∃h2 M2 cs2 c2,JC (call AC (m+4)) v [] h'=.ok (AI AT 0) h2/\Fx A.K h' h2/\Dk h2 A.bd A.bm A.bc A.n M2 c2 cs2 (Ga AFF) IT/\Fb A.n cs2 (ds.drop (i+1))/\G5 M [] ds=G5 M2 cs2 (ds.drop (i+1))/\AGo cs2/\AFz A.n cs2:=by
    cases x with
    |w j l=>
     obtain⟨o1,o2,o3,o4,o5⟩:=ok';obtain⟨h2,k2,f2,d2⟩:=iV (m:=m) x'.wf R' hne d' ha' dI o2 (λy hy=>⟨o1 y hy,(hS y hy).1⟩) o3;refine⟨h2,M',cs'++[(j,l)],c1,k2,f2,d2,o5,er,λp q y z hp hq he=>?_,λy hy=>?_⟩
     ·rcases yM p cs'.length with hp1|hp1<;>rcases yM q cs'.length with hq1|hq1
      ·rw[yL hp1]at hp
       rw[yL hq1]at hq;exact hK p q y z hp hq he
      ·rw[yL hp1]at hp
       have hzm:=xy hq;rw[yR hq1]at hq;have hz:=xy hq;rw[yG.1 hz]at he;exact absurd he (o1 y (xy hp))
      ·rw[yL hq1]at hq
       rw[yR hp1]at hp;have hz:=xy hp;rw[yG.1 hz]at he;exact absurd he.symm (o1 z (xy hq))
      ·have h1:=(yN.1 hp).1
       have h2:=(yN.1 hq).1;rw[xY,yd]at h1 h2;omega
     ·rcases yO.1 hy with hy|hy
      ·exact hS y hy
      ·rw[yG.1 hy];exact⟨o2,o3,o4⟩
    |f=>
     obtain⟨o1,o2,o3⟩:=ok';obtain⟨h2,k2,f2,d2⟩:=bZ (m:=m+1) x'.wf d' ha' hK hS o1 o2;have dI:v=.func (.func 121) ⟨[pt A.bd]⟩ ⟨[]⟩:=dI;exact⟨h2,GO M' cs',[],_,by rw[dI,Cf];exact k2,f2,d2,o3,er,λi j y z h=>(by cases h),λy hy=>by cases hy⟩
   obtain⟨h2,M2,cs2,c2,k2,f2,d2,ok2,er2,hK2,hS2⟩:=step;have c0':iNe 0 0=IT:=B0 rfl;have a3:=Cc (i:=i) (h:=h2) (by omega);have hrun:∃e2,alB (call AC (m+4)) e' h'=.norm e2 h2/\J 0 e2=pt A.bs/\J 8 e2=dv/\J 9 e2=AI AT (vs.length:Int)/\J 10 e2=AI AT ((i+1:Nat):Int):=by
    unfold alB;simp only[sT,xT,sh,reduceIte,AK,AJ,t10,t9,c1',BA,t8,g1,AN,g2,CU,A4,k2,c0',BW,a3];exact⟨_,rfl,by simp[AG,t0,t8,t9]⟩
   obtain⟨e2,r1,r2,r3,r4,r5⟩:=hrun;exact⟨hlt,e2,h2,r1,M2,cs2,c2,Ga AFF,x'.trans f2,d2,by rw[ABq,ACJ,<- ea];rfl,ha'.one.1,ok2,er2,hK2,hS2,by omega,r2,r3,r4,r5⟩
  ·right
   have hie:i=ds.length:=by omega
   have c1':iLt (i:Int) (vs.length:Int)=IT:=Cz (by omega);have hrun:∃e2,alB (call AC (m+4)) e' h'=.exit 0 e2 h':=by
    unfold alB;simp only[sT,xT,sh,reduceIte,AK,AJ,t10,t9,c1'];exact⟨_,rfl⟩
   obtain⟨e2,r1⟩:=hrun;rw[r1];rw[hie,List.drop_length]at er;have er:G5 M [] ds=(M',cs'):=er;rw[er];exact⟨rfl,e2,h',c1,AFF,rfl,x',d',by rw[ea,hie]⟩
 obtain⟨e2,h2,c1,AFF,r1,r2,r3,r4⟩:=run;refine⟨h2,c1,AFF,?_,r2,r3,r4⟩;rw[pj rfl,rK,p1,me];simp only[A7,Ap,r1,A5,Ay];unfold alE;simp only[sT,xT,sh,reduceIte,lV0]
end
def DB(l:List Nat)(j:Nat):List Nat:=(l.drop (64*j)).take 64++xx (64 - ((l.drop (64*j)).take 64).length) 0
theorem C4(l:List Nat)(j:Nat):(DB l j).length=64:=by
 unfold DB;rw[xY,yn,yP];omega
theorem My{l:List Nat}(h:∀x∈l,x<256)(j:Nat):∀x∈DB l j,x<256:=λx hx=>by
 rcases yO.1 hx with hx|hx
 ·exact h x (zd (zJ hx))
 ·rw[AAi hx];decide
section
variable {F:AEh}{e:Env}{h h':Hp}{A:At}{bad m:Nat}{lv fv:xU}{ov:Bool}
theorem Hp.AE7.AKQ{v:xU}{l:List xU}(b:h.AE7 v l){n:Nat}(d:n<=l.length)(k:List xU->R):BM h 1 v n k=k (l.take n):=by
 rcases b with ⟨a,c⟩|⟨b,m,g,i,f,a,c,j,e⟩
 ·subst a;subst c
  obtain rfl:n=0:=by simpa using d
  rfl
 ·rw[a,c.src (by omega),<- e,ACV,AAb d]
theorem aS(d:h.Wf){x y:O}{r:Nat}{w:xU}{l:List Nat}(c:256<=r)(i:x e=.slice (BY ⟨r,0,By⟩) 64 64)(j:y e=w)(b:h.AE7 w (l.map bv))(R:h.Row r 0 (Bj.map bv)):
  ∃v',J8 1 x y F e h=.ok v' (h.wr r 0 ((l.take 64).map bv))/\over (Bj.map bv) 0 ((l.take 64).map bv)=(DB l 0).map bv:=by
 have k:(Bj.map bv).length=64:=rfl;have f:CD l.length 64<=(l.map bv).length:=by rw[xa,BU];omega
 have g:(l.map bv).take (CD l.length 64)=(l.take 64).map bv:=by
  rw[<- ACD,BU]
  congr 1
  rcases Nat.le_total l.length 64 with a|a
  ·rw[AAb a,yz,ze a]
  ·rw[Nat.min_eq_right a]
 refine⟨AI AT (CD l.length 64:Nat),?_,?_⟩
 ·show RN 1 (x e) (y e) h=_
  rw[i,j];unfold RN;have lv:=b.lenV;rw[xa]at lv;simp only[lv,Ao,b.AKQ f,g];rw[R.store d c (by rw[k,xa,yP];omega) (DD _)];rfl
 ·unfold over DB
  rw[List.take_zero,yT,xZ,yZ,ACa,yk,xa,<- AD4]
  congr 2
  show AAo _ (xx 64 0)=_;rw[List.drop_replicate]
theorem Q3:Bs .mt 0 [.slice By 0 0]=BY ua:=by kernel_rfl
theorem fk:Bs .mt 0 [AI AT 0]=BY zt3:=by kernel_rfl
theorem Jl(b:h.Wf){t:VT}{z v:xU}(k:Bs .mt 0 [z]=BY t)(a:cellsOf v=[v])(j:oneCell v=IN):
  ∃h',(∀(F:AEh) (e:Env),BN 1 t F e h=.ok (pt h.next) (h.push (.cells t 1 0)))/\AEn 1 (pt h.next) v (h.push (.cells t 1 0))=.ok AEl h'/\h.Ext h'/\h'.Row h.next 0 [v]/\h'.next=h.next+1/\h'.mark=h.mark:=by
 have R:=Hp.Row.alloc b k (show [z].length=1 from rfl);have d:h.Ext (h.push (.cells t 1 0)):=(Hp.Ext.refl b).push _;have f:0+(cellsOf v).length<=[z].length:=by rw[a];exact xW _
 have g:=R.AEn (n:=1) (off:=0) d.wf b.big (v:=v) (by rw[a];rfl) f (by
  rw[a];show(bif oneCell v then IN else IT)=IN;rw[j];rfl)
 have wr:=R.AEt d.wf f;rw[EW (by rw[a];rfl),a]at wr;rw[a]at g;have c:0+[v].length<=[z].length:=xW _;obtain⟨_,_,i,_⟩:=R.AFt c;exact⟨_,λF e=>BO b,g,R.AFC d (xW _) c,wr,R.AFP c,by rw[i];rfl⟩
theorem uX:BP Te.zero 1=[.nilFunc]:=by kernel_rfl
theorem Jy(c:h.Wf){g:O}{f:Nat}{a b:List xU}(d:g e=.func (.func f) ⟨a⟩ ⟨b⟩):Ab 1 (BP Te.zero 1) [(0,1,g)] F e h=.ok (.slice (BY ⟨h.next,0,By⟩) 1 1) (h.AEg 0 [.func (.func f) ⟨a⟩ ⟨b⟩]):=by
 rw[uX];exact Fk c d rfl rfl
theorem uv{i:Nat}(hi:i<=1000000):UT .i64 (AI AT ((64*i:Nat):Int)) (AI AT 64) h=.ok (AI AT (i:Int)) h:=by
 have:((64*i:Nat):Int).tdiv 64=(i:Int):=by
  show zZ ((64*i)/64)=_;rw[Nat.mul_div_cancel_left _ (by decide)];rfl
 rw[MJ (by omega),this,Bf (by omega)]
theorem uQ:wrS=BB (AY 0 (A3 wrB)) wrE:=rfl
theorem rJ:d96=iT:=rfl
def CZ(h:Hp)(A:At)(k:Nat)(v:xU)(b:List AFY):Prop:=∃vs,h.Own k 70 v vs/\vs.length=b.length/\∀(c:Nat) (d:xU) (e:AFY),vs[c]? =BY d->b[c]? =BY e->Iv h A (λa=>¬A.D a/\¬AE1 v a) d e
theorem jZ{b k:Nat}(a:∀b,A.D b->b<k)(c:k<=b):¬A.D b:=λh=>by have:=a b h;omega
theorem CZ.ext{k:Nat}{v:xU}{c:List AFY}(o:CZ h A k v c)(a:h.Wf)(x:h.Ext h'):CZ h' A k v c:=by
 obtain⟨vs,d,b,e⟩:=o;exact⟨vs,d.ext a x,b,λj m n f g=>(e j m n f g).AFq λb q p i _ l=>⟨l.ext a x,i⟩⟩
theorem CZ.same{k:Nat}{v:xU}{b:List AFY}(o:CZ h A k v b)(c:h'.bl=h.bl):CZ h' A k v b:=by
 obtain⟨vs,d,a,e⟩:=o;exact⟨vs,d.same c,a,λj m n f g=>(e j m n f g).AFq λa q p i _ l=>⟨l.same c,i⟩⟩
theorem CZ.snoc{h0:Hp}{k:Nat}{v w:xU}{l:List AFY}{f:Nat}{a b:List xU}(s:h0.Ext h)(hk:h0.next<=k)(E:k<=h.next)(o:CZ h A k v l)(F:w=.func (.func f) ⟨a⟩ ⟨b⟩){d:AFY}(D:Iv h A (λb=>¬A.D b/\¬AE1 v b) w d)(N:l.length<=1000):
  ∃h' v',DU 1 8 70 v (.slice (BY ⟨h.next,0,By⟩) 1 1) (h.AEg 0 [w])=.ok v' h'/\h0.Ext h'/\CZ h' A k v' (l++[d])/\h.next<=h'.next/\(∀b el c,¬AE1 v b->h.Row b el c->h'.Row b el c):=by
 obtain⟨vs,G,H,I⟩:=o;have e:=s.wf;have K:=s.AEg 0 [w];have n:=(Hp.Ext.refl e).AEg 0 [w];have J:oneCell w=IN:=by rw[F];rfl
 obtain⟨h',v',t,x,y,z,p⟩:=E7 (eb:=8) (en:=70) (k:=k) (u:=.slice (BY ⟨h.next,0,By⟩) 1 1) (ys:=[w]) K hk (Nat.le_succ_of_le E) (G.ext e n) (Nq e) (by simp) (by
  show(bif oneCell w then IN else IT)=IN;rw[J];rfl) (by simp only[yd];omega)
 have r:∀b el c,¬A.D b/\¬AE1 v b->(el=0\/el=6)->h.Row b el c->h'.Row b el c/\(¬A.D b/\¬AE1 v' b):=λb el c j _ m=>by
  have:=p b el c j.2 (m.ext e n);exact⟨this.1,j.1,this.2⟩
 refine⟨h',v',t,x,⟨vs++[w],y,by rw[xY,xY,H];rfl,λq M L g i=>?_⟩,by have:h'.next=h.next+1+1:=z;omega,λb el c j m=>(p b el c j (m.ext e n)).1⟩;rcases yM q vs.length with hi|hi
 ·rw[yL hi]at g
  rw[yL (by omega)]at i;exact(I q M L g i).AFq r
 ·rw[yR hi]at g
  rw[yR (by omega)]at i;have B:=yG.1 (xy g);have C:=yG.1 (xy i);rw[B,C];exact D.AFq r
theorem CZ.app{h0:Hp}{k I:Nat}{v n:xU}{m j:List AFY}(z:h0.Ext h)(hk:h0.next<=k)(G:k<=h.next)(o:CZ h A k v m)(J:CZ h A I n j)(W:0<j.length)(V:m.length+j.length<=1000):
  ∃h' v',DU 1 8 70 v n h=.ok v' h'/\h0.Ext h'/\CZ h' A k v' (m++j)/\h.next<=h'.next/\(∀b el a,(el=0\/el=6)->h.Row b el a->h'.Row b el a):=by
 obtain⟨vs,w,x,K⟩:=o;obtain⟨q,M,N,y⟩:=J;have O:=z.wf;have L:∀p∈q,oneCell p=IN:=λp H=>by
  obtain⟨l,hi⟩:=AAP.1 H;have U:=(yN.1 hi).1;exact bE (y l p _ hi (xc (by omega)))
 obtain⟨h',v',D,E,F,P,r⟩:=E7 (eb:=8) (en:=70) (k:=k) (u:=n) (ys:=q) z hk G w M.vals (by omega) (Qj L) (by omega);have t:∀b el a,(el=0\/el=6)->h.Row b el a->¬AE1 v b:=λb el a g c ⟨Y,X,R,d⟩=>by
  rcases w with ⟨e,f⟩|⟨Q,e,f,S,T⟩
  ·rw[e]at d;cases d
  ·rw[e]at d
   injection d with d _ _
   injection d with d
   injection d with d _ _
   rw[d]at f;exact FZ c f (by omega) rfl
 have s:∀b el a,¬A.D b->(el=0\/el=6)->h.Row b el a->h'.Row b el a/\(¬A.D b/\¬AE1 v' b):=λb el a i g c=>by
  have:=r b el a (t b el a g c) c;exact⟨this.1,i,this.2⟩
 refine⟨h',v',D,E,⟨vs++q,F,by rw[xY,xY,x,N],λl C B e f=>?_⟩,by omega,λb el a g c=>(r b el a (t b el a g c) c).1⟩;rcases yM l vs.length with hi|hi
 ·rw[yL hi]at e
  rw[yL (by omega)]at f;exact(K l C B e f).AFq λb el a i g c=>s b el a i.1 g c
 ·rw[yR hi]at e
  rw[yR (by omega),<- x]at f;exact(y _ C B e f).AFq λb el a i g c=>s b el a i.1 g c
theorem CZ.ends{k:Nat}{v:xU}{d:List AFY}(o:CZ h A k v d)(f:∀b,A.D b->b<k):∃vs,h.VS (λb=>¬A.D b) v vs/\vs.length=d.length/\∀(i:Nat) (w:xU) (x:AFY),vs[i]? =BY w->d[i]? =BY x->Kj h A w x:=by
 obtain⟨vs,j,l,m⟩:=o;refine⟨vs,?_,l,λi w x a c=>(m i w x a c).AFq λb q p g _ n=>⟨n,g.1⟩⟩;rcases j with ⟨a,c⟩|⟨b,a,c,e,r⟩
 ·exact .inl ⟨a,c⟩
 ·exact .inr ⟨b,0,_,_,vs,a,xW _,c,by omega,by rw[yk,yz],jZ f e⟩
theorem Ld(D:h.Wf)(R:h.Row A.bs 0 (slL A.bd A.tb lv fv bad ov))(hD:∀b,A.D b->b<h.next){sct:Nat}(hs:sct<=100000){u:xU}{l:List Nat}{ku:Nat}(a9:Mk h ku u l)(hl:l.length<=6400):
  ∃h' v,call AC (m+1) 96 [pt A.bs,AI AT (sct:Int),u] h=.ok v h'/\h.Ext h'/\CZ h' A h.next v ((zP ((l.length+63)/64)).map (λj=>AFY.w (sct+j) (DB l j))++[.f]):=by
 have bx:=λ(F:AEh) (e:Env) (he:J 0 e=pt A.bs)=>(show CV (J 0) F e h=.ok (pt h.next) (h.AEg 0 [pt A.bs])by rw[DN,he,DM D];rfl)
 have H:=(Hp.Ext.refl D).AEg 0 [pt A.bs];have R3:=Hp.Row.new D 0 [pt A.bs];have n1:(h.AEg 0 [pt A.bs]).next=h.next+1:=rfl;generalize h.AEg 0 [pt A.bs]=p at bx H R3 n1;have d2:¬A.D h.next:=jZ hD (xW _);have c7:∃s,iT (call AC m) (Au e0 0 [pt A.bs,AI AT (sct:Int),u]) h=wrS (call AC m) s p/\J 1 s=AI AT (sct:Int)/\J 2 s=u/\J 3 s=pt h.next/\J 7 s=.slice By 0 0/\J 8 s=AI AT ((64 * 0:Nat):Int):=by
  unfold iT;simp only[iN,xV,sT,xT,sh,reduceIte,bx];exact⟨_,rfl,by simp[AG]⟩
 obtain⟨s,p1,s1,s2,s3,s7,s8⟩:=c7;have c8:∃c h' v,A3 wrB (call AC m) s p=.exit 0 c h'/\h.Ext h'/\CZ h' A p.next v ((zP ((l.length+63)/64)).map λj=>AFY.w (sct+j) (DB l j))/\h'.Row h.next 0 [pt A.bs]/\p.next<=h'.next/\J 3 c=pt h.next/\J 7 c=v:=by
  refine Bd (I:=λi c h'=>∃v,h.Ext h'/\CZ h' A p.next v ((zP i).map λj=>AFY.w (sct+j) (DB l j))/\h'.Row h.next 0 [pt A.bs]/\p.next<=h'.next/\i<=(l.length+63)/64/\J 1 c=AI AT (sct:Int)/\J 2 c=u/\J 3 c=pt h.next/\J 7 c=v/\J 8 c=AI AT ((64*i:Nat):Int))
   (Q:=λx=>∃c h' v,x=.exit 0 c h'/\h.Ext h'/\CZ h' A p.next v ((zP ((l.length+63)/64)).map λj=>AFY.w (sct+j) (DB l j))/\h'.Row h.next 0 [pt A.bs]/\p.next<=h'.next/\J 3 c=pt h.next/\J 7 c=v) ((l.length+63)/64) (by omega) (λi c h' ⟨v,G,L,R',c3,hi,t1,t2,t3,t7,t8⟩=>?_)
   ⟨_,H,⟨[],.inl ⟨rfl,rfl⟩,rfl,λi w x h=>by cases h⟩,R3,xW _,yH _,s1,s2,s3,s7,s8⟩
  have Ul:=a9.vals.bl h';have t:=G.wf;by_cases c2:64*i<l.length
  ·left
   have Z:iLt ((64*i:Nat):Int) (l.length:Int)=IN:=EU c2;have mk:∀(F:AEh) (e:Env),Hi 1 ty5.zero (W (AI AT 64)) (W (AI AT 64)) F e h'=.ok (.slice (BY ⟨h'.next,0,By⟩) 64 64) (h'.AEg 0 (Bj.map bv)):=λF e=>Qf (F:=F) (e:=e) t (x:=W (AI AT 64)) (y:=W (AI AT 64)) (N:=64) rfl rfl (by omega)
   have U:=(Hp.Ext.refl t).AEg 0 (Bj.map bv);have Rz:=Hp.Row.new t 0 (Bj.map bv);have n2:(h'.AEg 0 (Bj.map bv)).next=h'.next+1:=rfl;generalize h'.AEg 0 (Bj.map bv)=k at mk U Rz n2;obtain⟨n,al,st,y3,R9,n3,_⟩:=Jl U.wf Q3 (v:=.slice (BY ⟨h'.next,0,By⟩) 64 64) rfl rfl;have B:=U.trans y3;have b5:=Rz.ext U.wf y3;have x3:=G.trans B;have b4:n.marked.Row k.next 0 [.slice (BY ⟨h'.next,0,By⟩) 64 64]:=R9.same rfl;have l9:AEi ⟨k.next,0,By⟩ n.marked=.ok (.slice (BY ⟨h'.next,0,By⟩) 64 64) n.marked:=b4.AEi (off:=0) (by show 0<1;omega);obtain⟨w,ct,Vw⟩:=RP (((a9.ext D x3).same (h':=n.marked) rfl)) (m:=64 * i) (by omega);have a7:=t.big;have b6:∃q,(∀(F:AEh) (e:Env),J 18 e=.slice (BY ⟨h'.next,0,By⟩) 64 64->J 21 e=w->∃T,Ac .free (J8 1 (J 18) (J 21)) F e n.marked=.ok T q)/\h'.Ext q/\q.Row h'.next 0 ((DB (l.drop (64 * i)) 0).map bv)/\q.Row k.next 0 [.slice (BY ⟨h'.next,0,By⟩) 64 64]/\n.next<=q.next:=by
    have C:n.marked.quiet.Row h'.next 0 (Bj.map bv):=b5.same rfl;have O:0+(((l.drop (64*i)).take 64).map bv).length<=(Bj.map bv).length:=by
     rw[xa,yP];show _<=64;omega
    have key:=λ(F:AEh) (e:Env) (V:J 18 e=.slice (BY ⟨h'.next,0,By⟩) 64 64) (X:J 21 e=w)=>aS (F:=F) (e:=e) (h:=n.marked.quiet) B.wf.marked.quiet a7 V X (Vw.same (h':=n.marked.quiet) rfl) C
    have wr:=C.AEt B.wf.marked.quiet O;have wx:=C.AFC (h0:=h') (B.marked.quiet) (xW _) O;have wo:=C.AFw B.wf.marked.quiet O (R9.same (h':=n.marked.quiet) rfl) (by omega);have wn:=C.AFP O;have ho:over (Bj.map bv) 0 (((l.drop (64*i)).take 64).map bv)=(DB (l.drop (64*i)) 0).map bv:=by
     have hk:=aS (F:=call AC m) (e:=Env.set 18 (.slice (BY ⟨h'.next,0,By⟩) 64 64) (Env.set 21 w e0)) (h:=n.marked.quiet) (x:=J 18) (y:=J 21) B.wf.marked.quiet a7 (by simp[AG]) (by simp[AG]) (Vw.same (h':=n.marked.quiet) rfl) C;obtain⟨_,_,k⟩:=hk;exact k
    rw[ho]at wr;generalize n.marked.quiet.wr h'.next 0 (((l.drop (64 * i)).take 64).map bv)=b0 at key wr wx wo wn;refine⟨n.marked.back b0,λF e V X=>?_,Hp.Ext.AFp B.marked wx,wr.same rfl,wo.same rfl,by show _<=b0.next;rw[wn];exact xW _⟩;obtain⟨T,k1,_⟩:=key F e V X;exact⟨T,BF k1⟩
   obtain⟨q,cp,K,Rc,b3,n4⟩:=b6;have x4:=G.trans K;have b8:=uv (h:=q) (i:=i) (by omega);have ad:=Vt (h:=q) (a:=sct) (b:=i) (by omega);obtain⟨h5,al5,c9,y5,b2,n5,_⟩:=Jl K.wf fk (v:=AI AT ((sct+i:Nat):Int)) rfl rfl;have a6:=K.trans y5;have x5:=G.trans a6;have b9:=(L.ext t a6);have a4:∀b,h'.next<=b->¬AE1 v b:=λb hb r=>by
    obtain⟨vs,o1,_⟩:=L;rcases o1 with ⟨p,_⟩|⟨b',p,k,_⟩
    ·rw[p]at r;exact Jf r
    ·have:=k.lt t
     rw[p]at r;obtain⟨c6,nn,Y,o⟩:=r;injection o with o _ _
     injection o with o
     injection o with o _ _
     omega
   have c4:=H.next;have P:∀b,h.next<=b->¬A.D b:=λb hb=>jZ hD hb
   have b1:¬AE1 v h.next:=λr=>by
    obtain⟨vs,o1,_⟩:=L;rcases o1 with ⟨a0,_⟩|⟨b',a0,d0,d1,_⟩
    ·rw[a0]at r;exact Jf r
    ·rw[a0]at r
     obtain⟨c6,nn,Y,o⟩:=r;injection o with o _ _
     injection o with o
     injection o with o _ _
     omega
   have a8:=R'.ext t a6;have ds:Iv h5 A (λb=>¬A.D b/\¬AE1 v b) (.func (.func 126) ⟨[]⟩ ⟨[pt h.next,pt q.next,pt k.next]⟩) (.w (sct+i) (DB l i)):=by
    refine .inl ⟨h.next,q.next,k.next,.slice (BY ⟨h'.next,0,By⟩) 64 64,rfl,a8,b2,b3.ext K.wf y5,.inr ⟨h'.next,0,64,0,_,by rw[xa,C4],by rw[xa,C4];exact xW _,Rc.ext K.wf y5,?_,?_,⟨P _ (by omega),a4 _ (xW _)⟩,.inl rfl⟩,⟨P _ (xW _),b1⟩,⟨P _ (by omega),a4 _ (by omega)⟩,⟨P _ (by omega),a4 _ (by omega)⟩⟩
    ·rw[xa,xa,C4,C4];exact xW _
    ·have:DB (l.drop (64*i)) 0=DB l i:=by unfold DB;rw[ACa,yk]
     rw[this,yk,yz]
   obtain⟨z,S,k6,x6,M,n6,c5⟩:=b9.snoc (f:=126) x5 (yS c4 (xW _)) (by omega) rfl ds (by rw[xa,ABh];omega);have er:(zP (i+1)).map (λj=>AFY.w (sct+j) (DB l j))=(zP i).map (λj=>AFY.w (sct+j) (DB l j))++[AFY.w (sct+i) (DB l i)]:=by rw[ABq,yZ];rfl
   rw[<- er]at M;have fs:=λ(F:AEh) (e:Env) (a:J 28 e=.func (.func 126) ⟨[]⟩ ⟨[pt h.next,pt q.next,pt k.next]⟩)=>Jy (F:=F) (e:=e) x5.wf a
   have a3:GC .i64 (AI AT ((64*i:Nat):Int)) (AI AT 64) z=.ok (AI AT ((64*(i+1):Nat):Int)) z:=by
    have:=Vt (h:=z) (a:=64*i) (b:=64) (by omega);rw[show 64*i+64=64*(i+1)by omega]at this;exact this
   have a5:∃g,wrB (call AC m) c h'=.norm g z/\J 1 g=AI AT (sct:Int)/\J 2 g=u/\J 3 g=pt h.next/\J 7 g=S/\J 8 g=AI AT ((64*(i+1):Nat):Int):=by
    obtain⟨T,cp⟩:=cp (call AC m) (Env.set 21 w (Env.set 18 (.slice (BY ⟨h'.next,0,By⟩) 64 64) (Env.set 9 (pt k.next) (Env.set 17 (.slice (BY ⟨h'.next,0,By⟩) 64 64) (Env.set 14 (.bool IN) (Env.set 13 (AI AT (l.length:Int)) c)))))) (by simp[AG]) (by simp[AG]);unfold wrB;simp only[sT,xT,sh,reduceIte,AX,t2,Ul,AK,AJ,t8,Z,mk,al,AW,st,Aw,AN,AQ,l9];rw[ct _ _ _ _ (by simp[AG,t2]) (by simp[AG,t8])];simp only[sT,xT,sh,reduceIte,cp,J9,t8,b8,BW,t1,ad,al5,AW,c9,Dx,AV,A4,t3,fs,Bb,t7,k6,a3];exact⟨_,rfl,by simp[AG,t1,t2,t3]⟩
   obtain⟨g,E,r2,r3,r4,r5,r6⟩:=a5;exact⟨by omega,g,z,E,S,x6,M,c5 _ _ _ b1 a8,by omega,by omega,r2,r3,r4,r5,r6⟩
  ·right
   have c0:i=(l.length+63)/64:=by omega
   have Z:iLt ((64*i:Nat):Int) (l.length:Int)=IT:=Cz (by omega);have a5:∃g,wrB (call AC m) c h'=.exit 0 g h'/\J 3 g=pt h.next/\J 7 g=v:=by
    unfold wrB;simp only[sT,xT,sh,reduceIte,AX,t2,Ul,AK,AJ,t8,Z];exact⟨_,rfl,by simp[AG,t3,t7]⟩
   obtain⟨g,E,r2,r3⟩:=a5;rw[E];exact⟨rfl,g,h',v,rfl,G,by rw[<- c0];exact L,R',c3,r2,r3⟩
 obtain⟨g,k,v2,E,x2,b7,R2,n2,t3,t7⟩:=c8;have l3:AEi ⟨h.next,0,By⟩ k=.ok (pt A.bs) k:=R2.AEi (off:=0) (by show 0<1;omega);obtain⟨l0,_⟩:=BK (R.ext D x2);obtain⟨z,S,k6,x6,M,n6,_⟩:=b7.snoc (f:=121) (d:=.f) x2 H.next n2 (w:=.func (.func 121) ⟨[pt A.bd]⟩ ⟨[]⟩) rfl rfl (by rw[xa,ABh];omega);have fs:=λ(F:AEh) (e:Env) (a:J 36 e=.func (.func 121) ⟨[pt A.bd]⟩ ⟨[]⟩)=>Jy (F:=F) (e:=e) x2.wf a
 refine⟨z,S,?_,x6,?_⟩
 ·rw[ph rfl,rJ,p1,uQ]
  simp only[A7,Ap,E,A5,Ay];unfold wrE;simp only[sT,xT,sh,reduceIte,AN,AQ,t3,l3,Ax,Am,AH,AO,xZ,l0,Dx,AV,A4,fs,Bb,t7,k6,lV0]
 ·obtain⟨vs,a,b,Y⟩:=M
  exact⟨vs,a.le H.next,b,Y⟩
end
section
variable {F:AEh}{e:Env}{h h':Hp}{A:At}{T M:List Nat}{c0 bad m:Nat}{arm:Int}{ks:List Kt}{fr:List Nat}{lv fv:xU}{ov:Bool}
theorem Hx:∀(n k:Nat) (a:Int),CL a (n+k)->CL ((zP n).foldl (λa _=>Ga a) a) k
 |0,k,a,h=>by rw[xZ]at h;exact h
 |n+1,k,a,h=>by
  rw[ABq,ACJ];have b:=Hx n (k+1) a (by rw[show n+(k+1)=n+1+k by omega];exact h);exact b.one.1
theorem gk{x y:O}{K:C}{v:xU}{b r:Nat}(f:x e=v)(d:v=.slice By 0 0\/∃o n c,v=.slice (BY ⟨b,o,By⟩) n c)(g:y e=pt r)(a:v=.slice By 0 0\/r≠b):Ci x [y] K F e h=K F e h:=by
 unfold Ci;rw[f];rcases d with rfl|⟨o,n,c,rfl⟩
 ·rfl
 ·rcases a with a|a
  ·cases a
  ·show(bif Ch b e [y]then K F e h else .no)=_
   have:Ch b e [y]=IN:=by
    unfold Ch;rw[g];show(bif yA r b then IT else Ch b e [])=IN;have i:yA r b=IT:=by
     cases e:yA r b
     ·rfl
     ·exact absurd (A0.1 e) a
    rw[i];rfl
   rw[this];rfl
theorem CZ.atB{h0:Hp}{k bw:Nat}{v w:xU}{p:List AFY}{f:Nat}{a b:List xU}(q:h0.Ext h)(hk:h0.next<=k)(b0:k<=h.next)(o:CZ h A k v p)(R:w=.func (.func f) ⟨a⟩ ⟨b⟩)(G:h.Row bw 0 [w]){d:AFY}(Q:Iv h A (λb=>¬A.D b/\¬AE1 v b) w d)(hl:p.length<=1000):
  ∃h' v',(∀(F:AEh) (e:Env) (x y:O),x e=v->y e=.slice (BY ⟨bw,0,By⟩) 1 1->JQ x (Bk 1 8 70 x y) F e h=.ok v' h')/\h0.Ext h'/\CZ h' A k v' (p++[d])/\h.next<=h'.next:=by
 obtain⟨vs,C,D,V⟩:=o;have r:=q.wf;have W:oneCell w=IN:=by rw[R];rfl
 have M:h.quiet.Cl (AE1 v) 70 v vs:=by
  rcases C with ⟨c,i⟩|⟨b,c,i,P,u⟩
  ·exact .inl ⟨c,i⟩
  ·exact .inr ⟨b,_,c,i.same rfl,.inl rfl,⟨0,_,_,c⟩,u⟩
 have U:∀b,AE1 v b->h0.next<=b:=λb n=>by
  obtain⟨b3,b2,a0,g⟩:=n;rcases C with ⟨c,i⟩|⟨b',c,i,P,u⟩
  ·rw[c]at g;cases g
  ·rw[c]at g
   injection g with g _ _
   injection g with g
   injection g with g _ _
   omega
 obtain⟨m,b5,H,I,J,s,t,Z,K,a8,L⟩:=aL (eb:=8) (en:=70) q.quiet M U (G.same (h':=h.quiet) rfl) W (by rw[D];omega) (by omega);have b1:¬AE1 (.slice (BY ⟨b5,0,By⟩) (vs.length+1) (vs.length+1)) b5->False:=λh=>h ⟨0,_,_,rfl⟩
 have s:b5=h.next:=s;have B:∀b j l,¬A.D b/\¬AE1 v b->(j=0\/j=6)->h.Row b j l->(h.back m).Row b j l/\(¬A.D b/\¬AE1 (.slice (BY ⟨b5,0,By⟩) (vs.length+1) (vs.length+1)) b):=λb j l n _ E=>⟨(K b j l n.2 (E.same rfl)).same rfl,n.1,ME (by have:=E.lt r;omega)⟩
 have t:m.next=h.next+1:=t;have Y:=r.big;refine⟨h.back m,.slice (BY ⟨b5,0,By⟩) (vs.length+1) (vs.length+1),λF e x y S T=>Vy S T H (L rfl rfl h rfl),q.AFp I,⟨vs++[w],.inr ⟨b5,by rw[xY];rfl,J.same rfl,?_,by omega⟩,by rw[xY,xY,D];rfl,λz X y c i=>?_⟩,by show h.next<=m.next;omega⟩
 ·omega
 ·rcases yM z vs.length with hi|hi
  ·rw[yL hi]at c
   rw[yL (by omega)]at i;exact(V z X y c i).AFq B
  ·rw[yR hi]at c
   rw[yR (by omega)]at i;have g:=yG.1 (xy c);have N:=yG.1 (xy i);rw[g,N];exact Q.AFq B
theorem tg:skS=BB (AY 0 (A3 skB)) skE:=rfl
theorem UR:d77=YY:=rfl
def IK(M:List Nat)(ps:List Nat):List Nat:=GO M (ps.map λa=>(a*3,Bj))
theorem TN:∀(ps:List Nat) (M:List Nat) (cs:List (Nat×List Nat)),G5 M cs (ps.map (λp=>AFY.w (p*3) Bj)++[.f])=(GO M (cs++ps.map λp=>(p*3,Bj)),[])
 |[],M,cs=>by rw[AED,AED,yF];rfl
 |p::ps,M,cs=>by
  show G5 M (cs++[(p*3,Bj)]) (ps.map (λp=>AFY.w (p*3) Bj)++[.f])=_;rw[TN ps,yD];rfl
theorem dQ{n:Nat}:∀(ps:List Nat) (cs:List (Nat×List Nat)),(cs≠[]\/ps≠[])->cs.length+ps.length<=60->(∀p∈ps,3*p+3<=n/\∀x∈cs,x.1≠p*3)->ps.Nodup->Fb n cs (ps.map (λp=>AFY.w (p*3) Bj)++[.f])
 |[],cs,e,b,_,_=>⟨e.elim (λh=>h) λh=>absurd rfl h,by simpa using b,OF⟩
 |p::ps,cs,e,b,c,f=>by
  obtain⟨j,g⟩:=c p xp;rw[xh]at b;refine⟨g,by omega,rfl,λx hx=>by rw[AAi hx];decide,dQ ps _ (.inl (by simp)) (by rw[xY];simp only[yd];omega) (λa d=>⟨(c a (xn _ d)).1,λx hx=>?_⟩) (zm.1 f).2⟩;rcases yO.1 hx with hx|hx
  ·exact(c a (xn _ d)).2 x hx
  ·rw[yG.1 hx]
   show p*3≠a*3;intro i;have:p=a:=by omega
   exact(zm.1 f).1 (this ▸ d)
theorem Sl.AHJ(s:Sl h A T M c0 arm ks fr lv fv bad ov)(a:h.Wf):∀b,A.D b->b<h.next:=λb f=>by
 obtain⟨c,d,e⟩:=s.dk.lt a;rcases f with rfl|rfl|rfl|rfl
 ·exact s.row.lt a
 ·exact c
 ·exact d
 ·exact e
theorem Sl.nK(s:Sl h A T M c0 arm ks fr lv fv bad ov):¬A.K A.bs:=by
 obtain⟨a,b,c,_⟩:=s.ne;rintro (h|h|h)<;>contradiction
theorem Pj(r:h.Wf)(s:Sl h A T M c0 arm ks fr lv fv bad ov){ps:List Nat}{pv:xU}(a7:h.AE7 pv (ints .i64 (ps.map zZ)))(hp:∀p∈ps,3*p+3<=A.n)(c2:ps.Nodup)(hl:ps.length<=50){k:Nat}(ha:CL arm (ps.length+1+k)):
  ∃h' n a6,call AC (m+6) 77 [pt A.bs,pv] h=.ok (AI AT 0) h'/\Fx A.K h h'/\Sl h' A T (IK M ps) n a6 ks fr lv fv bad ov/\CL a6 k:=by
 have ln:∀X:Hp,AFB pv X=.ok (AI AT (ps.length:Int)) X:=λX=>by
  have:=a7.shape;obtain⟨y,b6,rfl⟩:=this;rw[show(ints .i64 (ps.map zZ)).length=ps.length by simp[ints]];rfl
 have W:=λ(F:AEh) (e:Env) (he:J 0 e=pt A.bs)=>(show CV (J 0) F e h=.ok (pt h.next) (h.AEg 0 [pt A.bs])by rw[DN,he,DM r];rfl)
 have x:=(Hp.Ext.refl r).AEg 0 [pt A.bs];have R2:=Hp.Row.new r 0 [pt A.bs];have n1:(h.AEg 0 [pt A.bs]).next=h.next+1:=rfl;generalize h.AEg 0 [pt A.bs]=l at W x R2 n1;have hD:=s.AHJ r;have d0:A.n<=65536:=s.dk.n1.2;by_cases Y:ps=[]
 ·subst Y
  have n:iEq ((([]:List Nat).length:Nat):Int) 0=IN:=CP rfl;refine⟨l,c0,arm,?_,.of x,s.ext r x,ha.le (by omega)⟩;rw[UD rfl,UR];unfold YY;simp only[iN,xV,sT,xT,sh,reduceIte,W,AX,ln,AK,AJ,n,lV0]
 have d1:0<ps.length:=by
  cases ps with
  |nil=>exact absurd rfl Y
  |cons _ _=>exact ABE _
 have n:iEq (ps.length:Int) 0=IT:=CF (by omega);have c6:∃t,YY (call AC (m+5)) (Au e0 0 [pt A.bs,pv]) h=skS (call AC (m+5)) t l/\J 2 t=pt h.next/\J 5 t=.slice By 0 0/\J 11 t=pv/\J 12 t=AI AT (ps.length:Int)/\J 13 t=AI AT ((0:Nat):Int):=by
  unfold YY;simp only[iN,xV,sT,xT,sh,reduceIte,W,AX,ln,AK,AJ,n];exact⟨_,rfl,by simp[AG]⟩
 obtain⟨t,p1,s2,s5,s11,s12,s13⟩:=c6;have c8:∃c h' v,A3 skB (call AC (m+5)) t l=.exit 0 c h'/\h.Ext h'/\CZ h' A l.next v (ps.map λp=>AFY.w (p*3) Bj)/\h'.Row h.next 0 [pt A.bs]/\l.next<=h'.next/\J 2 c=pt h.next/\J 5 c=v:=by
  refine Bd (I:=λi c h'=>∃v,h.Ext h'/\CZ h' A l.next v ((ps.take i).map λp=>AFY.w (p*3) Bj)/\h'.Row h.next 0 [pt A.bs]/\l.next<=h'.next/\i<=ps.length/\J 2 c=pt h.next/\J 5 c=v/\J 11 c=pv/\J 12 c=AI AT (ps.length:Int)/\J 13 c=AI AT (i:Int))
   (Q:=λE=>∃c h' v,E=.exit 0 c h'/\h.Ext h'/\CZ h' A l.next v (ps.map λp=>AFY.w (p*3) Bj)/\h'.Row h.next 0 [pt A.bs]/\l.next<=h'.next/\J 2 c=pt h.next/\J 5 c=v) ps.length (by omega) (λi c h' ⟨v,G,N,V,b9,hi,t2,t5,t11,t12,t13⟩=>?_)
   ⟨_,x,⟨[],.inl ⟨rfl,rfl⟩,rfl,λi d3 E h=>by cases h⟩,R2,xW _,yH _,s2,s5,s11,s12,s13⟩
  have B:=G.wf;by_cases O:i<ps.length
  ·left
   have n:=EU O;obtain⟨p,a0⟩:∃p,ps[i]? =BY p:=⟨_,xc O⟩;have c3:=xy a0;obtain⟨y,g1,g2⟩:=(a7.ext r G).at (i:=i) (by simp[ints];exact O);have g2:I7 (.pointer (BY y)) h'=.ok (AI AT (p:Int)) h':=by
    rw[g2];have:(ints .i64 (ps.map zZ)).getD i AEl=AI AT (p:Int):=by
     rw[xe];simp[ints,a0]
    rw[this]
   obtain⟨a,al,st,S,R7,n2,_⟩:=Jl B fk (v:=AI AT (p:Int)) rfl rfl;have w:=G.trans S;have b2:∀b,h.next<=b->¬A.D b:=λb j=>jZ hD j
   have a5:∀b,AE1 v b->l.next<=b/\b<h'.next:=λb j=>by
    obtain⟨vs,o1,_⟩:=N;obtain⟨d2,nn,b6,q⟩:=j;rcases o1 with ⟨u,_⟩|⟨b',u,b1,b8,_⟩
    ·rw[u]at q;cases q
    ·rw[u]at q
     have:=b1.lt B;injection q with q _ _
     injection q with q
     injection q with q _ _
     omega
   have ds:Iv a A (λb=>¬A.D b/\¬AE1 v b) (.func (.func 119) ⟨[]⟩ ⟨[pt h.next,pt h'.next]⟩) (.w (p*3) Bj):=.inr ⟨h.next,h'.next,p,rfl,V.ext B S,R7,rfl,by have:=hp p c3;omega,rfl,⟨b2 _ (xW _),λj=>by have:=a5 _ j;omega⟩,⟨b2 _ (by have:=G.next;omega),λj=>by have:=a5 _ j;omega⟩⟩;obtain⟨z,v3,k3,x3,a9,n3,c4⟩:=(N.ext B S).snoc (f:=119) w x.next (by omega) rfl ds (by rw[xa,yP];omega);have er:(ps.take (i+1)).map (λp=>AFY.w (p*3) Bj)=(ps.take i).map (λp=>AFY.w (p*3) Bj)++[AFY.w (p*3) Bj]:=by
    rw[List.take_add_one,a0,yZ];rfl
   rw[<- er]at a9;have fs:=λ(F:AEh) (e:Env) (y:J 18 e=.func (.func 119) ⟨[]⟩ ⟨[pt h.next,pt h'.next]⟩)=>Jy (F:=F) (e:=e) w.wf y
   have a3:=Cc (i:=i) (h:=z) (by omega);have a4:∃g,skB (call AC (m+5)) c h'=.norm g z/\J 2 g=pt h.next/\J 5 g=v3/\J 11 g=pv/\J 12 g=AI AT (ps.length:Int)/\J 13 g=AI AT ((i+1:Nat):Int):=by
    unfold skB;simp only[sT,xT,sh,reduceIte,AK,AJ,t13,t12,n,BA,t11,g1,AN,g2,al,AW,st,Dx,AV,A4,t2,fs,Bb,t5,k3,BW,a3];exact⟨_,rfl,by simp[AG,t2,t11,t12]⟩
   obtain⟨g,D,r2,r3,r4,r5,r6⟩:=a4;exact⟨O,g,z,D,v3,x3,a9,c4 _ _ _ (λj=>by have:=a5 _ j;omega) (V.ext B S),by omega,by omega,r2,r3,r4,r5,r6⟩
  ·right
   have n:=Cz (show ps.length<=i by omega);have a4:∃g,skB (call AC (m+5)) c h'=.exit 0 g h'/\J 2 g=pt h.next/\J 5 g=v:=by
    unfold skB;simp only[sT,xT,sh,reduceIte,AK,AJ,t13,t12,n];exact⟨_,rfl,by simp[AG,t2,t5]⟩
   obtain⟨g,D,r2,r3⟩:=a4;rw[D];rw[ze (by omega)]at N;exact⟨rfl,g,h',v,rfl,G,N,V,b9,r2,r3⟩
 obtain⟨g,a,v2,D,w,a8,b4,n2,t2,t5⟩:=c8;have P:=w.marked;have b5:a.marked.Row h.next 0 [pt A.bs]:=b4.same rfl;have l2:AEi ⟨h.next,0,By⟩ a.marked=.ok (pt A.bs) a.marked:=b5.AEi (off:=0) (by show 0<1;omega);obtain⟨l0,_⟩:=BK (s.row.ext r P);have qs:∀(F:AEh) (e:Env),J 28 e=.func (.func 121) ⟨[pt A.bd]⟩ ⟨[]⟩->Ac .AEv (Ab 1 (BP Te.zero 1) [(0,1,J 28)]) F e a.marked=.ok (.slice (BY ⟨a.next,0,By⟩) 1 1) (a.marked.back (a.marked.quiet.AEg 0 [.func (.func 121) ⟨[pt A.bd]⟩ ⟨[]⟩])):=λF e he=>Cq (Jy P.wf.quiet he) ((Hp.Ext.refl P.wf.quiet).AEg _ _) (xW _)
 have U:a.Ext (a.marked.back (a.marked.quiet.AEg 0 [.func (.func 121) ⟨[pt A.bd]⟩ ⟨[]⟩])):=Hp.Ext.AFp (Hp.Ext.refl w.wf).marked ((Hp.Ext.refl w.wf).marked.quiet.AEg _ _);have Rw:(a.marked.back (a.marked.quiet.AEg 0 [.func (.func 121) ⟨[pt A.bd]⟩ ⟨[]⟩])).Row a.next 0 [.func (.func 121) ⟨[pt A.bd]⟩ ⟨[]⟩]:=(Hp.Row.new P.wf.quiet 0 [.func (.func 121) ⟨[pt A.bd]⟩ ⟨[]⟩]).same rfl;generalize a.marked.back (a.marked.quiet.AEg 0 [.func (.func 121) ⟨[pt A.bd]⟩ ⟨[]⟩])=z at qs U Rw;have x3:=w.trans U;obtain⟨o,v4,k4,R,b7,n4⟩:=(a8.ext w.wf U).atB (f:=121) (d:=.f) x3 x.next (yS n2 U.next) rfl Rw rfl (by rw[xa];omega);have ck:∀(K:C) (F:AEh) (e:Env),J 5 e=v2->J 2 e=pt h.next->Ci (J 5) [J 2] K F e z=K F e z:=λK F e H L=>by
  obtain⟨vs,o1,_⟩:=a8;rcases o1 with ⟨u,_⟩|⟨b',u,b1,b8,_⟩
  ·exact gk (b:=0) H (.inl u) L (.inl u)
  ·exact gk (b:=b') H (.inr ⟨_,_,_,u⟩) L (.inr (by omega))
 have s4:=s.ext r R;obtain⟨vs,w1,w2,w3⟩:=b7.ends λb j=>by have:=hD b j;have:=x.next;omega
 obtain⟨Z,c5,b3,k5,f5,d5,ea⟩:=To (m:=m) R.wf.quiet (s4.row.same (h':=o.quiet) rfl) s.nK (s4.dk.same (h':=o.quiet) rfl) (w1.same (h':=o.quiet) rfl) w2 (λi v E y b=>(w3 i v E y b).AFq λb el c9 j _ c7=>⟨c7.same rfl,j⟩) (dQ ps [] (.inr Y) (by simp only[yU];omega) (λp hq=>⟨hp p hq,λE hx=>by cases hx⟩) c2)
  (by rw[xY,xa];exact ha.le (by show ps.length+1<=_;omega)) (by rw[xY,xa];show ps.length+1<=_;omega)
 rw[TN]at d5;have q5:∀e:Env,J 22 e=pt A.bs->J 30 e=v4->Ac .free (AS 98 [J 22,J 30]) (call AC (m+5)) e o=.ok (AI AT 0) (o.back Z):=λe H L=>by
  refine BF ?_;rw[BX,AV,AV,A4,H,L];exact k5
 have b0:Fx A.K o (o.back Z):=(f5.from (h:=o) rfl rfl).same rfl rfl;refine⟨o.back Z,c5,b3,?_,(Fx.of R).trans b0,((s4.sc.fx R.wf b0).sl (d5.same rfl)),?_⟩
 ·rw[UD rfl,UR,p1,tg]
  simp only[A7,Ap,D,A5,Ay];unfold skE;simp only[sT,xT,sh,reduceIte,Aw,AN,AQ,t2,l2,Ax,Am,AH,AO,xZ,l0,Dx,AV,A4,qs];rw[ck _ _ _ (by simp[AG,t5]) (by simp[AG,t2])];simp only[sT,xT,sh,reduceIte];rw[k4 _ _ _ _ (by simp[AG,t5]) (by simp[AG])];simp only[sT,xT,sh,reduceIte,q5,lV0]
 ·rw[ea,xY,xa]
  exact Hx _ k arm ha
end
def Fu(P:Kt->Bool):Nat->List Kt->Int
 |_,[]=> -1
 |i,a::b=>if P a=IN then(i:Int)else Fu P (i+1) b
theorem QN(P:Kt->Bool):∀(l:List Kt) (i:Nat),(l.any P=IT/\Fu P i l= -1)\/(l.any P=IN/\∃j k,l[j]? =BY k/\P k=IN/\Fu P i l=((i+j:Nat):Int))
 |[],i=>.inl ⟨rfl,rfl⟩
 |k::l,i=>by
  unfold Fu;by_cases a:P k=IN
  ·rw[If a]
   exact .inr ⟨by rw[ACj,a];rfl,0,k,rfl,a,rfl⟩
  ·rw[No a]
   have f:P k=IT:=by simpa using a
   rcases QN P l (i+1)with ⟨b,c⟩|⟨b,j,g,c,d,e⟩
   ·exact .inl ⟨by rw[ACj,f,b];rfl,c⟩
   ·exact .inr ⟨by rw[ACj,b,Bool.or_true],j+1,g,by rw[zD];exact c,d,by rw[e];congr 1;omega⟩
section
variable {F:AEh}{e:Env}{h h':Hp}{S:Nat->Prop}{A:At}{bad m:Nat}{ks:List Kt}{v lv fv:xU}{ov:Bool}
theorem cL:kiS=BB (AY 0 (A3 kiB)) kiE:=rfl
theorem WY:qR=WZ:=rfl
theorem QW{g:Nat}{caps:List xU}{P:Kt->Bool}(u:h.Wf)(K:h.KS S v ks)(T:ks.length<=100000)(C:∀h',h.Ext h'->∀k∈ks,∃w,call AC m g (ktV k::caps) h'=.ok (.bool (P k)) w/\h'.Ext w):
  ∃h',call AC (m+1) 117 [v,.func (.func g) ⟨[]⟩ ⟨caps⟩] h=.ok (AI AT (Fu P 0 ks)) h'/\h.Ext h':=by
 have F:=K.len h;have G:∃e,WZ (call AC m) (Au e0 0 [v,.func (.func g) ⟨[]⟩ ⟨caps⟩]) h=kiS (call AC m) e h/\J 0 e=v/\J 1 e=.func (.func g) ⟨[]⟩ ⟨caps⟩/\J 7 e=AI AT (ks.length:Int)/\J 8 e=AI AT ((0:Nat):Int):=by
  unfold WZ;simp only[iN,xV,sT,xT,sh,reduceIte,AX,F];exact⟨_,rfl,by simp[AG]⟩
 obtain⟨e,z,s0,s1,s7,s8⟩:=G;have N:(∃a h',A3 kiB (call AC m) e h=.exit 0 a h'/\h.Ext h'/\Fu P 0 ks= -1)\/(∃a h',A3 kiB (call AC m) e h=.ret a h'/\h.Ext h'/\J 4 a=AI AT (Fu P 0 ks)):=by
  refine Bd (I:=λi a h'=>h.Ext h'/\J 0 a=v/\J 1 a=.func (.func g) ⟨[]⟩ ⟨caps⟩/\J 7 a=AI AT (ks.length:Int)/\J 8 a=AI AT (i:Int)/\i<=ks.length/\Fu P 0 ks=Fu P i (ks.drop i))
   (Q:=λA=>(∃a h',A=.exit 0 a h'/\h.Ext h'/\Fu P 0 ks= -1)\/(∃a h',A=.ret a h'/\h.Ext h'/\J 4 a=AI AT (Fu P 0 ks))) ks.length (by omega) (λi a h' ⟨p,t0,t1,t7,t8,R,f⟩=>?_) ⟨.refl u,s0,s1,s7,s8,yH _,by rw[yk]⟩
  by_cases n:i<ks.length
  ·obtain⟨k,r⟩:∃k,ks[i]? =BY k:=⟨_,xc n⟩
   have D:ks.drop i=k::ks.drop (i+1):=by
    rw[zf n];rw[xc n]at r;rw[Option.some.inj r]
   rw[D]at f;have f:Fu P 0 ks=if P k=IN then(i:Int)else Fu P (i+1) (ks.drop (i+1)):=f
   have q:=EU n;obtain⟨O,_,x,y,_⟩:=(K.ext u p).at r;obtain⟨c,t,l⟩:=C h' p k (xy r);by_cases s:P k=IN
   ·right
    rw[s]at t;rw[If s]at f;have o:∃b,kiB (call AC m) a h'=.ret b c/\J 4 b=AI AT (i:Int):=by
     unfold kiB;simp only[sT,xT,sh,reduceIte,AK,AJ,t8,t7,q,BA,t0,x,An,Ah,y,CU,t1,Cf,AV,A4,yT,AAO,t];exact⟨_,rfl,by simp[AG]⟩
    obtain⟨b,d,j⟩:=o;rw[d];exact⟨rfl,.inr ⟨b,c,rfl,p.trans l,by rw[j,f]⟩⟩
   ·left
    have E:P k=IT:=by simpa using s
    rw[E]at t;rw[No s]at f;have B:=Cc (i:=i) (h:=c) (by omega);have o:∃b,kiB (call AC m) a h'=.norm b c/\J 0 b=v/\J 1 b=.func (.func g) ⟨[]⟩ ⟨caps⟩/\J 7 b=AI AT (ks.length:Int)/\J 8 b=AI AT ((i+1:Nat):Int):=by
     unfold kiB;simp only[sT,xT,sh,reduceIte,AK,AJ,t8,t7,q,BA,t0,x,An,Ah,y,CU,t1,Cf,AV,A4,yT,AAO,t,BW,B];exact⟨_,rfl,by simp[AG,t0,t1,t7]⟩
    obtain⟨b,d,j,H,L,M⟩:=o;exact⟨n,b,c,d,p.trans l,j,H,L,M,by omega,f⟩
  ·right
   have q:=Cz (show ks.length<=i by omega);have o:∃b,kiB (call AC m) a h'=.exit 0 b h':=by
    unfold kiB;simp only[sT,xT,sh,reduceIte,AK,AJ,t8,t7,q];exact⟨_,rfl⟩
   obtain⟨b,d⟩:=o;rw[d];exact⟨rfl,.inl ⟨b,h',rfl,p,by rw[f,ym (by omega)];rfl⟩⟩
 rcases N with ⟨b,c,d,l,j⟩|⟨b,c,d,l,j⟩
 ·refine⟨c,?_,l⟩
  rw[WJ rfl,WY,z,cL,j];simp only[A7,Ap,d,A5,Ay];unfold kiE;simp only[sT,xT,sh,reduceIte,lV0]
 ·refine⟨c,?_,l⟩
  rw[WJ rfl,WY,z,cL];simp only[A7,Ap,d,CE,Cr,lV0,j]
theorem jH{g:Nat}{caps:List xU}{P:Kt->Bool}(d:h.Wf)(K:h.KS S v ks)(i:ks.length<=100000)(f:∀h',h.Ext h'->∀k∈ks,∃c,call AC m g (ktV k::caps) h'=.ok (.bool (P k)) c/\h'.Ext c):
  ∃h',call AC (m+2) 74 [v,.func (.func g) ⟨[]⟩ ⟨caps⟩] h=.ok (.bool (ks.any P)) h'/\h.Ext h':=by
 obtain⟨a,j,l⟩:=QW d K i f;have e:iGe (Fu P 0 ks) 0=ks.any P:=by
  rcases QN P ks 0 with ⟨b,a⟩|⟨b,n,k,_,_,a⟩
  ·rw[b,a];exact EX (by omega)
  ·rw[b,a];exact GL (by omega)
 refine⟨a,?_,l⟩;rw[pP rfl];unfold d74;simp only[iN,xV,sT,xT,sh,reduceIte,cA0,j,AK,AJ,e,lV0]
theorem NY(a:h.Wf){k:Kt}{g:O}(b:g e=ktV k):CV g F e h=.ok (pt h.next) (h.AEg 0 (Aj k)):=by rw[DN,b,DM a];rfl
theorem Cd{r:Nat}{k:Kt}(R:h.Row r 0 (Aj k)):AEi ⟨r,0,By⟩ h=.ok (AI AT k.a) h/\AEi ⟨r,1,By⟩ h=.ok (AI AT k.b) h/\AEi ⟨r,2,By⟩ h=.ok (AI AT k.c) h/\AEi ⟨r,3,By⟩ h=.ok (.int .u8 (k.s:Int)) h/\AEi ⟨r,4,By⟩ h=.ok k.u h/\AEi ⟨r,5,By⟩ h=.ok (AI AT (k.p:Int)) h/\loadN 6 ⟨r,0,By⟩ h=.ok (ktV k) h/\loadN 5 ⟨r,0,By⟩ h=.ok (Bn k.a k.b k.c k.s k.u) h:=
 ⟨R.AEi (off:=0) (by show 0<6;omega),R.AEi (off:=1) (by show 1<6;omega),R.AEi (off:=2) (by show 2<6;omega),R.AEi (off:=3) (by show 3<6;omega),R.AEi (off:=4) (by show 4<6;omega),R.AEi (off:=5) (by show 5<6;omega),R.loadN (off:=0) (n:=6) (by show 0+6<=6;omega),R.loadN (off:=0) (n:=5) (by show 0+5<=6;omega)⟩
def BL(a b c:Int)(k:Kt):Bool:=decide (k.a=a) && decide (k.b=b) && decide (k.c=c)
def LQ(a b:Int)(k:Kt):Bool:=decide (k.a=a) && decide (k.b=b) && decide (k.s=2)
theorem Dy{r:Nat}{w:xU}(R:h.Row r 0 [w]):AEi ⟨r,0,By⟩ h=.ok w h:=R.AEi (off:=0) (by show 0<1;omega)
theorem rX(f:h.Wf){u w x:Nat}{a b c:Int}(R1:h.Row u 0 [AI AT a])(y:h.Row w 0 [AI AT b])(z:h.Row x 0 [AI AT c])(k:Kt):
  ∃h',call AC (m+1) 124 [ktV k,pt u,pt w,pt x] h=.ok (.bool (BL a b c k)) h'/\h.Ext h':=by
 have i:=λ(F:AEh) (e:Env) (C:J 0 e=ktV k)=>NY (F:=F) f C
 have g:=(Hp.Ext.refl f).AEg 0 (Aj k);have R:=Hp.Row.new f 0 (Aj k);generalize h.AEg 0 (Aj k)=d at i g R;obtain⟨o,p,q,D,_,E,_⟩:=Cd R;have r:=Dy (R1.ext f g);have s:=Dy (y.ext f g);have t:=Dy (z.ext f g);refine⟨d,?_,g⟩;unfold BL;rw[gW rfl];unfold qY;by_cases d:k.a=a
 ·have j:iEq k.a a=IN:=CP d
  by_cases l:k.b=b
  ·have n:iEq k.b b=IN:=CP l
   have A:iEq k.c c=decide (k.c=c):=by rw[Dv];by_cases B:k.c=c<;>simp[B]
   simp only[iN,xV,sT,xT,sh,reduceIte,gD,i,AH,AO,xZ,AN,AQ,o,p,q,r,s,t,AK,AJ,j,n,A,lV0];rw[decide_eq_true d,decide_eq_true l];rfl
  ·have n:iEq k.b b=IT:=CF l
   simp only[iN,xV,sT,xT,sh,reduceIte,gD,i,AH,AO,xZ,AN,AQ,o,p,q,r,s,t,AK,AJ,j,n,lV0];rw[decide_eq_true d,decide_eq_false l];rfl
 ·have j:iEq k.a a=IT:=CF d
  simp only[iN,xV,sT,xT,sh,reduceIte,gD,i,AH,AO,xZ,AN,AQ,o,p,q,r,s,t,AK,AJ,j,lV0];rw[decide_eq_false d];rfl
theorem rY(d:h.Wf){t u:Nat}{a b:Int}(R1:h.Row t 0 [AI AT a])(w:h.Row u 0 [AI AT b])(k:Kt):
  ∃h',call AC (m+1) 145 [ktV k,pt t,pt u] h=.ok (.bool (LQ a b k)) h'/\h.Ext h':=by
 have f:=λ(F:AEh) (e:Env) (y:J 0 e=ktV k)=>NY (F:=F) d y
 have j:=(Hp.Ext.refl d).AEg 0 (Aj k);have R:=Hp.Row.new d 0 (Aj k);generalize h.AEg 0 (Aj k)=c at f j R;obtain⟨n,o,z,p,_,A,_⟩:=Cd R;have q:=Dy (R1.ext d j);have r:=Dy (w.ext d j);refine⟨c,?_,j⟩;unfold LQ;rw[gf rfl];unfold qo;by_cases c:k.a=a
 ·have g:iEq k.a a=IN:=CP c
  by_cases i:k.b=b
  ·have l:iEq k.b b=IN:=CP i
   have x:iEq (k.s:Int) 2=decide (k.s=2):=by
    by_cases s:k.s=2
    ·rw[decide_eq_true s];exact CP (by omega)
    ·rw[decide_eq_false s];exact CF (by omega)
   simp only[iN,xV,sT,xT,sh,reduceIte,gD,f,AH,AO,xZ,AN,AQ,n,o,p,q,r,AK,AJ,g,l,x,lV0];rw[decide_eq_true c,decide_eq_true i];rfl
  ·have l:iEq k.b b=IT:=CF i
   simp only[iN,xV,sT,xT,sh,reduceIte,gD,f,AH,AO,xZ,AN,AQ,n,o,p,q,r,AK,AJ,g,l,lV0];rw[decide_eq_true c,decide_eq_false i];rfl
 ·have g:iEq k.a a=IT:=CF c
  simp only[iN,xV,sT,xT,sh,reduceIte,gD,f,AH,AO,xZ,AN,AQ,n,o,p,q,r,AK,AJ,g,lV0];rw[decide_eq_false c];rfl
theorem Ic(a:h.Wf){z:Int}{g:O}(b:g e=AI AT z):CV g F e h=.ok (pt h.next) (h.AEg 0 [AI AT z]):=by rw[DN,b,DM a];rfl
theorem GJ(j:h.Wf)(R:h.Row A.bs 0 (slL A.bd A.tb lv fv bad ov))(K:h.KS S lv ks)(y:ks.length<=100000)(a b c:Int):
  ∃h',call AC (m+3) 92 [pt A.bs,AI AT a,AI AT b,AI AT c] h=.ok (AI AT (Fu (BL a b c) 0 ks)) h'/\h.Ext h':=by
 have r:=λ(F:AEh) (e:Env) (k:J 1 e=AI AT a)=>Ic (F:=F) j k
 have i:=(Hp.Ext.refl j).AEg 0 [AI AT a];have o:=Hp.Row.new j 0 [AI AT a];generalize h.AEg 0 [AI AT a]=u at r i o;have s:=λ(F:AEh) (e:Env) (k:J 2 e=AI AT b)=>Ic (F:=F) i.wf k
 have f:=(Hp.Ext.refl i.wf).AEg 0 [AI AT b];have p:=Hp.Row.new i.wf 0 [AI AT b];generalize u.AEg 0 [AI AT b]=w at s f p;have t:=λ(F:AEh) (e:Env) (k:J 3 e=AI AT c)=>Ic (F:=F) f.wf k
 have n:=(Hp.Ext.refl f.wf).AEg 0 [AI AT c];have q:=Hp.Row.new f.wf 0 [AI AT c];generalize w.AEg 0 [AI AT c]=E at t n q;have d:=(i.trans f).trans n;obtain⟨_,_,_,C,_⟩:=BK (R.ext j d);obtain⟨x,B,D⟩:=QW (m:=m+1) (g:=124) (caps:=[pt h.next,pt u.next,pt w.next]) (P:=BL a b c) d.wf (K.ext j d) y λh' l z _=>rX l.wf ((o.ext i.wf (f.trans n)).ext d.wf l) ((p.ext f.wf n).ext d.wf l) (q.ext d.wf l) z
 refine⟨x,?_,d.trans D⟩;rw[pZ rfl];unfold d92;simp only[iN,xV,sT,xT,sh,reduceIte,r,s,t,Ax,Am,AH,AO,xZ,AN,AQ,C,Dx,AV,A4,BX,B,lV0]
theorem so(f:h.Wf)(R:h.Row A.bs 0 (slL A.bd A.tb lv fv bad ov))(K:h.KS S lv ks)(s:ks.length<=100000)(a b:Int):
  ∃h',call AC (m+3) 125 [pt A.bs,AI AT a,AI AT b] h=.ok (AI AT (Fu (LQ a b) 0 ks)) h'/\h.Ext h':=by
 have o:=λ(F:AEh) (e:Env) (i:J 1 e=AI AT a)=>Ic (F:=F) f i
 have c:=(Hp.Ext.refl f).AEg 0 [AI AT a];have l:=Hp.Row.new f 0 [AI AT a];generalize h.AEg 0 [AI AT a]=q at o c l;have p:=λ(F:AEh) (e:Env) (i:J 2 e=AI AT b)=>Ic (F:=F) c.wf i
 have k:=(Hp.Ext.refl c.wf).AEg 0 [AI AT b];have n:=Hp.Row.new c.wf 0 [AI AT b];generalize q.AEg 0 [AI AT b]=y at p k n;have d:=c.trans k;obtain⟨_,_,_,w,_⟩:=BK (R.ext f d);obtain⟨r,u,x⟩:=QW (m:=m+1) (g:=145) (caps:=[pt h.next,pt q.next]) (P:=LQ a b) d.wf (K.ext f d) s λh' j t _=>rY j.wf ((l.ext c.wf k).ext d.wf j) (n.ext d.wf j) t
 refine⟨r,?_,d.trans x⟩;rw[gX rfl];unfold qZ;simp only[iN,xV,sT,xT,sh,reduceIte,o,p,Ax,Am,AH,AO,xZ,AN,AQ,w,Dx,AV,A4,BX,u,lV0]
def CA(a b c:Int)(ks:List Kt):Bool:=match ks.find? (LQ a b)with
 |some d=>decide (c<=d.c)
 |none=>IT
theorem EE(P:Kt->Bool):∀(l:List Kt) (i:Nat),(l.find? P=By/\Fu P i l= -1)\/∃j k,l.find? P=BY k/\l[j]? =BY k/\Fu P i l=((i+j:Nat):Int)
 |[],i=>.inl ⟨rfl,rfl⟩
 |k::l,i=>by
  unfold Fu;by_cases h:P k=IN
  ·rw[If h]
   exact .inr ⟨0,k,by rw[List.find?_cons_of_pos h],rfl,rfl⟩
  ·rw[No h]
   rcases EE P l (i+1)with ⟨a,b⟩|⟨j,d,a,b,c⟩
   ·exact .inl ⟨by rw[ABi h];exact a,b⟩
   ·exact .inr ⟨j+1,d,by rw[ABi h];exact a,by rw[zD];exact b,by rw[c];congr 1;omega⟩
theorem G6(e:h.Wf)(R:h.Row A.bs 0 (slL A.bd A.tb lv fv bad ov))(K:h.KS S lv ks)(p:ks.length<=100000)(a b c:Int):
  ∃h',call AC (m+4) 94 [pt A.bs,AI AT a,AI AT b,AI AT c] h=.ok (.bool (CA a b c ks)) h'/\h.Ext h':=by
 obtain⟨o,d,k⟩:=so (m:=m) e R K p a b;refine⟨o,?_,k⟩;unfold CA;rw[pf rfl];unfold d94;rcases EE (LQ a b) ks 0 with ⟨g,i⟩|⟨r,j,g,i,n⟩
 ·rw[i]at d
  have f:iGe (-1) 0=IT:=EX (by omega);simp only[iN,xV,sT,xT,sh,reduceIte,gD,cA0,d,AK,AJ,f,lV0,g]
 ·rw[n,xZ]at d
  have f:iGe (r:Int) 0=IN:=GL (by omega);obtain⟨w,_,q,_,u⟩:=(K.ext e k).at i;have s:=u 2 (AI AT j.c) rfl;obtain⟨_,_,_,t,_⟩:=BK (R.ext e k);have l:iGe j.c c=decide (c<=j.c):=Ue _ _;simp only[iN,xV,sT,xT,sh,reduceIte,gD,cA0,d,AK,AJ,f,Ax,Am,AH,AO,xZ,zQ,AN,AQ,t,BA,q,s,l,lV0,g]
end
def DK(a b:Int):Int:=if a<b then -1 else if b<a then 1 else 0
def orZ:List Int->Int
 |[]=>0
 |z::a=>if z=0 then orZ a else z
def JV(x y:Kt):Int:=orZ [DK x.a y.a,DK x.b y.b,DK x.c y.c,DK x.p y.p]
theorem EN{e:Env}{h:Hp}:E0 [] e h=.ok AEl h:=rfl
section
variable {F:AEh}{e:Env}{h h':Hp}{m:Nat}{v:xU}
theorem qC{a b:Int}:call AC (m+2) 114 [AI AT a,AI AT b] h=.ok (AI AT (DK a b)) h:=by
 have i:∀f:Int,call AC (m+1) 143 [AI AT f] h=.ok (.bool IT) h:=λf=>by
  have c:iNe f f=IT:=B0 rfl;rw[WL rfl];unfold iD;simp only[iN,xV,sT,xT,sh,reduceIte,AK,AJ,c,lV0]
 unfold DK;rw[gP rfl];unfold qQ;by_cases d:a<b
 ·have c:iLt a b=IN:=H0 d
  rw[If d];simp only[iN,xV,sT,xT,sh,reduceIte,cA0,i,AK,AJ,c,lV0]
 ·have c:iLt a b=IT:=FI d
  rw[No d];by_cases e:b<a
  ·have g:iGt a b=IN:=GM e
   rw[If e];simp only[iN,xV,sT,xT,sh,reduceIte,cA0,i,AK,AJ,c,g,lV0]
  ·have g:iGt a b=IT:=FW e
   rw[No e];simp only[iN,xV,sT,xT,sh,reduceIte,cA0,i,AK,AJ,c,g,lV0]
theorem dU:orS=BB (AY 0 (A3 orB)) orE:=rfl
theorem WW:qP=WX:=rfl
theorem wI{zs:List Int}(r:h.AE7 v (ints .i64 zs))(G:zs.length<=1000):call AC (m+1) 113 [v] h=.ok (AI AT (orZ zs)) h:=by
 have s:(ints .i64 zs).length=zs.length:=xa ..;have t:=r.len;rw[s]at t;have B:∃f,WX (call AC m) (Au e0 0 [v]) h=orS (call AC m) f h/\J 3 f=AI AT 0/\J 6 f=v/\J 7 f=AI AT (zs.length:Int)/\J 8 f=AI AT ((0:Nat):Int):=by
  unfold WX;simp only[iN,xV,sT,xT,sh,reduceIte,AX,t];exact⟨_,rfl,by simp[AG]⟩
 obtain⟨f,u,s3,s6,s7,s8⟩:=B;have E:(∃a,A3 orB (call AC m) f h=.exit 0 a h/\orZ zs=0/\J 3 a=AI AT 0)\/(∃a,A3 orB (call AC m) f h=.ret a h/\J 2 a=AI AT (orZ zs)):=by
  refine Bd (I:=λi a h'=>h'=h/\J 3 a=AI AT 0/\J 6 a=v/\J 7 a=AI AT (zs.length:Int)/\J 8 a=AI AT (i:Int)/\i<=zs.length/\orZ zs=orZ (zs.drop i))
   (Q:=λw=>(∃a,w=.exit 0 a h/\orZ zs=0/\J 3 a=AI AT 0)\/(∃a,w=.ret a h/\J 2 a=AI AT (orZ zs))) zs.length (by omega) (λi a h' ⟨A,t3,t6,t7,t8,F,g⟩=>?_) ⟨rfl,s3,s6,s7,s8,yH _,by rw[yk]⟩
  subst A;by_cases j:i<zs.length
  ·obtain⟨x,g1,g2⟩:=r.at (i:=i) (by rw[s];exact j)
   obtain⟨c,p⟩:∃c,zs[i]? =BY c:=⟨_,xc j⟩;have g2:I7 (.pointer (BY x)) h'=.ok (AI AT c) h':=by
    rw[g2];have:(ints .i64 zs).getD i AEl=AI AT c:=by
     rw[xe];simp[ints,p]
    rw[this]
   have z:zs.drop i=c::zs.drop (i+1):=by
    rw[zf j];rw[xc j]at p;rw[Option.some.inj p]
   rw[z]at g;have g:orZ zs=if c=0 then orZ (zs.drop (i+1))else c:=g
   have l:=EU j;by_cases n:c=0
   ·left
    rw[If n]at g;have o:iNe c 0=IT:=B0 n;have y:=Cc (i:=i) (h:=h') (by omega);have k:∃b,orB (call AC m) a h'=.norm b h'/\J 3 b=AI AT 0/\J 6 b=v/\J 7 b=AI AT (zs.length:Int)/\J 8 b=AI AT ((i+1:Nat):Int):=by
     unfold orB;simp only[sT,xT,sh,reduceIte,AK,AJ,t8,t7,l,BA,t6,g1,AN,g2,t3,o,BW,y];exact⟨_,rfl,by simp[AG,t3,t6,t7]⟩
    obtain⟨b,d,e,q,C,D⟩:=k;exact⟨j,b,h',d,rfl,e,q,C,D,by omega,g⟩
   ·right
    rw[No n]at g;have o:iNe c 0=IN:=EG n;have k:∃b,orB (call AC m) a h'=.ret b h'/\J 2 b=AI AT c:=by
     unfold orB;simp only[sT,xT,sh,reduceIte,AK,AJ,t8,t7,l,BA,t6,g1,AN,g2,t3,o];exact⟨_,rfl,by simp[AG]⟩
    obtain⟨b,d,e⟩:=k;rw[d];exact⟨rfl,.inr ⟨b,rfl,by rw[e,g]⟩⟩
  ·right
   have l:=Cz (show zs.length<=i by omega);have k:∃b,orB (call AC m) a h'=.exit 0 b h'/\J 3 b=AI AT 0:=by
    unfold orB;simp only[sT,xT,sh,reduceIte,AK,AJ,t8,t7,l];exact⟨_,rfl,by simp[AG,t3]⟩
   obtain⟨b,d,e⟩:=k;rw[d];exact⟨rfl,.inl ⟨b,rfl,by rw[g,ym (by omega)];rfl,e⟩⟩
 rcases E with ⟨b,d,e,q⟩|⟨b,d,e⟩
 ·rw[WH rfl,WW,u,dU,e]
  simp only[A7,Ap,d,A5,Ay];unfold orE;simp only[sT,xT,sh,reduceIte,q,lV0]
 ·rw[WH rfl,WW,u,dU]
  simp only[A7,Ap,d,CE,Cr,lV0,e]
theorem uV:BP ty3.zero 4=[AI AT 0,AI AT 0,AI AT 0,AI AT 0]:=by kernel_rfl
theorem Yf(j:h.Wf){g1 g2 g3 g4:O}{a b c d:Int}(f:g1 e=AI AT a)(h2:g2 e=AI AT b)(g:g3 e=AI AT c)(i:g4 e=AI AT d):
  Ab 4 (BP ty3.zero 4) [(0,1,g1),(1,1,g2),(2,1,g3),(3,1,g4)] F e h=.ok (.slice (BY ⟨h.next,0,By⟩) 4 4) (h.AEg 0 (ints .i64 [a,b,c,d])):=by
 rw[B5,uV,Ad (hk:=by rw[f];rfl),f,Ad (hk:=by rw[h2];rfl),h2,Ad (hk:=by rw[g];rfl),g,Ad (hk:=by rw[i];rfl),i];simp only[Cj,yd,xh,yU,over,AA0,AAo,zp,yT,zK,xV,zg,if_true,Bo,reduceIte];rw[Cm j];rfl
theorem tK(g:h.Wf)(x y:Kt):∃h',call AC (m+3) 71 [ktV x,ktV y] h=.ok (AI AT (JV x y)) h'/\h.Ext h':=by
 have P:=λ(F:AEh) (e:Env) (B:J 0 e=ktV x)=>NY (F:=F) g B
 have j:=(Hp.Ext.refl g).AEg 0 (Aj x);have M:=Hp.Row.new g 0 (Aj x);have n1:(h.AEg 0 (Aj x)).next=h.next+1:=rfl;generalize h.AEg 0 (Aj x)=i at P j M n1;have Q:=λ(F:AEh) (e:Env) (B:J 1 e=ktV y)=>NY (F:=F) j.wf B
 have L:=(Hp.Ext.refl j.wf).AEg 0 (Aj y);have N:=Hp.Row.new j.wf 0 (Aj y);have n2:(i.AEg 0 (Aj y)).next=i.next+1:=rfl;generalize i.AEg 0 (Aj y)=d at Q L N n2;have f:=(j.trans L).marked;have l:d.marked.Row h.next 0 (Aj x):=(M.ext j.wf L).same rfl;have n:d.marked.Row i.next 0 (Aj y):=N.same rfl;have mk:d.marked.mark=d.next:=rfl;have nx:d.marked.next=d.next:=rfl;generalize a3:d.marked=g0 at f l n mk nx;have u:∀(a:Hp) (g:a.Wf) (q:a.mark<=a.next) (R:Qm) (G H:Nat) (w z:Int) (e:Env),J G e=AI AT w->J H e=AI AT z->Ac R (AS 114 [J G,J H]) (call AC (m+2)) e a=.ok (AI AT (DK w z)) (a.back a.quiet):=λa g q R G H w z e p A=>by
  refine IF g ?_ q;rw[BX,AV,AV,A4,p,A];exact qC
 have o:∀a:Hp,a.Wf->a.Ext (a.back a.quiet)/\(a.back a.quiet).next=a.next/\(a.back a.quiet).mark=a.mark:=λa g=>⟨Hp.Ext.AFp (.refl g) (Hp.Ext.refl g).quiet,rfl,rfl⟩
 have I:∀(a:Hp) (q:a.mark=d.next) (K c:Nat) (b:C) (F:AEh) (e:Env),K<d.next->Ir (.pointer (BY ⟨K,c,By⟩)) b F e a=b F e a:=λa q K c b F e hr=>Df (by rw[q];exact hr)
 obtain⟨l0,_⟩:=Cd l;obtain⟨k0,_⟩:=Cd n;have w1:=u g0 f.wf (by omega) .weak 7 10 x.a y.a;obtain⟨k,v1,W⟩:=o g0 f.wf;generalize g0.back g0.quiet=g1 at w1 k v1 W;have S:=I g1 (W.trans mk);obtain⟨_,l1,_⟩:=Cd (l.ext f.wf k);obtain⟨_,k1,_⟩:=Cd (n.ext f.wf k);have w2:=u g1 k.wf (by omega) .weak 14 17 x.b y.b;obtain⟨a0,v2,u2⟩:=o g1 k.wf;generalize g1.back g1.quiet=g2 at w2 a0 v2 u2;have r:=k.trans a0;have T:=I g2 (by omega);obtain⟨_,_,l2,_⟩:=Cd (l.ext f.wf r);obtain⟨_,_,k2,_⟩:=Cd (n.ext f.wf r);have X:=u g2 r.wf (by omega) .weak 21 24 x.c y.c;obtain⟨a1,v3,u3⟩:=o g2 r.wf;generalize g2.back g2.quiet=g3 at X a1 v3 u3;have s:=r.trans a1;have U:=I g3 (by omega);obtain⟨_,_,_,_,_,l5,_⟩:=Cd (l.ext f.wf s);obtain⟨_,_,_,_,_,k5,_⟩:=Cd (n.ext f.wf s);have Y:=u g3 s.wf (by omega) .free 27 29 x.p y.p;obtain⟨a2,v4,u4⟩:=o g3 s.wf;generalize g3.back g3.quiet=g4 at Y a2 v4 u4;have t:=s.trans a2;have V:∀(F:AEh) (e:Env),J 11 e=AI AT (DK x.a y.a)->J 18 e=AI AT (DK x.b y.b)->J 25 e=AI AT (DK x.c y.c)->J 30 e=AI AT (DK x.p y.p)->Ac .AEv (Ab 4 (BP ty3.zero 4) [(0,1,J 11),(1,1,J 18),(2,1,J 25),(3,1,J 30)]) F e g4=.ok (.slice (BY ⟨g4.next,0,By⟩) 4 4) (g4.back (g4.quiet.AEg 0 (ints .i64 [DK x.a y.a,DK x.b y.b,DK x.c y.c,DK x.p y.p]))):=λF e p A e3 e4=>Cq (Yf t.wf.quiet p A e3 e4) ((Hp.Ext.refl t.wf.quiet).AEg _ _) (by omega)
 have Z:g4.Ext (g4.back (g4.quiet.AEg 0 (ints .i64 [DK x.a y.a,DK x.b y.b,DK x.c y.c,DK x.p y.p]))):=.back ((Hp.Ext.refl t.wf.quiet).AEg _ _);have O:(g4.back (g4.quiet.AEg 0 (ints .i64 [DK x.a y.a,DK x.b y.b,DK x.c y.c,DK x.p y.p]))).Row g4.next 0 (ints .i64 [DK x.a y.a,DK x.b y.b,DK x.c y.c,DK x.p y.p]):=(Hp.Row.new t.wf.quiet 0 (ints .i64 [DK x.a y.a,DK x.b y.b,DK x.c y.c,DK x.p y.p])).same rfl;generalize g4.back (g4.quiet.AEg 0 (ints .i64 [DK x.a y.a,DK x.b y.b,DK x.c y.c,DK x.p y.p]))=g5 at V Z O;have z5:=t.trans Z;have k6:=wI (m:=m+1) (h:=g5.quiet) (v:=.slice (BY ⟨g4.next,0,By⟩) 4 4) (zs:=[DK x.a y.a,DK x.b y.b,DK x.c y.c,DK x.p y.p]) (.inr ⟨g4.next,0,4,0,_,rfl,O.same rfl,xW _,rfl⟩) (by show 4<=1000;omega);have q6:∀e:Env,J 31 e=.slice (BY ⟨g4.next,0,By⟩) 4 4->Ac .free (AS 113 [J 31]) (call AC (m+2)) e g5=.ok (AI AT (JV x y)) (g5.back g5.quiet):=λe p=>by
  refine BF ?_;rw[BX,AV,A4,p];exact k6
 refine⟨g5.back g5.quiet,?_,(f.trans z5).trans (o g5 z5.wf).1⟩;rw[pM rfl];unfold d71;have D:h.next<d.next:=by omega
 have E:i.next<d.next:=by omega
 have o11:=λc b F e=>S h.next c b F e D
 have o12:=λc b F e=>S i.next c b F e E
 have o21:=λc b F e=>T h.next c b F e D
 have o22:=λc b F e=>T i.next c b F e E
 have o31:=λc b F e=>U h.next c b F e D
 have o32:=λc b F e=>U i.next c b F e E
 simp only[iN,xV,sT,xT,sh,reduceIte,P,Q,Aw,a3,AH,AO,xZ,zQ,AN,AQ,l0,k0,w1,ED,o11,o12,DQ,l1,k1,w2,o21,o22,l2,k2,X,o31,o32,l5,k5,Y,V,q6,lV0]
theorem LO{a:C}{i:Nat}{b:Env}(c:a F e h=.exit i b h'):A3 a F e h=.exit i b h':=by
 show iter a (8796093022207+1) F e h=_;unfold iter;rw[c]
theorem Uk:jsB=cJ:=rfl
theorem Wd:qk=We:=rfl
theorem WU:qN=WV:=rfl
theorem df:pdB=kT:=rfl
theorem Nc{a:C}{b:Env}(c:a F e h=.ret b h'):A3 a F e h=.ret b h':=by
 show iter a (8796093022207+1) F e h=_;unfold iter;rw[c]
theorem Zm{x y:O}{n:Nat}{s:ByteArray}(hx:x e=.string s)(hy:y e=.int .u8 (n:Int))(hn:n<s.data.toList.length):∃b:Nat,JR x y F e h=.ok (.int .u8 (b:Int)) h/\b<256:=by
 have e1:JR x y F e h=Km (x e) (Db (y e)) h:=rfl;have e2:nth s.data.toList n=BY (s.data.toList[n]'hn):=by rw[Gf,xc hn]
 refine⟨(s.data.toList[n]'hn).toNat,?_,UInt8.toNat_lt _⟩;rw[e1,hx,hy,Dm];unfold Km;simp only[e2];exact E6 ..
theorem Pw{n:Nat}(c:n<256):∃k:Nat,call AC (m+2) 112 [.int .u64 (n:Int)] h=.ok (AI AT (k:Int)) h:=by
 have f:iGe (n:Int) 4294967296=IT:=EX (by omega);have g:iGe (n:Int) 65536=IT:=EX (by omega);have i:iGe (n:Int) 256=IT:=EX (by omega);have o:Ct .u8 (.int .u64 (n:Int)) h=.ok (.int .u8 (n:Int)) h:=by rw[Bu,Ff,Nat.mod_eq_of_lt c]
 have key:∃k:Nat,call AC (m+1) 142 [.int .u64 (n:Int)] h=.ok (AI AT (k:Int)) h:=by
  rw[gd rfl];unfold ql;simp only[iN,xV,sT,xT,sh,reduceIte,AK,AJ,f,g,i,Bi,o];obtain⟨b,j,q⟩:=Zm (F:=call AC m) (h:=h) (e:=Env.set 21 (.int .u8 (n:Int)) (Env.set 14 (.bool IT) (Env.set 8 (.bool IT) (Env.set 4 (.bool IT) (Env.set 2 (AI AT 0) (Env.set 0 (.int .u64 (n:Int)) e0)))))) (x:=(W (.string ⟨#[0,1,2,2,3,3,3,3,4,4,4,4,4,4,4,4,5,5,5,5,5,5,5,5,5,5,5,5,5,5,5,5,6,6,6,6,6,6,6,6,6,6,6,6,6,6,6,6,6,6,6,6,6,6,6,6,6,6,6,6,6,6,6,6,7,7,7,7,7,7,7,7,7,7,7,7,7,7,7,7,7,7,7,7,7,7,7,7,7,7,7,7,7,7,7,7,7,7,7,7,7,7,7,7,7,7,7,7,7,7,7,7,7,7,7,7,7,7,7,7,7,7,7,7,7,7,7,7,8,8,8,8,8,8,8,8,8,8,8,8,8,8,8,8,8,8,8,8,8,8,8,8,8,8,8,8,8,8,8,8,8,8,8,8,8,8,8,8,8,8,8,8,8,8,8,8,8,8,8,8,8,8,8,8,8,8,8,8,8,8,8,8,8,8,8,8,8,8,8,8,8,8,8,8,8,8,8,8,8,8,8,8,8,8,8,8,8,8,8,8,8,8,8,8,8,8,8,8,8,8,8,8,8,8,8,8,8,8,8,8,8,8,8,8,8,8,8,8,8,8,8,8,8,8,8,8]⟩))) (y:=J 21) (n:=n) rfl (by simp[AG]) (by
   refine Nat.lt_of_lt_of_eq c ?_
   kernel_rfl)
  rw[j];have p:Ct .i64 (.int .u8 (b:Int)) h=.ok (AI AT (b:Int)) h:=by rw[Bu,Bf (by omega)]
  have d:GC .i64 (AI AT 0) (AI AT (b:Int)) h=.ok (AI AT (b:Int)) h:=by
   have:=Vt (h:=h) (a:=0) (b:=b) (by omega);rw[xZ]at this;exact this
  simp only[sT,xT,sh,reduceIte,Bi,p,BW,d,lV0];exact⟨b,rfl⟩
 obtain⟨k,l⟩:=key;refine⟨k,?_⟩;rw[gO rfl];unfold qO;simp only[iN,xV,sT,xT,sh,reduceIte,cA0,l,lV0]
end
theorem sU:ixS=BB (AY 0 (A3 ixB)) ixE:=rfl
theorem hU:qS=Wa:=rfl
section
variable {F:AEh}{e:Env}{h h' h0:Hp}{k:Nat}{ks:List Kt}{v:xU}
def Hp.KO(h:Hp)(k:Nat)(v:xU)(ks:List Kt):Prop:=(v=.slice By 0 0/\ks=[])\/∃a,v=.slice (BY ⟨a,0,By⟩) ks.length ks.length/\h.Row a 125 (flK ks)/\k<=a/\256<=a
theorem Hp.KO.lst(o:h.KO k v ks):h.KS (λb=>k<=b) v ks:=by
 rcases o with a|⟨b,a,c,d,e⟩
 ·exact .inl a
 ·exact .inr ⟨b,_,_,_,a,xW _,c,by rw[Cu];omega,by rw[<- Cu,yz],.inl rfl,d⟩
theorem Hp.KO.keep(o:h.KO k v ks)(hk:∀b el c,AE1 v b->h.Row b el c->h'.Row b el c):h'.KO k v ks:=by
 rcases o with a|⟨b,a,d,e,f⟩
 ·exact .inl a
 ·exact .inr ⟨b,a,hk b _ _ ⟨0,_,_,a⟩ d,e,f⟩
theorem Hp.KO.ext(o:h.KO k v ks)(a:h.Wf)(x:h.Ext h'):h'.KO k v ks:=o.keep λ_ _ _ _ b=>b.ext a x
theorem Hp.KO.same(o:h.KO k v ks)(a:h'.bl=h.bl):h'.KO k v ks:=o.keep λ_ _ _ _ b=>b.same a
theorem Hp.KO.blk(o:h.KO k v ks)(e:h.Wf){b:Nat}(f:AE1 v b):k<=b/\b<h.next:=by
 obtain⟨n,m,i,a⟩:=f;rcases o with ⟨c,d⟩|⟨g,c,d,j,l⟩
 ·rw[c]at a;cases a
 ·have:=d.lt e
  rw[c]at a;injection a with a _ _
  injection a with a
  injection a with a _ _
  omega
theorem YH:BP EA.zero 1=Aj K0:=by kernel_rfl
theorem cR(b:h.Wf){g:O}{x:Kt}(a:g e=ktV x):Ab 1 (BP EA.zero 1) [(0,6,g)] F e h=.ok (.slice (BY ⟨h.next,0,By⟩) 1 1) (h.AEg 0 (Aj x)):=by
 rw[YH,B5,Ad (hk:=by rw[a];rfl),a,show cellsOf (ktV x)=Aj x from rfl,If (show(Aj x).length=6 from rfl),If (show 0+6<=(Aj K0).length from xW _),Bo,Cm b];rfl
theorem HG{x:Kt}(a:oneCell x.u=IN):Bc (Aj x)=IN:=by
 show(bif oneCell x.u then IN else IT)=IN;rw[a];rfl
theorem sY(w:h0.Ext h)(hk:h0.next<=k)(G:k<=h.next)(o:h.KO k v ks){x:Kt}(C:oneCell x.u=IN)(H:ks.length<=100000):
  ∃h' v',DU 6 64 124 v (.slice (BY ⟨h.next,0,By⟩) 1 1) (h.AEg 0 (Aj x))=.ok v' h'/\h0.Ext h'/\h'.KO k v' (ks++[x])/\h.next<=h'.next/\∀b el c,¬AE1 v b->h.Row b el c->h'.Row b el c:=by
 have a:=w.wf;have g:=w.AEg 0 (Aj x);have i:=(Hp.Ext.refl a).AEg 0 (Aj x);have r:=Hp.Row.new a 0 (Aj x);have D:(h.AEg 0 (Aj x)).next=h.next+1:=rfl;have u:=o.ext a i;generalize h.AEg 0 (Aj x)=d at g i r D u;have t:∀K:List xU->R,BM d 6 (.slice (BY ⟨h.next,0,By⟩) 1 1) 1 K=K (Aj x):=λK=>r.AGd (es:=6) (off:=0) (n:=1) (by show 0+1 * 6<=6;omega)
 have s:=HG C;rcases u with ⟨rfl,rfl⟩|⟨b,rfl,q,F,y⟩
 ·obtain⟨f,j,l,m,z,_,p⟩:=Ij (eb:=64) (en:=124) g t rfl rfl s (by omega)
  refine⟨f,_,j,l,.inr ⟨d.next,rfl,?_,by omega,by have:=a.big;omega⟩,by omega,λb el c _ q=>(q.ext a i).ext g.wf p⟩;show f.Row d.next 125 (Aj x++[]);rw[yF];exact m
 ·obtain⟨f,j,l,m,z,_,p⟩:=J1 (eb:=64) (en:=124) (n:=ks.length) g t rfl rfl (by omega) s q (by rw[Cu];omega) (by omega) y (by omega)
  refine⟨f,_,j,l,.inr ⟨d.next,by rw[xY];rfl,?_,by omega,by have:=a.big;omega⟩,by omega,λA el c B E=>p A el c (λe=>B ⟨0,ks.length,ks.length,by rw[e]⟩) (E.ext a i)⟩;rw[MM,show flK [x]=Aj x from yF _];exact m
def vA(x y:Kt):Prop:=y.a=x.a/\y.b=x.b/\y.p≠x.p/\y.s=2/\(x.c<y.c\/y.c=x.c/\x.s=1)
theorem SC(a b:Int):(iEq a b=IN/\a=b)\/(iEq a b=IT/\a≠b):=by
 by_cases h:a=b
 ·exact .inl ⟨CP h,h⟩
 ·exact .inr ⟨CF h,h⟩
theorem qE:coS=BB (AY 0 (A3 coB)) coE:=rfl
theorem rF:d72=iP:=rfl
end
structure Kc where
 a:Int
 b:Int
 c:Int
 s:Nat
 l:List Nat
 p:Nat
def Kt.core(k:Kt):Kc:=⟨k.a,k.b,k.c,k.s,k.l,k.p⟩
def lkN(T M:List Nat)(p:Nat):Option (List Nat):=match AA7 (∃b,Hd T M p b)with
 |.isTrue a=>BY (ACl a)
 |.isFalse _=>By
def I4(T M:List Nat)(p:Nat):Bool:=match AA7 ((¬ ∃a,Hd T M p a)/\((∃b∈sec M (3*p),b≠0)\/∃a,L1 T (sec M (3*p)) a/\at6 a 4<=100))with
 |.isTrue _=>IN
 |.isFalse _=>IT
theorem SS{T M:List Nat}{p:Nat}{ns:List Nat}(h:Hd T M p ns):lkN T M p=BY ns:=by
 unfold lkN;split
 ·rename_i a _
  rw[G3 (ACL a).1 h.1]
 ·rename_i a _;exact absurd ⟨ns,h⟩ a
theorem cT{T M:List Nat}{p:Nat}(h:¬ ∃ns,Hd T M p ns):lkN T M p=By:=by
 unfold lkN;split
 ·rename_i a _;exact absurd a h
 ·rfl
theorem Na{T M:List Nat}{p:Nat}:I4 T M p=IN↔((¬ ∃ns,Hd T M p ns)/\((∃x∈sec M (3*p),x≠0)\/∃ns,L1 T (sec M (3*p)) ns/\at6 ns 4<=100)):=by
 unfold I4;split
 ·rename_i b _;exact⟨λ_=>b,λ_=>rfl⟩
 ·rename_i b _;exact⟨λa=>(by cases a),λa=>absurd a b⟩
def sW(M:List Nat)(p:Nat)(ns:List Nat):Kc:=⟨at6 ns 1,at6 ns 2,at6 ns 3,at6 ns 0,dat M p (at6 ns 4),p⟩
def kcs(T M:List Nat)(i:Nat):List Kc:=(zP i).filterMap λa=>(lkN T M a).map (sW M a)
def AJZ(T M:List Nat)(i:Nat):List Nat:=(zP i).filter (I4 T M)
def mrk(T M:List Nat)(i:Nat):List Nat:=(zP i).filter λa=>(lkN T M a).isSome || I4 T M a
theorem cE(a b:List Nat):ints .i64 ((a++b).map zZ)=ints .i64 (a.map zZ)++ints .i64 (b.map zZ):=by unfold ints;rw[yZ,yZ]
theorem uU:BP ty3.zero 1=[AI AT 0]:=by kernel_rfl
section
variable {F:AEh}{e:Env}{h g:Hp}{T M:List Nat}{bs r9 k1 bd tb i:Nat}{v mv:xU}{ks:List Kt}
theorem Id(a:h.Wf){x:O}{z:Int}(b:x e=AI AT z):Ab 1 (BP ty3.zero 1) [(0,1,x)] F e h=.ok (.slice (BY ⟨h.next,0,By⟩) 1 1) (h.AEg 0 [AI AT z]):=by
 rw[uU];exact Fk a b rfl rfl
theorem Hp.KO.nb{k b el:Nat}{e:List xU}(o:h.KO k v ks)(r:h.Row b el e)(f:el≠125):¬AE1 v b:=λ⟨n,m,i,a⟩=>by
 rcases o with ⟨c,d⟩|⟨g,c,d,j,l⟩
 ·rw[c]at a;cases a
 ·rw[c]at a
  injection a with a _ _
  injection a with a
  injection a with a _ _
  rw[a]at d;exact FZ r d f rfl
theorem Hp.Own.nb{k b el en:Nat}{xs e:List xU}(o:h.Own k en v xs)(r:h.Row b el e)(f:el≠en+1):¬AE1 v b:=λ⟨n,m,i,a⟩=>by
 rcases o with ⟨c,d⟩|⟨g,c,d,j,l⟩
 ·rw[c]at a;cases a
 ·rw[c]at a
  injection a with a _ _
  injection a with a
  injection a with a _ _
  rw[a]at d;exact FZ r d f rfl
structure O1 (h g:Hp)(T M:List Nat)(bs r9 k1 bd tb i:Nat)(v mv:xU)(ks:List Kt):Prop where
 x:h.Ext g
 row:g.Row bs 0 (slL bd tb AEk AEk (AJZ T M i).length IT)
 rb:g.Row r9 0 [pt bs]
 ko:g.KO k1 v ks
 cs:ks.map Kt.core=kcs T M i
 ok:∀k∈ks,AHW g (λb=>r9<b) k
 ms:g.Own k1 3 mv (ints .i64 ((mrk T M i).map zZ))
 le:k1<=g.next
theorem kJ:tH=BB (AY 1 (A3 Sp)) tF:=rfl
theorem qv:d39=iG:=rfl
end
section
variable {F:AEh}{e:Env}{h g g' h0:Hp}{bs r9 k1 bd tb n i bad k:Nat}{v mv fv:xU}{ks:List Kt}{S:Nat->Prop}
theorem NK(i:g.Wf){a:List xU}(R:g.Row bs 0 a){off:Nat}(q:off<a.length)(o:256<=bs)(f:cellsOf v=[v])(h2:oneCell v=IN):
  ∃g',(∀(F:AEh) (e:Env) (x y:O),x e=.pointer (BY ⟨bs,off,By⟩)->y e=v->Ac .free (AZ 1 x y) F e g=.ok AEl g')/\g'.Row bs 0 (over a off [v])/\g'.next=g.next/\g'.mark=g.mark/\Fx (λb=>b=bs) g g'/\∀h0:Hp,h0.Ext g->h0.next<=bs->h0.Ext g':=by
 have c:g.quiet.Row bs 0 a:=R.same rfl;have d:off+[v].length<=a.length:=q;have p:Bc [v]=IN:=by
  show(bif oneCell v then IN else IT)=IN;rw[h2];rfl
 have k:=c.AEn (n:=1) (off:=off) (v:=v) i.quiet o (by rw[f];rfl) (by rw[f];exact d) (by rw[f];exact p);rw[f]at k;have wr:=c.AEt i.quiet d;have fx:=Fx.wr (S:=λb=>b=bs) i.quiet c d rfl;have m:=λ(h0:Hp) (x:h0.Ext g.quiet) (j:h0.next<=bs)=>c.AFC x j d
 have l:=c.AFP d;generalize g.quiet.wr bs off [v]=t at k wr fx m l;refine⟨g.back t,λF e x y r s=>BF (by rw[AW,r,s];exact k),wr.same rfl,l,rfl,(fx.from (h:=g) rfl rfl).same rfl rfl,λh0 x j=>x.AFp (m h0 x.quiet j)⟩
theorem Ei(e:g.Wf){c:List xU}(R:g.Row bs 0 c){off:Nat}(k:off<c.length)(h:256<=bs)(d:cellsOf v=[v])(h2:oneCell v=IN):
  ∃g',AEn 1 (.pointer (BY ⟨bs,off,By⟩)) v g=.ok AEl g'/\g'.Row bs 0 (over c off [v])/\g'.next=g.next/\Fx (λb=>b=bs) g g'/\∀h0:Hp,h0.Ext g->h0.next<=bs->h0.Ext g':=by
 have a:off+[v].length<=c.length:=k;have i:Bc [v]=IN:=by
  show(bif oneCell v then IN else IT)=IN;rw[h2];rfl
 have f:=R.AEn (n:=1) (off:=off) (v:=v) e h (by rw[d];rfl) (by rw[d];exact a) (by rw[d];exact i);rw[d]at f;exact⟨_,f,R.AEt e a,R.AFP a,Fx.wr (S:=λb=>b=bs) e R a rfl,λh0 l j=>R.AFC l j a⟩
theorem kQ(j:h0.Ext h)(hk:h0.next<=k)(Q:k<=h.next){xs:List xU}(o:h.Own k 3 v xs){bw:Nat}{z:Int}(q:h.Row bw 0 [AI AT z])(E:xs.length<=1000000):
  ∃h' v',(∀(F:AEh) (e:Env) (x y:O),x e=v->y e=.slice (BY ⟨bw,0,By⟩) 1 1->JQ x (Bk 1 8 3 x y) F e h=.ok v' h')/\h0.Ext h'/\h'.Own k 3 v' (xs++[AI AT z])/\h.next<h'.next/\h'.mark=h.mark/\(∀b el f,¬AE1 v b->h.Row b el f->h'.Row b el f)/\(∀b,AE1 v' b->b=h.next):=by
 have r:=j.wf;have C:h.quiet.Cl (AE1 v) 3 v xs:=by
  rcases o with ⟨c,d⟩|⟨b,c,d,D,p⟩
  ·exact .inl ⟨c,d⟩
  ·exact .inr ⟨b,4,c,d.same rfl,.inl rfl,⟨0,_,_,c⟩,p⟩
 have I:∀b,AE1 v b->h0.next<=b:=λb i=>by
  obtain⟨J,n,B,a⟩:=i;rcases o with ⟨c,d⟩|⟨P,c,d,D,p⟩
  ·rw[c]at a;cases a
  ·rw[c]at a
   injection a with a _ _
   injection a with a
   injection a with a _ _
   omega
 obtain⟨g,b5,s,t,u,l,m,M,w,N,A⟩:=aL (eb:=8) (en:=3) j.quiet C I (q.same (h':=h.quiet) rfl) rfl E (by omega);have l:b5=h.next:=l;have m:g.next=h.next+1:=m;have L:=r.big;refine⟨h.back g,.slice (BY ⟨b5,0,By⟩) (xs.length+1) (xs.length+1),λF e x y G H=>Vy G H s (A rfl rfl h rfl),j.AFp t,.inr ⟨b5,by rw[xY];rfl,u.same rfl,by omega,by omega⟩,by show h.next<g.next;omega,rfl,λb el f i K=>(w b el f i (K.same rfl)).same rfl,λb ⟨J,R,B,a⟩=>?_⟩;injection a with a _ _
 injection a with a
 injection a with a _ _
 omega
theorem kK:tJ=BB (AY 4 (A3 Sq)) tG:=rfl
theorem kI:tF=Xd:=rfl
def AIl(ks:List Kt)(i:Nat):List Nat:=(zP i).filter λa=> !(ks.any λb=>decide (b.p=a))
def AKS(ks:List Kt)(mk:List Nat)(i:Nat):List Nat:=(zP i).filter λa=> !(ks.any λb=>decide (b.p=a)) && decide (a∈mk)
structure O2 (h g:Hp)(mk:List Nat)(bs r9 k1 bd tb i bad:Nat)(w mv fv ou:xU)(ks:List Kt):Prop where
 x:h.Ext g
 row:g.Row bs 0 (slL bd tb w fv bad IT)
 rb:g.Row r9 0 [pt bs]
 ko:g.KO k1 w ks
 ok:∀k∈ks,AHW g (λb=>r9<b) k
 fs:g.Own k1 3 fv (ints .i64 ((AIl ks i).map zZ))
 os:g.Own k1 3 ou (ints .i64 ((AKS ks mk i).map zZ))
 ms:g.Own k1 3 mv (ints .i64 (mk.map zZ))
 ap:∀b,(AE1 fv b->¬AE1 ou b/\¬AE1 mv b)/\(AE1 ou b->¬AE1 mv b)
 le:k1<=g.next
end
theorem uY:Tb.zero=[.pointer By,.pointer By,AI AT 0,.slice By 0 0,.slice By 0 0,AI AT 0,.bool IT]:=by kernel_rfl
theorem mG:Bs .mt 0 [.pointer By]=BY wa:=by kernel_rfl
section
variable {F:AEh}{e:Env}{h:Hp}{n:Nat}
theorem gE{g1 g2 g3:O}{a b:Nat}(c:g1 e=pt a)(h2:g2 e=pt b)(d:g3 e=AI AT 100):BG Tb.zero [(0,1,g1),(1,1,g2),(2,1,g3)] F e h=.ok (.agg ⟨slL a b AEk AEk 0 IT⟩) h:=by
 rw[CX,uY,Ad (hk:=by rw[c];rfl),c,Ad (hk:=by rw[h2];rfl),h2,Ad (hk:=by rw[d];rfl),d];simp only[show ∀a,cellsOf (pt a)=[pt a]from λ_=>rfl,Cj,yd,xh,yU,over,AA0,AAo,zp,yT,zK,xV,zg,if_true,Bo,reduceIte];rfl
theorem wi{n:Nat}(a:n<=1000000):UT .i64 (AI AT (n:Int)) (AI AT 3) h=.ok (AI AT ((n/3:Nat):Int)) h:=by
 have:((n:Nat):Int).tdiv 3=((n/3:Nat):Int):=rfl;rw[MJ (by omega),this,Bf (by omega)]
end
theorem X9:IP.k=.ptr 118:=by kernel_rfl
theorem YA:VY.k=.slice 3:=by kernel_rfl
theorem VX:Pm.k=.slice 124:=by kernel_rfl
def AFA(T:List Nat)(a b c:Int)(s:Nat)(l:List Nat):List Nat:=DH T (L7 (CT a.toNat b.toNat c.toNat s l.length (CJ T l)))
theorem Eb{a b c:Int}{s n:Nat}(h:AEz a b c s n=IN):0<=a/\a<=1099511627776/\0<=b/\b<255/\1<=c/\c<=1099511627776/\(s=1\/s=2)/\n<=65536:=of_decide_eq_true h
theorem Gt{T:List Nat}{a b c:Int}{s:Nat}{l:List Nat}(h:AEz a b c s l.length=IN):(AFA T a b c s l).length=64:=by
 obtain⟨e,f,g,i,j,k,n,d⟩:=Eb h;unfold AFA L7;rw[Fm,Nt];have:=PP (a:=a.toNat) (b:=b.toNat) (c:=c.toNat) (s:=s) (m:=l.length) (t:=CJ T l) (by omega) (by omega) (by omega) (by omega) d (Ip T l);omega
theorem NQ{T:List Nat}{a b c:Int}{s:Nat}{l:List Nat}:∀x∈AFA T a b c s l,x<256:=KK (Xh Pn)
theorem RH{l:List Nat}(h:l.length=64):DB l 0=l:=by
 unfold DB;rw[ACa,yk,ze (by omega),h];exact yF l
def Kf(p:Nat)(l:List Nat):List AFY:=(zP ((l.length+63)/64)).map (λa=>AFY.w (p*3+1+a) (DB l a))++[.f]
def GZ(p:Nat)(H:List Nat):List AFY:=[.w (p*3) H,.f]
theorem N5:∀(a:List AFY) (M:List Nat) (cs:List (Nat×List Nat)),(G5 M cs (a++[.f])).2=[]
 |[],M,cs=>rfl
 |.w b c::a,M,cs=>N5 a _ _
 |.f::a,M,cs=>N5 a _ _
theorem kF{n p:Nat}{l:List Nat}(f:3*p+3<=n)(e:1<=l.length/\l.length<=100)(b:∀x∈l,x<256){H:List Nat}(c:H.length=64)(d:∀x∈H,x<256):Fb n [] (Kf p l++GZ p H):=by
 have hk:(l.length+63)/64=1\/(l.length+63)/64=2:=by omega
 unfold Kf GZ;rcases hk with hk|hk<;>rw[hk]
 ·exact⟨λx a=>(by cases a),by show p*3+1+0<n;omega,C4 _ _,My b _,by simp,by simp,λx a=>(by cases a),by omega,c,d,by simp,by simp,OF⟩
 ·refine⟨λx a=>(by cases a),by show p*3+1+0<n;omega,C4 _ _,My b _,λx a=>?_,by show p*3+1+1<n;omega,C4 _ _,My b _,by simp,by simp,λx a=>(by cases a),by omega,c,d,by simp,by simp,OF⟩
  have:=yG.1 a;rw[this];show p*3+1+0≠p*3+1+1;omega
theorem Xc{n p:Nat}(d:3*p+3<=n){H:List Nat}(a:H.length=64)(b:∀x∈H,x<256):Fb n [] (GZ p H):=⟨λx c=>(by cases c),by omega,a,b,by simp,by simp,OF⟩
def EM(T M:List Nat)(p:Nat)(l H:List Nat):List Nat:=(G5 M [] (Kf p l++GZ p H)).1
def Hg(M:List Nat)(p:Nat)(H:List Nat):List Nat:=(G5 M [] (GZ p H)).1
section
variable {F:AEh}{e:Env}{h h' h0:Hp}{S:Nat->Prop}{A:At}{T M:List Nat}{c0 bad m k p:Nat}{arm:Int}{ks:List Kt}{fr:List Nat}{v lv fv:xU}{ov:Bool}
theorem ON(R:h.Row A.bs 0 (slL A.bd A.tb lv fv bad IT)):call AC (m+1) 89 [pt A.bs] h=.ok (AI AT 0) h:=by
 obtain⟨b,_,_,_,_,_,c⟩:=BK R;have d:∀e:Env,J 0 e=pt A.bs->oEq IP.k IT (J 0) (W (.pointer By)) (call AC m) e h=.ok (.bool IT) h:=λe a=>GU X9 a
 have f:∀e:Env,J 10 e=pt A.bd->oEq ZT.k IT (J 10) (W (.pointer By)) (call AC m) e h=.ok (.bool IT) h:=λe a=>GU mV a
 rw[pX rfl];unfold d89;simp only[iN,xV,sT,xT,sh,reduceIte,gD,d,Ax,Am,AH,AO,xZ,AN,AQ,b,f,c,lV0]
theorem px{n:Nat}{h:Hp}(a:h.Wf){u:xU}{xs:List xU}(g:h.AE7 u xs)(C:Bc xs=IN)(H:xs.length<=1000000):
  ∃h' v,call AC (n+1) 99 [u] h=.ok v h'/\h.Ext h'/\h'.WI (λb=>h.next<=b) v xs:=by
 rcases g with ⟨rfl,rfl⟩|⟨b,off,y,z,p,o,j,A,B⟩
 ·have f:∀e:Env,J 0 e=.slice By 0 0->oEq VY.k IT (J 0) (W (.slice By 0 0)) (call AC n) e h=.ok (.bool IN) h:=λe l=>J5 (t:=0) YA l
  refine⟨h,AEk,?_,.refl a,.inl ⟨rfl,rfl⟩⟩;rw[Kx rfl];unfold d99;simp only[iN,xV,sT,xT,sh,reduceIte,f,lV0]
 ·have g:h.AE7 u xs:=.inr ⟨b,off,y,z,p,o,j,A,B⟩
  have c:=(Hp.Ext.refl a).AEg 0 [];have R:=Hp.Row.new a 0 [];have es:=λ(e:Env) (t:List xU)=>K7 (F:=call AC n) (e:=e) (t:=t) a
  have D:(h.AEg 0 []).next=h.next+1:=rfl;generalize h.AEg 0 []=i at c R es D;have f:∀e:Env,J 0 e=u->oEq VY.k IT (J 0) (W (.slice By 0 0)) (call AC n) e h=.ok (.bool IT) h:=λe l=>J4 (t:=0) YA (l.trans o)
  have d:=g.ext a c;have big:=a.big;rcases yl xs.length with m|m
  ·obtain rfl:xs=[]:=zA m
   have x:DU 1 8 3 (.slice (BY ⟨h.next,0,By⟩) 0 0) u i=.ok (.slice (BY ⟨h.next,0,By⟩) 0 0) (i.wr h.next 0 []):=IA c.wf big R (λk=>d.src rfl k) d.lenV;have q:=R.AEt c.wf (off:=0) (vs:=[]) (xW _);refine⟨_,.slice (BY ⟨h.next,0,By⟩) 0 0,?_,R.AFC c (xW _) (off:=0) (vs:=[]) (xW _),.inr ⟨h.next,0,rfl,q,.inr rfl,xW _⟩⟩;rw[Kx rfl];unfold d99;simp only[iN,xV,sT,xT,sh,reduceIte,f,es,Bb,x,lV0]
  ·obtain⟨j,r,s,w,E,G⟩:=E4 (eb:=8) (en:=3) c R (es:=1) (λk=>d.src rfl k) d.lenV (by omega) m C (by omega)
   refine⟨j,_,?_,s,.inr ⟨i.next,3+1,rfl,w,.inl rfl,by omega⟩⟩;rw[Kx rfl];unfold d99;simp only[iN,xV,sT,xT,sh,reduceIte,f,es,Bb,r,lV0]
theorem UJ(b:h.Wf)(K:h.KS S v ks)(H:∀k∈ks,oneCell k.u=IN)(h0:ks=[]->v=.slice By 0 0)(G:ks.length<=10000):
  ∃h' w,call AC (m+1) 100 [v] h=.ok w h'/\h.Ext h'/\h'.KO h.next w ks:=by
 rcases K with ⟨rfl,rfl⟩|⟨U,c,V,P,d,E,p,C,r,Y,X⟩
 ·have j:∀e:Env,J 0 e=.slice By 0 0->oEq Pm.k IT (J 0) (W (.slice By 0 0)) (call AC m) e h=.ok (.bool IN) h:=λe g=>J5 (t:=0) VX g
  refine⟨h,AEk,?_,.refl b,.inl ⟨rfl,rfl⟩⟩;rw[Pz rfl];unfold aU;simp only[iN,xV,sT,xT,sh,reduceIte,j,lV0]
 ·have q:0<ks.length:=by
   rcases yl ks.length with i|i
   ·have:=h0 (zA i)
    rw[this]at d;cases d
   ·exact i
  have l:=(Hp.Ext.refl b).AEg 0 [];have R:=Hp.Row.new b 0 [];have es:=λ(e:Env) (t:List xU)=>K7 (F:=call AC m) (e:=e) (t:=t) b
  have N:(h.AEg 0 []).next=h.next+1:=rfl;generalize h.AEg 0 []=A at l R es N;have j:∀e:Env,J 0 e=v->oEq Pm.k IT (J 0) (W (.slice By 0 0)) (call AC m) e h=.ok (.bool IT) h:=λe g=>J4 (t:=0) VX (g.trans d)
  have o:=p.ext b l;have D:Bc (flK ks)=IN:=by
   clear d p o G q h0 E C r
   induction ks with
   |nil=>rfl
   |cons k a0 Z=>
    refine Qj λO L=>?_
    obtain⟨a,M,f⟩:=List.mem_flatMap.1 L;have I:=H a M;have f:O∈[Value.int .i64 a.a,AI AT a.b,AI AT a.c,.int .u8 (a.s:Int),a.u,AI AT (a.p:Int)]:=f;simp only[yC,List.mem_nil_iff,or_false]at f;rcases f with rfl|rfl|rfl|rfl|rfl|rfl
    all_goals first|exact I|rfl
  have big:=b.big;obtain⟨B,s,x,y,Q,T⟩:=E4 (eb:=64) (en:=124) (u:=v) (cs:=flK ks) (n:=ks.length) l R (es:=6) (λK=>by
   have z:=o.AGd (es:=6) (off:=0) (n:=ks.length) (sl:=ks.length) (c:=c) (k:=K) (by omega);rw[d,z,yk,zb ks.length 6,r]) (by rw[d];rfl) (by rw[Cu];omega) q D (by omega)
  refine⟨B,_,?_,x,.inr ⟨A.next,rfl,y,by omega,by omega⟩⟩;rw[Pz rfl];unfold aU;simp only[iN,xV,sT,xT,sh,reduceIte,j,es,Bb,s,lV0]
def Hp.KN(h:Hp)(k:Nat)(v:xU)(ks:List Kt):Prop:=h.KO k v ks\/(ks=[]/\∃a,v=.slice (BY ⟨a,0,By⟩) 0 0/\h.Row a 0 []/\k<=a/\256<=a)
theorem WN(a:h.Wf)(K:h.KS S v ks)(o:∀k∈ks,oneCell k.u=IN)(l:ks.length<=10000):
  ∃h' w,call AC (m+1) 100 [v] h=.ok w h'/\h.Ext h'/\h'.KN h.next w ks:=by
 have K0:=K;rcases K with ⟨rfl,rfl⟩|⟨d,c,A,z,i,D,u,C,G,E,B⟩
 ·obtain⟨h',w,g,d,c⟩:=UJ (m:=m) a K0 o (λ_=>rfl) l
  exact⟨h',w,g,d,.inl c⟩
 ·rcases yl ks.length with f|f
  ·obtain rfl:ks=[]:=zA f
   have b:=(Hp.Ext.refl a).AEg 0 [];have R:=Hp.Row.new a 0 [];have es:=λ(e:Env) (t:List xU)=>K7 (F:=call AC m) (e:=e) (t:=t) a
   generalize h.AEg 0 []=j at b R es;have y:∀e:Env,J 0 e=v->oEq Pm.k IT (J 0) (W (.slice By 0 0)) (call AC m) e h=.ok (.bool IT) h:=λe x=>J4 (t:=0) VX (x.trans i)
   have p:=u.ext a b;have r:DU 6 64 124 (.slice (BY ⟨h.next,0,By⟩) 0 0) v j=.ok (.slice (BY ⟨h.next,0,By⟩) 0 0) (j.wr h.next 0 []):=IA b.wf a.big R (λK=>by
    have s:=p.AGd (es:=6) (off:=0) (n:=0) (sl:=0) (c:=c) (k:=K) (by omega);rw[i];exact s) (by rw[i];rfl)
   have q:=R.AEt b.wf (off:=0) (vs:=[]) (xW _);refine⟨_,.slice (BY ⟨h.next,0,By⟩) 0 0,?_,R.AFC b (xW _) (off:=0) (vs:=[]) (xW _),.inr ⟨rfl,h.next,rfl,q,xW _,a.big⟩⟩;rw[Pz rfl];unfold aU;simp only[iN,xV,sT,xT,sh,reduceIte,y,es,Bb,r,lV0]
  ·obtain⟨h',w,g,d,c⟩:=UJ (m:=m) a K0 o (λh=>by rw[h]at f;exact absurd f (Nat.lt_irrefl 0)) l
   exact⟨h',w,g,d,.inl c⟩
theorem gq{xs:List xU}{z:xU}(o:h.WI S v (z::xs)):∃w,h.AE7 w xs/\∀(F:AEh) (e:Env) (x:O),x e=v->Dr 3 1 x (BY (W (AI AT 1))) By By F e h=.ok w h:=by
 rcases o with ⟨_,n⟩|⟨b,g,t,d,q,_⟩
 ·cases n
 ·have s:(z::xs).length=xs.length+1:=rfl
  have key:∀(F:AEh) (e:Env) (x:O),x e=v->Dr 3 1 x (BY (W (AI AT 1))) By By F e h=Bz (BY ⟨b,0,By⟩) 1 1 (xs.length+1) (xs.length+1) h:=λF e x c=>by
   show(match x e with|.slice i y j=>DY e y j (BY (W (AI AT 1))) By By (λu r m=>ES 3 1 i IT u r m h)|_=>.no)=_;rw[c,t,s];show(bif yI 1 (xs.length+1)then ES 3 1 (BY ⟨b,0,By⟩) IT 1 (xs.length+1) (xs.length+1) h else .no)=_;rw[As.2 (show 1<=xs.length+1 by omega)];show(bif FG 3 (BY ⟨b,0,By⟩) h then Bz (BY ⟨b,0,By⟩) 1 1 (xs.length+1) (xs.length+1) h else .no)=_;have:FG 3 (BY ⟨b,0,By⟩) h=IN:=by
    obtain⟨A,p,_⟩:=d.rowOf;unfold FG;simp only[p];rcases q with rfl|rfl<;>rfl
   rw[this];rfl
  cases xs with
  |nil=>
   refine⟨.slice (BY ⟨b,0,By⟩) 0 0,.inr ⟨b,0,0,g,_,rfl,d,yH _,rfl⟩,λF e x c=>?_⟩;rw[key F e x c];rfl
  |cons f a=>
   refine⟨.slice (BY ⟨b,1,By⟩) (a.length+1) (a.length+1),.inr ⟨b,1,a.length+1,g,_,rfl,d,?_,?_⟩,λF e x c=>?_⟩
   ·show 1+(a.length+1)<=a.length+1+1
    omega
   ·show((z::f::a).drop 1).take (f::a).length=f::a
    exact yz
   ·rw[key F e x c]
    show Bz (BY ⟨b,0,By⟩) 1 1 (a.length+1+1) (a.length+1+1) h=_;unfold Bz;simp only[Ao];have k:yA (a.length+1+1) 1=IT:=rfl;have l:Nat.sub (a.length+1+1) 1=a.length+1:=rfl;simp only[k,l]
theorem RF{g1 g2 g3 g5:O}{a b c:Int}{u:xU}(d:g1 e=AI AT a)(h2:g2 e=AI AT b)(f:g3 e=AI AT c)(g:g5 e=u)(i:cellsOf u=[u])(hk:known u=IN):
  BG Iu.zero [(0,1,g1),(1,1,g2),(2,1,g3),(3,1,W (.int .u8 1)),(4,1,g5)] F e h=.ok (Bn a b c 1 u) h:=by
 rw[CX,Vd,Ad (hk:=by rw[d];rfl),d,Ad (hk:=by rw[h2];rfl),h2,Ad (hk:=by rw[f];rfl),f,Ad,Ad (hk:=by rw[g];exact hk),g,i];simp only[EY,Cj,yd,xh,yU,A9,over,AA0,AAo,zp,yT,zK,xV,zg,if_true,Bo,reduceIte];rfl
theorem Sl.bsx{c:List Kt}{a:List Nat}{f e:xU}{d:Nat}{i:Bool}(s:Sl h A T M c0 arm ks fr lv fv bad ov)(g:h.Wf)(x:Fx (λb=>b=A.bs) h h')(row:h'.Row A.bs 0 (slL A.bd A.tb f e d i))(m:h'.KS (λb=>¬A.D b) f c)(l:∀k∈c,AHW h' (λb=>¬A.D b) k)
  (j:h'.WI (λb=>¬A.D b) e (ints .i64 (a.map zZ)))(le:c.length<=1000/\a.length<=1000/\d<=1000/\∀p∈a,3*p+3<=A.n):Sl h' A T M c0 arm c a f e d i:=
 ⟨row,s.dk.fr g x (λh=>s.ne.1 h.symm) (λh=>s.ne.2.1 h.symm) (λh=>s.ne.2.2.1 h.symm),x.row g s.tab (λh=>s.ne.2.2.2.1 (.inl h)),s.tok,m,l,j,s.ne,le⟩
end
theorem QH:∀(ks:List Kt) (j:Nat) (x:Kt),j<ks.length->over (flK ks) (6*j) (Aj x)=flK (ks.set j x)
 |[],j,x,a=>by cases a
 |k::ks,0,x,a=>by
  show over (Aj k++flK ks) 0 (Aj x)=Aj x++flK ks;exact Ns rfl
 |k::ks,j+1,x,a=>by
  have d:=QH ks j x (by simpa using a);show over (Aj k++flK ks) (6*(j+1)) (Aj x)=Aj k++flK (ks.set j x);rw[<- d];unfold over;have b:6*(j+1)=(Aj k).length+6*j:=by show _=6+_;omega
  have c:6*(j+1)+(Aj x).length=(Aj k).length+(6*j+(Aj x).length):=by rw[b];omega
  rw[c,AAQ,b,List.take_length_add_append,yD,yD,yD]
def Iq(x:Kt):List Kt->List Kt
 |[]=>[x]
 |y::a=>if JV x y<0 then y::Iq x a else x::y::a
def HL(A:List Kt)(x:Kt):List Kt:=(Iq x A.reverse).reverse
def srt:List Kt->List Kt->List Kt
 |A,[]=>A
 |A,b::a=>srt (HL A b) a
theorem LG(x y:Kt)(r:List Kt):Iq x (y::r)=if JV x y<0 then y::Iq x r else x::y::r:=rfl
theorem SH(x:Kt):∀l:List Kt,(Iq x l).length=l.length+1
 |[]=>rfl
 |y::a=>by
  unfold Iq;split
  ·rw[xh,SH x a,xh]
  ·rfl
theorem NU(A:List Kt)(x:Kt):(HL A x).length=A.length+1:=by
 unfold HL;rw[AAe,SH,AAe]
theorem NT{x z:Kt}:∀{l:List Kt},z∈Iq x l↔z=x\/z∈l
 |[]=>by simp[Iq]
 |y::a=>by
  unfold Iq;split
  ·rw[yC,NT,yC]
   constructor
   ·rintro (h|h|h)
    ·exact .inr (.inl h)
    ·exact .inl h
    ·exact .inr (.inr h)
   ·rintro (h|h|h)
    ·exact .inr (.inl h)
    ·exact .inl h
    ·exact .inr (.inr h)
  ·exact yC
theorem SI{A:List Kt}{x z:Kt}:z∈HL A x↔z=x\/z∈A:=by
 unfold HL;rw[ACC,NT,ACC]
theorem PF{x:Kt}:∀{R Q:List Kt},(∀y∈R,JV x y<0)->Iq x (R++Q)=R++Iq x Q
 |[],Q,_=>rfl
 |y::R,Q,a=>by
  rw[zK,LG,If (a y xp),PF λc b=>a c (xn _ b)];rfl
theorem XK{x:Kt}{P Q:List Kt}(e:∀y∈Q,JV x y<0)(d:P=[]\/∃a y,P=a++[y]/\¬JV x y<0):HL (P++Q) x=P++x::Q:=by
 unfold HL;rw[AAc,PF λy b=>e y (ACC.1 b)];have c:Iq x P.reverse=x::P.reverse:=by
  rcases d with rfl|⟨a,y,rfl,b⟩
  ·rfl
  ·rw[AAc]
   show Iq x (y::a.reverse)=_;unfold Iq;rw[No b];rfl
 rw[c,AAc,ACI,AA3,AA3,yD];rfl
theorem KT{a:Type}{x y:a}:∀{P R:List a},(P++x::R).set P.length y=P++y::R
 |[],R=>rfl
 |z::P,R=>by
  show z::(P++x::R).set P.length y=_;rw[KT];rfl
theorem PU{l Z vs:List xU}{o:Nat}(h:o+vs.length<=l.length):over (l++Z) o vs=over l o vs++Z:=by
 unfold over;rw[ACA (by omega),List.drop_append_of_le_length h,yD,yD,yD]
theorem GS{a:Type}{x:a}{P R:List a}:(P++x::R)[P.length]? =BY x:=by
 rw[yR (xW _),ACZ];rfl
theorem J6{a:Type}{x y:a}{P R:List a}:(P++y::x::R)[P.length+1]? =BY x:=by
 rw[yR (by omega),show P.length+1 - P.length=1 by omega];rfl
section
variable {F:AEh}{e:Env}{h h':Hp}{S:Nat->Prop}{bl n c:Nat}{ks:List Kt}{Z:List xU}
theorem Qr(R:h.Row bl 125 (flK ks++Z))(d:n=ks.length)(a:ks.length<=c):h.KS (λb=>b=bl) (.slice (BY ⟨bl,0,By⟩) n c) ks:=by
 subst d;exact .inr ⟨bl,c,_,_,rfl,a,R,by rw[xY,Cu];omega,by rw[ACA (by rw[Cu];omega),<- Cu,yz],.inl rfl,rfl⟩
theorem cQ(f:h.Wf)(R:h.Row bl 125 (flK ks++Z))(l:256<=bl){j:Nat}(q:j<ks.length){x:Kt}(r:oneCell x.u=IN):
  ∃h',(∀(F:AEh) (e:Env) (g i:O),g e=.pointer (BY ⟨bl,6*j,By⟩)->i e=ktV x->Ac .free (AZ 6 g i) F e h=.ok AEl h')/\Fx (λb=>b=bl) h h'/\h'.Row bl 125 (flK (ks.set j x)++Z)/\h'.next=h.next/\h'.mark=h.mark:=by
 have a:h.quiet.Row bl 125 (flK ks++Z):=R.same rfl;have m:6*j+(Aj x).length<=(flK ks).length:=by rw[Cu];show 6*j+6<=_;omega
 have c:6*j+(Aj x).length<=(flK ks++Z).length:=by rw[xY];omega
 have d:=a.AEn (n:=6) (off:=6 * j) (v:=ktV x) f.quiet l rfl c (HG r);have wr:=a.AEt f.quiet c;rw[PU m,QH ks j x q]at wr;have fx:=Fx.wr (S:=λb=>b=bl) f.quiet a c rfl;have k:=a.AFP c;have d:AEn 6 (.pointer (BY ⟨bl,6 * j,By⟩)) (ktV x) h.quiet=.ok AEl (h.quiet.wr bl (6 * j) (Aj x)):=d;generalize h.quiet.wr bl (6 * j) (Aj x)=s at d wr fx k;exact⟨h.back s,λF e g i o p=>BF (by rw[AW,o,p];exact d),(fx.from (h:=h) rfl rfl).same rfl rfl,wr.same rfl,k,rfl⟩
theorem Uj:jnB=cI:=rfl
theorem lQ(W:h.Wf){P R:List Kt}{x y:Kt}(hks:ks=P++y::x::R)(Rw:h.Row bl 125 (flK ks++Z))(AEs:256<=bl)(hn:n=ks.length)(hc:ks.length<=c)(hl:ks.length<=100000)(ux:oneCell x.u=IN)(uy:oneCell y.u=IN)
  (s0:J 0 e=.slice (BY ⟨bl,0,By⟩) n c)(s9:J 9 e=AI AT ((P.length+1:Nat):Int)):
  ∃e' h',swB F e h=.norm e' h'/\Fx (λb=>b=bl) h h'/\h'.Row bl 125 (flK (P++x::y::R)++Z)/\∀j,j=0\/j=1\/j=2\/j=3\/j=8\/j=9->J j e'=J j e:=by
 have lk:ks.length=P.length+1+1+R.length:=by rw[hks,xY,xh,xh];omega
 have K:=Qr (Rw.same (h':=h.marked) rfl) hn hc;obtain⟨b,rfl,ix,ld,_⟩:=K.at (i:=P.length+1) (k:=x) (by rw[hks];exact J6);obtain⟨b',hb',iy,ldy,_⟩:=K.at (i:=P.length) (k:=y) (by rw[hks];exact GS);have hb':b'=b:=hb';subst hb';have a1:Fp yi .i64 (AI AT ((P.length+1:Nat):Int)) (AI AT 1) h.marked=.ok (AI AT (P.length:Int)) h.marked:=by
  have:yi ((P.length+1:Nat):Int) 1=(P.length:Int):=by
   show((P.length+1:Nat):Int) - 1=_;omega
  rw[Cn,this,Bf (by omega)]
 obtain⟨h1,q1,f1,R1,n1,mk1⟩:=cQ (j:=P.length+1) W.marked (Rw.same (h':=h.marked) rfl) AEs (by omega) uy;have e1:ks.set (P.length+1) y=P++y::y::R:=by
  rw[hks,show P++y::x::R=(P++[y])++x::R by simp,show P.length+1=(P++[y]).length by simp,KT];simp
 rw[e1]at R1;have ix1:AFV 6 (.slice (BY ⟨b',0,By⟩) n c) (AI AT (P.length:Int)) h1=.ok (.pointer (BY ⟨b',6*P.length,By⟩)) h1:=by
  have:=Cy (h:=h1) (n:=n) (c:=c) (es:=6) (b:=b') (off:=0) (i:=P.length) (k:=.i64) (by omega)
  rwa [xZ,zb]at this
 obtain⟨h2,q2,f2,R2,n2,mk2⟩:=cQ (j:=P.length) f1.wf R1 AEs (by rw[xY];simp) ux;rw[KT]at R2;have fm:Fx (λb=>b=b') h h1:=f1.from (h:=h) rfl rfl;have hrun:∃e',swB F e h=.norm e' h2/\∀j,j=0\/j=1\/j=2\/j=3\/j=8\/j=9->J j e'=J j e:=by
  have q1':∀(F:AEh) (e:Env),J 51 e=.pointer (BY ⟨b',6*(P.length+1),By⟩)->J 46 e=ktV y->Ac .free (AZ 6 (J 51) (J 46)) F e h.marked=.ok AEl h1:=λF e a b=>q1 F e _ _ a b
  have q2':∀(F:AEh) (e:Env),J 52 e=.pointer (BY ⟨b',6*P.length,By⟩)->J 50 e=ktV x->Ac .free (AZ 6 (J 52) (J 50)) F e h1=.ok AEl h2:=λF e a b=>q2 F e _ _ a b
  unfold swB;simp only[sT,xT,sh,reduceIte,Aw,B6,s9,a1,BA,s0,iy,An,Ah,ldy,ix,ld,q1',ix1,q2'];refine⟨_,rfl,λj hj=>?_⟩;rcases hj with rfl|rfl|rfl|rfl|rfl|rfl<;>simp only[AG,xT,sh,reduceIte]
 obtain⟨e',r1,r2⟩:=hrun;exact⟨e',h2,r1,fm.trans f2,R2,r2⟩
end
theorem Xw{d:Type}(P:List d):P=[]\/∃b y,P=b++[y]:=by
 rcases a:P.reverse with _|⟨y,c⟩
 ·exact .inl (List.reverse_eq_nil_iff.1 a)
 ·refine .inr ⟨c.reverse,y,?_⟩
  rw[<- AA3 P,a,ACI]
section
variable {e:Env}{h h':Hp}{bl n c m:Nat}{ks:List Kt}{Z:List xU}
theorem cC(a3:h.Wf){A B:List Kt}{x:Kt}(Rw:h.Row bl 125 (flK (A++x::B)++Z))(a2:256<=bl)(hn:n=(A++x::B).length)(D:n<=c)(hl:n<=1000)(T:∀k∈A++x::B,oneCell k.u=IN)
  (s0:J 0 e=.slice (BY ⟨bl,0,By⟩) n c)(s1:J 1 e=AI AT 0)(s3:J 3 e=.func (.func 71) ⟨[]⟩ ⟨[]⟩)(s9:J 9 e=AI AT (A.length:Int)):
  ∃l h',A3 jnB (call AC (m+3)) e h=.exit 2 l h'/\Fx (λb=>b=bl) h h'/\h'.Row bl 125 (flK (HL A x++B)++Z)/\∀j,j=0\/j=1\/j=2\/j=3\/j=8->J j l=J j e:=by
 have a5:(A++x::B).length=A.length+1+B.length:=by rw[xY,xh];omega
 refine Bd (I:=λi l g=>∃P Q,A=P++Q/\P.length+i=A.length/\Fx (λb=>b=bl) h g/\g.Row bl 125 (flK (P++x::(Q++B))++Z)/\(∀d∈Q,JV x d<0)/\J 9 l=AI AT (P.length:Int)/\∀j,j=0\/j=1\/j=2\/j=3\/j=8->J j l=J j e)
  (Q:=λa6=>∃l h',a6=.exit 2 l h'/\Fx (λb=>b=bl) h h'/\h'.Row bl 125 (flK (HL A x++B)++Z)/\∀j,j=0\/j=1\/j=2\/j=3\/j=8->J j l=J j e) (A.length+1) (by omega) (λi l g ⟨P,Q,w,hP,fx,R,M,t9,t⟩=>?_) ⟨A,[],by rw[yF],rfl,.refl a3,Rw,λd hy=>(by cases hy),s9,λ_ _=>rfl⟩
 have F:=fx.wf;have t0:=(t 0 (by omega)).trans s0;have t1:=(t 1 (by omega)).trans s1;have t3:=(t 3 (by omega)).trans s3;rcases Xw P with rfl|⟨a,d,rfl⟩
 ·right
  have C:iGt ((([]:List Kt).length:Nat):Int) 0=IT:=FW (by decide);have y:∃p,jnB (call AC (m+3)) l g=.exit 2 p g.marked/\∀j,j=0\/j=1\/j=2\/j=3\/j=8->J j p=J j l:=by
   rw[Uj];unfold cI;simp only[sT,xT,sh,reduceIte,gD,Aw,AK,AJ,t9,t1,C];refine⟨_,rfl,λj o=>?_⟩;rcases o with rfl|rfl|rfl|rfl|rfl<;>simp only[AG,xT,sh,reduceIte]
  obtain⟨p,s,r⟩:=y;rw[s];refine⟨rfl,p,_,rfl,fx.same rfl rfl,?_,λj o=>(r j o).trans (t j o)⟩;have:=XK (x:=x) (P:=[]) (Q:=Q) M (.inl rfl);rw[w,this];have e5:([]++x::Q)++B=[]++x::(Q++B):=rfl;rw[e5];exact R.same rfl
 ·have X:(a++[d]).length=a.length+1:=by simp
  rw[X]at hP t9;have lA:A.length=a.length+1+Q.length:=by rw[w,xY,X]
  have eR:(a++[d])++x::(Q++B)=a++d::x::(Q++B):=by simp
  rw[eR]at R;have W:(a++d::x::(Q++B)).length=n:=by
   rw[hn,a5,lA];simp only[xY,xh];omega
  have ux:oneCell x.u=IN:=T x (yc _ xp);have uy:oneCell d.u=IN:=T d (yh _ (by rw[w];exact yh _ (yc _ xp)));have K:=Qr (n:=n) (c:=c) (R.same (h':=g.marked) rfl) W.symm (by omega);obtain⟨b,hb,U,Y,_⟩:=K.at (i:=a.length+1) (k:=x) J6;obtain⟨b',a8,V,a0,_⟩:=K.at (i:=a.length) (k:=d) GS;have C:iGt ((a.length+1:Nat):Int) 0=IN:=GM (by omega);have G:∀g:Hp,Fp yi .i64 (AI AT ((a.length+1:Nat):Int)) (AI AT 1) g=.ok (AI AT (a.length:Int)) g:=λg=>by
   have:yi ((a.length+1:Nat):Int) 1=(a.length:Int):=by
    show((a.length+1:Nat):Int) - 1=_;omega
   rw[Cn,this,Bf (by omega)]
  obtain⟨L,k2,x2⟩:=tK (m:=m) F.marked.quiet x d;have O:∀e:Env,J 22 e=.func (.func 71) ⟨[]⟩ ⟨[]⟩->J 26 e=ktV x->J 31 e=ktV d->Ac .free (B4 (J 22) [J 26,J 31]) (call AC (m+3)) e g.marked=.ok (AI AT (JV x d)) (g.marked.back L):=λe e1 p f=>by
   refine BF ?_;rw[CU,AV,AV,A4,e1,p,f];exact k2
  have z:g.Ext (g.marked.back L):=(Hp.Ext.refl F).marked.trans (.back x2);generalize g.marked.back L=u at O z;have S:=R.ext F z;by_cases D:JV x d<0
  ·left
   have H:iLt (JV x d) 0=IN:=H0 D;have sw:∀p:Env,J 0 p=.slice (BY ⟨bl,0,By⟩) n c->J 9 p=AI AT ((a.length+1:Nat):Int)->∃f q,swB (call AC (m+3)) p u=.norm f q/\Fx (λb=>b=bl) u q/\q.Row bl 125 (flK (a++x::d::(Q++B))++Z)/\∀j,j=0\/j=1\/j=2\/j=3\/j=8\/j=9->J j f=J j p:=λp a4 b=>lQ z.wf rfl S a2 W.symm (by omega) (by omega) ux uy a4 b
   have y:∃f q,jnB (call AC (m+3)) l g=.norm f q/\Fx (λb=>b=bl) u q/\q.Row bl 125 (flK (a++x::d::(Q++B))++Z)/\J 9 f=AI AT (a.length:Int)/\∀j,j=0\/j=1\/j=2\/j=3\/j=8->J j f=J j l:=by
    rw[Uj];unfold cI;simp only[sT,xT,sh,reduceIte,gD,Aw,AK,AJ,t9,t1,C,t3,t0,BA,U,An,Ah,Y,B6,G,V,a0,O,H,A7,Ap];obtain⟨f,q,s,f4,E,r⟩:=sw (Env.set 34 (.bool IN) (Env.set 33 (.bool IN) (Env.set 32 (AI AT (JV x d)) (Env.set 31 (ktV d) (Env.set 30 (.pointer (BY ⟨b',6*a.length,By⟩)) (Env.set 29 (AI AT (a.length:Int)) (Env.set 28 (AI AT ((a.length+1:Nat):Int)) (Env.set 27 (.slice (BY ⟨bl,0,By⟩) n c) (Env.set 26 (ktV x) (Env.set 25 (.pointer (BY ⟨b,6*(a.length+1),By⟩)) (Env.set 24 (AI AT ((a.length+1:Nat):Int)) (Env.set 23 (.slice (BY ⟨bl,0,By⟩) n c) (Env.set 22 (.func (.func 71) ⟨[]⟩ ⟨[]⟩) (Env.set 20 (.bool IN) l)))))))))))))) (by simp[AG,t0]) (by simp[AG,t9]);have u9:J 9 f=AI AT ((a.length+1:Nat):Int):=(r 9 (by omega)).trans (by simp[AG,t9]);rw[s];simp only[Bt,Ay,sT,xT,sh,reduceIte,B6,u9,G];refine⟨_,_,rfl,f4,E,by simp[AG],λj o=>?_⟩;have:=r j (by omega);rcases o with rfl|rfl|rfl|rfl|rfl<;>simp only[AG,xT,sh,reduceIte]at this ⊢<;>exact this
   obtain⟨f,q,s,f4,E,r9,r⟩:=y;refine⟨by omega,f,q,s,a,d::Q,by rw[w];simp,by omega,(fx.trans (.of z)).trans f4,E,λa7 N=>?_,r9,λj o=>(r j o).trans (t j o)⟩;rcases yC.1 N with rfl|N
   ·exact D
   ·exact M a7 N
  ·right
   have H:iLt (JV x d) 0=IT:=FI (by omega);have y:∃f,jnB (call AC (m+3)) l g=.exit 2 f u/\∀j,j=0\/j=1\/j=2\/j=3\/j=8->J j f=J j l:=by
    rw[Uj];unfold cI;simp only[sT,xT,sh,reduceIte,gD,Aw,AK,AJ,t9,t1,C,t3,t0,BA,U,An,Ah,Y,B6,G,V,a0,O,H];refine⟨_,rfl,λj o=>?_⟩;rcases o with rfl|rfl|rfl|rfl|rfl<;>simp only[AG,xT,sh,reduceIte]
   obtain⟨f,s,r⟩:=y;rw[s];refine⟨rfl,f,u,rfl,fx.trans (.of z),?_,λj o=>(r j o).trans (t j o)⟩;rw[w,XK M (.inr ⟨a,d,rfl,D⟩),yD,yD];exact S
theorem dW(D:h.Wf){ks:List Kt}(C:h.Row bl 125 (flK ks++Z))(A:256<=bl)(hn:n=ks.length)(M:n<=c)(O:n<=1000)(P:∀k∈ks,oneCell k.u=IN):
  ∃h',call AC (m+4) 133 [.slice (BY ⟨bl,0,By⟩) n c,AI AT 0,AI AT (n:Int),.func (.func 71) ⟨[]⟩ ⟨[]⟩] h=.ok AEl h'/\Fx (λb=>b=bl) h h'/\h'.Row bl 125 (flK (srt (ks.take 1) (ks.drop 1))++Z):=by
 have Y:∀l:Env,J 0 l=.slice (BY ⟨bl,0,By⟩) n c->J 1 l=AI AT 0->J 2 l=AI AT (n:Int)->J 3 l=.func (.func 71) ⟨[]⟩ ⟨[]⟩->J 8 l=AI AT ((1:Nat):Int)->∃a h',A3 jsB (call AC (m+3)) l h=.exit 0 a h'/\Fx (λb=>b=bl) h h'/\h'.Row bl 125 (flK (srt (ks.take 1) (ks.drop 1))++Z):=λl s0 s1 s2 s3 s8=>by
  refine Bd (I:=λi a o=>∃f g,f.length+g.length=ks.length/\(f.length=i+1\/(g=[]/\f.length<=i+1))/\srt f g=srt (ks.take 1) (ks.drop 1)/\(∀k∈f++g,oneCell k.u=IN)/\Fx (λb=>b=bl) h o/\o.Row bl 125 (flK (f++g)++Z)/\J 0 a=.slice (BY ⟨bl,0,By⟩) n c/\J 1 a=AI AT 0/\J 2 a=AI AT (n:Int)/\J 3 a=.func (.func 71) ⟨[]⟩ ⟨[]⟩/\J 8 a=AI AT ((i+1:Nat):Int))
   (Q:=λw=>∃a h',w=.exit 0 a h'/\Fx (λb=>b=bl) h h'/\h'.Row bl 125 (flK (srt (ks.take 1) (ks.drop 1))++Z)) n (by omega) (λi a o ⟨f,g,y,L,z,s,fx,R,t0,t1,t2,t3,t8⟩=>?_) ⟨ks.take 1,ks.drop 1,by rw[yP,yX];omega,?_,rfl,by rw[zi];exact P,.refl D,by rw[zi];exact C,s0,s1,s2,s3,s8⟩
  ·have E:=fx.wf
   cases g with
   |nil=>
    right;have x:f.length=n:=by simp only[yU]at y;omega
    have t:iLt ((i+1:Nat):Int) (n:Int)=IT:=Cz (by omega);have u:∃d,jsB (call AC (m+3)) a o=.exit 0 d o:=by
     rw[Uk];unfold cJ;simp only[sT,xT,sh,reduceIte,AK,AJ,t8,t2,t];exact⟨_,rfl⟩
    obtain⟨d,q⟩:=u;rw[q];refine⟨rfl,d,o,rfl,fx,?_⟩;rw[<- z];rw[yF]at R;exact R
   |cons w g=>
    left;rw[xh]at y;have x:f.length=i+1:=by
     rcases L with j|⟨j,_⟩
     ·exact j
     ·cases j
    have t:iLt ((i+1:Nat):Int) (n:Int)=IN:=EU (by omega);obtain⟨H,p,S,K,B,r⟩:=cC (m:=m) (e:=Env.set 9 (AI AT ((i+1:Nat):Int)) (Env.set 14 (.bool IN) a)) E R A (by rw[xY,xh];omega) M O s (by simp[AG,t0]) (by simp[AG,t1]) (by simp[AG,t3]) (by simp only[AG,xT,sh,reduceIte,x]);have g0:=r 0 (by omega);have g1:=r 1 (by omega);have g2:=r 2 (by omega);have g3:=r 3 (by omega);have g8:=r 8 (by omega);simp only[AG,xT,sh,reduceIte,t0]at g0;simp only[AG,xT,sh,reduceIte,t1]at g1;simp only[AG,xT,sh,reduceIte,t2]at g2;simp only[AG,xT,sh,reduceIte,t3]at g3;simp only[AG,xT,sh,reduceIte,t8]at g8;have G:GC .i64 (AI AT ((i+1:Nat):Int)) (AI AT 1) p=.ok (AI AT ((i+1+1:Nat):Int)) p:=Cc (by omega);have u:∃d,jsB (call AC (m+3)) a o=.norm d p/\J 0 d=.slice (BY ⟨bl,0,By⟩) n c/\J 1 d=AI AT 0/\J 2 d=AI AT (n:Int)/\J 3 d=.func (.func 71) ⟨[]⟩ ⟨[]⟩/\J 8 d=AI AT ((i+1+1:Nat):Int):=by
     rw[Uk];unfold cJ;simp only[sT,xT,sh,reduceIte,AK,AJ,t8,t2,t,S,g8,BW,G];exact⟨_,rfl,by simp[AG,g0,g1,g2,g3]⟩
    obtain⟨d,q,T,U,V,W,X⟩:=u;refine⟨by omega,d,p,q,HL f w,g,by rw[NU];omega,.inl (by rw[NU];omega),z,λk N=>?_,fx.trans K,B,T,U,V,W,X⟩;rcases yO.1 N with j|j
    ·rcases SI.1 j with rfl|j
     ·exact s _ (yc _ xp)
     ·exact s k (yh _ j)
    ·exact s k (yc _ (xn _ j))
  ·cases ks with
   |nil=>exact .inr ⟨rfl,yH _⟩
   |cons k ks=>exact .inl rfl
 have F:GC .i64 (AI AT 0) (AI AT 1) h=.ok (AI AT ((1:Nat):Int)) h:=Cc (i:=0) (by omega);obtain⟨H,p,q,x2⟩:=Y (Env.set 8 (AI AT ((1:Nat):Int)) (Env.set 11 (AI AT ((1:Nat):Int)) (Au e0 0 [.slice (BY ⟨bl,0,By⟩) n c,AI AT 0,AI AT (n:Int),.func (.func 71) ⟨[]⟩ ⟨[]⟩]))) (by simp only[iN,xV,AG,xT,sh,reduceIte]) (by simp only[iN,xV,AG,xT,sh,reduceIte]) (by simp only[iN,xV,AG,xT,sh,reduceIte]) (by simp only[iN,xV,AG,xT,sh,reduceIte]) (by simp[AG]);simp only[iN,xV]at q;refine⟨p,?_,x2⟩;rw[WK rfl,Wd];unfold We;simp only[iN,xV,sT,xT,sh,reduceIte,BW,F,q,ET,EN]
def EH(ks:List Kt):List Kt:=srt (ks.take 1) (ks.drop 1)
theorem eX(j:h.Wf){ks:List Kt}(i:h.Row bl 125 (flK ks++Z))(f:256<=bl)(s:n=ks.length)(r:n<=c)(z:n<=12)(t:∀k∈ks,oneCell k.u=IN):
  ∃h',call AC (m+6) 70 [.slice (BY ⟨bl,0,By⟩) n c,.func (.func 71) ⟨[]⟩ ⟨[]⟩] h=.ok AEl h'/\Fx (λb=>b=bl) h h'/\h'.Row bl 125 (flK (EH ks)++Z):=by
 obtain⟨d,u,y,g⟩:=dW (m:=m) j i f s r (by omega) t;obtain⟨k,w⟩:=Pw (m:=m+3) (h:=h) (n:=n) (by omega);have p:Ct .u64 (AI AT (n:Int)) h=.ok (.int .u64 (n:Int)) h:=by rw[Bu,DJ (by omega)]
 have l:Fp yi .i64 (AI AT (n:Int)) (AI AT 0) h=.ok (AI AT (n:Int)) h:=by
  have:yi (n:Int) 0=(n:Int):=Int.sub_zero _;rw[Cn,this,Bf (by omega)]
 have o:iLe (n:Int) 12=IN:=Gv (by omega);have x:call AC (m+5) 111 [.slice (BY ⟨bl,0,By⟩) n c,AI AT 0,AI AT (n:Int),AI AT (k:Int),.func (.func 71) ⟨[]⟩ ⟨[]⟩] h=.ok AEl d:=by
  have q:∃e,pdB (call AC (m+4)) (Env.set 11 (.bool IN) (Env.set 10 (.bool IN) (Au e0 0 [.slice (BY ⟨bl,0,By⟩) n c,AI AT 0,AI AT (n:Int),AI AT (k:Int),.func (.func 71) ⟨[]⟩ ⟨[]⟩]))) h=.ret e d:=by
   rw[df];unfold kT;simp only[iN,xV,sT,xT,sh,reduceIte,B6,l,AK,AJ,o,cA0,u];exact⟨_,rfl⟩
  obtain⟨e,a⟩:=q;have a:=Nc a;simp only[iN,xV]at a;rw[WG rfl,WU];unfold WV;simp only[iN,xV,sT,xT,sh,reduceIte,a,Av,EN]
 refine⟨d,?_,y,g⟩;rw[aE rfl];unfold d70;simp only[iN,xV,sT,xT,sh,reduceIte,AX,EO,Bi,p,cA0,w,x,ET,EN]
end
end
end Go.Proofs.YtldjiljipddebaaGreat

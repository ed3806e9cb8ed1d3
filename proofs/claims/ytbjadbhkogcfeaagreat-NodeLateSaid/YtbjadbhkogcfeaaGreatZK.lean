/-
  Part ZK of what Lawlt stands on: printed by program, names and spaces cut.
-/
import Derived.Test.YtbjadbhkogcfeaaGreatZJ
open Go.Value renaming int→AI
open Go.IntKind renaming i64→AT
open Nat renaming reduceEqDiff→BY,reduceLT→By,reduceAdd→IS,le_refl→IT,zero_add→If,succ→yg,ble→yl,beq→yu,lt_or_ge→zD,zero_le→zL,le_trans→zO,eq_zero_or_pos→za,mul→zi,add_eq→AAD,beq_refl→AAQ,min_le_right→AAp,mul_one→AA0,reduceLeDiff→AA5,xor→AA6,mod_eq_of_lt→ABe,min_eq_left→ACd,sub_zero→AEK,le_succ→AEg,sub_self→AE9
open Go renaming Value→IN,IntKind→yy
open List renaming length_append→No,length_map→OF,getElem?_eq_getElem→sh,getD_eq_getElem?_getD→yf,length_cons→yh,replicate→yp,append_nil→yw,mem_of_getElem?→yz,append_assoc→zC,length_take→zJ,length_nil→zS,nil_append→zU,map_append→zb,eq_nil_of_length_eq_zero→zc,length_singleton→zh,length_drop→zl,drop_zero→zr,drop_of_length_le→zx,getElem?_map→zy,length_replicate→AAH,mem_of_mem_take→AAN,cons_append→AAl,take_of_length_le→AAo,getElem_mem→ABJ,append_eq→ABN,mem_of_mem_drop→ABZ,map_map→ABc,drop_length→ABy,drop→ACo,take→ACw,drop_left→ADV
open Int renaming sub→zX,toNat_natCast→zt,eq_ofNat_of_zero_le→AAg,lt_or_le→AFB
open Go.Value renaming int→zd
open Bool renaming not_true→ze,not_false→zg
open Go.IntKind renaming i64→AAh
open UInt8 renaming ofNat→ABB,toNat→ADX
set_option linter.unusedVariables false
set_option linter.unusedSimpArgs false
namespace Go.Proofs.YtbjadbhkogcfeaaGreat
noncomputable section
open Go
set_option maxRecDepth 100000
abbrev pt(b:Nat):IN:=.pointer (some ⟨b,0,none⟩)
def wv(n:Nat):IN:=.int .u32 (n:Int)
theorem Al{a:Addr}{h:Hp}:YB (.pointer (some a)) h=.ok (.pointer (some a)) h:=rfl
theorem Ax{F:AFi}{e:Env}{h:Hp}{x:O}:Bg x F e h=YB (x e) h:=rfl
theorem mX:SR.k=.ptr 25:=by kernel_rfl
theorem tA{F:AFi}{e:Env}{h:Hp}{a:Addr}{g:O}(hg:g e=.pointer (some a)):oEq SR.k false g (kV (.pointer none)) F e h=.ok (.bool false) h:=by
 show(match eqV SR.k (g e) (.pointer none)with|some r=>okB (false != r) h|none=>.no)=_;rw[mX,hg];exact Fg
theorem tQ{h:Hp}{tb:Nat}{T:List Nat}(R:h.Row tb 0 (T.map wv))(hT:AGc T){k:yy}{x:Nat}(hx:x<256):NY 256 1 (pt tb) (.int k (x:Int)) h=.ok (.pointer (some ⟨tb,x,none⟩)) h/\Hn (.pointer (some ⟨tb,x,none⟩)) h=.ok (wv (T.getD x 0)) h:=by
 refine⟨?_,?_⟩
 ·have:=VQ (h:=h) (n:=256) (es:=1) (b:=tb) (off:=0) (i:=x) (k:=k) hx
  rwa [If,AA0]at this
 ·have hx':x<T.length:=by rw[hT.1];exact hx
  rw[AP,R.AFk (off:=x) (by rw[OF];exact hx'),yf,zy,yf,sh hx'];rfl
theorem JJ{h:Hp}{u:IN}{l:List Nat}(V:h.AF5 u (l.map bv)){i:Nat}(hi:i<l.length):∃ a,AGa 1 u (AI AT (i:Int)) h=.ok (.pointer (some a)) h/\Hn (.pointer (some a)) h=.ok (.int .u8 ((l.getD i 0:Nat):Int)) h:=by
 obtain⟨a,g1,g2⟩:=V.at (i:=i) (by rw[OF];exact hi);refine⟨a,g1,?_⟩;rw[g2,yf,zy,yf,sh hi];rfl
theorem iV{l:List Nat}(hb:∀ x∈l,x<256)(i:Nat):l.getD i 0<256:=by
 rw[yf];cases h:l[i]? with
 |none=>decide
 |some x=>exact hb x (yz h)
theorem GS{l:List Nat}{i:Nat}(hi:i<l.length):l.drop i=l.getD i 0::l.drop (i+1):=by
 rw[List.drop_eq_getElem_cons hi,yf,sh hi];rfl
theorem Hp.AF5.bl{h:Hp}{u:IN}{l:List Nat}(V:h.AF5 u (l.map bv))(g:Hp):AGQ u g=.ok (AI AT (l.length:Int)) g:=by
 obtain⟨a,c,hu⟩:=V.shape;rw[hu,OF];rfl
theorem yd{a b:Nat}(ha:a<256)(hb:b<256){h:Hp}:ZE AA6 .u8 (.int .u8 (a:Int)) (.int .u8 (b:Int)) h=.ok (.int .u8 ((AA6 a b:Nat):Int)) h:=UO (by show a<=255;omega) (by show b<=255;omega)
theorem xz{a b:Nat}(ha:a<4294967296)(hb:b<4294967296){h:Hp}:ZE AA6 .u32 (.int .u32 (a:Int)) (.int .u32 (b:Int)) h=.ok (.int .u32 ((AA6 a b:Nat):Int)) h:=UO (by show a<=4294967295;omega) (by show b<=4294967295;omega)
theorem SX{n:Nat}(h:n<=4294967295):IntKind.u32.wrap (n:Int)=n:=Dp .u32 n h
theorem Cc{i:Nat}(hi:i<=1000000000){h:Hp}:Ez .i64 (AI AT (i:Int)) (AI AT 1) h=.ok (AI AT ((i+1:Nat):Int)) h:=by
 have:(i:Int)+1=((i+1:Nat):Int):=by omega
 rw[Dq,this,Bf (by omega)]
theorem E9{a b:Nat}(h:a<b):iLt (a:Int) (b:Int)=true:=by rw[DF];simp;omega
theorem DJ{a b:Nat}(h:b<=a):iLt (a:Int) (b:Int)=false:=by rw[DF];simp;omega
theorem tP:suS=BL (Ae 0 (A9 suB)) suE:=rfl
theorem qf:d48=hJ:=rfl
theorem kR{F:AFi}{h:Hp}{tb:Nat}{T:List Nat}(R:h.Row tb 0 (T.map wv))(hT:AGc T){u:IN}{l:List Nat}(V:h.AF5 u (l.map bv))(hb:∀ x∈l,x<256)(hl:l.length<=900000){e:Env}(s0:J 0 e=pt tb)(s1:J 1 e=u)(s5:J 5 e=.int .u32 ((4294967295:Nat):Int))(s10:J 10 e=AI AT (l.length:Int))(s11:J 11 e=AI AT ((0:Nat):Int)):
  ∃ e' h',A9 suB F e h=.exit 0 e' h'/\(h'=h\/h'=h.marked)/\J 5 e'=.int .u32 ((Pb T 4294967295 l:Nat):Int):=by
 refine Bh (I:=fun i e' h'=>(h'=h\/h'=h.marked)/\∃ s:Nat,J 0 e'=pt tb/\J 1 e'=u/\J 5 e'=.int .u32 (s:Int)/\J 10 e'=AI AT (l.length:Int)/\J 11 e'=AI AT (i:Int)/\i<=l.length/\s<4294967296/\Pb T 4294967295 l=Pb T s (l.drop i))
  (Q:=fun x=>∃ e' h',x=.exit 0 e' h'/\(h'=h\/h'=h.marked)/\J 5 e'=.int .u32 ((Pb T 4294967295 l:Nat):Int)) l.length (by omega) (fun i e' h' ⟨hh,s,t0,t1,t5,t10,t11,hi,hs,hr⟩=>?_) ⟨.inl rfl,4294967295,s0,s1,s5,s10,s11,zL _,by decide,rfl⟩
 have hm:h'.marked=h.marked:=by rcases hh with rfl|rfl<;>rfl
 by_cases hlt:i<l.length
 ·left
  have V2:h.marked.AF5 u (l.map bv):=V.same rfl;have R2:h.marked.Row tb 0 (T.map wv):=R.same rfl;obtain⟨a,g1,g2⟩:=JJ V2 hlt;have hc:=iV hb i;rw[GS hlt]at hr;generalize l.getD i 0=c at g2 hc hr;have c1:=E9 hlt;have v1:Di .u8 (.int .u32 (s:Int)) h.marked=.ok (.int .u8 ((s % 256:Nat):Int)) h.marked:=by rw[Cw,IY]
  have x1:=yd (h:=h.marked) (show s % 256<256 by omega) hc;have hx:=lB (show s % 256<256 by omega) hc;obtain⟨i1,l1⟩:=tQ R2 hT (k:=.u8) hx;have r1:cd .u32 (.int .u32 (s:Int)) (.int .u64 8) h.marked=.ok (.int .u32 ((s/256:Nat):Int)) h.marked:=WD (j:=.u32) (q:=.u64) (m:=s) (n:=8);have x2:=xz (h:=h.marked) (hT.2 (AA6 (s % 256) c)) (show s/256<4294967296 by omega);have l1:Hn (.pointer (some ⟨tb,AA6 (s % 256) c,none⟩)) h.marked=.ok (.int .u32 ((T.getD (AA6 (s % 256) c) 0:Nat):Int)) h.marked:=l1;have hst:=Ob hT hs c;have a3:=Cc (i:=i) (h:=h.marked) (by omega);have hrun:∃ e2,suB F e' h'=.norm e2 h.marked/\J 0 e2=pt tb/\J 1 e2=u/\J 5 e2=.int .u32 ((AA6 (T.getD (AA6 (s % 256) c) 0) (s/256):Nat):Int)/\J 10 e2=AI AT (l.length:Int)/\J 11 e2=AI AT ((i+1:Nat):Int):=by
   unfold suB;simp only[sT,By,BY,reduceIte,AK,AJ,t11,t10,c1,A1,hm,CX,t5,v1,BB,t1,g1,AM,g2,jQ,x1,Ax,t0,Al,DT,i1,l1,Vu,r1,x2,BM,a3];exact⟨_,rfl,by simp[AG,t0,t1,t10]⟩
  obtain⟨e2,q1,q2,q3,q4,q5,q6⟩:=hrun;exact⟨hlt,e2,h.marked,q1,.inr rfl,_,q2,q3,q4,q5,q6,hlt,hst,hr⟩
 ·right
  have c1:=DJ (show l.length<=i by omega);have hrun:∃ e2,suB F e' h'=.exit 0 e2 h'/\J 5 e2=.int .u32 (s:Int):=by
   unfold suB;simp only[sT,By,BY,reduceIte,AK,AJ,t11,t10,c1];exact⟨_,rfl,by simp[AG,t5]⟩
  obtain⟨e2,q1,q2⟩:=hrun;rw[q1];refine⟨rfl,e2,h',rfl,hh,?_⟩;rw[q2,hr,zx (by omega)];rfl
theorem Tn{n:Nat}{h:Hp}{tb:Nat}{T:List Nat}(R:h.Row tb 0 (T.map wv))(hT:AGc T){u:IN}{l:List Nat}(V:h.AF5 u (l.map bv))(hb:∀ x∈l,x<256)(hl:l.length<=900000):
  ∃ h',call AC (n+1) 48 [pt tb,u] h=.ok (.int .u32 ((CE T l:Nat):Int)) h'/\(h'=h\/h'=h.marked):=by
 have ne:∀ e:Env,J 0 e=pt tb->oEq SR.k false (J 0) (kV (.pointer none)) (call AC n) e h=.ok (.bool false) h:=fun e he=>tA he
 have Vl:=V.bl h;have pre:∃ e1,hJ (call AC n) (AS e0 0 [pt tb,u]) h=suS (call AC n) e1 h/\J 0 e1=pt tb/\J 1 e1=u/\J 5 e1=.int .u32 ((4294967295:Nat):Int)/\J 10 e1=AI AT (l.length:Int)/\J 11 e1=AI AT ((0:Nat):Int):=by
  unfold hJ;simp only[iN,IS,sT,By,BY,reduceIte,ne,Ah,Vl];exact⟨_,rfl,by simp[AG]⟩
 obtain⟨e1,p1,p2,p3,p4,p5,p6⟩:=pre;obtain⟨e2,h',q1,q2,q3⟩:=kR (F:=call AC n) R hT V hb hl p2 p3 p4 p5 p6;have a1:Fv zX .u32 (.int .u32 4294967295) (.int .u32 ((Pb T 4294967295 l:Nat):Int)) h'=.ok (.int .u32 ((CE T l:Nat):Int)) h':=by
  have hs:=WN hT l 4294967295 (by decide);have:zX 4294967295 ((Pb T 4294967295 l:Nat):Int)=((CE T l:Nat):Int):=by
   show(4294967295:Int) - _=_;unfold CE;omega
  rw[Cg,this,SX (by unfold CE;omega)]
 refine⟨h',?_,q2⟩;rw[pT rfl,qf,p1,tP];simp only[BJ,Az,q1,BD,BA];unfold suE;simp only[sT,By,BY,reduceIte,B3,q3,a1,lV0]
end
noncomputable section
open Go
set_option maxRecDepth 100000
def Mk(h:Hp)(k:Nat)(v:IN)(l:List Nat):Prop:=∃ b el,v=.slice (some ⟨b,0,none⟩) l.length l.length/\(el=0\/el=6)/\h.Row b el (l.map bv)/\k<=b
theorem Mk.vals{h:Hp}{k:Nat}{v:IN}{l:List Nat}(m:Mk h k v l):h.AF5 v (l.map bv):=by
 obtain⟨b,el,h1,h2,h3,h4⟩:=m;exact .inr ⟨b,0,l.length,el,_,by rw[OF];exact h1,h3,by simp,by rw[zr,List.take_length]⟩
theorem Mk.ext{h h':Hp}{k:Nat}{v:IN}{l:List Nat}(m:Mk h k v l)(W:h.Wf)(x:h.Ext h'):Mk h' k v l:=by
 obtain⟨b,el,h1,h2,h3,h4⟩:=m;exact⟨b,el,h1,h2,h3.ext W x,h4⟩
theorem Mk.same{h h':Hp}{k:Nat}{v:IN}{l:List Nat}(m:Mk h k v l)(hb:h'.bl=h.bl):Mk h' k v l:=by
 obtain⟨b,el,h1,h2,h3,h4⟩:=m;exact⟨b,el,h1,h2,h3.same hb,h4⟩
theorem Mk.le{h:Hp}{k k':Nat}{v:IN}{l:List Nat}(m:Mk h k v l)(hk:k'<=k):Mk h k' v l:=by
 obtain⟨b,el,h1,h2,h3,h4⟩:=m;exact⟨b,el,h1,h2,h3,by omega⟩
theorem Hp.Own.mk{h:Hp}{k:Nat}{v:IN}{l:List Nat}(o:h.Own k 5 v (l.map bv))(hl:0<l.length):Mk h k v l:=by
 rcases o with ⟨_,h2⟩|⟨b,h1,h2,h3,h4⟩
 ·have:=congrArg List.length h2
  rw[OF,zS]at this;omega
 ·rw[OF]at h1
  exact⟨b,6,h1,.inr rfl,h2,h3⟩
theorem L1:∀ n:Nat,Bb ty5.zero n=(yp n 0).map bv:=fun n=>by
 have hz:ty5.zero=[bv 0]:=by kernel_rfl
 rw[hz]
 induction n with
 |zero=>rfl
 |succ n ih=>show [bv 0]++Bb [bv 0] n=_;rw[ih];rfl
theorem RM{A B:List IN}{x y:IN}:over (A++x::B) A.length [y]=A++y::B:=by
 unfold over;have e:A++x::B=(A++[x])++B:=by simp
 rw[List.take_left,e,show A.length+[y].length=(A++[x]).length by simp,ADV];simp
theorem M6{A B V:List IN}(h:A.length=V.length):over (A++B) 0 V=V++B:=by
 unfold over;rw[If,<- h,ADV];simp
theorem Yk{s i:Nat}(hi:i<4):(HB s).drop (3 - i)=(s/2 ^ min (8*i) 32) % 256::(HB s).drop (4 - i):=by
 have:i=0\/i=1\/i=2\/i=3:=by omega
 rcases this with rfl|rfl|rfl|rfl
 ·show [s % 256]=s/1 % 256::[]
  rw[Nat.div_one]
 ·rfl
 ·rfl
 ·rfl
theorem Px{a b:List Nat}(ha:∀ x∈a,x<256)(hb:∀ x∈b,x<256):bEq (a.map ABB) (b.map ABB)=decide (a=b):=by
 rw[ME,Bool.eq_iff_iff,beq_iff_eq,decide_eq_true_eq];refine⟨fun h=>?_,fun h=>by rw[h]⟩;have h1:=congrArg (List.map ADX) h;rw[ABc,ABc]at h1;have e:∀ l:List Nat,(∀ x∈l,x<256)->l.map (ADX∘ABB)=l:=fun l hl=>by
  have:l.map (ADX∘ABB)=l.map id:=List.map_congr_left fun x hx=>by
   show(ABB x).toNat=x;rw[UInt8.toNat_ofNat',ABe (hl x hx)]
  rw[this,List.map_id]
 rwa [e a ha,e b hb]at h1
theorem tM:slS=BL (Ae 0 (A9 slB)) slE:=rfl
theorem qZ:d22=gx:=rfl
theorem kN{F:AFi}{h h0:Hp}(W0:h0.Wf)(x:h0.Ext h){r s N:Nat}(hr:h0.next<=r){u:IN}{l:List Nat}(V:h0.AF5 u (l.map bv))(hN:N=l.length+4)(hl:l.length<=900000)(hs:s<4294967296)(R:h.Row r 0 ((yp N 0).map bv)){e:Env}
  (s1:J 1 e=u)(s5:J 5 e=.slice (some ⟨r,0,none⟩) N N)(s6:J 6 e=.int .u32 (s:Int))(s15:J 15 e=AI AT ((0:Nat):Int)):
  ∃ e' h',A9 slB F e h=.exit 0 e' h'/\h0.Ext h'/\h'.Row r 0 ((yp l.length 0++HB s).map bv)/\J 1 e'=u/\J 5 e'=.slice (some ⟨r,0,none⟩) N N:=by
 refine Bh (I:=fun i e' h'=>h0.Ext h'/\h'.Row r 0 ((yp (N - i) 0++(HB s).drop (4 - i)).map bv)/\J 1 e'=u/\J 5 e'=.slice (some ⟨r,0,none⟩) N N/\J 6 e'=.int .u32 (s:Int)/\J 15 e'=AI AT (i:Int)/\i<=4)
  (Q:=fun x=>∃ e' h',x=.exit 0 e' h'/\h0.Ext h'/\h'.Row r 0 ((yp l.length 0++HB s).map bv)/\J 1 e'=u/\J 5 e'=.slice (some ⟨r,0,none⟩) N N) 4 (by omega) (fun i e' h' ⟨x',R',t1,t5,t6,t15,hi⟩=>?_)
  ⟨x,by rw[AEK,zx (show(HB s).length<=4 - 0 from IT _),yw];exact R,s1,s5,s6,s15,by omega⟩
 by_cases hlt:i<4
 ·left
  have W:=x'.wf;have Vl:=V.bl h';have c1:iLt (i:Int) 4=true:=E9 hlt;have a1:Ez .i64 (AI AT (l.length:Int)) (AI AT 4) h'=.ok (AI AT (N:Int)) h':=by
   rw[Dq,show(l.length:Int)+4=(N:Int)by omega,Bf (by omega)]
  have a2:Fv zX .i64 (AI AT (N:Int)) (AI AT 1) h'=.ok (AI AT ((N - 1:Nat):Int)) h':=by
   have:zX (N:Int) 1=((N - 1:Nat):Int):=by show(N:Int) - 1=_;omega
   rw[Cg,this,Bf (by omega)]
  have a3:Fv zX .i64 (AI AT ((N - 1:Nat):Int)) (AI AT (i:Int)) h'=.ok (AI AT ((N - (i+1):Nat):Int)) h':=by
   have:zX ((N - 1:Nat):Int) (i:Int)=((N - (i+1):Nat):Int):=by show((N - 1:Nat):Int) - (i:Int)=_;omega
   rw[Cg,this,Bf (by omega)]
  have a4:Fv Int.mul .i64 (AI AT 8) (AI AT (i:Int)) h'=.ok (AI AT ((8*i:Nat):Int)) h':=by
   have:Int.mul 8 (i:Int)=((8*i:Nat):Int):=by show(8:Int)*(i:Int)=_;omega
   rw[Cg,this,Bf (by omega)]
  have r1:cd .u32 (.int .u32 (s:Int)) (AI AT ((8*i:Nat):Int)) h'=.ok (.int .u32 ((s/2 ^ min (8*i) 32:Nat):Int)) h':=WD (j:=.u32) (q:=.i64) (m:=s) (n:=8*i);have v1:Di .u8 (.int .u32 ((s/2 ^ min (8*i) 32:Nat):Int)) h'=.ok (.int .u8 ((s/2 ^ min (8*i) 32 % 256:Nat):Int)) h':=by rw[Cw,IY]
  have i1:AGa 1 (.slice (some ⟨r,0,none⟩) N N) (AI AT ((N - (i+1):Nat):Int)) h'=.ok (.pointer (some ⟨r,N - (i+1),none⟩)) h':=by
   have:=DB (h:=h') (n:=N) (c:=N) (es:=1) (b:=r) (off:=0) (i:=N - (i+1)) (k:=.i64) (by omega)
   rwa [If,AA0]at this
  have AKM:=Yk (s:=s) hlt;generalize s / 2 ^ min (8 * i) 32 % 256=c at v1 AKM;have AJc:(yp (N - i) 0++(HB s).drop (4 - i)).map bv=(yp (N - (i+1)) 0).map bv++bv 0::((HB s).drop (4 - i)).map bv:=by
   rw[show N - i=(N - (i+1))+1 by omega,List.replicate_succ',zb,zb,zC];rfl
  rw[AJc]at R';have hAl:((yp (N - (i+1)) 0).map bv).length=N - (i+1):=by simp
  have ho:N - (i+1)+[zd .u8 (c:Int)].length<=((yp (N - (i+1)) 0).map bv++bv 0::((HB s).drop (4 - i)).map bv).length:=by
   simp only[No,yh,zS,hAl];omega
  have AFs:256<=r:=by have:=W0.big;omega
  have st:=R'.AFr (n:=1) (off:=N - (i+1)) W AFs (v:=.int .u8 (c:Int)) rfl ho rfl;have wr:=R'.AFu W (off:=N - (i+1)) (vs:=[.int .u8 (c:Int)]) ho;have xw:=R'.AGE x' hr (off:=N - (i+1)) (vs:=[.int .u8 (c:Int)]) ho;have a5:=Cc (i:=i) (h:=h'.wr r (N - (i+1)) [.int .u8 (c:Int)]) (by omega);have hov:over ((yp (N - (i+1)) 0).map bv++bv 0::((HB s).drop (4 - i)).map bv) (N - (i+1)) [.int .u8 (c:Int)]=(yp (N - (i+1)) 0++(HB s).drop (4 - (i+1))).map bv:=by
   have:=RM (A:=(yp (N - (i+1)) 0).map bv) (B:=((HB s).drop (4 - i)).map bv) (x:=bv 0) (y:=bv c);rw[hAl]at this;rw[show 4 - (i+1)=3 - i by omega,AKM,zb,List.map_cons];exact this
  rw[hov]at wr;rw[Ch]at st;have hrun:∃ e2,slB F e' h'=.norm e2 (h'.wr r (N - (i+1)) [.int .u8 (c:Int)])/\J 1 e2=u/\J 5 e2=.slice (some ⟨r,0,none⟩) N N/\J 6 e2=.int .u32 (s:Int)/\J 15 e2=AI AT ((i+1:Nat):Int):=by
   unfold slB;simp only[sT,By,BY,reduceIte,AK,AJ,t15,c1,Ah,t1,Vl,BM,a1,B3,a2,a3,a4,Vu,t6,r1,CX,v1,BB,t5,i1,AX,st,a5];exact⟨_,rfl,by simp[AG,t1,t5,t6]⟩
  obtain⟨e2,q1,q2,q3,q4,q5⟩:=hrun;exact⟨hlt,e2,_,q1,xw,wr,q2,q3,q4,q5,hlt⟩
 ·right
  have hi4:i=4:=by omega
  subst hi4;have c1:=DJ (show 4<=4 by omega);have hrun:∃ e2,slB F e' h'=.exit 0 e2 h'/\J 1 e2=u/\J 5 e2=.slice (some ⟨r,0,none⟩) N N:=by
   unfold slB;have c1:iLt ((4:Nat):Int) 4=false:=c1;simp only[sT,By,BY,reduceIte,AK,AJ,t15,c1];exact⟨_,rfl,by simp[AG,t1,t5]⟩
  obtain⟨e2,q1,q2,q3⟩:=hrun;rw[q1];refine⟨rfl,e2,h',rfl,x',?_,q2,q3⟩;have e1:N - 4=l.length:=by omega
  have e2:4 - 4=0:=rfl;rw[e1,e2,zr]at R';exact R'
theorem PN{F:AFi}{e:Env}{h:Hp}(W:h.Wf){x y:O}{N:Nat}(hx:x e=AI AT (N:Int))(hy:y e=AI AT (N:Int))(hN:N<=1000000):HM 1 ty5.zero x y F e h=.ok (.slice (some ⟨h.next,0,none⟩) N N) (h.AFh 0 ((yp N 0).map bv)):=by
 unfold HM;rw[hx,hy,DI];unfold Q3;have e1:yl N N=true:=Av.2 (IT N);have e2:yl (zi (yg N) (yg 1)) most=true:=Av.2 (by
  show(N+1)*2<=1099511627776;omega)
 simp only[e1,e2,cond_true];rw[C9 W,L1];rfl
theorem fh{F:AFi}{e:Env}{h:Hp}(W:h.Wf){x y:O}{r N:Nat}{u:IN}{l A B:List Nat}(hx:x e=.slice (some ⟨r,0,none⟩) N N)(hy:y e=u)(V:h.AF5 u (l.map bv))(AFs:256<=r)(hA:A.length=l.length)(hN:N=(A++B).length)(R:h.Row r 0 ((A++B).map bv)):
  Js 1 x y F e h=.ok (AI AT (l.length:Int)) (h.wr r 0 (l.map bv))/\(h.wr r 0 (l.map bv)).Row r 0 ((l++B).map bv):=by
 have ho:0+(l.map bv).length<=((A++B).map bv).length:=by simp;omega
 have h1:Bc (l.map bv)=true:=DZ l;refine⟨?_,?_⟩
 ·unfold Js QD
  rw[hx,hy];simp only[V.lenV,Ao,BZ,OF];rw[ACd (show l.length<=N by rw[hN,No];omega)];rw[V.src (n:=l.length) (by rw[OF])];rw[R.store W AFs ho h1];rfl
 ·have:=R.AFu W ho
  rw[zb,M6 (by simp[hA])]at this;rw[zb];exact this
theorem WC{n:Nat}{h:Hp}(W:h.Wf){tb:Nat}{T:List Nat}(R:h.Row tb 0 (T.map wv))(hT:AGc T){u:IN}{l:List Nat}(V:h.AF5 u (l.map bv))(hb:∀ x∈l,x<256)(hl:l.length<=900000):
  ∃ h' v,call AC (n+2) 22 [pt tb,u] h=.ok v h'/\h.Ext h'/\Mk h' h.next v (Eg T l):=by
 have x1:=(Hp.Ext.refl W).AFh 0 ((yp (l.length+4) 0).map bv);have R1:=Hp.Row.new W 0 ((yp (l.length+4) 0).map bv);have mk:=fun (e:Env) (hx:J 10 e=AI AT ((l.length+4:Nat):Int))=>PN (F:=call AC (n+1)) (e:=e) W (x:=J 10) (y:=J 10) hx hx (by omega)
 generalize h.AFh 0 ((yp (l.length+4) 0).map bv)=h1 at x1 R1 mk;obtain⟨h2,k1,k2⟩:=Tn (n:=n) (R.ext W x1) hT (V.ext W x1) hb hl;have hbl:h2.bl=h1.bl:=by rcases k2 with rfl|rfl<;>rfl
 have x2:h.Ext h2:=by
  rcases k2 with rfl|rfl
  ·exact x1
  ·exact x1.marked
 have Vl:=V.bl h;have a1:Ez .i64 (AI AT (l.length:Int)) (AI AT 4) h=.ok (AI AT ((l.length+4:Nat):Int)) h:=by
  rw[Dq,show(l.length:Int)+4=((l.length+4:Nat):Int)by omega,Bf (by omega)]
 have pre:∃ e1,gx (call AC (n+1)) (AS e0 0 [pt tb,u]) h=slS (call AC (n+1)) e1 h2/\J 1 e1=u/\J 5 e1=.slice (some ⟨h.next,0,none⟩) (l.length+4) (l.length+4)/\J 6 e1=.int .u32 ((CE T l:Nat):Int)/\J 15 e1=AI AT ((0:Nat):Int):=by
  unfold gx;simp only[iN,IS,sT,By,BY,reduceIte,Ah,Vl,BM,a1,mk,cA0,k1];exact⟨_,rfl,by simp[AG]⟩
 obtain⟨e1,p1,p2,p3,p4,p5⟩:=pre;obtain⟨e2,h3,q1,x3,R3,q2,q3⟩:=kN (F:=call AC (n+1)) W x2 (IT _) V rfl hl (IX T l) (R1.same hbl) p2 p3 p4 p5;have AFs:=W.big;obtain⟨c1,c2⟩:=fh (F:=call AC (n+1)) (e:=e2) x3.wf (x:=J 5) (y:=J 1) q3 q2 (V.ext W x3) AFs (A:=yp l.length 0) (B:=HB (CE T l)) (by simp) (by rw[No,AAH];rfl) R3;have x4:=R3.AGE x3 (IT _) (off:=0) (vs:=l.map bv) (by rw[OF,OF,No,AAH];omega);refine⟨_,.slice (some ⟨h.next,0,none⟩) (l.length+4) (l.length+4),?_,x4,⟨h.next,0,by rw[IU],.inl rfl,c2,IT _⟩⟩;rw[pF rfl,qZ,p1,tM];simp only[BJ,Az,q1,BD,BA];unfold slE;simp only[sT,By,BY,reduceIte,c1,q3,lV0]
end
noncomputable section
open Go
set_option maxRecDepth 100000
theorem dD:Lj.k=.slice 5:=by kernel_rfl
theorem sR{F:AFi}{e:Env}{h:Hp}{a:Addr}{n c:Nat}{g:O}(hg:g e=.slice (some a) n c):oEq Lj.k false g (kV (.slice none 0 0)) F e h=.ok (.bool false) h:=by
 show(match eqV Lj.k (g e) (.slice none 0 0)with|some r=>okB (false != r) h|none=>.no)=_;rw[dD,hg];exact Fg
theorem Oz{h0 h:Hp}{eb en k b:Nat}{u:IN}{ys:List IN}(x0:h0.Ext h)(hk2:k<=h.next)(r:h.Row b 0 [])(y:h.AF5 u ys)(hy:0<ys.length)(ha:Bc ys=true)(hm:(ys.length+1)*(eb+1)<=1099511627776):
  ∃ h' v',DU 1 eb en (.slice (some ⟨b,0,none⟩) 0 0) u h=.ok v' h'/\h0.Ext h'/\h'.Own k en v' ys:=by
 have W:=x0.wf;obtain⟨cc,hcc,hl⟩:=r.rowOf;obtain⟨t,h2,h3⟩:=EM ys cc [] 0 hl (.inr rfl);have h3:t.Is ys:=by simpa using h3
 refine⟨h.push (.cells t ys.length (en+1)),.slice (some ⟨h.next,0,none⟩) ys.length ys.length,?_,x0.push _,.inr ⟨h.next,rfl,⟨t,by rw[W.AF6,if_pos rfl],h3⟩,hk2,W.big⟩⟩;unfold DU Dr;simp only[y.lenV,y.src rfl,Ao,AAD,If];have e1:yl ys.length 0=false:=by
  cases e:yl ys.length 0
  ·rfl
  ·have:=Av.1 e;omega
 have e2:yl (zi (yg ys.length) (yg eb)) Jk=true:=Av.2 (IJ hm);rw[e1];simp only[e2,cond_true,ha];unfold HL;have hcc:rowOf h b=.ok cc 0 0:=hcc;have e3:yu 0 (zi 0 1)=true:=rfl;simp only[hcc,e3,h2];unfold E7;simp only[hcc,Bi,AAD,If];unfold CW;rw[Ao,C8 W];rfl
theorem QJ{F:AFi}{e:Env}{h:Hp}(W:h.Wf):As 0 (Bb ty5.zero 0) [] F e h=.ok (.slice (some ⟨h.next,0,none⟩) 0 0) (h.AFh 0 []):=by
 have:Bb ty5.zero 0=[]:=rfl;rw[this,CR,Bs,C9 W];rfl
theorem P8{n:Nat}{h:Hp}(W:h.Wf){a:Addr}{c:Nat}{l:List Nat}(V:h.AF5 (.slice (some a) l.length c) (l.map bv))(hl:l.length<=900000):∃ h' v,call AC (n+1) 93 [.slice (some a) l.length c] h=.ok v h'/\h.Ext h'/\Mk h' h.next v l:=by
 have y1:=(Hp.Ext.refl W).AFh 0 [];have R:=Hp.Row.new W 0 [];have es:=fun (e:Env)=>QJ (F:=call AC n) (e:=e) W
 have n1:(h.AFh 0 []).next=h.next+1:=rfl;generalize h.AFh 0 []=h1 at y1 R es n1;have ne:∀ e:Env,J 0 e=.slice (some a) l.length c->oEq Lj.k false (J 0) (kV (.slice none 0 0)) (call AC n) e h=.ok (.bool false) h:=fun e he=>sR he
 rcases za l.length with hz|hz
 ·have hl0:l=[]:=zc hz
  subst hl0;have AFs:=W.big;have ap:DU 1 1 5 (.slice (some ⟨h.next,0,none⟩) 0 0) (.slice (some a) 0 c) h1=.ok (.slice (some ⟨h.next,0,none⟩) 0 0) (h1.wr h.next 0 []):=Ps (l:=[]) y1.wf AFs R (V.ext W y1).bytes (IT _) (IT _);have R2:=R.AFu y1.wf (off:=0) (vs:=[]) (IT _);have x2:=R.AGE y1 (IT _) (off:=0) (vs:=[]) (IT _);refine⟨_,.slice (some ⟨h.next,0,none⟩) 0 0,?_,x2,⟨h.next,0,rfl,.inl rfl,R2,IT _⟩⟩;rw[Iq rfl];unfold d93;have ne:∀ e:Env,J 0 e=.slice (some a) 0 c->oEq Lj.k false (J 0) (kV (.slice none 0 0)) (call AC n) e h=.ok (.bool false) h:=ne;simp only[iN,IS,sT,By,BY,reduceIte,zS,ne,es,BN,ap,lV0]
 ·obtain⟨h2,v,a1,a2,a3⟩:=Oz (eb:=1) (en:=5) (k:=h.next) y1 (by omega) R (V.ext W y1) (by rw[OF];exact hz) (DZ l) (by rw[OF];omega)
  refine⟨h2,v,?_,a2,a3.mk hz⟩;rw[Iq rfl];unfold d93;simp only[iN,IS,sT,By,BY,reduceIte,ne,es,BN,a1,lV0]
theorem Zh{F:AFi}{e:Env}{h:Hp}{x y:O}{a:Addr}{el N C m:Nat}(hx:x e=.slice (some a) N C)(hy:y e=AI AT (m:Int))(hm:m<=C):EJ el 1 x none (some y) none F e h=.ok (.slice (some a) m C) h:=by
 show(match x e with|.slice a n c=>Dh e n c none (some y) none (fun l hh m=>ET el 1 a false l hh m h)|_=>.no)=_;rw[hx];show Cv e (some y) N C (fun hh=>Cv e none 0 hh fun l=>ET el 1 (some a) false l hh C h)=_;have hb:∀ K:Nat->R,Cv e (some y) N C K=K m:=fun K=>by
  show(match De (y e)with|.ok n=>(bif yl n C then K n else .no)|.no=>.no)=_;rw[hy,DI];simp only;rw[Av.2 hm];rfl
 rw[hb];show Br (some a) 1 0 m C h=_;unfold Br;simp only[Ao];cases C with
 |zero=>rfl
 |succ C=>rfl
theorem bg{F:AFi}{e:Env}{h:Hp}{k:C}{o:Addr}{n c:Nat}(hb:o.block<h.mark):JA (.slice (some o) n c) k F e h=k F e h:=by
 show(bif Nat.blt o.block h.mark then k F e h else .no)=_;rw[BQ.2 hb];rfl
theorem Hp.AF5.blt{h:Hp}(W:h.Wf){o:Addr}{n c:Nat}{xs:List IN}(V:h.AF5 (.slice (some o) n c) xs):o.block<h.next:=by
 rcases V with ⟨h1,_⟩|⟨b,off,c',el,L,h1,h2,_⟩
 ·cases h1
 ·cases h1;exact h2.lt W
def Yu(u:IN):Prop:=∀ o n c,u=.slice o n c->n<=c
theorem Mk.cap{h:Hp}{k:Nat}{v:IN}{l:List Nat}(m:Mk h k v l):Yu v:=fun o n c e=>by
 obtain⟨b,el,h1,_⟩:=m;rw[h1]at e;cases e;exact IT _
def yH(T l:List Nat)(h h':Hp)(r:R):Prop:=(∃ body v,Ey T l=some body/\r=.ok (.tuple ⟨[v,AI AT 0]⟩) h'/\Mk h' h.next v body)\/(Ey T l=none/\∃ c:Int,c≠0/\r=.ok (.tuple ⟨[.slice none 0 0,AI AT c]⟩) h')
theorem Yr{n:Nat}{h:Hp}(W:h.Wf){tb:Nat}{T:List Nat}(R:h.Row tb 0 (T.map wv))(hT:AGc T){u:IN}{l:List Nat}(V:h.AF5 u (l.map bv))(hC:Yu u)(hb:∀ x∈l,x<256)(hl:l.length<=900000):
  ∃ h',h.Ext h'/\yH T l h h' (call AC (n+3) 82 [pt tb,u] h):=by
 have Vl:=V.bl h;by_cases h4:l.length<4
 ·have c1:iLt (l.length:Int) 4=true:=E9 h4
  refine⟨h,.refl W,.inr ⟨by unfold Ey;rw[if_pos h4],11,by omega,?_⟩⟩;rw[So rfl];unfold d82;simp only[iN,IS,sT,By,BY,reduceIte,Ah,Vl,AK,AJ,c1,BI,DH]
 ·have c1:iLt (l.length:Int) 4=false:=DJ (a:=l.length) (b:=4) (by omega)
  have a1:Fv zX .i64 (AI AT (l.length:Int)) (AI AT 4) h=.ok (AI AT ((l.length - 4:Nat):Int)) h:=by
   have:zX (l.length:Int) 4=((l.length - 4:Nat):Int):=by show(l.length:Int) - 4=_;omega
   rw[Cg,this,Bf (by omega)]
  have hlm:(l.map bv).length=l.length:=OF ..;obtain⟨o,c,hu,V1⟩:=V.cut (n:=l.length - 4) (by rw[hlm];omega);rw[hlm]at hu;have hlen:(l.take (l.length - 4)).length=l.length - 4:=by rw[zJ];omega
  have V1:h.AF5 (.slice (some o) (l.take (l.length - 4)).length c) ((l.take (l.length - 4)).map bv):=by rw[hlen,List.map_take];exact V1
  obtain⟨h1,v,k1,x1,m1⟩:=P8 (n:=n+1) W V1 (by omega);rw[hlen]at k1;have hbb:∀ x∈l.take (l.length - 4),x<256:=fun x hx=>hb x (AAN hx)
  have xm:=x1.marked;have Wm:=xm.wf;have xq:h.Ext h1.marked.quiet:=xm.quiet;obtain⟨h2,w,k2,x2,m2⟩:=WC (n:=n) xq.wf (R.ext W xq) hT ((m1.same (h':=h1.marked.quiet) rfl).vals) hbb (by omega);have q1:∀ (F:AFi) (e:Env),F=call AC (n+2)->J 0 e=pt tb->J 6 e=v->Ad .weak (AU 22 [J 0,J 6]) F e h1.marked=.ok w (h1.marked.back h2):=fun F e hF h0 h6=>by
   subst hF;refine Cp ?_ x2 (IT _);rw[BR,AV,AV,A3,h0,h6];exact k2
  have x3:h1.marked.Ext (h1.marked.back h2):=Hp.Ext.back x2;have xb:=xm.trans x3;have m3:Mk (h1.marked.back h2) h1.marked.quiet.next w (Eg T (l.take (l.length - 4))):=m2.same rfl;have m4:Mk (h1.marked.back h2) h.next v (l.take (l.length - 4)):=(m1.same (h':=h1.marked) rfl).ext Wm x3;have Ve:=V.ext W xb;have st1:=m3.vals.bytes.str;have st2:=Ve.bytes.str;have hbs:=Px (Rx (T:=T) hbb) hb;have hmk:o.block<(h1.marked.back h2).mark:=by
   have h5:o.block<h.next:=by rw[hu]at V;exact V.blt W
   have h6:=x1.next;show o.block<h1.next;omega
  have old:∀ (k:C) (F:AFi) (e:Env),JA u k F e (h1.marked.back h2)=k F e (h1.marked.back h2):=fun k F e=>by rw[hu];exact bg hmk
  have ct:∀ (F:AFi) (e:Env),J 1 e=u->J 13 e=AI AT ((l.length - 4:Nat):Int)->EJ 5 1 (J 1) none (some (J 13)) none F e h=.ok (.slice (some o) (l.length - 4) c) h:=fun F e e1 e2=>by
   have:=hC _ _ _ hu;exact Zh (e1.trans hu) e2 (by omega)
  by_cases hs:Eg T (l.take (l.length - 4))=l
  ·refine⟨_,xb,.inl ⟨_,v,by unfold Ey;rw[if_neg h4,if_pos hs],?_,m4⟩⟩
   rw[decide_eq_true hs]at hbs;rw[So rfl];unfold d82;simp only[iN,IS,sT,By,BY,reduceIte,Ah,Vl,AK,AJ,c1,B3,a1,ct,cA0,k1,A1,q1,K4,st1,ED,old,DV,st2,PO,Ot,hbs,ze,BI,DH]
  ·refine⟨_,xb,.inr ⟨by unfold Ey;rw[if_neg h4,if_neg hs],12,by omega,?_⟩⟩
   rw[decide_eq_false hs]at hbs;rw[So rfl];unfold d82;simp only[iN,IS,sT,By,BY,reduceIte,Ah,Vl,AK,AJ,c1,B3,a1,ct,cA0,k1,A1,q1,K4,st1,ED,old,DV,st2,PO,Ot,hbs,zg,BI,DH]
end
noncomputable section
open Go
set_option maxRecDepth 100000
def Bu(a b c:Int)(s:Nat)(u:IN):IN:=.agg ⟨[AI AT a,AI AT b,AI AT c,.int .u8 (s:Int),u]⟩
def A8(a b c:Int)(s:Nat)(u:IN):List IN:=[AI AT a,AI AT b,AI AT c,.int .u8 (s:Int),u]
theorem SD{F:AFi}{h:Hp}(W:h.Wf){a b c:Int}{s:Nat}{u:IN}{g:O}{e:Env}(he:g e=Bu a b c s u):Ce g F e h=.ok (.pointer (some ⟨h.next,0,none⟩)) (h.AFh 0 (A8 a b c s u)):=by
 rw[EF,he,EC W];rfl
theorem Bz{h:Hp}{r:Nat}{a b c:Int}{s:Nat}{u:IN}(R:h.Row r 0 (A8 a b c s u)):AFk ⟨r,0,none⟩ h=.ok (AI AT a) h/\AFk ⟨r,1,none⟩ h=.ok (AI AT b) h/\AFk ⟨r,2,none⟩ h=.ok (AI AT c) h/\AFk ⟨r,3,none⟩ h=.ok (.int .u8 (s:Int)) h/\AFk ⟨r,4,none⟩ h=.ok u h/\loadN 5 ⟨r,0,none⟩ h=.ok (Bu a b c s u) h:=
 ⟨R.AFk (off:=0) (by show 0<5;omega),R.AFk (off:=1) (by show 1<5;omega),R.AFk (off:=2) (by show 2<5;omega),R.AFk (off:=3) (by show 3<5;omega),R.AFk (off:=4) (by show 4<5;omega),R.loadN (off:=0) (n:=5) (by show 0+5<=5;omega)⟩
theorem F7{a b:Int}(h:b<=a):iGe a b=true:=(O4 a b).trans (decide_eq_true h)
theorem E8{a b:Int}(h:¬ b<=a):iGe a b=false:=(O4 a b).trans (decide_eq_false h)
theorem Hc{a b:Int}(h:a<=b):iLe a b=true:=(O5 a b).trans (decide_eq_true h)
theorem Jg{a b:Int}(h:¬ a<=b):iLe a b=false:=(O5 a b).trans (decide_eq_false h)
theorem Hd{a b:Int}(h:a<b):iLt a b=true:=(DF a b).trans (decide_eq_true h)
theorem Fb{a b:Int}(h:¬ a<b):iLt a b=false:=(DF a b).trans (decide_eq_false h)
theorem GZ{a b:Int}(h:b<a):iGt a b=true:=(Gr a b).trans (decide_eq_true h)
theorem Fa{a b:Int}(h:¬ b<a):iGt a b=false:=(Gr a b).trans (decide_eq_false h)
theorem Cb{a b:Int}(h:a=b):iEq a b=true:=by rw[Dc];simpa using h
theorem B6{a b:Int}(h:¬ a=b):iEq a b=false:=by rw[Dc];simpa using h
theorem F8{a b:Int}(h:¬ a=b):iNe a b=true:=by rw[He];simpa using h
theorem CH{a b:Int}(h:a=b):iNe a b=false:=by rw[He];simpa using h
theorem Te{F:AFi}{h:Hp}(W:h.Wf){a b c:Int}{s n:Nat}{u:IN}(hu:∀ g,AGQ u g=.ok (AI AT (n:Int)) g):A4 [.t (J 2)] (d94 F (AS e0 0 [Bu a b c s u]) h)=.ok (.bool (AFx a b c s n)) (h.AFh 0 (A8 a b c s u)):=by
 have R:=Hp.Row.new W 0 (A8 a b c s u);have bx:∀ e:Env,J 0 e=Bu a b c s u->Ce (J 0) F e h=.ok (.pointer (some ⟨h.next,0,none⟩)) (h.AFh 0 (A8 a b c s u)):=fun e he=>SD W he
 generalize h.AFh 0 (A8 a b c s u)=h1 at R bx;obtain⟨l0,l1,l2,l3,l4,_⟩:=Bz R;unfold d94;by_cases k1:0<=a
 ·have c1:iGe a 0=true:=F7 k1
  by_cases k2:a<=1099511627776
  ·have c2:iLe a 1099511627776=true:=Hc k2
   by_cases k3:0<=b
   ·have c3:iGe b 0=true:=F7 k3
    by_cases k4:b<255
    ·have c4:iLt b 255=true:=Hd k4
     by_cases k5:1<=c
     ·have c5:iGe c 1=true:=F7 k5
      by_cases k6:c<=1099511627776
      ·have c6:iLe c 1099511627776=true:=Hc k6
       by_cases k7:(s:Int)=1
       ·have c7:iEq (s:Int) 1=true:=Cb k7
        by_cases k9:(n:Int)<=65536
        ·have c9:iLe (n:Int) 65536=true:=Hc k9
         rw[show AFx a b c s n=true from decide_eq_true (by omega)];simp only[iN,IS,sT,By,BY,reduceIte,gD,bx,AH,AN,AM,AP,l0,l1,l2,l3,l4,AK,AJ,Ah,hu,c1,c2,c3,c4,c5,c6,c7,c9,lV0]
        ·have c9:iLe (n:Int) 65536=false:=Jg k9
         rw[show AFx a b c s n=false from decide_eq_false (by omega)];simp only[iN,IS,sT,By,BY,reduceIte,gD,bx,AH,AN,AM,AP,l0,l1,l2,l3,l4,AK,AJ,Ah,hu,c1,c2,c3,c4,c5,c6,c7,c9,lV0]
       ·have c7:iEq (s:Int) 1=false:=B6 k7
        by_cases k8:(s:Int)=2
        ·have c8:iEq (s:Int) 2=true:=Cb k8
         by_cases k9:(n:Int)<=65536
         ·have c9:iLe (n:Int) 65536=true:=Hc k9
          rw[show AFx a b c s n=true from decide_eq_true (by omega)];simp only[iN,IS,sT,By,BY,reduceIte,gD,bx,AH,AN,AM,AP,l0,l1,l2,l3,l4,AK,AJ,Ah,hu,c1,c2,c3,c4,c5,c6,c7,c8,c9,lV0]
         ·have c9:iLe (n:Int) 65536=false:=Jg k9
          rw[show AFx a b c s n=false from decide_eq_false (by omega)];simp only[iN,IS,sT,By,BY,reduceIte,gD,bx,AH,AN,AM,AP,l0,l1,l2,l3,l4,AK,AJ,Ah,hu,c1,c2,c3,c4,c5,c6,c7,c8,c9,lV0]
        ·have c8:iEq (s:Int) 2=false:=B6 k8
         rw[show AFx a b c s n=false from decide_eq_false (by omega)];simp only[iN,IS,sT,By,BY,reduceIte,gD,bx,AH,AN,AM,AP,l0,l1,l2,l3,l4,AK,AJ,Ah,hu,c1,c2,c3,c4,c5,c6,c7,c8,lV0]
      ·have c6:iLe c 1099511627776=false:=Jg k6
       rw[show AFx a b c s n=false from decide_eq_false (by omega)];simp only[iN,IS,sT,By,BY,reduceIte,gD,bx,AH,AN,AM,AP,l0,l1,l2,l3,l4,AK,AJ,Ah,hu,c1,c2,c3,c4,c5,c6,lV0]
     ·have c5:iGe c 1=false:=E8 k5
      rw[show AFx a b c s n=false from decide_eq_false (by omega)];simp only[iN,IS,sT,By,BY,reduceIte,gD,bx,AH,AN,AM,AP,l0,l1,l2,l3,l4,AK,AJ,Ah,hu,c1,c2,c3,c4,c5,lV0]
    ·have c4:iLt b 255=false:=Fb k4
     rw[show AFx a b c s n=false from decide_eq_false (by omega)];simp only[iN,IS,sT,By,BY,reduceIte,gD,bx,AH,AN,AM,AP,l0,l1,l2,l3,l4,AK,AJ,Ah,hu,c1,c2,c3,c4,lV0]
   ·have c3:iGe b 0=false:=E8 k3
    rw[show AFx a b c s n=false from decide_eq_false (by omega)];simp only[iN,IS,sT,By,BY,reduceIte,gD,bx,AH,AN,AM,AP,l0,l1,l2,l3,l4,AK,AJ,Ah,hu,c1,c2,c3,lV0]
  ·have c2:iLe a 1099511627776=false:=Jg k2
   rw[show AFx a b c s n=false from decide_eq_false (by omega)];simp only[iN,IS,sT,By,BY,reduceIte,gD,bx,AH,AN,AM,AP,l0,l1,l2,l3,l4,AK,AJ,Ah,hu,c1,c2,lV0]
 ·have c1:iGe a 0=false:=E8 k1
  rw[show AFx a b c s n=false from decide_eq_false (by omega)];simp only[iN,IS,sT,By,BY,reduceIte,gD,bx,AH,AN,AM,AP,l0,l1,l2,l3,l4,AK,AJ,Ah,hu,c1,lV0]
theorem Jz{n:Nat}{h:Hp}(W:h.Wf){a b c:Int}{s m:Nat}{u:IN}(hu:∀ g,AGQ u g=.ok (AI AT (m:Int)) g):call AC (n+1) 94 [Bu a b c s u] h=.ok (.bool (AFx a b c s m)) (h.AFh 0 (A8 a b c s u)):=by
 rw[qF rfl];exact Te W hu
def OW(z:Int):Nat:=if z<0\/65536<z then 0 else 1+(z.toNat+63)/64
theorem sL{F:AFi}{e:Env}{h:Hp}{x y:O}{k j:yy}{a b:Int}(hx:x e=.int k a)(hy:y e=.int j b):YR x y F e h=.ok (.int k (min a b)) h:=by
 show Hq true (x e) (y e) h=_;rw[hx,hy];show(bif iLt b a then R.ok (.int k b) h else .ok (.int k a) h)=_;rw[DF];rcases AFB b a with hlt|hle
 ·rw[decide_eq_true hlt,Int.min_eq_right (by omega)];rfl
 ·rw[decide_eq_false (by omega),Int.min_eq_left hle];rfl
theorem WH{n:Nat}{h:Hp}{z:Int}:call AC (n+1) 72 [AI AT z] h=.ok (AI AT (OW z:Nat)) h:=by
 rw[pq rfl];unfold d72;by_cases k1:z<0
 ·have c1:iLt z 0=true:=Hd k1
  rw[show OW z=0 from if_pos (by omega)];simp only[iN,IS,sT,By,BY,reduceIte,gD,AK,AJ,c1,lV0];rfl
 ·have c1:iLt z 0=false:=Fb k1
  by_cases k2:65536<z
  ·have c2:iGt z 65536=true:=GZ k2
   rw[show OW z=0 from if_pos (by omega)];simp only[iN,IS,sT,By,BY,reduceIte,gD,AK,AJ,c1,c2,lV0];rfl
  ·have c2:iGt z 65536=false:=Fa k2
   obtain⟨m,rfl⟩:=AAg (show 0<=z by omega);have a1:Ez .i64 (AI AT (m:Int)) (AI AT 64) h=.ok (AI AT ((m+64:Nat):Int)) h:=by
    rw[Dq,show(m:Int)+64=((m+64:Nat):Int)by omega,Bf (by omega)]
   have a2:Fv zX .i64 (AI AT ((m+64:Nat):Int)) (AI AT 1) h=.ok (AI AT ((m+63:Nat):Int)) h:=by
    have:zX ((m+64:Nat):Int) 1=((m+63:Nat):Int):=by show((m+64:Nat):Int) - 1=_;omega
    rw[Cg,this,Bf (by omega)]
   have a3:Sx .i64 (AI AT ((m+63:Nat):Int)) (AI AT 64) h=.ok (AI AT (((m+63)/64:Nat):Int)) h:=by
    have:AAh.wrap (((m+63:Nat):Int).tdiv 64)=(((m+63)/64:Nat):Int):=Bf (n:=(m+63)/64) (by omega);rw[Lp (by omega),this]
   have a4:Ez .i64 (AI AT 1) (AI AT (((m+63)/64:Nat):Int)) h=.ok (AI AT ((OW (m:Int):Nat):Int)) h:=by
    rw[show OW (m:Int)=1+((m:Int).toNat+63)/64 from if_neg (by omega),zt,Dq,show(1:Int)+(((m+63)/64:Nat):Int)=((1+(m+63)/64:Nat):Int)by omega,Bf (by omega)]
   simp only[iN,IS,sT,By,BY,reduceIte,gD,AK,AJ,c1,c2,BM,a1,B3,a2,Jt,a3,a4,lV0]
end
noncomputable section
open Go
set_option maxRecDepth 100000
def CN(a b c s m t:Nat):List Nat:=[s,a,b,c,m,t]
theorem bF{a b c s m t:Nat}(ha:a<=1099511627776)(hb:b<255)(hc:c<=1099511627776)(hs:s<256)(hm:m<=65536)(ht:t<4294967296):∀ v∈CN a b c s m t,v<18446744073709551616:=fun v hv=>by
 unfold CN at hv;simp only[List.mem_cons,List.mem_nil_iff,or_false]at hv;omega
theorem ON{a b c s m t:Nat}(ha:a<=1099511627776)(hb:b<255)(hc:c<=1099511627776)(hs:s<256)(hm:m<=65536)(ht:t<4294967296):(B4 (CN a b c s m t)).length<=40:=by
 have h1:=EO 1 s (by show s<16384;omega);have h2:=EO 5 a (by show a<4398046511104;omega);have h3:=EO 1 b (by show b<16384;omega);have h4:=EO 5 c (by show c<4398046511104;omega);have h5:=EO 2 m (by show m<2097152;omega);have h6:=EO 4 t (by show t<34359738368;omega);show(CD s++(CD a++(CD b++(CD c++(CD m++(CD t++[])))))).length<=40;simp only[No,zS];omega
theorem Ke{k:yy}{n:Nat}(hn:n<=18446744073709551615){h:Hp}:Di .u64 (.int k (n:Int)) h=.ok (.int .u64 (n:Int)) h:=by rw[Cw,Ee hn]
def yE(T:List Nat)(a b c:Int)(s:Nat)(l:List Nat)(h h':Hp)(r:R):Prop:=(AFx a b c s l.length=true/\∃ v,r=.ok (.tuple ⟨[v,AI AT 0]⟩) h'/\Mk h' h.next v (Eg T (Lb (CN a.toNat b.toNat c.toNat s l.length (CE T l)))))\/(AFx a b c s l.length=false/\r=.ok (.tuple ⟨[.slice none 0 0,AI AT 2]⟩) h')
end
noncomputable section
open Go
set_option maxRecDepth 100000
def nv(n:Nat):IN:=.int .u64 (n:Int)
theorem Hp.Own.apart{h:Hp}{k en b:Nat}{v:IN}{xs:List IN}(o:h.Own k en v xs)(hb:b<k):¬ AGA v b:=by
 rcases o with ⟨rfl,_⟩|⟨c,rfl,_,h3,_⟩
 ·exact GQ
 ·exact Ll (by omega)
theorem YY{h0 h:Hp}{k n:Nat}{v:IN}{xs:List Nat}(x0:h0.Ext h)(hk:h0.next<=k)(hk2:k<=h.next)(o:h.Own k 5 v (xs.map bv))(hn:0<n)(hm:xs.length+n<=1000000):
  ∃ h' v',H4 1 1 5 ty5.zero v (.ok n) h=.ok v' h'/\h0.Ext h'/\h'.Own k 5 v' ((xs++yp n 0).map bv)/\h.next<=h'.next:=by
 have W:=x0.wf;have hz:Bc ty5.zero=true:=by kernel_rfl
 have hyl:((yp n 0).map bv).length=n:=by simp
 rw[zb];have hx:(xs.map bv).length=xs.length:=OF ..;generalize hY:(yp n 0).map bv=ys at hyl;rcases o with ⟨rfl,AIF⟩|⟨b,rfl,r,hb,hb2⟩
 ·rw[AIF]
  obtain⟨t1,t2⟩:=Hs ys;refine⟨h.push (.cells (ofL ys) ys.length 6),.slice (some ⟨h.next,0,none⟩) ys.length ys.length,?_,x0.push _,.inr ⟨h.next,rfl,⟨ofL ys,by rw[W.AF6,if_pos rfl];rfl,t2⟩,hk2,W.big⟩,AEg _⟩;unfold H4;simp only[Ao,AAD,If];have e1:yl n 0=false:=by
   cases e:yl n 0
   ·rfl
   ·have:=Av.1 e;omega
  have e2:yl (zi (yg n) (yg 1)) Jk=true:=Av.2 (IJ (by show(n+1)*2<=1099511627776;omega));rw[e1];simp only[e2,cond_true,hz,L1,hY];unfold HL BP Jd;simp only[zU,t1];unfold E7;simp only[Bi];unfold CW;rw[Ao,C8 W,hyl];rfl
 ·obtain⟨cc,hcc,hl⟩:=r.rowOf
  rw[hx]at hcc;obtain⟨t,h2,h3⟩:=EM ys cc (xs.map bv) xs.length hl (.inr hx.symm);have h3:t.Is (xs.map bv++ys):=by
   have e:(xs.map bv).drop (xs.length+ys.length)=[]:=zx (by omega);have e':(xs.map bv).take xs.length=xs.map bv:=AAo (by omega);rw[e,e']at h3
   simpa using h3
  have hlen:(xs.map bv++ys).length=xs.length+n:=by rw[No,hx,hyl]
  have hlt:=r.lt W;have W1:(h.put b .dead).Wf:=W.put hlt _;have x1:h0.Ext (h.put b .dead):=x0.put (by omega) hlt _;refine⟨(h.put b .dead).push (.cells t (xs.length+n) 6),.slice (some ⟨h.next,0,none⟩) (xs.length+n) (xs.length+n),?_,x1.push _,.inr ⟨h.next,by rw[hlen],⟨t,by
   have:=W1.AF6 (.cells t (xs.length+n) 6) h.next;rw[this,if_pos (show h.next=(h.put b .dead).next from rfl),hlen],h3⟩,hk2,W.big⟩,AEg _⟩
  rw[hx];unfold H4;simp only[Ao,AAD];have e1:yl (xs.length+n) xs.length=false:=by
   cases e:yl (xs.length+n) xs.length
   ·rfl
   ·have:=Av.1 e;omega
  have e2:yl (zi (yg (xs.length+n)) (yg 1)) Jk=true:=Av.2 (IJ (by show(xs.length+n+1)*2<=1099511627776;omega));rw[e1];simp only[e2,cond_true,hz,L1,hY];unfold HL;have e3:yu xs.length (zi xs.length 1)=true:=Ay.2 (AA0 _).symm;simp only[hcc,e3,h2];unfold E7;have e4:LG 0 xs.length 1 xs.length=true:=by
   unfold LG;cases xs.length with
   |zero=>rfl
   |succ n=>exact Ay.2 (by show 0+(n+1)*1=n+1;omega)
  simp only[hcc,Bi,AAD,AAQ,cond_true,e4];rw[Dw W hb2 hlt];unfold CW;rw[Ao,C8 W1,hyl];rfl
theorem Q9{F:AFi}{e:Env}{h:Hp}{x y:O}{n:Nat}{v:IN}(hx:x e=v)(hy:y e=AI AT (n:Int)):Fe 1 1 5 ty5.zero x y F e h=H4 1 1 5 ty5.zero v (.ok n) h:=by
 unfold Fe;rw[hx,hy,DI]
theorem lF:Bb SQ.zero 6=[nv 0,nv 0,nv 0,nv 0,nv 0,nv 0]:=by kernel_rfl
theorem ZY{n:Nat}:cellsOf (nv n)=[nv n]:=rfl
theorem Yf{F:AFi}{e:Env}{h:Hp}(W:h.Wf){g1 g2 g3 g4 g5 g6:O}{a b c d i j:Nat}(h1:g1 e=nv a)(h2:g2 e=nv b)(h3:g3 e=nv c)(h4:g4 e=nv d)(h5:g5 e=nv i)(h6:g6 e=nv j):
  As 6 (Bb SQ.zero 6) [(0,1,g1),(1,1,g2),(2,1,g3),(3,1,g4),(4,1,g5),(5,1,g6)] F e h=.ok (.slice (some ⟨h.next,0,none⟩) 6 6) (h.AFh 0 ([a,b,c,d,i,j].map nv)):=by
 rw[CR,lF,Af (hk:=by rw[h1];rfl),h1,Af (hk:=by rw[h2];rfl),h2,Af (hk:=by rw[h3];rfl),h3,Af (hk:=by rw[h4];rfl),h4,Af (hk:=by rw[h5];rfl),h5,Af (hk:=by rw[h6];rfl),h6];simp only[ZY,zh,yh,zS,over,ACw,ACo,ABN,zU,AAl,IS,AA5,if_true,Bs,reduceIte];rw[C9 W];rfl
theorem rQ:heS=BL (Ae 0 (A9 heB)) heE:=rfl
theorem Zr:d98=Zt:=rfl
theorem iY{n:Nat}{h0 h:Hp}(x0:h0.Ext h){b6:Nat}(hb6:b6<h.next)(hk:h0.next<=h.next){ns:List Nat}(R6:h.Row b6 0 (ns.map nv))(hns:∀ v∈ns,v<18446744073709551616)(h6:ns.length=6){p:IN}{e:Env}
  (s0:J 0 e=p)(s6:J 6 e=.slice none 0 0)(s33:J 33 e=.slice (some ⟨b6,0,none⟩) 6 6)(s34:J 34 e=AI AT 6)(s35:J 35 e=AI AT ((0:Nat):Int)):
  ∃ e' h' v,A9 heB (call AC (n+1)) e h=.exit 0 e' h'/\h0.Ext h'/\h'.Own h.next 5 v ((B4 ns).map bv)/\J 0 e'=p/\J 6 e'=v/\h.next<=h'.next:=by
 refine Bh (I:=fun i e' h'=>∃ v,h0.Ext h'/\h'.Own h.next 5 v ((B4 (ns.take i)).map bv)/\h'.Row b6 0 (ns.map nv)/\J 0 e'=p/\J 6 e'=v/\J 33 e'=.slice (some ⟨b6,0,none⟩) 6 6/\J 34 e'=AI AT 6/\J 35 e'=AI AT (i:Int)/\h.next<=h'.next/\i<=6)
  (Q:=fun x=>∃ e' h' v,x=.exit 0 e' h'/\h0.Ext h'/\h'.Own h.next 5 v ((B4 ns).map bv)/\J 0 e'=p/\J 6 e'=v/\h.next<=h'.next) 6 (by omega) (fun i e' h' ⟨v,x',o',R',t0,t6,t33,t34,t35,hn,hi⟩=>?_)
  ⟨_,x0,.inl ⟨rfl,rfl⟩,R6,s0,s6,s33,s34,s35,IT _,by omega⟩
 by_cases hlt:i<6
 ·left
  have c1:iLt (i:Int) 6=true:=E9 (b:=6) hlt;have hil:i<ns.length:=by omega
  have i1:AGa 1 (.slice (some ⟨b6,0,none⟩) 6 6) (AI AT (i:Int)) h'=.ok (.pointer (some ⟨b6,i,none⟩)) h':=by
   have:=DB (h:=h') (n:=6) (c:=6) (es:=1) (b:=b6) (off:=0) (i:=i) (k:=.i64) hlt
   rwa [If,AA0]at this
  have l1:AFk ⟨b6,i,none⟩ h'=.ok (.int .u64 ((ns[i]'hil:Nat):Int)) h':=by
   rw[R'.AFk (off:=i) (by rw[OF];exact hil),yf,zy,sh hil];rfl
  have htl:(B4 (ns.take i)).length<=1000000:=by
   have h1:=JG (ns:=ns.take i) fun v hv=>hns v (AAN hv)
   rw[zJ]at h1;omega
  obtain⟨h2,v2,k2,x2,o2,hn2,fr⟩:=km (n:=n) x' hk hn o' htl (hns _ (ABJ hil));have a3:=Cc (i:=i) (h:=h2) (by omega);have R2:=(fr b6 0 _ (o'.apart hb6) R').1;have htk:B4 (ns.take i)++CD (ns[i]'hil)=B4 (ns.take (i+1)):=by
   rw[List.take_succ_eq_append_getElem hil,Tv];show _=_++(CD _++[]);rw[yw]
  rw[htk]at o2;have hrun:∃ e2,heB (call AC (n+1)) e' h'=.norm e2 h2/\J 0 e2=p/\J 6 e2=v2/\J 33 e2=.slice (some ⟨b6,0,none⟩) 6 6/\J 34 e2=AI AT 6/\J 35 e2=AI AT ((i+1:Nat):Int):=by
   unfold heB;simp only[sT,By,BY,reduceIte,AK,AJ,t35,t34,c1,BB,t33,i1,AM,AP,l1,cA0,t6,k2,BM,a3];exact⟨_,rfl,by simp[AG,t0,t33,t34]⟩
  obtain⟨e2,q1,q2,q3,q4,q5,q6⟩:=hrun;exact⟨by omega,e2,h2,q1,v2,x2,o2,R2,q2,q3,q4,q5,q6,by omega,by omega⟩
 ·right
  have hi6:i=6:=by omega
  subst hi6;have c1:iLt ((6:Nat):Int) 6=false:=DJ (a:=6) (b:=6) (by omega);have hrun:∃ e2,heB (call AC (n+1)) e' h'=.exit 0 e2 h'/\J 0 e2=p/\J 6 e2=v:=by
   unfold heB;simp only[sT,By,BY,reduceIte,AK,AJ,t35,t34,c1];exact⟨_,rfl,by simp[AG,t0,t6]⟩
  obtain⟨e2,q1,q2,q3⟩:=hrun;rw[q1];rw[AAo (by omega)]at o';exact⟨rfl,e2,h',v,rfl,x',o',q2,q3,hn⟩
theorem VL{n:Nat}{h:Hp}(W:h.Wf){tb:Nat}{T:List Nat}(R:h.Row tb 0 (T.map wv))(hT:AGc T){a b c:Int}{s:Nat}{u:IN}{l:List Nat}(V:h.AF5 u (l.map bv))(hb:∀ x∈l,x<256)(hs:s<256)(hl:l.length<=900000):
  ∃ h',h.Ext h'/\yE T a b c s l h h' (call AC (n+3) 98 [pt tb,Bu a b c s u] h):=by
 have x1:=(Hp.Ext.refl W).AFh 0 (A8 a b c s u);have R1:=Hp.Row.new W 0 (A8 a b c s u);have bx:∀ e:Env,J 1 e=Bu a b c s u->Ce (J 1) (call AC (n+2)) e h=.ok (.pointer (some ⟨h.next,0,none⟩)) (h.AFh 0 (A8 a b c s u)):=fun e he=>SD W he
 have n1:(h.AFh 0 (A8 a b c s u)).next=h.next+1:=rfl;generalize h.AFh 0 (A8 a b c s u)=h1 at x1 R1 bx n1;obtain⟨_,_,_,_,_,ln⟩:=Bz R1;have k1:=Jz (n:=n+1) x1.wf (a:=a) (b:=b) (c:=c) (s:=s) (u:=u) V.bl;have y2:=(Hp.Ext.refl x1.wf).AFh 0 (A8 a b c s u);have n2:(h1.AFh 0 (A8 a b c s u)).next=h1.next+1:=rfl;generalize h1.AFh 0 (A8 a b c s u)=h2 at y2 k1 n2;have x2:=x1.trans y2;cases hr:AFx a b c s l.length with
 |false=>
  rw[hr]at k1;refine⟨h2,x2,.inr ⟨hr,?_⟩⟩;rw[ZV rfl,Zr];unfold Zt;simp only[iN,IS,sT,By,BY,reduceIte,bx,Au,Am,ln,cA0,k1,Be,Bd,zg,BI,DH]
 |true=>
  rw[hr]at k1;obtain⟨ha1,ha2,hb1,hb2,hc1,hc2,hs2,hm⟩:=of_decide_eq_true hr;have xm:=x2.marked;have R2:h2.marked.Row h.next 0 (A8 a b c s u):=(R1.ext x1.wf y2).same rfl;obtain⟨m0,m1,m2,m3,m4,_⟩:=Bz R2;have hmk:h.next<h2.marked.mark:=by show h.next<h2.next;omega
  have old:∀ (off:Nat) (k:C) (F:AFi) (e:Env),JA (.pointer (some ⟨h.next,off,none⟩)) k F e h2.marked=k F e h2.marked:=fun off k F e=>Dl hmk
  have Vl:=V.bl h2.marked;obtain⟨a',rfl⟩:=AAg ha1;obtain⟨b',rfl⟩:=AAg hb1;obtain⟨c',rfl⟩:=AAg (show 0<=c by omega);have cs:=Ke (k:=.u8) (n:=s) (by omega) (h:=h2.marked);have ca:=Ke (k:=.i64) (n:=a') (by omega) (h:=h2.marked);have cb:=Ke (k:=.i64) (n:=b') (by omega) (h:=h2.marked);have cc:=Ke (k:=.i64) (n:=c') (by omega) (h:=h2.marked);have cm:=Ke (k:=.i64) (n:=l.length) (by omega) (h:=h2.marked);obtain⟨hq,kq,hq2⟩:=Tn (n:=n+1) (h:=h2.marked.quiet) (R.ext W xm.quiet) hT (V.ext W xm.quiet) hb hl;have yq:h2.marked.quiet.Ext hq:=by
   rcases hq2 with rfl|rfl
   ·exact Hp.Ext.refl xm.quiet.wf
   ·exact(Hp.Ext.refl xm.quiet.wf).marked
  have nq:hq.next=h2.next:=by rcases hq2 with rfl|rfl<;>rfl
  have q1:∀ e:Env,J 0 e=pt tb->J 30 e=u->Ad .weak (AU 48 [J 0,J 30]) (call AC (n+2)) e h2.marked=.ok (.int .u32 ((CE T l:Nat):Int)) (h2.marked.back hq):=fun e h0 h6=>by
   refine Cp ?_ yq (IT _);rw[BR,AV,AV,A3,h0,h6];exact kq
  have yb:h2.marked.Ext (h2.marked.back hq):=Hp.Ext.back yq;have nb:(h2.marked.back hq).next=h2.next:=nq;have mb:(h2.marked.back hq).mark=h2.next:=rfl;generalize h2.marked.back hq=h3 at q1 yb nb mb;have x3:=xm.trans yb;have ct:=Ke (k:=.u32) (n:=CE T l) (by have:=IX T l;omega) (h:=h3);have y4:h3.quiet.Ext (h3.quiet.AFh 0 ((CN a' b' c' s l.length (CE T l)).map nv)):=(Hp.Ext.refl x3.quiet.wf).AFh _ _;have R4:=Hp.Row.new x3.quiet.wf 0 ((CN a' b' c' s l.length (CE T l)).map nv);have q2:∀ (F:AFi) (e:Env),J 14 e=nv s->J 17 e=nv a'->J 20 e=nv b'->J 23 e=nv c'->J 27 e=nv l.length->J 32 e=nv (CE T l)->
    Ad .AFz (As 6 (Bb SQ.zero 6) [(0,1,J 14),(1,1,J 17),(2,1,J 20),(3,1,J 23),(4,1,J 27),(5,1,J 32)]) F e h3=.ok (.slice (some ⟨h3.next,0,none⟩) 6 6) (h3.back (h3.quiet.AFh 0 ((CN a' b' c' s l.length (CE T l)).map nv))):=fun F e e1 e2 e3 e4 e5 e6=>
   Cp (Yf x3.quiet.wf e1 e2 e3 e4 e5 e6) y4 (by omega)
  have z4:h3.Ext (h3.back (h3.quiet.AFh 0 ((CN a' b' c' s l.length (CE T l)).map nv))):=Hp.Ext.back y4;have n4:(h3.back (h3.quiet.AFh 0 ((CN a' b' c' s l.length (CE T l)).map nv))).next=h3.next+1:=rfl;have R5:(h3.back (h3.quiet.AFh 0 ((CN a' b' c' s l.length (CE T l)).map nv))).Row h3.next 0 ((CN a' b' c' s l.length (CE T l)).map nv):=R4.same rfl;generalize h3.back (h3.quiet.AFh 0 ((CN a' b' c' s l.length (CE T l)).map nv))=h4 at q2 z4 n4 R5;have x4:=x3.trans z4;have hnl:=bF (a:=a') (b:=b') (c:=c') (s:=s) (m:=l.length) (t:=CE T l) (by omega) (by omega) (by omega) hs (by omega) (IX T l);have hl7:=ON (a:=a') (b:=b') (c:=c') (s:=s) (m:=l.length) (t:=CE T l) (by omega) (by omega) (by omega) hs (by omega) (IX T l);have pre:∃ e1,Zt (call AC (n+2)) (AS e0 0 [pt tb,Bu (a':Int) (b':Int) (c':Int) s u]) h=heS (call AC (n+2)) e1 h4/\J 0 e1=pt tb/\J 6 e1=.slice none 0 0/\J 33 e1=.slice (some ⟨h3.next,0,none⟩) 6 6/\J 34 e1=AI AT 6/\J 35 e1=AI AT ((0:Nat):Int):=by
   have cs:Di .u64 (.int .u8 (s:Int)) h2.marked=.ok (nv s) h2.marked:=cs;have ca:Di .u64 (AI AT (a':Int)) h2.marked=.ok (nv a') h2.marked:=ca;have cb:Di .u64 (AI AT (b':Int)) h2.marked=.ok (nv b') h2.marked:=cb;have cc:Di .u64 (AI AT (c':Int)) h2.marked=.ok (nv c') h2.marked:=cc;have cm:Di .u64 (AI AT (l.length:Int)) h2.marked=.ok (nv l.length) h2.marked:=cm;have ct:Di .u64 (.int .u32 ((CE T l:Nat):Int)) h3=.ok (nv (CE T l)) h3:=ct;unfold Zt;simp only[iN,IS,sT,By,BY,reduceIte,bx,Au,Am,ln,cA0,k1,Be,Bd,ze,A1,AH,AN,ED,old,DV,AM,AP,m0,m1,m2,m3,m4,CX,cs,ca,cb,cc,Ah,Vl,cm,q1,ct,q2,D7];exact⟨_,rfl,by simp[AG]⟩
  obtain⟨e1,p1,p2,p3,p4,p5,p6⟩:=pre;obtain⟨e2,h5,v5,r1,x5,o5,r2,r3,n5⟩:=iY (n:=n+1) x4 (b6:=h3.next) (by omega) x4.next R5 hnl rfl p2 p3 p4 p5 p6;have Vl5:=o5.vals.bl h5;have a1:Fv zX .i64 (AI AT 60) (AI AT ((B4 (CN a' b' c' s l.length (CE T l))).length:Int)) h5=.ok (AI AT ((60 - (B4 (CN a' b' c' s l.length (CE T l))).length:Nat):Int)) h5:=by
   have:zX 60 ((B4 (CN a' b' c' s l.length (CE T l))).length:Int)=((60 - (B4 (CN a' b' c' s l.length (CE T l))).length:Nat):Int):=by
    show(60:Int) - _=_;omega
   rw[Cg,this,Bf (by omega)]
  obtain⟨h6,v6,k6,x6,o6,n6⟩:=YY x5 (k:=h4.next) x4.next n5 o5 (n:=60 - (B4 (CN a' b' c' s l.length (CE T l))).length) (by omega) (by omega);have ap:∀ (F:AFi) (e:Env),J 6 e=v5->J 47 e=AI AT ((60 - (B4 (CN a' b' c' s l.length (CE T l))).length:Nat):Int)->Fe 1 1 5 ty5.zero (J 6) (J 47) F e h5=.ok v6 h6:=fun F e e1 e2=>(Q9 e1 e2).trans k6
  have hpl:=M7 (l:=B4 (CN a' b' c' s l.length (CE T l))) (by omega);have Vp:h6.AF5 v6 ((PT (B4 (CN a' b' c' s l.length (CE T l)))).map bv):=o6.vals;obtain⟨h7,w,k7,y7,m7⟩:=WC (n:=n) x6.wf (R.ext W x6) hT Vp (V7 Od) (by omega);refine⟨h7,x6.trans y7,.inl ⟨hr,w,?_,?_⟩⟩
  ·rw[ZV rfl,Zr,p1,rQ]
   simp only[BJ,Az,r1,BD,BA];unfold heE;simp only[sT,By,BY,reduceIte,Ah,r3,Vl5,B3,a1,ap,cA0,r2,k7,BI,DH]
  ·rw[zt,zt,zt]
   exact m7.le x6.next
end
noncomputable section
open Go
set_option maxRecDepth 100000
abbrev AFn:IN:=.slice none 0 0
def okT(ns:List Nat):IN:=.tuple ⟨[Bu (at6 ns 1) (at6 ns 2) (at6 ns 3) (at6 ns 0) AFn,AI AT (at6 ns 4:Nat),.int .u32 (at6 ns 5:Nat),.bool true]⟩
def noT:IN:=.tuple ⟨[Bu 0 0 0 0 AFn,AI AT 0,.int .u32 0,.bool false]⟩
theorem Ty:Ia.zero=A8 0 0 0 0 AFn:=by kernel_rfl
theorem FQ:Bt .mt 0 (A8 0 0 0 0 AFn)=some DP:=by kernel_rfl
theorem dS:Bt .mt 0 ([0,0,0,0,0,0].map nv)=some Of:=by kernel_rfl
theorem Kl{e:Env}{h:Hp}{g g1 g2 g3:O}{n:Nat}{v:IN}(hv:Ky n (g e) h=.ok v h):En [.cN g n,.t g1,.t g2,.t g3] e h=.ok (.tuple ⟨[v,g1 e,g2 e,g3 e]⟩) h:=by
 have h1:FO e h (.cN g n)=.ok v h:=hv;show(match FO e h (.cN g n)with|.ok v _=>AFv v fun v=>AFv (g1 e) (fun x=>AFv (g2 e) fun y=>AFv (g3 e) fun z=>JX h [v,x,y,z])|.no=>.no)=_;rw[h1];simp only[BV];rfl
theorem Lh{h g:Hp}(W0:h.Wf)(x:h.Ext g){r:Nat}(hr:h.next<=r){L:List IN}(R:g.Row r 0 L)(hL:L.length=5){a b c:Int}{s:Nat}{u:IN}(hu:oneCell u=true):
  AFr 5 (pt r) (Bu a b c s u) g=.ok AFl (g.wr r 0 (A8 a b c s u))/\loadN 5 ⟨r,0,none⟩ (g.wr r 0 (A8 a b c s u))=.ok (Bu a b c s u) (g.wr r 0 (A8 a b c s u))/\h.Ext (g.wr r 0 (A8 a b c s u))/\(g.wr r 0 (A8 a b c s u)).Row r 0 (A8 a b c s u)/\(g.wr r 0 (A8 a b c s u)).next=g.next:=by
 have AFs:256<=r:=by have:=W0.big;omega
 have ho:0+(A8 a b c s u).length<=L.length:=by rw[hL];show 0+5<=5;omega
 have h1:Bc (A8 a b c s u)=true:=by
  show(bif oneCell u then true else false)=true;rw[hu];rfl
 have st:=R.AFr (n:=5) (off:=0) x.wf AFs (v:=Bu a b c s u) rfl ho h1;have wr:=R.AFu x.wf ho;rw[Fi (show L.length=(A8 a b c s u).length from hL)]at wr;exact⟨st,(Bz wr).2.2.2.2.2,R.AGE x hr ho,wr,R.AGN ho⟩
theorem ed{F:AFi}{e:Env}{h:Hp}{g1 g2 g3 g4:O}{a b c:Int}{s:Nat}(h1:g1 e=.int .u8 (s:Int))(h2:g2 e=AI AT a)(h3:g3 e=AI AT b)(h4:g4 e=AI AT c):
  BK Ia.zero [(3,1,g1),(0,1,g2),(1,1,g3),(2,1,g4)] F e h=.ok (Bu a b c s AFn) h:=by
 rw[CS,Ty,Af (hk:=by rw[h1];rfl),h1,Af (hk:=by rw[h2];rfl),h2,Af (hk:=by rw[h3];rfl),h3,Af (hk:=by rw[h4];rfl),h4];simp only[Ch,zh,yh,zS,A8,over,ACw,ACo,ABN,zU,AAl,IS,AA5,if_true,Bs,reduceIte];rfl
theorem Ds{F:AFi}{e:Env}{h:Hp}:BK Ia.zero [] F e h=.ok (Bu 0 0 0 0 AFn) h:=by
 rw[CS,Bs,Ty];rfl
theorem Qf{r k:Nat}(hk:k<6){g:Hp}:NY 6 1 (pt r) (AI AT (k:Int)) g=.ok (.pointer (some ⟨r,k,none⟩)) g:=by
 have:=VQ (h:=g) (n:=6) (es:=1) (b:=r) (off:=0) (i:=k) (k:=.i64) hk
 rwa [If,AA0]at this
theorem Q6{g:Hp}{r k:Nat}{ns:List Nat}(R:g.Row r 0 (ns.map nv))(h6:ns.length=6)(hk:k<6):AFk ⟨r,k,none⟩ g=.ok (.int .u64 ((at6 ns k:Nat):Int)) g:=by
 have hil:k<ns.length:=by omega
 unfold at6;rw[R.AFk (off:=k) (by rw[OF];exact hil),yf,zy,yf,sh hil];rfl
abbrev f112:IN:=.func (.func 135) ⟨[]⟩ ⟨[]⟩
theorem ZF{n:Nat}{h:Hp}{c:Nat}:call AC (n+1) 135 [.int .u8 (c:Int)] h=.ok (.bool (iNe (c:Int) 0)) h:=by
 rw[fV rfl];unfold gi;simp only[iN,IS,sT,By,BY,reduceIte,AK,AJ,lV0]
theorem O7:ifS=BL (Ae 0 (A9 ifB)) ifE:=rfl
theorem Lo:gh=Nt:=rfl
theorem ib{n:Nat}{h:Hp}{u:IN}{l:List Nat}(V:h.AF5 u (l.map bv))(hl:l.length<=900000){e:Env}(s0:J 0 e=u)(s1:J 1 e=f112)(s7:J 7 e=AI AT (l.length:Int))(s8:J 8 e=AI AT ((0:Nat):Int)):
  (∃ e',A9 ifB (call AC (n+1)) e h=.exit 0 e' h/\∀ x∈l,x=0)\/(∃ e' i,A9 ifB (call AC (n+1)) e h=.ret e' h/\J 4 e'=AI AT ((i:Nat):Int)/\∃ x∈l,x≠0):=by
 refine Bh (I:=fun i e' h'=>h'=h/\J 0 e'=u/\J 1 e'=f112/\J 7 e'=AI AT (l.length:Int)/\J 8 e'=AI AT (i:Int)/\i<=l.length/\((∀ x∈l,x=0)↔∀ x∈l.drop i,x=0))
  (Q:=fun x=>(∃ e',x=.exit 0 e' h/\∀ x∈l,x=0)\/(∃ e' i,x=.ret e' h/\J 4 e'=AI AT ((i:Nat):Int)/\∃ x∈l,x≠0)) l.length (by omega) (fun i e' h' ⟨hh,t0,t1,t7,t8,hi,hr⟩=>?_) ⟨rfl,s0,s1,s7,s8,zL _,by simp⟩
 subst hh;by_cases hlt:i<l.length
 ·obtain⟨a,g1,g2⟩:=JJ V hlt
  have hmem:l.getD i 0∈l:=by
   rw[yf,sh hlt];exact ABJ hlt
  rw[GS hlt]at hr;generalize l.getD i 0=c at g2 hr hmem;have c1:=E9 hlt;have k1:=ZF (n:=n) (h:=h') (c:=c);by_cases hc:c=0
  ·left
   subst hc;have k1:call AC (n+1) 135 [.int .u8 ((0:Nat):Int)] h'=.ok (.bool false) h':=k1;have a3:=Cc (i:=i) (h:=h') (by omega);have hrun:∃ e2,ifB (call AC (n+1)) e' h'=.norm e2 h'/\J 0 e2=u/\J 1 e2=f112/\J 7 e2=AI AT (l.length:Int)/\J 8 e2=AI AT ((i+1:Nat):Int):=by
    unfold ifB;simp only[sT,By,BY,reduceIte,AK,AJ,t8,t7,c1,BB,t0,g1,AM,g2,Ca,t1,Cr,AV,A3,zU,yw,k1,BM,a3];exact⟨_,rfl,by simp[AG,t0,t1,t7]⟩
   obtain⟨e2,q1,q2,q3,q4,q5⟩:=hrun;refine⟨hlt,e2,h',q1,rfl,q2,q3,q4,q5,hlt,hr.trans ?_⟩;simp
  ·right
   have c2:iNe (c:Int) 0=true:=by rw[He];simpa using hc
   rw[c2]at k1;have hrun:∃ e2,ifB (call AC (n+1)) e' h'=.ret e2 h'/\J 4 e2=AI AT (i:Int):=by
    unfold ifB;simp only[sT,By,BY,reduceIte,AK,AJ,t8,t7,c1,BB,t0,g1,AM,g2,Ca,t1,Cr,AV,A3,zU,yw,k1];exact⟨_,rfl,by simp[AG]⟩
   obtain⟨e2,q1,q2⟩:=hrun;rw[q1];exact⟨rfl,.inr ⟨e2,i,rfl,q2,c,hmem,hc⟩⟩
 ·right
  have c1:=DJ (show l.length<=i by omega);have hrun:∃ e2,ifB (call AC (n+1)) e' h'=.exit 0 e2 h':=by
   unfold ifB;simp only[sT,By,BY,reduceIte,AK,AJ,t8,t7,c1];exact⟨_,rfl⟩
  obtain⟨e2,q1⟩:=hrun;rw[q1];refine⟨rfl,.inl ⟨e2,rfl,hr.2 ?_⟩⟩;rw[zx (by omega)];intro x hx;cases hx
theorem XW{n:Nat}{h:Hp}{u:IN}{l:List Nat}(V:h.AF5 u (l.map bv))(hl:l.length<=900000):∃ r:Bool,call AC (n+3) 110 [u,f112] h=.ok (.bool r) h/\(r=true↔∃ x∈l,x≠0):=by
 have Vl:=V.bl h;have pre:∃ e1,Nt (call AC (n+1)) (AS e0 0 [u,f112]) h=ifS (call AC (n+1)) e1 h/\J 0 e1=u/\J 1 e1=f112/\J 7 e1=AI AT (l.length:Int)/\J 8 e1=AI AT ((0:Nat):Int):=by
  unfold Nt;simp only[iN,IS,sT,By,BY,reduceIte,Ah,Vl];exact⟨_,rfl,by simp[AG]⟩
 obtain⟨e1,p1,p2,p3,p4,p5⟩:=pre;rcases ib (n:=n) V hl p2 p3 p4 p5 with ⟨e2,q1,q2⟩|⟨e2,i,q1,q2,q3⟩
 ·have k1:call AC (n+2) 134 [u,f112] h=.ok (AI AT (-1)) h:=by
   rw[Ln rfl,Lo,p1,O7];simp only[BJ,Az,q1,BD,BA];unfold ifE;simp only[sT,By,BY,reduceIte,lV0]
  refine⟨false,?_,by simp;exact q2⟩;have c1:iGe (-1) 0=false:=E8 (by omega);rw[Lm rfl];unfold Su;simp only[iN,IS,sT,By,BY,reduceIte,cA0,k1,AK,AJ,c1,lV0]
 ·have k1:call AC (n+2) 134 [u,f112] h=.ok (AI AT (i:Int)) h:=by
   rw[Ln rfl,Lo,p1,O7];simp only[BJ,Az,q1,CQ,DC,lV0,q2]
  refine⟨true,?_,by simp only[true_iff];exact q3⟩;have c1:iGe (i:Int) 0=true:=F7 (by omega);rw[Lm rfl];unfold Su;simp only[iN,IS,sT,By,BY,reduceIte,cA0,k1,AK,AJ,c1,lV0]
theorem QF{h:Hp}{k m:Nat}{v:IN}{l:List Nat}(M:Mk h k v l)(hm:m<=l.length):∃ w,(∀ (F:AFi) (e:Env) (x y:O),x e=v->y e=AI AT (m:Int)->EJ 5 1 x (some y) none none F e h=.ok w h)/\h.AF5 w ((l.drop m).map bv):=by
 obtain⟨b,el,hv,hel,Rb,_⟩:=M;have hdl:(l.drop m).length=l.length - m:=zl;have key:∀ (F:AFi) (e:Env) (x y:O),x e=v->y e=AI AT (m:Int)->EJ 5 1 x (some y) none none F e h=ET 5 1 (some ⟨b,0,none⟩) false m l.length l.length h:=fun F e x y hx hy=>by
  have hb:∀ K:Nat->R,Cv e (some y) 0 l.length K=K m:=fun K=>by
   show(match De (y e)with|.ok n=>(bif yl n l.length then K n else .no)|.no=>.no)=_;rw[hy,DI];simp only;rw[Av.2 hm];rfl
  show(match x e with|.slice a n c=>Dh e n c (some y) none none (fun l hh m=>ET 5 1 a false l hh m h)|_=>.no)=_;rw[hx,hv];show Cv e none l.length l.length (fun hh=>Cv e (some y) 0 hh fun l'=>ET 5 1 (some ⟨b,0,none⟩) false l' hh l.length h)=_;show Cv e (some y) 0 l.length (fun l'=>ET 5 1 (some ⟨b,0,none⟩) false l' l.length l.length h)=_;rw[hb]
 have AKN:ET 5 1 (some ⟨b,0,none⟩) false m l.length l.length h=Br (some ⟨b,0,none⟩) 1 m l.length l.length h:=by
  cases m with
  |zero=>rfl
  |succ m=>
   show(bif E5 5 (some ⟨b,0,none⟩) h then Br (some ⟨b,0,none⟩) 1 (m+1) l.length l.length h else .no)=_;have:E5 5 (some ⟨b,0,none⟩) h=true:=by
    obtain⟨cc,hcc,_⟩:=Rb.rowOf;unfold E5;simp only[hcc];rcases hel with rfl|rfl<;>rfl
   rw[this];rfl
 rcases zD m l.length with hlt|hge
 ·refine⟨.slice (some ⟨b,m,none⟩) (l.length - m) (l.length - m),?_,.inr ⟨b,m,l.length - m,el,_,by rw[OF,hdl],Rb,by rw[OF,OF,hdl];omega,?_⟩⟩
  ·intro F e x y hx hy
   rw[key F e x y hx hy,AKN];unfold Br;simp only[Ao];have e1:yu l.length m=false:=by
    cases e:yu l.length m
    ·rfl
    ·have:=Ay.1 e;omega
   rw[e1];cases m with
   |zero=>rfl
   |succ m=>
    have e2:zi (m+1) 1=yg m:=AA0 _;simp only[e2,AAD,If];rfl
  ·rw[OF,hdl,<- List.map_drop,AAo (by rw[OF,hdl];exact IT _)]
 ·have hml:m=l.length:=by omega
  subst hml;refine⟨.slice (some ⟨b,0,none⟩) 0 0,?_,.inr ⟨b,0,0,el,_,by rw[ABy];rfl,Rb,by rw[ABy];exact zL _,by rw[ABy];rfl⟩⟩;intro F e x y hx hy;rw[key F e x y hx hy,AKN];unfold Br;simp only[Ao,Nat.sub_eq,AE9,AAQ]
end
noncomputable section
open Go
set_option maxRecDepth 100000
theorem Ta:paS=BL (Ae 0 (A9 paB)) paE:=rfl
theorem JQ:gI=LJ:=rfl
theorem RY(k:Nat)(l:List Nat)(p:Nat):rdN (k+1) l p=(match Fy 0 0 (l.drop p)with
 |none=>none
 |some (v,j)=>if v<=1099511627776 then(match rdN k l (p+j)with
  |none=>none
  |some (vs,q)=>some (v::vs,q))else none):=rfl
def Yy(h:Hp)(r4:Nat)(e:Env)(g:Hp):Prop:=h.Ext g/\J 4 e=pt r4/\J 5 e=AI AT 0/\J 6 e=.int .u32 0/\J 7 e=.bool false/\loadN 5 ⟨r4,0,none⟩ g=.ok (Bu 0 0 0 0 AFn) g
theorem j6{n:Nat}{h hB g:Hp}(W0:h.Wf)(xB:h.Ext hB)(x:hB.Ext g){r4 r10:Nat}(hr4:h.next<=r4)(ALG:hB.next<=r10)(R4:hB.Row r4 0 (A8 0 0 0 0 AFn)){v:IN}{l:List Nat}(V:hB.AF5 v (l.map bv))(hb:∀ x∈l,x<256)(hl:l.length<=900000)
  (R10:g.Row r10 0 ([0,0,0,0,0,0].map nv)){e:Env}(s4:J 4 e=pt r4)(s8:J 8 e=v)(s10:J 10 e=pt r10)(s11:J 11 e=AI AT ((0:Nat):Int))(s29:J 29 e=AI AT ((0:Nat):Int)):
  (∃ e' g' ns q,A9 paB (call AC (n+1)) e g=.exit 0 e' g'/\hB.Ext g'/\g'.Row r10 0 (ns.map nv)/\rdN 6 l 0=some (ns,q)/\J 4 e'=pt r4/\J 8 e'=v/\J 10 e'=pt r10/\J 11 e'=AI AT (q:Int))\/
  (∃ e' g',A9 paB (call AC (n+1)) e g=.ret e' g'/\rdN 6 l 0=none/\Yy h r4 e' g'):=by
 have WB:=xB.wf;refine Bh (I:=fun i e' g'=>hB.Ext g'/\∃ (ns:List Nat) (Z:List IN) (p:Nat),ns.length=i/\Z.length=6 - i/\g'.Row r10 0 (ns.map nv++Z)/\J 4 e'=pt r4/\J 8 e'=v/\J 10 e'=pt r10/\J 11 e'=AI AT (p:Int)/\J 29 e'=AI AT (i:Int)/\p<=l.length/\i<=6/\
   rdN 6 l 0=(match rdN (6 - i) l p with|none=>none|some (vs,q)=>some (ns++vs,q)))
  (Q:=fun x=>(∃ e' g' ns q,x=.exit 0 e' g'/\hB.Ext g'/\g'.Row r10 0 (ns.map nv)/\rdN 6 l 0=some (ns,q)/\J 4 e'=pt r4/\J 8 e'=v/\J 10 e'=pt r10/\J 11 e'=AI AT (q:Int))\/
   (∃ e' g',x=.ret e' g'/\rdN 6 l 0=none/\Yy h r4 e' g')) 6 (by omega) (fun i e' g' ⟨x',ns,Z,p,hns,hZ,R',t4,t8,t10,t11,t29,hp,hi,hr⟩=>?_)
  ⟨x,[],_,0,rfl,rfl,R10,s4,s8,s10,s11,s29,zL _,by omega,by
   rw[AEK];cases rdN 6 l 0 with
   |none=>rfl
   |some y=>rfl⟩
 by_cases hlt:i<6
 ·have W:=x'.wf
  obtain⟨k,hk⟩:∃ k,6 - i=k+1:=⟨5 - i,by omega⟩;obtain⟨z,Z',rfl⟩:∃ z Z',Z=z::Z':=by
   cases Z with
   |nil=>rw[zS]at hZ;omega
   |cons z Z'=>exact⟨z,Z',rfl⟩
  rw[hk,RY k l p]at hr;have c1:iLt (i:Int) 6=true:=E9 (b:=6) hlt;obtain⟨a,b,c,k1,AMP⟩:=rP (n:=n) (V.ext WB x') hb hp (by omega);have i1:=Qf (r:=r10) hlt (g:=g');have hal:(ns.map nv).length=i:=by rw[OF];exact hns
  have ho:i+[zd .u64 a].length<=(ns.map nv++z::Z').length:=by
   simp only[No,yh,zS,hal];omega
  have AFs:256<=r10:=by have:=WB.big;omega
  have st:=R'.AFr (n:=1) (off:=i) W AFs (v:=.int .u64 a) rfl ho rfl;rw[Ch]at st;have wr:=R'.AFu W (off:=i) (vs:=[.int .u64 a]) ho;have x2:=R'.AGE x' ALG (off:=i) (vs:=[.int .u64 a]) ho;have hov:over (ns.map nv++z::Z') i [.int .u64 a]=ns.map nv++.int .u64 a::Z':=by
   have:=RM (A:=ns.map nv) (B:=Z') (x:=z) (y:=.int .u64 a)
   rwa [hal]at this
  rw[hov]at wr;generalize g'.wr r10 i [.int .u64 a]=g2 at st wr x2;have i2:=Qf (r:=r10) hlt (g:=g2);have l2:AFk ⟨r10,i,none⟩ g2=.ok (.int .u64 a) g2:=by
   rw[wr.AFk (off:=i) (by simp only[No,yh,hal];omega),yf,List.getElem?_append_right (by rw[hal];exact IT _),hal,AE9];rfl
  have a3:=Cc (i:=i) (h:=g2) (by omega);obtain⟨w1,w2,w3,_,_⟩:=Lh W0 (xB.trans x2) hr4 (R4.ext WB x2) rfl (a:=0) (b:=0) (c:=0) (s:=0) (u:=AFn) rfl;have fail:rdN 6 l 0=none->(iNe c 0=true\/iNe c 0=false/\iGt a 1099511627776=true)->∃ e2,paB (call AC (n+1)) e' g'=.ret e2 (g2.wr r4 0 (A8 0 0 0 0 AFn))/\J 4 e2=pt r4/\J 5 e2=AI AT 0/\J 6 e2=.int .u32 0/\J 7 e2=.bool false:=fun _ hc=>by
   unfold paB;rcases hc with c2|⟨c2,c3⟩
   ·simp only[sT,By,BY,reduceIte,gD,AK,AJ,t29,c1,cA0,t8,t11,k1,A7,BC,BE,Cx,DT,t10,i1,AX,st,c2,Ds,t4,w1]
    exact⟨_,rfl,by simp[AG,t4]⟩
   ·simp only[sT,By,BY,reduceIte,gD,AK,AJ,t29,c1,cA0,t8,t11,k1,A7,BC,BE,Cx,DT,t10,i1,AX,st,c2,i2,AM,AP,l2,c3,Ds,t4,w1]
    exact⟨_,rfl,by simp[AG,t4]⟩
  rcases AMP with ⟨vv,j,hu,rfl,rfl,rfl⟩|⟨hu,hc⟩
  ·rw[hu]at hr
   simp only at hr;have c2:iNe 0 0=false:=CH rfl;by_cases hv:vv<=1099511627776
   ·left
    rw[if_pos hv]at hr;have c3:iGt (vv:Int) 1099511627776=false:=Fa (by omega);have hbd:∀ x∈l.drop p,x<256:=fun x hx=>hb x (ABZ hx)
    have hj:=mY hbd hu;rw[zl]at hj;have hrun:∃ e2,paB (call AC (n+1)) e' g'=.norm e2 g2/\J 4 e2=pt r4/\J 8 e2=v/\J 10 e2=pt r10/\J 11 e2=AI AT ((p+j:Nat):Int)/\J 29 e2=AI AT ((i+1:Nat):Int):=by
     unfold paB;simp only[sT,By,BY,reduceIte,gD,AK,AJ,t29,c1,cA0,t8,t11,k1,A7,BC,BE,Cx,DT,t10,i1,AX,st,c2,i2,AM,AP,l2,c3,BM,a3];exact⟨_,rfl,by simp[AG,t4,t8,t10]⟩
    obtain⟨e2,q1,q2,q3,q4,q5,q6⟩:=hrun;refine⟨hlt,e2,g2,q1,x2,ns++[vv],Z',p+j,by rw[No,hns];rfl,by rw[yh]at hZ;omega,?_,q2,q3,q4,q5,q6,by omega,by omega,?_⟩
    ·rw[zb,zC];exact wr
    ·rw[hr,show 6 - (i+1)=k by omega]
     cases rdN k l (p+j)with
     |none=>rfl
     |some y=>
      obtain⟨vs,q⟩:=y;show some (ns++vv::vs,q)=some (ns++[vv]++vs,q);rw[zC];rfl
   ·right
    rw[if_neg hv]at hr;have hr:rdN 6 l 0=none:=hr;obtain⟨e2,q1,q2,q3,q4,q5⟩:=fail hr (.inr ⟨c2,GZ (by omega)⟩);rw[q1];exact⟨rfl,.inr ⟨e2,_,rfl,hr,w3,q2,q3,q4,q5,w2⟩⟩
  ·right
   rw[hu]at hr;have hr:rdN 6 l 0=none:=hr;obtain⟨e2,q1,q2,q3,q4,q5⟩:=fail hr (.inl (F8 hc));rw[q1];exact⟨rfl,.inr ⟨e2,_,rfl,hr,w3,q2,q3,q4,q5,w2⟩⟩
 ·right
  have hi6:i=6:=by omega
  subst hi6;have c1:iLt ((6:Nat):Int) 6=false:=DJ (a:=6) (b:=6) (by omega);have hrun:∃ e2,paB (call AC (n+1)) e' g'=.exit 0 e2 g'/\J 4 e2=pt r4/\J 8 e2=v/\J 10 e2=pt r10/\J 11 e2=AI AT (p:Int):=by
   unfold paB;simp only[sT,By,BY,reduceIte,AK,AJ,t29,c1];exact⟨_,rfl,by simp[AG,t4,t8,t10,t11]⟩
  obtain⟨e2,q1,q2,q3,q4,q5⟩:=hrun;rw[q1];have hZ0:Z=[]:=zc hZ;rw[hZ0,yw]at R';have hr:rdN 6 l 0=some (ns++[],p):=hr;rw[yw]at hr;exact⟨rfl,.inl ⟨e2,g',ns,p,rfl,x',R',hr,q2,q3,q4,q5⟩⟩
theorem ZM{F:AFi}{e:Env}{h:Hp}{x y z:O}{k:C}{a b c i j m:Nat}(hx:x e=.pointer (some ⟨a,i,none⟩))(hy:y e=.pointer (some ⟨b,j,none⟩))(hz:z e=.pointer (some ⟨c,m,none⟩))(h1:b≠a)(h2:c≠a):Cn x [y,z] k F e h=k F e h:=by
 have n1:yu b a=false:=by
  cases e:yu b a
  ·rfl
  ·exact absurd (Ay.1 e) h1
 have n2:yu c a=false:=by
  cases e:yu c a
  ·rfl
  ·exact absurd (Ay.1 e) h2
 unfold Cn;rw[hx];show(bif DE a e [y,z]then k F e h else .no)=_;have:DE a e [y,z]=true:=by
  unfold DE;rw[hy];show(bif yu b a then false else DE a e [z])=true;rw[n1];unfold DE;rw[hz];show(bif yu c a then false else DE a e [])=true;rw[n2];rfl
 rw[this];rfl
theorem jP{F:AFi}{e:Env}{h:Hp}(W:h.Wf){x y:O}{r:Nat}{L:List IN}{a b c:Int}{s:Nat}{u:IN}(hx:x e=pt r)(hy:y e=Bu a b c s u)(R:h.Row r 0 L)(hL:L.length=5)(AFs:256<=r)(hu:oneCell u=true):
  Jr x (Ac 5 x y) F e h=.ok AFl (h.back (h.quiet.wr r 0 (A8 a b c s u))):=by
 have Rq:h.quiet.Row r 0 L:=R.same rfl;have ho:0+(A8 a b c s u).length<=L.length:=by rw[hL];show 0+5<=5;omega
 have h1:Bc (A8 a b c s u)=true:=by
  show(bif oneCell u then true else false)=true;rw[hu];rfl
 have st:=Rq.AFr (n:=5) (off:=0) W.quiet AFs (v:=Bu a b c s u) rfl ho h1;have st:AFr 5 (pt r) (Bu a b c s u) h.quiet=.ok AFl (h.quiet.wr r 0 (A8 a b c s u)):=st;obtain⟨cc,_,hw,_⟩:=Rq.AGt ho;have AIQ:(h.quiet.wr r 0 (A8 a b c s u)).low=r:=by
  rw[hw];show B9 h.next r=r;have:=R.lt W;rw[BZ];omega
 have AHW:(h.quiet.wr r 0 (A8 a b c s u)).high=r:=by
  rw[hw];show Cy 0 r=r;rw[B7];omega
 show(match Ac 5 x y F e h.quiet with|.ok v h'=>bif Io (AGG (x e)) h h'.low h'.high then Dg h v h' else .no|.no=>.no)=_;rw[AX,hx,hy,st];show(bif Io (.ok r) h (h.quiet.wr r 0 (A8 a b c s u)).low (h.quiet.wr r 0 (A8 a b c s u)).high then Dg h AFl (h.quiet.wr r 0 (A8 a b c s u))else .no)=_;rw[AIQ,AHW];have:Io (.ok r) h r r=true:=by
  show(bif yl r r then yl r r else false)=true;rw[Av.2 (IT r)];rfl
 rw[this];show Dg h AFl (h.quiet.wr r 0 (A8 a b c s u))=_;unfold Dg;simp only[Ao];rfl
end
noncomputable section
open Go
set_option maxRecDepth 100000
def Ok4(h:Hp)(r4:Nat)(ns:List Nat)(e:Env)(g:Hp):Prop:=h.Ext g/\J 4 e=pt r4/\J 5 e=AI AT (at6 ns 4:Nat)/\J 6 e=.int .u32 (at6 ns 5:Nat)/\J 7 e=.bool true/\loadN 5 ⟨r4,0,none⟩ g=.ok (Bu (at6 ns 1) (at6 ns 2) (at6 ns 3) (at6 ns 0) AFn) g
theorem Ly{h g:Hp}{r4:Nat}{e:Env}(D:Yy h r4 e g):A4 [.cN (J 4) 5,.t (J 5),.t (J 6),.t (J 7)] (.ret e g)=.ok noT g:=by
 obtain⟨_,h4,h5,h6,h7,hl⟩:=D;rw[BI,Kl (v:=Bu 0 0 0 0 AFn) (by rw[h4];exact hl),h5,h6,h7];rfl
theorem sd{h g:Hp}{r4:Nat}{ns:List Nat}{e:Env}(D:Ok4 h r4 ns e g):A4 [.cN (J 4) 5,.t (J 5),.t (J 6),.t (J 7)] (.ret e g)=.ok (okT ns) g:=by
 obtain⟨_,h4,h5,h6,h7,hl⟩:=D;rw[BI,Kl (v:=Bu (at6 ns 1) (at6 ns 2) (at6 ns 3) (at6 ns 0) AFn) (by rw[h4];exact hl),h5,h6,h7];rfl
theorem xU{n:Nat}{h hB g:Hp}(W0:h.Wf)(xB:h.Ext hB)(x:hB.Ext g){r4 r10 k q:Nat}(hr4:h.next<=r4)(AIi:r10≠r4)(R4:hB.Row r4 0 (A8 0 0 0 0 AFn)){v:IN}{l ns:List Nat}(M:Mk hB k v l)(hl:l.length<=900000)(hq:q<=l.length)
  (R10:g.Row r10 0 (ns.map nv))(h6:ns.length=6)(hns:∀ v∈ns,v<=1099511627776){e:Env}(s4:J 4 e=pt r4)(s8:J 8 e=v)(s10:J 10 e=pt r10)(s11:J 11 e=AI AT (q:Int)):
  (PP ns/\(∀ x∈l.drop q,x=0)/\∃ e2 g2,paE (call AC (n+3)) e g=.ret e2 g2/\Ok4 h r4 ns e2 g2)\/(¬ (PP ns/\∀ x∈l.drop q,x=0)/\∃ e2 g2,paE (call AC (n+3)) e g=.ret e2 g2/\Yy h r4 e2 g2):=by
 have W:=x.wf;have WB:=xB.wf;have hat:∀ i,at6 ns i<=1099511627776:=fun i=>by
  unfold at6;rw[yf];cases h:ns[i]? with
  |none=>exact zL _
  |some y=>exact hns y (yz h)
 have i0:∀ g:Hp,NY 6 1 (pt r10) (AI AT 0) g=.ok (.pointer (some ⟨r10,0,none⟩)) g:=fun g=>Qf (k:=0) (by omega)
 have i1:∀ g:Hp,NY 6 1 (pt r10) (AI AT 1) g=.ok (.pointer (some ⟨r10,1,none⟩)) g:=fun g=>Qf (k:=1) (by omega)
 have i2:∀ g:Hp,NY 6 1 (pt r10) (AI AT 2) g=.ok (.pointer (some ⟨r10,2,none⟩)) g:=fun g=>Qf (k:=2) (by omega)
 have i3:∀ g:Hp,NY 6 1 (pt r10) (AI AT 3) g=.ok (.pointer (some ⟨r10,3,none⟩)) g:=fun g=>Qf (k:=3) (by omega)
 have i4:∀ g:Hp,NY 6 1 (pt r10) (AI AT 4) g=.ok (.pointer (some ⟨r10,4,none⟩)) g:=fun g=>Qf (k:=4) (by omega)
 have i5:∀ g:Hp,NY 6 1 (pt r10) (AI AT 5) g=.ok (.pointer (some ⟨r10,5,none⟩)) g:=fun g=>Qf (k:=5) (by omega)
 have l0:=Q6 R10 h6 (k:=0) (by omega);have l1:=Q6 R10 h6 (k:=1) (by omega);have l2:=Q6 R10 h6 (k:=2) (by omega);have l3:=Q6 R10 h6 (k:=3) (by omega);have a0:=hat 0;have a1:=hat 1;have a2:=hat 2;have a3:=hat 3;have a4:=hat 4;have a5:=hat 5;have hcast:min ((at6 ns 0:Nat):Int) 9=((min (at6 ns 0) 9:Nat):Int):=by omega
 have mn:∀ (F:AFi) (e:Env),J 52 e=.int .u64 ((at6 ns 0:Nat):Int)->YR (J 52) (kV (.int .u64 9)) F e g=.ok (.int .u64 ((min (at6 ns 0) 9:Nat):Int)) g:=fun F e he=>by rw[sL he rfl,hcast]
 have v0:Di .u8 (.int .u64 ((min (at6 ns 0) 9:Nat):Int)) g=.ok (.int .u8 ((min (at6 ns 0) 9:Nat):Int)) g:=by rw[Cw,IY,ABe (by omega)]
 have cv:∀ (i:Nat) (g:Hp),Di .i64 (.int .u64 ((at6 ns i:Nat):Int)) g=.ok (AI AT ((at6 ns i:Nat):Int)) g:=fun i g=>by rw[Cw,Bf (by have:=hat i;omega)]
 have bd:∀ (F:AFi) (e:Env),J 54 e=.int .u8 ((min (at6 ns 0) 9:Nat):Int)->J 57 e=AI AT ((at6 ns 1:Nat):Int)->J 60 e=AI AT ((at6 ns 2:Nat):Int)->J 63 e=AI AT ((at6 ns 3:Nat):Int)->
   BK Ia.zero [(3,1,J 54),(0,1,J 57),(1,1,J 60),(2,1,J 63)] F e g=.ok (Bu (at6 ns 1) (at6 ns 2) (at6 ns 3) (min (at6 ns 0) 9) AFn) g:=fun F e h1 h2 h3 h4=>ed h1 h2 h3 h4
 have f1:=fun (F:AFi) (e:Env)=>BW (F:=F) (e:=e) (n:=5) (t:=DP) W
 have x1:=(Hp.Ext.refl W).push (.cells DP 5 0);have R13:(g.push (.cells DP 5 0)).Row g.next 0 (A8 0 0 0 0 AFn):=Hp.Row.alloc W FQ rfl;generalize g.push (.cells DP 5 0)=g1 at f1 x1 R13;obtain⟨st,ld,x2,AKO,_⟩:=Lh W x1 (IT _) R13 rfl (a:=at6 ns 1) (b:=at6 ns 2) (c:=at6 ns 3) (s:=min (at6 ns 0) 9) (u:=AFn) rfl;generalize g1.wr g.next 0 (A8 (at6 ns 1) (at6 ns 2) (at6 ns 3) (min (at6 ns 0) 9) AFn)=g2 at st ld x2 AKO;have k24:=Jz (n:=n+2) x2.wf (a:=at6 ns 1) (b:=at6 ns 2) (c:=at6 ns 3) (s:=min (at6 ns 0) 9) (m:=0) (u:=AFn) (fun _=>rfl);have y3:=(Hp.Ext.refl x2.wf).AFh 0 (A8 (at6 ns 1) (at6 ns 2) (at6 ns 3) (min (at6 ns 0) 9) AFn);generalize g2.AFh 0 (A8 (at6 ns 1) (at6 ns 2) (at6 ns 3) (min (at6 ns 0) 9) AFn)=g3 at k24 y3;have x3:=x2.trans y3;have xB3:=x.trans x3;have xh3:=xB.trans xB3;obtain⟨w1,w2,w3,_,_⟩:=Lh W0 xh3 hr4 (R4.ext WB xB3) rfl (a:=0) (b:=0) (c:=0) (s:=0) (u:=AFn) rfl;have AIj:=R10.ext W x3;have l4:=Q6 AIj h6 (k:=4) (by omega);have l5:=Q6 AIj h6 (k:=5) (by omega);have nok:¬ (PP ns/\∀ x∈l.drop q,x=0)->(∃ e2,paE (call AC (n+3)) e g=.ret e2 (g3.wr r4 0 (A8 0 0 0 0 AFn))/\J 4 e2=pt r4/\J 5 e2=AI AT 0/\J 6 e2=.int .u32 0/\J 7 e2=.bool false)->
   (PP ns/\(∀ x∈l.drop q,x=0)/\∃ e2 g2,paE (call AC (n+3)) e g=.ret e2 g2/\Ok4 h r4 ns e2 g2)\/(¬ (PP ns/\∀ x∈l.drop q,x=0)/\∃ e2 g2,paE (call AC (n+3)) e g=.ret e2 g2/\Yy h r4 e2 g2):=fun hn ⟨e2,q1,q2,q3,q4,q5⟩=>.inr ⟨hn,e2,_,q1,w3,q2,q3,q4,q5,w2⟩
 cases hr:AFx (at6 ns 1) (at6 ns 2) (at6 ns 3) (min (at6 ns 0) 9) 0 with
 |false=>
  rw[hr]at k24;refine nok (fun hh=>by rw[hh.1.1]at hr;cases hr) ?_;unfold paE;simp only[sT,By,BY,reduceIte,gD,DT,s10,i0,i1,i2,i3,AM,AP,l0,l1,l2,l3,mn,CX,v0,cv,bd,f1,AX,st,Au,Am,ld,cA0,k24,Be,Bd,zg,Ds,s4,w1];exact⟨_,rfl,by simp[AG,s4]⟩
 |true=>
  rw[hr]at k24;by_cases h4:at6 ns 4<=65536
  ·have c4:iGt ((at6 ns 4:Nat):Int) 65536=false:=Fa (by omega)
   by_cases h5:at6 ns 5<=4294967295
   ·have c5:iGt ((at6 ns 5:Nat):Int) 4294967295=false:=Fa (by omega)
    have M3:=M.ext WB xB3;obtain⟨w,ct,Vw⟩:=QF M3 hq;obtain⟨rb,kb,hrb⟩:=XW (n:=n) Vw (by rw[zl];omega);have kb:call AC (n+3) 110 [w,.func (.func 135) #[] #[]] g3=.ok (.bool rb) g3:=kb;cases rb with
    |true=>
     obtain⟨y,hy1,hy2⟩:=hrb.1 rfl;refine nok (fun hh=>hy2 (hh.2 y hy1)) ?_;unfold paE;simp only[sT,By,BY,reduceIte,gD,DT,s10,i0,i1,i2,i3,i4,i5,AM,AP,l0,l1,l2,l3,l4,l5,mn,CX,v0,cv,bd,f1,AX,st,Au,Am,ld,cA0,k24,Be,Bd,ze,AK,AJ,c4,c5,s8,s11,ct,kb,Ds,s4,w1];exact⟨_,rfl,by simp[AG,s4]⟩
    |false=>
     have hz:∀ x∈l.drop q,x=0:=fun y hy=>by
      rcases za y with h0|h0
      ·exact h0
      ·have:=hrb.2 ⟨y,hy,by omega⟩;cases this
     have hok:PP ns:=⟨hr,h4,h5⟩;have hmin:min (at6 ns 0) 9=at6 ns 0:=ACd (zO (jr.1 hok).1 (by decide));left;refine⟨hok,hz,?_⟩;have xm:=x3.marked;have AKP:g3.marked.Row r10 0 (ns.map nv):=AIj.same rfl;have m4:=Q6 AKP h6 (k:=4) (by omega);have m5:=Q6 AKP h6 (k:=5) (by omega);have ALH:g3.marked.Row g.next 0 (A8 (at6 ns 1) (at6 ns 2) (at6 ns 3) (min (at6 ns 0) 9) AFn):=(AKO.ext x2.wf y3).same rfl;have mld:=(Bz ALH).2.2.2.2.2;have v5:Di .u32 (.int .u64 ((at6 ns 5:Nat):Int)) g3.marked=.ok (.int .u32 ((at6 ns 5:Nat):Int)) g3.marked:=by rw[Cw,SX h5]
     have ck:∀ (k:C) (F:AFi) (e:Env),J 4 e=pt r4->J 87 e=.pointer (some ⟨r10,4,none⟩)->J 90 e=.pointer (some ⟨r10,5,none⟩)->Cn (J 4) [J 87,J 90] k F e g3.marked=k F e g3.marked:=fun k F e e1 e2 e3=>ZM e1 e2 e3 AIi AIi
     have AFs:256<=r4:=by have:=W0.big;omega
     have R4m:g3.marked.Row r4 0 (A8 0 0 0 0 AFn):=(R4.ext WB xB3).same rfl;have ta:∀ (F:AFi) (e:Env),J 4 e=pt r4->J 86 e=Bu (at6 ns 1) (at6 ns 2) (at6 ns 3) (min (at6 ns 0) 9) AFn->Jr (J 4) (Ac 5 (J 4) (J 86)) F e g3.marked=.ok AFl (g3.marked.back (g3.marked.quiet.wr r4 0 (A8 (at6 ns 1) (at6 ns 2) (at6 ns 3) (min (at6 ns 0) 9) AFn))):=fun F e e1 e2=>jP xm.wf e1 e2 R4m rfl AFs rfl
     have xhm:=xh3.marked;obtain⟨_,z2,z3,z4,_⟩:=Lh W0 xhm.quiet hr4 (R4m.same (h':=g3.marked.quiet) rfl) rfl (a:=at6 ns 1) (b:=at6 ns 2) (c:=at6 ns 3) (s:=min (at6 ns 0) 9) (u:=AFn) rfl;have xf:h.Ext (g3.marked.back (g3.marked.quiet.wr r4 0 (A8 (at6 ns 1) (at6 ns 2) (at6 ns 3) (min (at6 ns 0) 9) AFn))):=Hp.Ext.AGo xhm z3;have Rf:(g3.marked.back (g3.marked.quiet.wr r4 0 (A8 (at6 ns 1) (at6 ns 2) (at6 ns 3) (min (at6 ns 0) 9) AFn))).Row r4 0 (A8 (at6 ns 1) (at6 ns 2) (at6 ns 3) (min (at6 ns 0) 9) AFn):=z4.same rfl;generalize g3.marked.back (g3.marked.quiet.wr r4 0 (A8 (at6 ns 1) (at6 ns 2) (at6 ns 3) (min (at6 ns 0) 9) AFn))=g4 at ta xf Rf;have ldf:=(Bz Rf).2.2.2.2.2;rw[hmin]at ldf;have hrun:∃ e2,paE (call AC (n+3)) e g=.ret e2 g4/\J 4 e2=pt r4/\J 5 e2=AI AT (at6 ns 4:Nat)/\J 6 e2=.int .u32 (at6 ns 5:Nat)/\J 7 e2=.bool true:=by
      unfold paE;simp only[sT,By,BY,reduceIte,gD,DT,s10,i0,i1,i2,i3,i4,i5,AM,AP,l0,l1,l2,l3,l4,l5,mn,CX,v0,cv,bd,f1,AX,st,Au,Am,ld,cA0,k24,Be,Bd,ze,AK,AJ,c4,c5,s8,s11,ct,kb,A1,mld,m4,m5,v5,s4,ck,ta];exact⟨_,rfl,by simp[AG,s4]⟩
     obtain⟨e2,q1,q2,q3,q4,q5⟩:=hrun;exact⟨e2,g4,q1,xf,q2,q3,q4,q5,ldf⟩
   ·have c5:iGt ((at6 ns 5:Nat):Int) 4294967295=true:=GZ (by omega)
    refine nok (fun hh=>h5 hh.1.2.2) ?_;unfold paE;simp only[sT,By,BY,reduceIte,gD,DT,s10,i0,i1,i2,i3,i4,i5,AM,AP,l0,l1,l2,l3,l4,l5,mn,CX,v0,cv,bd,f1,AX,st,Au,Am,ld,cA0,k24,Be,Bd,ze,AK,AJ,c4,c5,Ds,s4,w1];exact⟨_,rfl,by simp[AG,s4]⟩
  ·have c4:iGt ((at6 ns 4:Nat):Int) 65536=true:=GZ (by omega)
   refine nok (fun hh=>h4 hh.1.2.1) ?_;unfold paE;simp only[sT,By,BY,reduceIte,gD,DT,s10,i0,i1,i2,i3,i4,i5,AM,AP,l0,l1,l2,l3,l4,mn,CX,v0,cv,bd,f1,AX,st,Au,Am,ld,cA0,k24,Be,Bd,ze,AK,AJ,c4,Ds,s4,w1];exact⟨_,rfl,by simp[AG,s4]⟩
theorem cB{n:Nat}{h:Hp}(W:h.Wf){tb:Nat}{T:List Nat}(R:h.Row tb 0 (T.map wv))(hT:AGc T){u:IN}{l:List Nat}(V:h.AF5 u (l.map bv))(hC:Yu u)(hb:∀ x∈l,x<256)(hl:l.length<=900000):
  ∃ h',h.Ext h'/\((∃ ns,LY T l ns/\call AC (n+4) 112 [pt tb,u] h=.ok (okT ns) h')\/((¬ ∃ ns,LY T l ns)/\call AC (n+4) 112 [pt tb,u] h=.ok noT h')):=by
 have f1:=fun (F:AFi) (e:Env)=>BW (F:=F) (e:=e) (n:=5) (t:=DP) W
 have x1:=(Hp.Ext.refl W).push (.cells DP 5 0);have R4:(h.push (.cells DP 5 0)).Row h.next 0 (A8 0 0 0 0 AFn):=Hp.Row.alloc W FQ rfl;have nA:(h.push (.cells DP 5 0)).next=h.next+1:=rfl;generalize h.push (.cells DP 5 0)=hA at f1 x1 R4 nA;obtain⟨hB,yB,U⟩:=Yr (n:=n) x1.wf (R.ext W x1) hT (V.ext W x1) hC hb hl;have xB:=x1.trans yB;have R4B:=R4.ext x1.wf yB;obtain⟨w1,w2,w3,_,_⟩:=Lh W xB (IT _) R4B rfl (a:=0) (b:=0) (c:=0) (s:=0) (u:=AFn) rfl;rcases U with ⟨body,v,hu,k1,M⟩|⟨hu,c,hc,k1⟩
 ·have c2:iNe 0 0=false:=CH rfl
  have Vl:=M.vals.bl hB;by_cases h60:body.length=60
  ·have c3:iNe (body.length:Int) 60=false:=CH (by omega)
   have f2:=fun (F:AFi) (e:Env)=>BW (F:=F) (e:=e) (n:=6) (t:=Of) xB.wf
   have y2:=(Hp.Ext.refl xB.wf).push (.cells Of 6 0);have R10:(hB.push (.cells Of 6 0)).Row hB.next 0 ([0,0,0,0,0,0].map nv):=Hp.Row.alloc xB.wf dS rfl;generalize hB.push (.cells Of 6 0)=hC' at f2 y2 R10;have pre:∃ e1,LJ (call AC (n+3)) (AS e0 0 [pt tb,u]) h=paS (call AC (n+3)) e1 hC'/\J 4 e1=pt h.next/\J 8 e1=v/\J 10 e1=pt hB.next/\J 11 e1=AI AT ((0:Nat):Int)/\J 29 e1=AI AT ((0:Nat):Int):=by
    unfold LJ;simp only[iN,IS,sT,By,BY,reduceIte,gD,f1,cA0,k1,A7,BC,BE,AK,AJ,c2,Ah,Vl,c3,f2];exact⟨_,rfl,by simp[AG]⟩
   obtain⟨e1,p1,p2,p3,p4,p5,p6⟩:=pre;obtain⟨hsl,hbt⟩:=KE hu;have hbb:∀ x∈body,x<256:=fun x hx=>hb x (by rw[hbt]at hx;exact AAN hx)
   rcases j6 (n:=n+2) W xB y2 (IT h.next) (IT _) R4B M.vals hbb (by omega) R10 p2 p3 p4 p5 p6 with ⟨e2,g,ns,q,q1,x2,AIj,hrd,t4,t8,t10,t11⟩|⟨e2,g,q1,hrd,D⟩
   ·obtain⟨g1,g2,g3,g4,g5⟩:=Lw 6 body 0 ns q hbb (zL _) hrd
    have hn2:hB.next≠h.next:=by have:=yB.next;omega
    rcases xU (n:=n) W xB x2 (IT _) hn2 R4B M (by omega) g4 AIj g1 g5 t4 t8 t10 t11 with ⟨ho,hz,e3,g',r1,D⟩|⟨hno,e3,g',r1,D⟩
    ·refine⟨g',D.1,.inl ⟨ns,⟨body,q,hu,h60,hrd,ho,hz⟩,?_⟩⟩
     rw[JM rfl,JQ,p1,Ta];simp only[BJ,Az,q1,BD,BA,r1];exact sd D
    ·refine⟨g',D.1,.inr ⟨?_,?_⟩⟩
     ·rintro⟨ms,body',q',j1,j2,j3,j4,j5⟩
      rw[hu]at j1;cases j1;rw[hrd]at j3;cases j3;exact hno ⟨j4,j5⟩
     ·rw[JM rfl,JQ,p1,Ta]
      simp only[BJ,Az,q1,BD,BA,r1];exact Ly D
   ·refine⟨g,D.1,.inr ⟨?_,?_⟩⟩
    ·rintro⟨ms,body',q',j1,j2,j3,j4,j5⟩
     rw[hu]at j1;cases j1;rw[hrd]at j3;cases j3
    ·rw[JM rfl,JQ,p1,Ta]
     simp only[BJ,Az,q1,CQ,DC];exact Ly D
  ·have c3:iNe (body.length:Int) 60=true:=F8 (by omega)
   have hrun:∃ e2,LJ (call AC (n+3)) (AS e0 0 [pt tb,u]) h=.ret e2 (hB.wr h.next 0 (A8 0 0 0 0 AFn))/\J 4 e2=pt h.next/\J 5 e2=AI AT 0/\J 6 e2=.int .u32 0/\J 7 e2=.bool false:=by
    unfold LJ;simp only[iN,IS,sT,By,BY,reduceIte,gD,f1,cA0,k1,A7,BC,BE,AK,AJ,c2,Ah,Vl,c3,Ds,AX,w1];exact⟨_,rfl,by simp[AG]⟩
   obtain⟨e2,q1,q2,q3,q4,q5⟩:=hrun;refine⟨_,w3,.inr ⟨?_,?_⟩⟩
   ·rintro⟨ms,body',q',j1,j2,_⟩
    rw[hu]at j1;cases j1;exact h60 j2
   ·rw[JM rfl,JQ,q1]
    exact Ly (h:=h) ⟨w3,q2,q3,q4,q5,w2⟩
 ·have c2:iNe c 0=true:=F8 hc
  have hrun:∃ e2,LJ (call AC (n+3)) (AS e0 0 [pt tb,u]) h=.ret e2 (hB.wr h.next 0 (A8 0 0 0 0 AFn))/\J 4 e2=pt h.next/\J 5 e2=AI AT 0/\J 6 e2=.int .u32 0/\J 7 e2=.bool false:=by
   unfold LJ;simp only[iN,IS,sT,By,BY,reduceIte,gD,f1,cA0,k1,A7,BC,BE,AK,AJ,c2,Ds,AX,w1];exact⟨_,rfl,by simp[AG]⟩
  obtain⟨e2,q1,q2,q3,q4,q5⟩:=hrun;refine⟨_,w3,.inr ⟨?_,?_⟩⟩
  ·rintro⟨ms,body',q',j1,_⟩
   rw[hu]at j1;cases j1
  ·rw[JM rfl,JQ,q1]
   exact Ly (h:=h) ⟨w3,q2,q3,q4,q5,w2⟩
end
noncomputable section
open Go
set_option maxRecDepth 100000
structure Fx (S:Nat->Prop)(h h':Hp):Prop where
 next:h.next<=h'.next
 get:∀ i,i<h.next->¬ S i->h'.bl.get i=h.bl.get i
 wf:h'.Wf
 low:∀ L,L<=h.low->L<=h.next->(∀ b,S b->L<=b)->L<=h'.low
theorem Pz{h g:Hp}:(h.back g).low=min h.low g.low:=BZ _ _
section
variable {S T:Nat->Prop}{h h' h1 h2:Hp}
theorem Fx.refl(W:h.Wf):Fx S h h:=⟨IT _,fun _ _ _=>rfl,W,fun _ h1 _ _=>h1⟩
theorem Fx.of(x:h.Ext h'):Fx S h h':=⟨x.next,fun i hi _=>x.get i hi,x.wf,fun L h1 h2 _=>by have:=x.low;omega⟩
theorem Fx.trans(a:Fx S h h1)(b:Fx S h1 h2):Fx S h h2:=⟨zO a.next b.next,fun i hi hs=>by rw[b.get i (Nat.lt_of_lt_of_le hi a.next) hs,a.get i hi hs],b.wf,fun L h1 h2 h3=>b.low L (a.low L h1 h2 h3) (zO h2 a.next) h3⟩
theorem Fx.mono(a:Fx S h h')(hs:∀ i,S i->T i):Fx T h h':=⟨a.next,fun i hi ht=>a.get i hi fun s=>ht (hs i s),a.wf,fun L h1 h2 h3=>a.low L h1 h2 fun b hb=>h3 b (hs b hb)⟩
theorem kr(W:h.Wf)(hb:h'.bl=h.bl)(hn:h'.next=h.next):h'.Wf:=⟨by rw[hn];exact W.big,by rw[hn,hb];exact W.has,by rw[hn,hb];exact W.fresh⟩
theorem Fx.same(a:Fx S h h1)(hb:h2.bl=h1.bl)(hn:h2.next=h1.next)(hl:min h.low h1.low<=h2.low:=by first|exact Nat.le_of_eq Pz.symm|exact Nat.min_le_right _ _):Fx S h h2:=⟨by rw[hn];exact a.next,fun i hi hs=>by rw[hb];exact a.get i hi hs,kr a.wf hb hn,fun L q1 q2 q3=>by have:=a.low L q1 q2 q3;omega⟩
theorem Fx.from(a:Fx S h1 h')(hb:h1.bl=h.bl)(hn:h1.next=h.next)(hl:min h.low h.next<=h1.low:=by first|exact Nat.min_le_left _ _|exact Nat.min_le_right _ _):Fx S h h':=⟨by rw[<- hn];exact a.next,fun i hi hs=>by rw[<- hb];exact a.get i (by rw[hn];exact hi) hs,a.wf,fun L q1 q2 q3=>a.low L (by omega) (by omega) q3⟩
theorem Fx.back(x:Fx S h.quiet h'):Fx S h (h.back h'):=⟨x.next,x.get,⟨x.wf.big,x.wf.has,x.wf.fresh⟩,fun L h1 h2 h3=>by
 have h2':L<=h.quiet.next:=h2;have:=x.low L h2 h2' h3;rw[Pz];omega⟩
theorem Fx.row(x:Fx S h h')(W:h.Wf){b el:Nat}{l:List IN}(r:h.Row b el l)(hb:¬ S b):h'.Row b el l:=by
 have:=r.lt W;obtain⟨c,hc,hl⟩:=r;exact⟨c,(x.get b this hb).trans hc,hl⟩
theorem Fx.put(W:h.Wf){b:Nat}(hb:b<h.next)(hs:S b)(o:Blk):Fx S h (h.put b o):=⟨IT _,fun i hi hn=>by
 rw[W.AGF hb];exact if_neg fun e=>hn (by rw[e];exact hs),W.put hb o,fun L h1 _ h3=>by
 have:=h3 b hs;have e:(h.put b o).low=min h.low b:=BZ _ _;omega⟩
theorem Fx.wr(W:h.Wf){b el off:Nat}{l vs:List IN}(r:h.Row b el l)(ho:off+vs.length<=l.length)(hs:S b):Fx S h (h.wr b off vs):=by
 obtain⟨c,_,e,_⟩:=r.AGt ho;rw[e];exact Fx.put W (r.lt W) hs _
theorem te{b el off bc:Nat}{l vs:List IN}{es:List Ent}{k:Nat}(W:h.Wf)(r:h.Row b el l)(ho:off+vs.length<=l.length)(m:h.bl.get bc=.map es k):(h.wr b off vs).bl.get bc=.map es k:=by
 obtain⟨c,_,e,_⟩:=r.AGt ho;rw[e,W.AGF (r.lt W),if_neg]
 ·exact m
 ·rintro rfl
  obtain⟨c,hc,_⟩:=r;rw[m]at hc;cases hc
end
def Hp.VS(h:Hp)(S:Nat->Prop)(v:IN)(xs:List IN):Prop:=(v=AFn/\xs=[])\/∃ b off c el L,v=.slice (some ⟨b,off,none⟩) xs.length c/\xs.length<=c/\h.Row b el L/\off+xs.length<=L.length/\(L.drop off).take xs.length=xs/\S b
section
variable {h h':Hp}{S S':Nat->Prop}{v:IN}{xs:List IN}
theorem Hp.VS.vals(o:h.VS S v xs):h.AF5 v xs:=by
 rcases o with h1|⟨b,off,c,el,L,h1,h2,h3,h4,h5,_⟩
 ·exact .inl h1
 ·exact .inr ⟨b,off,c,el,L,h1,h3,h4,h5⟩
theorem Hp.VS.keep(o:h.VS S v xs)(hk:∀ b el L,S b->h.Row b el L->h'.Row b el L):h'.VS S v xs:=by
 rcases o with h1|⟨b,off,c,el,L,h1,h2,h3,h4,h5,h6⟩
 ·exact .inl h1
 ·exact .inr ⟨b,off,c,el,L,h1,h2,hk _ _ _ h6 h3,h4,h5,h6⟩
theorem Hp.VS.same(o:h.VS S v xs)(hb:h'.bl=h.bl):h'.VS S v xs:=o.keep fun _ _ _ _ r=>r.same hb
theorem Hp.VS.mono(o:h.VS S v xs)(hs:∀ b,S b->S' b):h.VS S' v xs:=by
 rcases o with h1|⟨b,off,c,el,L,h1,h2,h3,h4,h5,h6⟩
 ·exact .inl h1
 ·exact .inr ⟨b,off,c,el,L,h1,h2,h3,h4,h5,hs _ h6⟩
theorem Hp.VS.one(o:h.VS S v xs):cellsOf v=[v]/\oneCell v=true/\known v=true:=by
 rcases o with ⟨rfl,_⟩|⟨b,off,c,el,L,rfl,_⟩<;>exact⟨rfl,rfl,rfl⟩
theorem Hp.VS.fx(o:h.VS S v xs)(W:h.Wf){T:Nat->Prop}(x:Fx T h h')(hs:∀ b,S b->¬ T b):h'.VS S v xs:=o.keep fun b _ _ hb r=>x.row W r (hs b hb)
theorem PR{l:List IN}(h:∀ x∈l,oneCell x=true):Bc l=true:=by
 induction l with
 |nil=>rfl
 |cons a l ih=>
  show(bif oneCell a then Bc l else false)=true;rw[h a List.mem_cons_self,ih fun x hx=>h x (List.mem_cons_of_mem _ hx)];rfl
end
def Hp.BS(h:Hp)(S:Nat->Prop)(v:IN)(xs:List IN):Prop:=(v=AFn/\xs=[])\/∃ b off c el L,v=.slice (some ⟨b,off,none⟩) xs.length c/\xs.length<=c/\h.Row b el L/\off+xs.length<=L.length/\(L.drop off).take xs.length=xs/\S b/\(el=0\/el=6)
section
variable {h h':Hp}{S S':Nat->Prop}{v:IN}{xs:List IN}
theorem Hp.BS.vs(o:h.BS S v xs):h.VS S v xs:=by
 rcases o with h1|⟨b,off,c,el,L,h1,h2,h3,h4,h5,h6,_⟩
 ·exact .inl h1
 ·exact .inr ⟨b,off,c,el,L,h1,h2,h3,h4,h5,h6⟩
theorem Hp.BS.keep(o:h.BS S v xs)(hk:∀ b el L,S b->(el=0\/el=6)->h.Row b el L->h'.Row b el L):h'.BS S v xs:=by
 rcases o with h1|⟨b,off,c,el,L,h1,h2,h3,h4,h5,h6,h7⟩
 ·exact .inl h1
 ·exact .inr ⟨b,off,c,el,L,h1,h2,hk _ _ _ h6 h7 h3,h4,h5,h6,h7⟩
theorem Hp.BS.ext(o:h.BS S v xs)(W:h.Wf)(x:h.Ext h'):h'.BS S v xs:=o.keep fun _ _ _ _ _ r=>r.ext W x
theorem Hp.BS.same(o:h.BS S v xs)(hb:h'.bl=h.bl):h'.BS S v xs:=o.keep fun _ _ _ _ _ r=>r.same hb
theorem Hp.BS.mono(o:h.BS S v xs)(hs:∀ b,S b->S' b):h.BS S' v xs:=by
 rcases o with h1|⟨b,off,c,el,L,h1,h2,h3,h4,h5,h6,h7⟩
 ·exact .inl h1
 ·exact .inr ⟨b,off,c,el,L,h1,h2,h3,h4,h5,hs _ h6,h7⟩
end
def Dm(l:List Nat):IN:=.agg ⟨l.map bv⟩
def AF0:Nat->List (Nat×List Nat)->List Ent
 |_,[]=>[]
 |i,x::r=>⟨AI AT (x.1:Int),Dm x.2,i⟩::AF0 (i+1) r
def sec(M:List Nat)(i:Nat):List Nat:=(M.drop (64*i)).take 64
theorem J2{M:List Nat}{n i:Nat}(hM:M.length=64*n)(hi:i<n):(sec M i).length=64:=by
 unfold sec;rw[zJ,zl];omega
theorem tF{M:List Nat}(hb:∀ x∈M,x<256)(i:Nat):∀ x∈sec M i,x<256:=fun x hx=>hb x (ABZ (AAN hx))
def dkL(bm bc n:Nat)(arm:Int)(dn:Bool):List IN:=[.slice (some ⟨bm,0,none⟩) n n,.map (some bc),AI AT arm,.bool dn]
structure Dk (h:Hp)(bd bm bc n:Nat)(M:List Nat)(c0:Nat)(cs:List (Nat×List Nat))(arm:Int)(dn:Bool):Prop where
 disk:h.Row bd 0 (dkL bm bc n arm dn)
 med:h.Row bm 0 (M.map bv)
 len:M.length=64*n
 byt:∀ x∈M,x<256
 map:h.bl.get bc=.map (AF0 c0 cs) (c0+cs.length)
 big:256<=bd/\256<=bm/\256<=bc
 n1:1<=n/\n<=65536
section
variable {F:AFi}{e:Env}{h h':Hp}{S:Nat->Prop}{bd bm bc n c0:Nat}{M:List Nat}{cs:List (Nat×List Nat)}{arm:Int}{dn:Bool}
theorem i6{h:Hp}{b b' el el':Nat}{L L':List IN}(r:h.Row b el L)(r':h.Row b' el' L')(he:L.length≠L'.length):b≠b':=fun hb=>by
 subst hb;obtain⟨_,e1,_⟩:=r;obtain⟨_,e2,_⟩:=r';rw[e1]at e2;injection e2 with _ e3 _
 exact he e3
theorem Dk.bdm(d:Dk h bd bm bc n M c0 cs arm dn):bd≠bm:=i6 d.disk d.med (by
 rw[OF,d.len];show 4≠_;have:=d.n1;omega)
theorem J0{h:Hp}{b bc el k:Nat}{L:List IN}{es:List Ent}(r:h.Row b el L)(m:h.bl.get bc=.map es k):b≠bc:=fun hb=>by
 subst hb;obtain⟨_,e1,_⟩:=r;rw[e1]at m;cases m
theorem Dk.bdc(d:Dk h bd bm bc n M c0 cs arm dn):bd≠bc:=J0 d.disk d.map
theorem Dk.bmc(d:Dk h bd bm bc n M c0 cs arm dn):bm≠bc:=J0 d.med d.map
theorem Dk.lt(d:Dk h bd bm bc n M c0 cs arm dn)(W:h.Wf):bd<h.next/\bm<h.next/\bc<h.next:=⟨d.disk.lt W,d.med.lt W,by
 rcases zD bc h.next with h1|h1
 ·exact h1
 ·have:=W.fresh bc h1
  rw[d.map]at this;cases this⟩
theorem Dk.same(d:Dk h bd bm bc n M c0 cs arm dn)(hb:h'.bl=h.bl):Dk h' bd bm bc n M c0 cs arm dn:=⟨d.disk.same hb,d.med.same hb,d.len,d.byt,by rw[hb];exact d.map,d.big,d.n1⟩
theorem Dk.fr(d:Dk h bd bm bc n M c0 cs arm dn)(W:h.Wf)(x:Fx S h h')(h1:¬ S bd)(h2:¬ S bm)(h3:¬ S bc):Dk h' bd bm bc n M c0 cs arm dn:=⟨x.row W d.disk h1,x.row W d.med h2,d.len,d.byt,by rw[x.get bc (d.lt W).2.2 h3];exact d.map,d.big,d.n1⟩
theorem Dk.ext(d:Dk h bd bm bc n M c0 cs arm dn)(W:h.Wf)(x:h.Ext h'):Dk h' bd bm bc n M c0 cs arm dn:=d.fr (S:=fun _=>False) W (.of x) (fun h=>h) (fun h=>h) (fun h=>h)
theorem DA(R:h.Row bd 0 (dkL bm bc n arm dn)):AFk ⟨bd,0,none⟩ h=.ok (.slice (some ⟨bm,0,none⟩) n n) h/\AFk ⟨bd,1,none⟩ h=.ok (.map (some bc)) h/\AFk ⟨bd,2,none⟩ h=.ok (AI AT arm) h/\AFk ⟨bd,3,none⟩ h=.ok (.bool dn) h:=
 ⟨R.AFk (off:=0) (by show 0<4;omega),R.AFk (off:=1) (by show 1<4;omega),R.AFk (off:=2) (by show 2<4;omega),R.AFk (off:=3) (by show 3<4;omega)⟩
theorem Gz{k:TK}{t:Nat}{a:Addr}{g:O}(hk:k=.ptr t)(hg:g e=.pointer (some a)):oEq k false g (kV (.pointer none)) F e h=.ok (.bool false) h:=by
 subst hk;show(match eqV (.ptr t) (g e) (.pointer none)with|some r=>okB (false != r) h|none=>.no)=_;rw[hg];exact Fg
theorem i9{k:TK}{a b r:Nat}{g:O}(hk:k=.map a b)(hg:g e=.map (some r)):oEq k false g (kV (.map none)) F e h=.ok (.bool false) h:=by
 subst hk;show(match eqV (.map a b) (g e) (.map none)with|some r=>okB (false != r) h|none=>.no)=_;rw[hg];exact Fg
theorem mW:Yo.k=.ptr 91:=by kernel_rfl
theorem xx:kh.k=.map 3 95:=by kernel_rfl
theorem Jp{m:Nat}(d:Dk h bd bm bc n M c0 cs arm dn):call AC (m+1) 45 [pt bd] h=.ok (.bool false) h:=by
 obtain⟨_,l1,_,_⟩:=DA d.disk;have e1:∀ e:Env,J 0 e=pt bd->oEq Yo.k false (J 0) (kV (.pointer none)) (call AC m) e h=.ok (.bool false) h:=fun e he=>Gz mW he
 have e2:∀ e:Env,J 9 e=.map (some bc)->oEq kh.k false (J 9) (kV (.map none)) (call AC m) e h=.ok (.bool false) h:=fun e he=>i9 xx he
 rw[pQ rfl];unfold d45;simp only[iN,IS,sT,By,BY,reduceIte,gD,e1,Ax,Al,AH,AN,AM,AP,l1,e2,lV0]
theorem NR{m:Nat}(d:Dk h bd bm bc n M c0 cs arm false){i:Nat}(hi:i<n):call AC (m+2) 133 [pt bd,AI AT (i:Int)] h=.ok (AI AT 0) h:=by
 obtain⟨l0,_,_,l3⟩:=DA d.disk;have k1:=Jp (m:=m) d;have c1:iLt (i:Int) 0=false:=Fb (by omega);have c2:iGe (i:Int) (n:Int)=false:=E8 (by omega);rw[fU rfl];unfold gf;simp only[iN,IS,sT,By,BY,reduceIte,gD,cA0,k1,Ax,Al,AH,AN,AM,AP,l0,l3,Ah,D7,AK,AJ,c1,c2,lV0]
theorem kM{m:Nat}(d:Dk h bd bm bc n M c0 cs arm dn):call AC (m+2) 71 [pt bd] h=.ok (AI AT (n:Int)) h:=by
 obtain⟨l0,_,_,l3⟩:=DA d.disk;have k1:=Jp (m:=m) d;rw[pp rfl];unfold d71;simp only[iN,IS,sT,By,BY,reduceIte,gD,cA0,k1,Ax,Al,AH,AN,AM,AP,l0,l3,Ah,D7,lV0]
theorem Us{m:Nat}(d:Dk h bd bm bc n M c0 cs arm dn):call AC (m+2) 19 [pt bd] h=.ok (.bool dn) h:=by
 obtain⟨l0,_,_,l3⟩:=DA d.disk;have k1:=Jp (m:=m) d;rw[pD rfl];unfold d19;simp only[iN,IS,sT,By,BY,reduceIte,gD,cA0,k1,Be,Bd,zg,Ax,Al,AH,AN,AM,AP,l0,l3,lV0]
theorem sK{x y:O}{k j:yy}{a b:Int}(hx:x e=.int k a)(hy:y e=.int j b):YQ x y F e h=.ok (.int k (max a b)) h:=by
 show Hq false (x e) (y e) h=_;rw[hx,hy];show(bif iLt a b then R.ok (.int k b) h else .ok (.int k a) h)=_;rw[DF];by_cases hab:a<b
 ·rw[decide_eq_true hab,Int.max_eq_right (by omega)];rfl
 ·rw[decide_eq_false hab,Int.max_eq_left (by omega)];rfl
def GL(a:Int):Int:=max (a - 1) (-1)
def CB(a:Int)(k:Nat):Prop:=a<=1099511627776/\-1<=a/\(a<0\/(k:Int)<=a)
theorem CB.one{a:Int}{k:Nat}(h:CB a (k+1)):CB (GL a) k/\a≠0:=by
 unfold CB GL at *;omega
theorem CB.le{a:Int}{k j:Nat}(h:CB a k)(hj:j<=k):CB a j:=by
 unfold CB at *;omega
theorem Vy{m:Nat}(W:h.Wf)(d:Dk h bd bm bc n M c0 cs arm false){k:Nat}(ha:CB arm (k+1)):
  ∃ h',call AC (m+1) 147 [pt bd] h=.ok (AI AT 0) h'/\Fx (fun i=>i=bd) h h'/\Dk h' bd bm bc n M c0 cs (GL arm) false:=by
 obtain⟨_,_,l2,_⟩:=DA d.disk;obtain⟨_,hne⟩:=ha.one;have c1:iEq arm 0=false:=B6 hne;have hs:=d.disk.AFr (n:=1) (off:=2) W d.big.1 (v:=AI AT (GL arm)) rfl (by show 2+1<=4;omega) rfl;have fr:=Fx.wr (S:=fun i=>i=bd) W d.disk (off:=2) (vs:=[AI AT (GL arm)]) (by show 2+1<=4;omega) rfl;have r1:=d.disk.AFu W (off:=2) (vs:=[AI AT (GL arm)]) (by show 2+1<=4;omega);have hw:AAh.wrap (zX arm 1)=arm - 1:=by
  obtain⟨h1,h2,h3⟩:=ha;show AAh.wrap (arm - 1)=_;rcases AFB arm 1 with hlt|hge
  ·have:arm= -1\/arm=0:=by omega
   rcases this with rfl|rfl<;>rfl
  ·exact dL (by omega) (by omega)
 have mx:∀ e:Env,J 19 e=AI AT (arm - 1)->YQ (J 19) (kV (AI AT (-1))) (call AC m) e h=.ok (AI AT (GL arm)) h:=fun e he=>sK he rfl
 have hs:AFr 1 (.pointer (some ⟨bd,2,none⟩)) (AI AT (GL arm)) h=.ok AFl (h.wr bd 2 [AI AT (GL arm)]):=hs;refine⟨_,?_,fr,⟨r1,fr.row W d.med (fun h=>d.bdm h.symm),d.len,d.byt,te W d.disk (by show 2+1<=4;omega) d.map,d.big,d.n1⟩⟩;rw[fY rfl];unfold gm;simp only[iN,IS,sT,By,BY,reduceIte,Ax,Al,AH,AN,AM,AP,If,l2,AK,AJ,c1,B3,Cg,hw,mx,AX,hs,lV0]
end
end
end Go.Proofs.YtbjadbhkogcfeaaGreat

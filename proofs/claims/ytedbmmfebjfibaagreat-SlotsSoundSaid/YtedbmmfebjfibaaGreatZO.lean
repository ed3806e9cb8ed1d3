/-
  Part ZO of what Lawso stands on: printed by program, names and spaces cut.
-/
import Derived.Test.YtedbmmfebjfibaaGreatZN
set_option linter.unusedVariables false
set_option linter.unusedSimpArgs false
namespace Go.Proofs.YtedbmmfebjfibaaGreat
noncomputable section
open Go
set_option maxRecDepth 100000
section
variable {F:CallF}{e:Env}{h g g' h0:Hp}{A:At}{T M:List Nat}{bs r9 k1 bd bm bc tb n i m c0 bad k:Nat}{v mv lv fv:Value}{ks:List Kt}{arm:Int}{S:Nat→Prop}{ov:Bool}
theorem Qe(W:g.Wf){L:List Value}(R:g.Row bs 0 L){off:Nat}(ho:off<L.length)(h256:256≤bs)(h1:cellsOf v=[v])(h2:A6 v=true):
  ∃ g',(∀ (F:CallF) (e:Env) (x y:O),x e=.pointer (some ⟨bs,off,none⟩)→y e=v→Ak .free (Ae 1 x y) F e g=.ok noRes g')∧g'.Row bs 0 (over L off [v])∧g'.next=g.next∧g'.mark=g.mark∧Fx (fun b=>b=bs) g g'∧∀ h0:Hp,h0.Ext g→h0.next≤bs→h0.Ext g':=by
 have Rq:g.quiet.Row bs 0 L:=R.same rfl
 have hoo:off+[v].length≤L.length:=ho
 have ha:Bg [v]=true:=by
  show(bif A6 v then true else false)=true
  rw[h2];rfl
 have st:=Rq.storeR (n:=1) (off:=off) (v:=v) W.quiet h256 (by rw[h1];rfl) (by rw[h1];exact hoo) (by rw[h1];exact ha)
 rw[h1]at st
 have wr:=Rq.wr_self W.quiet hoo
 have fx:=Fx.wr (S:=fun b=>b=bs) W.quiet Rq hoo rfl
 have wx:=fun (h0:Hp) (x:h0.Ext g.quiet) (hb:h0.next≤bs)=>Rq.wr_ext x hb hoo
 have wn:=Rq.wr_next hoo
 generalize g.quiet.wr bs off [v]=q at st wr fx wx wn
 refine⟨g.back q,fun F e x y hx hy=>Bq (by rw[Av,hx,hy];exact st),wr.same rfl,wn,rfl,(fx.from (h:=g) rfl rfl).same rfl rfl,fun h0 x hb=>x.back2 (wx h0 x.quiet hb)⟩
theorem KF(W:g.Wf){L:List Value}(R:g.Row bs 0 L){off:Nat}(ho:off<L.length)(h256:256≤bs)(h1:cellsOf v=[v])(h2:A6 v=true):
  ∃ g',storeR 1 (.pointer (some ⟨bs,off,none⟩)) v g=.ok noRes g'∧g'.Row bs 0 (over L off [v])∧g'.next=g.next∧Fx (fun b=>b=bs) g g'∧∀ h0:Hp,h0.Ext g→h0.next≤bs→h0.Ext g':=by
 have hoo:off+[v].length≤L.length:=ho
 have ha:Bg [v]=true:=by
  show(bif A6 v then true else false)=true
  rw[h2];rfl
 have st:=R.storeR (n:=1) (off:=off) (v:=v) W h256 (by rw[h1];rfl) (by rw[h1];exact hoo) (by rw[h1];exact ha)
 rw[h1]at st
 exact⟨_,st,R.wr_self W hoo,R.wr_next hoo,Fx.wr (S:=fun b=>b=bs) W R hoo rfl,fun h0 x hb=>R.wr_ext x hb hoo⟩
theorem Z4(x0:h0.Ext h)(hk:h0.next≤k)(hk2:k≤h.next){xs:List Value}(o:h.Own k 3 v xs){bw:Nat}{z:Int}(Rw:h.Row bw 0 [.int .i64 z])(hl:xs.length≤1000000):
  ∃ h' v',(∀ (F:CallF) (e:Env) (x y:O),x e=v→y e=.slice (some ⟨bw,0,none⟩) 1 1→IE x (A8 1 8 3 x y) F e h=.ok v' h')∧h0.Ext h'∧h'.Own k 3 v' (xs++[.int .i64 z])∧h.next<h'.next∧h'.mark=h.mark∧(∀ b el L,¬ blkV v b→h.Row b el L→h'.Row b el L)∧(∀ b,blkV v' b→b=h.next):=by
 have W:=x0.wf
 have cl:h.quiet.Cl (blkV v) 3 v xs:=by
  rcases o with ⟨h1,h2⟩|⟨b,h1,h2,h3,h4⟩
  ·exact .inl ⟨h1,h2⟩
  ·exact .inr ⟨b,4,h1,h2.same rfl,.inl rfl,⟨0,_,_,h1⟩,h4⟩
 have kb:∀ b,blkV v b→h0.next≤b:=fun b hb=>by
  obtain⟨off,n,c,e1⟩:=hb
  rcases o with ⟨h1,h2⟩|⟨b',h1,h2,h3,h4⟩
  ·rw[h1]at e1;cases e1
  ·rw[h1]at e1
   injection e1 with e1 _ _
   injection e1 with e1
   injection e1 with e1 _ _
   omega
 obtain⟨h5,b5,a1,a2,a3,a4,a5,a6,a7,a8,a9⟩:=U7 (eb:=8) (en:=3) x0.quiet cl kb (Rw.same (h':=h.quiet) rfl) rfl hl (by omega)
 have a4:b5=h.next:=a4
 have a5:h5.next=h.next+1:=a5
 have h256:=W.big
 refine⟨h.back h5,.slice (some ⟨b5,0,none⟩) (xs.length+1) (xs.length+1),fun F e x y hx hy=>RO hx hy a1 (a9 rfl rfl h rfl),x0.back2 a2,.inr ⟨b5,by rw[List.length_append];rfl,a3.same rfl,by omega,by omega⟩,by show h.next<h5.next;omega,rfl,fun b el L hb r=>(a7 b el L hb (r.same rfl)).same rfl,fun b ⟨off,nn,c,e1⟩=>?_⟩
 injection e1 with e1 _ _
 injection e1 with e1
 injection e1 with e1 _ _
 omega
theorem fm(W:h.Wf){rp:Nat}{p:Nat}(Rp:h.Row rp 0 [.int .i64 (p:Int)])(x:Kt):∃ h',call AG (m+1) 62 [ktV x,pt rp] h=.ok (.bool (decide (x.p=p))) h'∧h.Ext h':=by
 have bx:=fun (F:CallF) (e:Env) (he:AB 0 e=ktV x)=>G9 (F:=F) W he
 have x1:=(Hp.Ext.refl W).pushRow 0 (Al x)
 have R:=Hp.Row.new W 0 (Al x)
 generalize h.pushRow 0 (Al x)=h1 at bx x1 R
 obtain⟨_,_,_,_,_,l5,_⟩:=Bw R
 have lp:=CH (Rp.ext W x1)
 have c1:iEq (x.p:Int) (p:Int)=decide (x.p=p):=by
  by_cases h3:x.p=p
  ·rw[decide_eq_true h3];exact C4 (by omega)
  ·rw[decide_eq_false h3];exact Cz (by omega)
 refine⟨h1,?_,x1⟩
 rw[eJ rfl]
 unfold d62
 simp only[AJ,AK,Nat.succ_eq_add_one,Nat.zero_add,Nat.reduceAdd,sT,Nat.reduceLT,Nat.reduceEqDiff,if_true,if_false,reduceIte,bx,AM,AY,Nat.zero_add,AV,Ac,l5,lp,AS,AQ,c1,AP,Aa]
theorem S9(W:h.Wf)(R:h.Row bs 0 (slL bd tb lv fv bad ov))(Rb:h.Row r9 0 [pt bs])(K:h.KS S lv ks)(hl:ks.length≤100000){p:Nat}:
  ∃ h',call AG (m+4) 60 [.int .i64 (p:Int),pt r9] h=.ok (.bool (ks.any fun x=>decide (x.p=p))) h'∧h.Ext h':=by
 have b1:=fun (F:CallF) (e:Env) (he:AB 0 e=.int .i64 (p:Int))=>Hd (F:=F) W he
 have x1:=(Hp.Ext.refl W).pushRow 0 [.int .i64 (p:Int)]
 have R1:=Hp.Row.new W 0 [.int .i64 (p:Int)]
 generalize h.pushRow 0 [.int .i64 (p:Int)]=h1 at b1 x1 R1
 have lb:=CH (Rb.ext W x1)
 obtain⟨_,_,_,l3,_⟩:=BN (R.ext W x1)
 obtain⟨h2,k2,x2⟩:=NV (m:=m+1) (g:=62) (caps:=[pt h.next]) (P:=fun x=>decide (x.p=p)) x1.wf (K.ext W x1) hl fun g xg y hy=>fm (m:=m) xg.wf (R1.ext x1.wf xg) y
 refine⟨h2,?_,x1.trans x2⟩
 rw[eH rfl]
 unfold d60
 simp only[AJ,AK,Nat.succ_eq_add_one,Nat.zero_add,Nat.reduceAdd,sT,Nat.reduceLT,Nat.reduceEqDiff,if_true,if_false,reduceIte,b1,AV,Ac,lb,A4,Az,AM,AY,Nat.zero_add,l3,Dc,AN,AX,Ab,k2,AP,Aa]
def Lm:C:=(AF (AC 104) (Ad iLt .i64 (AB 103) (AB 102))
(AW (AB 104)
(A5 (Ah 5 (AF (AC 19) (AD (AB 103))
(AF (AC 108) (B0 (AB 17) [(AB 19)])
(AF (AC 109) (CP (AB 108))
(AW (AB 109)
(Bm (AF (AC 110) (AL (AB 9))
(AF (AC 111) (AL (AB 9))
(AF (AC 112) (BJ (AB 111))
(AF (AC 113) (AH 4 (AB 112))
(AF (AC 114) (AL (AB 113))
(AF (AC 116) (Ak .strong (Af 1 (BG ty3.zero 1) [(0,1,(AB 19))]))
(Ce (AB 114) [(AB 9)]
(AF (AC 117) (IE (AB 114) (A8 1 8 3 (AB 114) (AB 116)))
(AF (AC 118) (BJ (AB 110))
(AF (AC 119) (AH 4 (AB 118))
(cDo (Ak .free (Ae 1 (AB 119) (AB 117)))
(AF (AC 122) (AO 63 [(AB 11),(AB 19)])
(AW (AB 122)
(AF (AC 125) (Af 1 (BG ty3.zero 1) [(0,1,(AB 19))])
(AF (AC 126) (A8 1 8 3 (AB 18) (AB 125))
(AF (AC 18) (AD (AB 126))
Ai)))
Ai))))))))))))))
Ai)))))
(AF (AC 127) (Bh .i64 (Ax .i64) (AB 103) (kV (.int .i64 1)))
(AF (AC 103) (AD (AB 127))
Ai)))
(Bc 4)))
def kP:C:=(AF (AC 128) (AL (AB 9))
(AF (AC 130) (AO 53 [(AB 128),(AB 18)])
(AF (AC 20) (AD (AB 130))
(AF (AC 132) (Ad iNe .i64 (AB 20) (kV (.int .i64 0)))
(AW (AB 132)
(AF (AC 6) (AD (kV (.pointer none)))
(AF (AC 7) (AD (AB 20))
Aj))
(AF (AC 134) (AL (AB 9))
(AF (AC 6) (AD (AB 134))
(AF (AC 7) (AD (kV (.int .i64 0)))
Aj))))))))
def gh:C:=(A5 (Ah 4 (A1 (AF (AC 104) (Ad iLt .i64 (AB 103) (AB 102))
(AW (AB 104)
(A5 (Ah 5 (AF (AC 19) (AD (AB 103))
(AF (AC 108) (B0 (AB 17) [(AB 19)])
(AF (AC 109) (CP (AB 108))
(AW (AB 109)
(Bm (AF (AC 110) (AL (AB 9))
(AF (AC 111) (AL (AB 9))
(AF (AC 112) (BJ (AB 111))
(AF (AC 113) (AH 4 (AB 112))
(AF (AC 114) (AL (AB 113))
(AF (AC 116) (Ak .strong (Af 1 (BG ty3.zero 1) [(0,1,(AB 19))]))
(Ce (AB 114) [(AB 9)]
(AF (AC 117) (IE (AB 114) (A8 1 8 3 (AB 114) (AB 116)))
(AF (AC 118) (BJ (AB 110))
(AF (AC 119) (AH 4 (AB 118))
(cDo (Ak .free (Ae 1 (AB 119) (AB 117)))
(AF (AC 122) (AO 63 [(AB 11),(AB 19)])
(AW (AB 122)
(AF (AC 125) (Af 1 (BG ty3.zero 1) [(0,1,(AB 19))])
(AF (AC 126) (A8 1 8 3 (AB 18) (AB 125))
(AF (AC 18) (AD (AB 126))
Ai)))
Ai))))))))))))))
Ai)))))
(AF (AC 127) (Bh .i64 (Ax .i64) (AB 103) (kV (.int .i64 1)))
(AF (AC 103) (AD (AB 127))
Ai)))
(Bc 4)))))
(AF (AC 128) (AL (AB 9))
(AF (AC 130) (AO 53 [(AB 128),(AB 18)])
(AF (AC 20) (AD (AB 130))
(AF (AC 132) (Ad iNe .i64 (AB 20) (kV (.int .i64 0)))
(AW (AB 132)
(AF (AC 6) (AD (kV (.pointer none)))
(AF (AC 7) (AD (AB 20))
Aj))
(AF (AC 134) (AL (AB 9))
(AF (AC 6) (AD (AB 134))
(AF (AC 7) (AD (kV (.int .i64 0)))
Aj)))))))))
theorem Z2:gh=A5 (Ah 4 (A1 Lm)) kP:=rfl
def Wk:C:=(AF (AC 92) (AO 50 [(AB 10),(kV (.func (.func 51) #[] #[]))])
(Bm (Ds (AB 9) (Ce (AB 9) []
(AF (AC 93) (AL (AB 9))
(AF (AC 95) (Ak .weak (AO 59 [(AB 10)]))
(AF (AC 96) (BJ (AB 93))
(AF (AC 97) (AH 3 (AB 96))
(cDo (Ak .free (Ae 1 (AB 97) (AB 95)))
(AF (AC 98) (Cx (.func 60) [] [(AB 9)])
(AF (AC 17) (AD (AB 98))
(AF (AC 18) (AD (kV (.slice none 0 0)))
(AF (AC 101) (AO 57 [(AB 2)])
(AF (AC 102) (HF .i64 (AB 8) (AB 101))
(AF (AC 103) (AD (kV (.int .i64 0)))
gh)))))))))))))))
theorem Zz:kO=Wk:=rfl
def freeL(ks:List Kt)(i:Nat):List Nat:=(List.range i).filter fun p=> !(ks.any fun x=>decide (x.p=p))
def outL(ks:List Kt)(mk:List Nat)(i:Nat):List Nat:=(List.range i).filter fun p=> !(ks.any fun x=>decide (x.p=p)) && decide (p∈mk)
theorem IA(ks:List Kt)(i:Nat):freeL ks (i+1)=freeL ks i++(if(ks.any fun x=>decide (x.p=i))=true then []else [i]):=by
 unfold freeL
 rw[List.range_succ,List.filter_append]
 cases h:(ks.any fun x=>decide (x.p=i))<;>simp[h]
theorem Jb(ks:List Kt)(mk:List Nat)(i:Nat):outL ks mk (i+1)=outL ks mk i++(if(ks.any fun x=>decide (x.p=i))=true then []else if i∈mk then [i]else []):=by
 unfold outL
 rw[List.range_succ,List.filter_append]
 cases h:(ks.any fun x=>decide (x.p=i))<;>by_cases h2:i∈mk<;>simp[h,h2]
structure O2 (h g:Hp)(mk:List Nat)(bs r9 k1 bd tb i bad:Nat)(w mv fv ou:Value)(ks:List Kt):Prop where
 x:h.Ext g
 row:g.Row bs 0 (slL bd tb w fv bad false)
 rb:g.Row r9 0 [pt bs]
 ko:g.KO k1 w ks
 ok:∀ k∈ks,KtOk g (fun b=>r9<b) k
 fs:g.Own k1 3 fv (ints .i64 ((freeL ks i).map Int.ofNat))
 os:g.Own k1 3 ou (ints .i64 ((outL ks mk i).map Int.ofNat))
 ms:g.Own k1 3 mv (ints .i64 (mk.map Int.ofNat))
 ap:∀ b,(blkV fv b→¬ blkV ou b∧¬ blkV mv b)∧(blkV ou b→¬ blkV mv b)
 le:k1≤g.next
theorem O2.ext{mk:List Nat}{w ou:Value}(o:O2 h g mk bs r9 k1 bd tb i bad w mv fv ou ks)(x:g.Ext g'):O2 h g' mk bs r9 k1 bd tb i bad w mv fv ou ks:=
 have W:=o.x.wf
 ⟨o.x.trans x,o.row.ext W x,o.rb.ext W x,o.ko.ext W x,fun k hk=>⟨(o.ok k hk).1.ext W x,(o.ok k hk).2⟩,o.fs.ext W x,o.os.ext W x,o.ms.ext W x,o.ap,Nat.le_trans o.le x.next⟩
theorem Hp.Own.lt'{en:Nat}{xs:List Value}(o:h.Own k en v xs)(W:h.Wf){b:Nat}(hb:blkV v b):b<h.next:=by
 obtain⟨off,n,c,e1⟩:=hb
 rcases o with ⟨h1,h2⟩|⟨b',h1,h2,h3,h4⟩
 ·rw[h1]at e1;cases e1
 ·have:=h2.lt W
  rw[h1]at e1
  injection e1 with e1 _ _
  injection e1 with e1
  injection e1 with e1 _ _
  omega
theorem Hp.Own.rw_{en:Nat}{xs:List Value}(o:h.Own k en v xs){b:Nat}(hb:blkV v b):h.Row b (en+1) xs:=by
 obtain⟨off,n,c,e1⟩:=hb
 rcases o with ⟨h1,h2⟩|⟨b',h1,h2,h3,h4⟩
 ·rw[h1]at e1;cases e1
 ·rw[h1]at e1
  injection e1 with e1 _ _
  injection e1 with e1
  injection e1 with e1 _ _
  rw[← e1];exact h2
theorem Wj{mk:List Nat}{w ou:Value}(W:h.Wf)(o:O2 h g mk bs r9 k1 bd tb i bad w mv fv ou ks)(hbs:h.next≤bs∧bs<r9∧r9<k1){nn:Nat}(hi:i<nn)(hnn:nn≤30000)(hks:ks.length≤30000)(hmk:mk.length≤30000)
  (t9:AB 9 e=pt r9)(t11:AB 11 e=mv)(t17:AB 17 e=.func (.func 60) ⟨[]⟩ ⟨[pt r9]⟩)(t18:AB 18 e=ou)(P9:AB 102 e=.int .i64 (nn:Int))(Nu:AB 103 e=.int .i64 (i:Int)):
  ∃ e' g' fv' ou',Lm (call AG (m+6)) e g=.norm e' g'∧O2 h g' mk bs r9 k1 bd tb (i+1) bad w mv fv' ou' ks∧AB 18 e'=ou'∧AB 103 e'=.int .i64 ((i+1:Nat):Int)∧∀ j,j=0∨j=1∨j=2∨j=9∨j=11∨j=17∨j=102→AB j e'=AB j e:=by
 have W1:=o.x.wf
 have hhk:h.next≤k1:=by omega
 have h256:256≤bs:=by have:=W.big;omega
 have c1:iLt (i:Int) (nn:Int)=true:=E8 hi
 obtain⟨h1,k1c,x1⟩:=S9 (m:=m+2) W1 o.row o.rb o.ko.lst (by omega) (p:=i)
 have o1:=o.ext x1
 cases hc:(ks.any fun x=>decide (x.p=i))with
 |true=>
  rw[hc]at k1c
  have a3:=C1 (i:=i) (h:=h1) (by omega)
  have hrun:∃ e2,Lm (call AG (m+6)) e g=.norm e2 h1∧AB 18 e2=ou∧AB 103 e2=.int .i64 ((i+1:Nat):Int)∧∀ j,j=0∨j=1∨j=2∨j=9∨j=11∨j=17∨j=102→AB j e2=AB j e:=by
   unfold Lm
   simp only[sT,Nat.reduceLT,Nat.reduceEqDiff,if_true,if_false,reduceIte,AS,AQ,Nu,P9,c1,Ci,t17,CU,AN,AX,List.nil_append,List.singleton_append,k1c,CG,CF,Bool.not_true,BZ,a3]
   refine⟨_,rfl,by simp only[AE,Nat.reduceLT,Nat.reduceEqDiff,if_true,if_false,reduceIte];exact t18,by simp[AE],fun j hj=>?_⟩
   rcases hj with rfl|rfl|rfl|rfl|rfl|rfl|rfl<;>simp only[AE,Nat.reduceLT,Nat.reduceEqDiff,if_true,if_false,reduceIte]
  obtain⟨e2,r1,r2,r3,r4⟩:=hrun
  refine⟨e2,h1,fv,ou,r1,⟨o1.x,o1.row,o1.rb,o1.ko,o1.ok,?_,?_,o1.ms,o1.ap,o1.le⟩,r2,r3,r4⟩
  ·rw[IA,hc,if_pos rfl,List.append_nil];exact o1.fs
  ·rw[Jb,hc,if_pos rfl,List.append_nil];exact o1.os
 |false=>
  rw[hc]at k1c
  have xm:=o1.x.marked
  have om:=o1.ext (Hp.Ext.refl o1.x.wf).marked
  have lb:=CH om.rb
  obtain⟨_,_,_,_,l4,_⟩:=BN om.row
  have qs:∀ (F:CallF) (e:Env),AB 19 e=.int .i64 (i:Int)→Ak .strong (Af 1 (BG ty3.zero 1) [(0,1,AB 19)]) F e h1.marked=.ok (.slice (some ⟨h1.next,0,none⟩) 1 1) (h1.marked.back (h1.marked.quiet.pushRow 0 [.int .i64 (i:Int)])):=fun F e he=>DQ (He xm.wf.quiet he) ((Hp.Ext.refl xm.wf.quiet).pushRow _ _) (Nat.le_refl _)
  have y2:h1.marked.Ext (h1.marked.back (h1.marked.quiet.pushRow 0 [.int .i64 (i:Int)])):=.back ((Hp.Ext.refl xm.wf.quiet).pushRow _ _)
  have Rw:(h1.marked.back (h1.marked.quiet.pushRow 0 [.int .i64 (i:Int)])).Row h1.next 0 [.int .i64 (i:Int)]:=(Hp.Row.new xm.wf.quiet 0 [.int .i64 (i:Int)]).same rfl
  generalize h1.marked.back (h1.marked.quiet.pushRow 0 [.int .i64 (i:Int)])=h2 at qs y2 Rw
  have o2:=om.ext y2
  have ck:∀ (K:C) (F:CallF) (e:Env),AB 114 e=fv→AB 9 e=pt r9→Ce (AB 114) [AB 9] K F e h2=K F e h2:=fun K F e a1 a2=>by
   rcases o2.fs with ⟨h1',_⟩|⟨b',h1',h2',h3',_⟩
   ·exact YD (b:=0) a1 (.inl h1') a2 (.inl h1')
   ·exact YD (b:=b') a1 (.inr ⟨_,_,_,h1'⟩) a2 (.inr (by omega))
  have hfl:(freeL ks i).length≤i:=DT i _
  have hol:(outL ks mk i).length≤i:=DT i _
  obtain⟨h3,fv3,k3,x3,fs3,n3,_,kp3,nb3⟩:=Z4 o2.x hhk o2.le o2.fs Rw (by unfold ints;rw[List.length_map,List.length_map];omega)
  have big2:fv3=fv3:=rfl
  have row3:=kp3 _ _ _ (o2.fs.nb o2.row (by omega)) o2.row
  have one3:cellsOf fv3=[fv3]∧A6 fv3=true:=by
   rcases fs3 with ⟨h1,_⟩|⟨b,h1,_⟩<;>rw[h1]<;>exact⟨rfl,rfl⟩
  obtain⟨h4,k4,row4,n4,_,fx4,e4⟩:=Qe x3.wf row3 (off:=4) (show 4<7 by omega) h256 one3.1 one3.2
  have x4:=e4 h x3 hbs.1
  have kp4:∀ b el L,b≠bs→h3.Row b el L→h4.Row b el L:=fun b el L hb r=>fx4.row x3.wf r hb
  have kp24:∀ b el L,b≠bs→¬ blkV fv b→h2.Row b el L→h4.Row b el L:=fun b el L h1 h2 r=>kp4 b el L h1 (kp3 b el L h2 r)
  have row4:h4.Row bs 0 (slL bd tb w fv3 bad false):=row4
  have ow:∀ {u:Value} {xs:List Value},h2.Own k1 3 u xs→(∀ b,blkV u b→¬ blkV fv b)→h4.Own k1 3 u xs:=fun o hd=>by
   rcases o with h1'|⟨b,h1',h2',h3',h4'⟩
   ·exact .inl h1'
   ·exact .inr ⟨b,h1',kp24 b _ _ (by omega) (hd b ⟨0,_,_,h1'⟩) h2',h3',h4'⟩
  have fs4:h4.Own k1 3 fv3 (ints .i64 ((freeL ks i).map Int.ofNat)++[.int .i64 (i:Int)]):=by
   rcases fs3 with h1'|⟨b,h1',h2',h3',h4'⟩
   ·exact .inl h1'
   ·exact .inr ⟨b,h1',kp4 b _ _ (by omega) h2',h3',h4'⟩
  have os4:=ow o2.os fun b hb hf=>((o2.ap b).1 hf).1 hb
  have ms4:=ow o2.ms fun b hb hf=>((o2.ap b).1 hf).2 hb
  have ko4:h4.KO k1 w ks:=by
   rcases o2.ko with h1'|⟨b,h1',h2',h3',h4'⟩
   ·exact .inl h1'
   ·exact .inr ⟨b,h1',kp24 b _ _ (by omega) (o2.fs.nb h2' (by omega)) h2',h3',h4'⟩
  have rb4:=kp24 _ _ _ (by omega) (o2.fs.nb o2.rb (by omega)) o2.rb
  have ok4:∀ k∈ks,KtOk h4 (fun b=>r9<b) k:=fun k hk=>⟨(o2.ok k hk).1.keep fun b el L hb he r=>kp24 b el L (by have hb:r9<b:=hb;omega) (o2.fs.nb r (by omega)) r,(o2.ok k hk).2⟩
  have ap4:∀ b,(blkV fv3 b→¬ blkV ou b∧¬ blkV mv b)∧(blkV ou b→¬ blkV mv b):=fun b=>⟨fun hb=>by
   have e1:=nb3 b hb
   exact⟨fun h=>by have:=o2.os.lt' o2.x.wf h;omega,fun h=>by have:=o2.ms.lt' o2.x.wf h;omega⟩,(o2.ap b).2⟩
  have k5:=OJ (n:=m+4) (x:=(i:Int)) ms4.vals (by rw[List.length_map];omega)
  have hmem:decide ((i:Int)∈mk.map Int.ofNat)=decide (i∈mk):=by
   rw[decide_eq_decide,List.mem_map]
   constructor
   ·rintro⟨a,ha,he⟩
    have:a=i:=Int.ofNat.inj he
    rw[← this];exact ha
   ·exact fun h=>⟨i,h,rfl⟩
  rw[hmem]at k5
  have k5:call AG (m+6) 63 [mv,.int .i64 (i:Int)] h4=.ok (.bool (decide (i∈mk))) h4:=k5
  by_cases him:i∈mk
  ·rw[decide_eq_true him]at k5
   have is:=fun (F:CallF) (e:Env) (he:AB 19 e=.int .i64 (i:Int))=>He (F:=F) x4.wf he
   obtain⟨h6,ou6,k6,x6,os6,n6,f6⟩:=Iu (eb:=8) (en:=3) (kd:=.i64) (n:=(i:Int)) x4 hhk (by have:=o2.le;omega) os4 (by unfold ints;rw[List.length_map,List.length_map];omega)
   have a3:=C1 (i:=i) (h:=h6) (by omega)
   have hrun:∃ e2,Lm (call AG (m+6)) e g=.norm e2 h6∧AB 18 e2=ou6∧AB 103 e2=.int .i64 ((i+1:Nat):Int)∧∀ j,j=0∨j=1∨j=2∨j=9∨j=11∨j=17∨j=102→AB j e2=AB j e:=by
    unfold Lm
    simp only[sT,Nat.reduceLT,Nat.reduceEqDiff,if_true,if_false,reduceIte,AS,AQ,Nu,P9,c1,Ci,t17,CU,AN,AX,List.nil_append,List.singleton_append,k1c,CG,CF,Bool.not_false,BD,AV,Ac,t9,lb,A4,Az,AM,AY,Nat.zero_add,l4,qs]
    rw[ck _ _ _ (by simp[AE]) (by simp only[AE,Nat.reduceLT,Nat.reduceEqDiff,if_true,if_false,reduceIte];exact t9)]
    simp only[sT,Nat.reduceLT,Nat.reduceEqDiff,if_true,if_false,reduceIte]
    rw[k3 _ _ _ _ (by simp[AE]) (by simp[AE])]
    simp only[sT,Nat.reduceLT,Nat.reduceEqDiff,if_true,if_false,reduceIte,A4,Az,AM,AY,Nat.zero_add]
    rw[k4 _ _ _ _ (by simp[AE]) (by simp[AE])]
    simp only[sT,Nat.reduceLT,Nat.reduceEqDiff,if_true,if_false,reduceIte,Ab,AN,AX,t11,k5,is,Bn,t18,k6,Nu,BZ,a3]
    refine⟨_,rfl,by simp[AE],by simp[AE],fun j hj=>?_⟩
    rcases hj with rfl|rfl|rfl|rfl|rfl|rfl|rfl<;>simp only[AE,Nat.reduceLT,Nat.reduceEqDiff,if_true,if_false,reduceIte]
   obtain⟨e2,r1,r2,r3,r4⟩:=hrun
   have kp6:∀ b el L,¬ blkV ou b→h4.Row b el L→h6.Row b el L:=fun b el L hb r=>(f6 b el L hb r).1
   refine⟨e2,h6,fv3,ou6,r1,⟨x6,kp6 _ _ _ (os4.nb row4 (by omega)) row4,kp6 _ _ _ (os4.nb rb4 (by omega)) rb4,?_,fun k hk=>⟨(ok4 k hk).1.keep fun b el L hb he r=>kp6 b el L (os4.nb r (by omega)) r,(ok4 k hk).2⟩,?_,?_,?_,fun b=>⟨fun hb=>⟨fun h=>?_,((ap4 b).1 hb).2⟩,fun hb hm=>?_⟩,by have:=o2.le;omega⟩,r2,r3,r4⟩
   ·rcases ko4 with h1'|⟨b,h1',h2',h3',h4'⟩
    ·exact .inl h1'
    ·exact .inr ⟨b,h1',kp6 b _ _ (os4.nb h2' (by omega)) h2',h3',h4'⟩
   ·rw[IA,hc,if_neg (by decide),G4]
    rcases fs4 with h1'|⟨b,h1',h2',h3',h4'⟩
    ·exact .inl h1'
    ·exact .inr ⟨b,h1',kp6 b _ _ ((ap4 b).1 ⟨0,_,_,h1'⟩).1 h2',h3',h4'⟩
   ·rw[Jb,hc,if_neg (by decide),if_pos him,G4];exact os6
   ·rcases ms4 with h1'|⟨b,h1',h2',h3',h4'⟩
    ·exact .inl h1'
    ·exact .inr ⟨b,h1',kp6 b _ _ (fun hb=>(ap4 b).2 hb ⟨0,_,_,h1'⟩) h2',h3',h4'⟩
   ·exact(f6 b _ _ ((ap4 b).1 hb).1 (fs4.rw_ hb)).2 h
   ·exact(f6 b _ _ (fun ho=>(ap4 b).2 ho hm) (ms4.rw_ hm)).2 hb
  ·rw[decide_eq_false him]at k5
   have a3:=C1 (i:=i) (h:=h4) (by omega)
   have hrun:∃ e2,Lm (call AG (m+6)) e g=.norm e2 h4∧AB 18 e2=ou∧AB 103 e2=.int .i64 ((i+1:Nat):Int)∧∀ j,j=0∨j=1∨j=2∨j=9∨j=11∨j=17∨j=102→AB j e2=AB j e:=by
    unfold Lm
    simp only[sT,Nat.reduceLT,Nat.reduceEqDiff,if_true,if_false,reduceIte,AS,AQ,Nu,P9,c1,Ci,t17,CU,AN,AX,List.nil_append,List.singleton_append,k1c,CG,CF,Bool.not_false,BD,AV,Ac,t9,lb,A4,Az,AM,AY,Nat.zero_add,l4,qs]
    rw[ck _ _ _ (by simp[AE]) (by simp only[AE,Nat.reduceLT,Nat.reduceEqDiff,if_true,if_false,reduceIte];exact t9)]
    simp only[sT,Nat.reduceLT,Nat.reduceEqDiff,if_true,if_false,reduceIte]
    rw[k3 _ _ _ _ (by simp[AE]) (by simp[AE])]
    simp only[sT,Nat.reduceLT,Nat.reduceEqDiff,if_true,if_false,reduceIte,A4,Az,AM,AY,Nat.zero_add]
    rw[k4 _ _ _ _ (by simp[AE]) (by simp[AE])]
    simp only[sT,Nat.reduceLT,Nat.reduceEqDiff,if_true,if_false,reduceIte,Ab,AN,AX,t11,k5,Nu,BZ,a3]
    refine⟨_,rfl,by simp only[AE,Nat.reduceLT,Nat.reduceEqDiff,if_true,if_false,reduceIte];exact t18,by simp[AE],fun j hj=>?_⟩
    rcases hj with rfl|rfl|rfl|rfl|rfl|rfl|rfl<;>simp only[AE,Nat.reduceLT,Nat.reduceEqDiff,if_true,if_false,reduceIte]
   obtain⟨e2,r1,r2,r3,r4⟩:=hrun
   refine⟨e2,h4,fv3,ou,r1,⟨x4,row4,rb4,ko4,ok4,?_,?_,ms4,ap4,by have:=o2.le;omega⟩,r2,r3,r4⟩
   ·rw[IA,hc,if_neg (by decide),G4];exact fs4
   ·rw[Jb,hc,if_neg (by decide),if_neg him,List.append_nil];exact os4
end
end
noncomputable section
open Go
set_option maxRecDepth 100000
def Tw(x y:Kc):Int:=orZ [Cv x.a y.a,Cv x.b y.b,Cv x.c y.c,Cv x.p y.p]
theorem JV{α β:Type}{f:α→β}{l:List α}{i:Nat}{x:α}(h:l[i]? =some x):(l.map f)[i]? =some (f x):=by rw[List.getElem?_map,h];rfl
theorem iR:XR.zero=[.pointer none,.pointer none,.int .i64 0,.slice none 0 0,.slice none 0 0,.int .i64 0,.bool false]:=by kernel_rfl
theorem ac:B6 .mt 0 [.pointer none]=some nC:=by kernel_rfl
section
variable {F:CallF}{e:Env}{h g g':Hp}{T M:List Nat}{bd bm bc tb n m c0 k:Nat}{arm:Int}
theorem X5{g1 g2 g3:O}{a b:Nat}(h1:g1 e=pt a)(h2:g2 e=pt b)(h3:g3 e=.int .i64 100):Bj XR.zero [(0,1,g1),(1,1,g2),(2,1,g3)] F e h=.ok (.agg ⟨slL a b nilS nilS 0 false⟩) h:=by
 rw[EO,iR,BC (hk:=by rw[h1];rfl),h1,BC (hk:=by rw[h2];rfl),h2,BC (hk:=by rw[h3];rfl),h3]
 simp only[show ∀ a,cellsOf (pt a)=[pt a]from fun _=>rfl,EG,List.length_singleton,List.length_cons,List.length_nil,over,List.take,List.drop,List.append_eq,List.nil_append,List.cons_append,Nat.reduceAdd,Nat.reduceLeDiff,if_true,CV,reduceIte]
 rfl
theorem nL{n:Nat}(hn:n≤1000000):OP .i64 (.int .i64 (n:Int)) (.int .i64 3) h=.ok (.int .i64 ((n / 3:Nat):Int)) h:=by
 have:((n:Nat):Int).tdiv 3=((n / 3:Nat):Int):=rfl
 rw[Ib (by omega),this,Br (by omega)]
theorem Se(W:h.Wf)(d:Dk h bd bm bc n M c0 [] arm false)(Rt:h.Row tb 0 (T.map wv))(hT:TblOk T)(hn:3≤n∧n≤90)(htb:tb≠bd∧tb≠bm∧tb≠bc)
  (hs:∀ (i:Nat) (x y:Kc),(kcs T M (n / 3))[i]? =some x→(kcs T M (n / 3))[i+1]? =some y→0≤Tw y x)(hd:∀ (i j:Nat) (x y:Kc),(kcs T M (n / 3))[i]? =some x→(kcs T M (n / 3))[j]? =some y→i≠j→y.a≠x.a)(hl:(kcs T M (n / 3)).length≤12)(ha:CT arm (k+60)):
  ∃ h' bs c1 arm' lv fv ks,call AG (m+8) 16 [pt bd,pt tb,.int .i64 100] h=.ok (.tuple ⟨[pt bs,.int .i64 0]⟩) h'∧Fx (fun b=>b=bd∨b=bm∨b=bc) h h'∧
   Sl h' ⟨bs,bd,bm,bc,tb,n⟩ T (hJ M (outL ks (mrk T M (n / 3)) (n / 3))) c1 arm' ks (freeL ks (n / 3)) lv fv (bads T M (n / 3)).length false∧ks.map Kt.core=kcs T M (n / 3)∧h.next≤bs∧CT arm' k∧(ks=[]→lv=.slice none 0 0):=by
 have big:=W.big
 have s57:∀ (mm:Nat) (g:Hp),call AG (mm+1) 57 [.int .i64 100] g=.ok (.int .i64 3) g:=fun mm g=>by
  have:=So (n:=mm) (h:=g) (z:=100)
  rw[Mx]at this;exact this
 have s57':=fun g=>s57 (m+6) g
 have k1:=aG (m:=m+5) d
 have k2:=Yi (m:=m+5) d
 have c1:iEq (n:Int) 0=false:=Cz (by omega)
 have c2:iEq 3 0=false:=Cz (by omega)
 have c3:iGt 3 (n:Int)=false:=Gk (by omega)
 have ne:∀ (F:CallF) (e:Env),AB 27 e=pt tb→oEq QE.k false (AB 27) (kV (.pointer none)) F e h=.ok (.bool false) h:=fun F e he=>Iw bI he
 have bl:∀ (F:CallF) (e:Env),AB 0 e=pt bd→AB 1 e=pt tb→AB 2 e=.int .i64 100→Bj XR.zero [(0,1,AB 0),(1,1,AB 1),(2,1,AB 2)] F e h=.ok (.agg ⟨slL bd tb nilS nilS 0 false⟩) h:=fun F e a b c=>X5 a b c
 have bx:∀ (F:CallF) (e:Env),AB 46 e=.agg ⟨slL bd tb nilS nilS 0 false⟩→DL (AB 46) F e h=.ok (pt h.next) (h.pushRow 0 (slL bd tb nilS nilS 0 false)):=fun F e he=>by rw[Fe,he,FR W];rfl
 have x1:=(Hp.Ext.refl W).pushRow 0 (slL bd tb nilS nilS 0 false)
 have R1:=Hp.Row.new W 0 (slL bd tb nilS nilS 0 false)
 have n1:(h.pushRow 0 (slL bd tb nilS nilS 0 false)).next=h.next+1:=rfl
 generalize h.pushRow 0 (slL bd tb nilS nilS 0 false)=h1 at bx x1 R1 n1
 obtain⟨h2,al,st,y2,R9,n2,_⟩:=Fy x1.wf ac (v:=pt h.next) rfl rfl
 have x2:=x1.trans y2
 have dv:=fun g=>nL (h:=g) (n:=n) (by omega)
 have pre:∃ e1,YT (call AG (m+7)) (AZ e0 0 [pt bd,pt tb,.int .i64 100]) h=gf (call AG (m+7)) e1 h2∧AB 2 e1=.int .i64 100∧AB 8 e1=.int .i64 (n:Int)∧AB 9 e1=pt h1.next∧AB 10 e1=nilS∧AB 11 e1=nilS∧AB 51 e1=.int .i64 ((n / 3:Nat):Int)∧AB 52 e1=.int .i64 ((0:Nat):Int):=by
  unfold YT
  simp only[AJ,AK,Nat.succ_eq_add_one,Nat.zero_add,Nat.reduceAdd,sT,Nat.reduceLT,Nat.reduceEqDiff,if_true,if_false,reduceIte,gD,Ab,AN,AX,k1,AS,AQ,c1,ne,s57',c2,c3,k2,bl,bx,al,Av,st,GR,dv]
  exact⟨_,rfl,by simp[AE],by simp[AE],by simp[AE],by simp[AE],by simp[AE],by simp[AE],by simp only[AE,Nat.reduceLT,Nat.reduceEqDiff,if_true,if_false,reduceIte];rfl⟩
 obtain⟨e1,p1,s2,s8,s9,s10,s11,s51,s52⟩:=pre
 have hbs:h.next≤h.next∧h.next<h1.next∧h1.next<h2.next:=⟨Nat.le_refl _,by omega,by omega⟩
 have o0:O1 h h2 T M h.next h1.next h2.next bd tb 0 nilS nilS []:=⟨x2,R1.ext x1.wf y2,R9,.inl ⟨rfl,rfl⟩,rfl,fun k hk=>(by cases hk),.inl ⟨rfl,rfl⟩,Nat.le_refl _⟩
 have run1:∃ e' g v mv ks,A1 Ll (call AG (m+7)) e1 h2=.exit 1 e' g∧O1 h g T M h.next h1.next h2.next bd tb (n / 3) v mv ks∧AB 10 e'=v∧AB 11 e'=mv∧AB 2 e'=.int .i64 100∧AB 8 e'=.int .i64 (n:Int)∧AB 9 e'=pt h1.next:=by
  refine Bz (I:=fun i e' g=>∃ v mv ks,O1 h g T M h.next h1.next h2.next bd tb i v mv ks∧i≤n / 3∧AB 10 e'=v∧AB 11 e'=mv∧AB 52 e'=.int .i64 (i:Int)∧AB 2 e'=.int .i64 100∧AB 8 e'=.int .i64 (n:Int)∧AB 9 e'=pt h1.next∧AB 51 e'=.int .i64 ((n / 3:Nat):Int))
   (Q:=fun x=>∃ e' g v mv ks,x=.exit 1 e' g∧O1 h g T M h.next h1.next h2.next bd tb (n / 3) v mv ks∧AB 10 e'=v∧AB 11 e'=mv∧AB 2 e'=.int .i64 100∧AB 8 e'=.int .i64 (n:Int)∧AB 9 e'=pt h1.next) (n / 3) (by omega) (fun i e' g ⟨v,mv,ks,o,hi,t10,t11,t52,t2,t8,t9,t51⟩=>?_) ⟨_,_,_,o0,Nat.zero_le _,s10,s11,s52,s2,s8,s9,s51⟩
  by_cases hlt:i<n / 3
  ·left
   obtain⟨e2,g2,v2,mv2,ks2,r1,o2,r2,r3,r4,r5⟩:=Wi (m:=m+1) W d Rt hT o hbs hlt t9 t10 t11 t51 t52
   exact⟨hlt,e2,g2,r1,v2,mv2,ks2,o2,hlt,r2,r3,r4,(r5 2 (by omega)).trans t2,(r5 8 (by omega)).trans t8,(r5 9 (by omega)).trans t9,(r5 51 (by omega)).trans t51⟩
  ·right
   have hie:i=n / 3:=by omega
   have c1:iLt (i:Int) ((n / 3:Nat):Int)=false:=DU (by omega)
   have hrun:∃ e2,Ll (call AG (m+7)) e' g=.exit 1 e2 g∧∀ j,j=10∨j=11∨j=2∨j=8∨j=9→AB j e2=AB j e':=by
    unfold Ll
    simp only[sT,Nat.reduceLT,Nat.reduceEqDiff,if_true,if_false,reduceIte,AS,AQ,t52,t51,c1]
    refine⟨_,rfl,fun j hj=>?_⟩
    rcases hj with rfl|rfl|rfl|rfl|rfl<;>simp only[AE,Nat.reduceLT,Nat.reduceEqDiff,if_true,if_false,reduceIte]
   obtain⟨e2,r1,r2⟩:=hrun
   rw[r1]
   exact⟨rfl,e2,g,v,mv,ks,rfl,hie ▸ o,(r2 10 (by omega)).trans t10,(r2 11 (by omega)).trans t11,(r2 2 (by omega)).trans t2,(r2 8 (by omega)).trans t8,(r2 9 (by omega)).trans t9⟩
 obtain⟨e2,g2,v,mv,ks,q1,o,t10,t11,t2,t8,t9⟩:=run1
 have hkl:ks.length≤12:=by rw[← List.length_map (f:=Kt.core),o.cs];exact hl
 obtain⟨g3,k3,x3⟩:=Sq (m:=m+1) o.x.wf o.ko.lst hkl fun i x y hx hy=>hs i x.core y.core (by rw[← o.cs];exact JV hx) (by rw[← o.cs];exact JV hy)
 have o3:=o.ext x3
 have o4:=o3.ext (Hp.Ext.refl o3.x.wf).marked
 have lb:=CH o4.rb
 have old:∀ (kk:C) (F:CallF) (e:Env),Ja (pt h1.next) kk F e g3.marked=kk F e g3.marked:=fun kk F e=>D7 (by
  show h1.next<g3.next
  have:=o3.le;omega)
 obtain⟨g5,w,k5,x5,kw,kz⟩:=QZ (m:=m+3) o4.x.wf.quiet (o4.ko.lst.same (h':=g3.marked.quiet) rfl) (by omega) (fun k hk=>(o4.ok k hk).1.vs.one.2.1) fun i j x y hx hy hij=>hd i j x.core y.core (by rw[← o.cs];exact JV hx) (by rw[← o.cs];exact JV hy) hij
 have q5:∀ e:Env,AB 10 e=v→Ak .weak (AO 59 [AB 10]) (call AG (m+7)) e g3.marked=.ok w (g3.marked.back g5):=fun e he=>by
  refine DQ ?_ x5 (Nat.le_refl _)
  rw[Ab,AN,AX,he];exact k5
 have y5:g3.marked.Ext (g3.marked.back g5):=.back x5
 have kw5:(g3.marked.back g5).KO g3.marked.quiet.next w ks:=kw.same rfl
 generalize g3.marked.back g5=g6 at q5 y5 kw5
 have o6:=o4.ext y5
 have onew:cellsOf w=[w]∧A6 w=true:=⟨kw5.lst.one.1,kw5.lst.one.2.1⟩
 obtain⟨g7,k7,row7,n7,_,fx7,ex7⟩:=Qe o6.x.wf o6.row (off:=3) (show 3<7 by omega) big onew.1 onew.2
 have x7:=ex7 h o6.x (Nat.le_refl _)
 have kp7:∀ b el L,b≠h.next→g6.Row b el L→g7.Row b el L:=fun b el L hb r=>fx7.row o6.x.wf r hb
 have row7:g7.Row h.next 0 (slL bd tb w nilS (bads T M (n / 3)).length false):=row7
 have hk2:h2.next≤g3.marked.quiet.next:=o3.le
 have own7:∀ {u:Value} {xs:List Value},g6.Own h2.next 3 u xs→g7.Own h2.next 3 u xs:=fun o=>by
  rcases o with h1'|⟨b,h1',h2',h3',h4'⟩
  ·exact .inl h1'
  ·exact .inr ⟨b,h1',kp7 b _ _ (by omega) h2',h3',h4'⟩
 have ko7:g7.KO h2.next w ks:=by
  rcases kw5 with h1'|⟨b,h1',h2',h3',h4'⟩
  ·exact .inl h1'
  ·exact .inr ⟨b,h1',kp7 b _ _ (by omega) h2',by omega,h4'⟩
 have p0:O2 h g7 (mrk T M (n / 3)) h.next h1.next h2.next bd tb 0 (bads T M (n / 3)).length w mv nilS nilS ks:=⟨x7,row7,kp7 _ _ _ (by omega) o6.rb,ko7,fun k hk=>⟨(o6.ok k hk).1.keep fun b el L hb he r=>kp7 b el L (by have hb:h1.next<b:=hb;omega) r,(o6.ok k hk).2⟩,.inl ⟨rfl,rfl⟩,.inl ⟨rfl,rfl⟩,own7 o6.ms,fun b=>⟨fun h=>absurd h Gr,fun h=>absurd h Gr⟩,by rw[n7];exact o6.le⟩
 have mid:∃ e3,Wk (call AG (m+7)) e2 g2=gh (call AG (m+7)) e3 g7∧AB 9 e3=pt h1.next∧AB 11 e3=mv∧AB 17 e3=.func (.func 60) ⟨[]⟩ ⟨[pt h1.next]⟩∧AB 18 e3=nilS∧AB 102 e3=.int .i64 ((n / 3:Nat):Int)∧AB 103 e3=.int .i64 ((0:Nat):Int):=by
  unfold Wk
  simp only[sT,Nat.reduceLT,Nat.reduceEqDiff,if_true,if_false,reduceIte,Ab,AN,AX,t10,k3,BD,EW,t9,old,DY,AV,Ac,lb,q5,A4,Az,AM,AY,Nat.zero_add]
  rw[k7 _ _ _ _ (by simp[AE]) (by simp[AE])]
  simp only[sT,Nat.reduceLT,Nat.reduceEqDiff,if_true,if_false,reduceIte,Ab,AN,AX,Dc,t9,t2,s57',t8,GR,dv]
  exact⟨_,rfl,by simp only[AE,Nat.reduceLT,Nat.reduceEqDiff,if_true,if_false,reduceIte];exact t9,by simp only[AE,Nat.reduceLT,Nat.reduceEqDiff,if_true,if_false,reduceIte];exact t11,by simp[AE],by simp[AE],by simp[AE],by simp only[AE,Nat.reduceLT,Nat.reduceEqDiff,if_true,if_false,reduceIte];rfl⟩
 obtain⟨e3,p3,u9,u11,u17,u18,u102,u103⟩:=mid
 have run2:∃ e' g fv ou,A1 Lm (call AG (m+7)) e3 g7=.exit 4 e' g∧O2 h g (mrk T M (n / 3)) h.next h1.next h2.next bd tb (n / 3) (bads T M (n / 3)).length w mv fv ou ks∧AB 9 e'=pt h1.next∧AB 18 e'=ou:=by
  refine Bz (I:=fun i e' g=>∃ fv ou,O2 h g (mrk T M (n / 3)) h.next h1.next h2.next bd tb i (bads T M (n / 3)).length w mv fv ou ks∧i≤n / 3∧AB 9 e'=pt h1.next∧AB 11 e'=mv∧AB 17 e'=.func (.func 60) ⟨[]⟩ ⟨[pt h1.next]⟩∧AB 18 e'=ou∧AB 102 e'=.int .i64 ((n / 3:Nat):Int)∧AB 103 e'=.int .i64 (i:Int))
   (Q:=fun x=>∃ e' g fv ou,x=.exit 4 e' g∧O2 h g (mrk T M (n / 3)) h.next h1.next h2.next bd tb (n / 3) (bads T M (n / 3)).length w mv fv ou ks∧AB 9 e'=pt h1.next∧AB 18 e'=ou) (n / 3) (by omega) (fun i e' g ⟨fv,ou,o,hi,t9,t11,t17,t18,P9,Nu⟩=>?_) ⟨_,_,p0,Nat.zero_le _,u9,u11,u17,u18,u102,u103⟩
  by_cases hlt:i<n / 3
  ·left
   have hml:(mrk T M (n / 3)).length≤n / 3:=DT _ _
   obtain⟨e2,g2,fv2,ou2,r1,o2,r2,r3,r4⟩:=Wj (m:=m+1) W o hbs hlt (by omega) (by omega) (by omega) t9 t11 t17 t18 P9 Nu
   exact⟨hlt,e2,g2,r1,fv2,ou2,o2,hlt,(r4 9 (by omega)).trans t9,(r4 11 (by omega)).trans t11,(r4 17 (by omega)).trans t17,r2,(r4 102 (by omega)).trans P9,r3⟩
  ·right
   have hie:i=n / 3:=by omega
   have c1:iLt (i:Int) ((n / 3:Nat):Int)=false:=DU (by omega)
   have hrun:∃ e2,Lm (call AG (m+7)) e' g=.exit 4 e2 g∧AB 9 e2=pt h1.next∧AB 18 e2=ou:=by
    unfold Lm
    simp only[sT,Nat.reduceLT,Nat.reduceEqDiff,if_true,if_false,reduceIte,AS,AQ,Nu,P9,c1]
    exact⟨_,rfl,by simp only[AE,Nat.reduceLT,Nat.reduceEqDiff,if_true,if_false,reduceIte];exact t9,by simp only[AE,Nat.reduceLT,Nat.reduceEqDiff,if_true,if_false,reduceIte];exact t18⟩
   obtain⟨e2,r1,r2,r3⟩:=hrun
   rw[r1]
   exact⟨rfl,e2,g,fv,ou,rfl,hie ▸ o,r2,r3⟩
 obtain⟨e4,g8,fv,ou,q8,o8,v9,v18⟩:=run2
 have W8:=o8.x.wf
 have lt:=d.lt W
 have nD:∀ b,h.next<b→¬ (⟨h.next,bd,bm,bc,tb,n⟩:At).D b:=fun b hb=>by
  rintro (h1|h1|h1|h1)
  ·have h1:b=h.next:=h1
   omega
  ·have h1:b=bd:=h1
   omega
  ·have h1:b=bm:=h1
   omega
  ·have h1:b=bc:=h1
   omega
 have hbl:(bads T M (n / 3)).length≤n / 3:=DT _ _
 have hfl:(freeL ks (n / 3)).length≤n / 3:=DT _ _
 have hol:(outL ks (mrk T M (n / 3)) (n / 3)).length≤n / 3:=DT _ _
 have htlt:=Rt.lt W
 have sl:Sl g8 ⟨h.next,bd,bm,bc,tb,n⟩ T M c0 arm ks (freeL ks (n / 3)) w fv (bads T M (n / 3)).length false:=by
  refine⟨o8.row,d.ext W o8.x,Rt.ext W o8.x,hT,?_,fun k hk=>⟨(o8.ok k hk).1.mono fun b hb=>nD b (by have hb:h1.next<b:=hb;omega),(o8.ok k hk).2⟩,?_,⟨by show h.next≠bd;omega,by show h.next≠bm;omega,by show h.next≠bc;omega,?_,big⟩,⟨by omega,by omega,by omega,fun p hp=>?_⟩⟩
  ·rcases o8.ko with h1'|⟨b,h1',h2',h3',_⟩
   ·exact .inl h1'
   ·exact .inr ⟨b,h1',h2',nD b (by omega)⟩
  ·rcases o8.fs with h1'|⟨b,h1',h2',h3',_⟩
   ·exact .inl h1'
   ·exact .inr ⟨b,4,h1',h2',.inl rfl,nD b (by omega)⟩
  ·rintro (h1|h1|h1|h1)
   ·have h1:tb=h.next:=h1
    omega
   ·exact htb.1 h1
   ·exact htb.2.1 h1
   ·exact htb.2.2 h1
  ·have:=List.mem_range.1 (List.mem_filter.1 hp).1
   show 3 * p+3≤n
   omega
 obtain⟨g9,c9,arm9,k9,f9,s9',a9⟩:=M4 (m:=m+1) (k:=k) W8 sl (ps:=outL ks (mrk T M (n / 3)) (n / 3)) (pv:=ou) o8.os.vals (fun p hp=>by
  have:=List.mem_range.1 (List.mem_filter.1 hp).1
  show 3 * p+3≤n
  omega) (List.nodup_range.filter _) (by omega) (ha.le (by omega))
 have lb8:=CH o8.rb
 have c0':iNe 0 0=false:=Db rfl
 have lb9:=CH (f9.row W8 o8.rb (by
  rintro (q|q|q)
  ·have q:h1.next=bd:=q
   omega
  ·have q:h1.next=bm:=q
   omega
  ·have q:h1.next=bc:=q
   omega))
 have k9:call AG (m+7) 53 [pt h.next,ou] g8=.ok (.int .i64 0) g9:=k9
 refine⟨g9,h.next,c9,arm9,w,fv,ks,?_,(Fx.of o8.x).trans f9,s9',o.cs,Nat.le_refl _,a9,kz⟩
 rw[db rfl,fP,p1,Z1]
 simp only[BU,A3,q1,A9,BH]
 rw[Zz,p3,Z2]
 simp only[BU,A3,q8,A9,BH]
 unfold kP
 simp only[sT,Nat.reduceLT,Nat.reduceEqDiff,if_true,if_false,reduceIte,AV,Ac,v9,lb8,Ab,AN,AX,v18,k9,AS,AQ,c0',lb9,AP,DP]
end
end
noncomputable section
open Go
set_option maxRecDepth 100000
theorem bH:HS.k=.ptr 80:=by kernel_rfl
theorem bJ:XP.k=.slice 3:=by kernel_rfl
theorem bK:XQ.k=.slice 83:=by kernel_rfl
def B7(T:List Nat)(a b c:Int)(s:Nat)(l:List Nat):List Nat:=C3 T (F5 (Bd a.toNat b.toNat c.toNat s l.length (BX T l)))
theorem Eh{a b c:Int}{s n:Nat}(h:CA a b c s n=true):0≤a∧a≤1099511627776∧0≤b∧b<255∧1≤c∧c≤1099511627776∧(s=1∨s=2)∧n≤65536:=of_decide_eq_true h
theorem Dn{T:List Nat}{a b c:Int}{s:Nat}{l:List Nat}(h:CA a b c s l.length=true):(B7 T a b c s l).length=64:=by
 obtain⟨h1,h2,h3,h4,h5,h6,h7,h8⟩:=Eh h
 unfold B7 F5
 rw[Ez,Lo]
 have:=Mn (a:=a.toNat) (b:=b.toNat) (c:=c.toNat) (s:=s) (m:=l.length) (t:=BX T l) (by omega) (by omega) (by omega) (by omega) h8 (Fl T l)
 omega
theorem G0{T:List Nat}{a b c:Int}{s:Nat}{l:List Nat}:∀ x∈B7 T a b c s l,x<256:=Pv (Nm Jh)
theorem OG{l:List Nat}(h:l.length=64):Co l 0=l:=by
 unfold Co
 rw[Nat.mul_zero,List.drop_zero,List.take_of_length_le (by omega),h]
 exact List.append_nil l
def GK(p:Nat)(l:List Nat):List Deed:=(List.range ((l.length+63) / 64)).map (fun j=>Deed.w (p * 3+1+j) (Co l j))++[.f]
def Gm(p:Nat)(H:List Nat):List Deed:=[.w (p * 3) H,.f]
theorem L2:∀ (ds:List Deed) (M:List Nat) (cs:List (Nat×List Nat)),(GZ M cs (ds++[.f])).2=[]
 |[],M,cs=>rfl
 |.w i l::ds,M,cs=>L2 ds _ _
 |.f::ds,M,cs=>L2 ds _ _
theorem Zx{n p:Nat}{l:List Nat}(hp:3 * p+3≤n)(hl:1≤l.length∧l.length≤100)(hb:∀ x∈l,x<256){H:List Nat}(hH:H.length=64)(hHb:∀ x∈H,x<256):Fg n [] (GK p l++Gm p H):=by
 have hk:(l.length+63) / 64=1∨(l.length+63) / 64=2:=by omega
 unfold GK Gm
 rcases hk with hk|hk<;>rw[hk]
 ·exact⟨fun x hx=>(by cases hx),by show p * 3+1+0<n;omega,Cg _ _,K3 hb _,by simp,by simp,fun x hx=>(by cases hx),by omega,hH,hHb,by simp,by simp,trivial⟩
 ·refine⟨fun x hx=>(by cases hx),by show p * 3+1+0<n;omega,Cg _ _,K3 hb _,fun x hx=>?_,by show p * 3+1+1<n;omega,Cg _ _,K3 hb _,by simp,by simp,fun x hx=>(by cases hx),by omega,hH,hHb,by simp,by simp,trivial⟩
  have:=List.mem_singleton.1 hx
  rw[this]
  show p * 3+1+0≠p * 3+1+1
  omega
theorem Zy{n p:Nat}(hp:3 * p+3≤n){H:List Nat}(hH:H.length=64)(hHb:∀ x∈H,x<256):Fg n [] (Gm p H):=⟨fun x hx=>(by cases hx),by omega,hH,hHb,by simp,by simp,trivial⟩
def Gh(T M:List Nat)(p:Nat)(l H:List Nat):List Nat:=(GZ M [] (GK p l++Gm p H)).1
def IX(M:List Nat)(p:Nat)(H:List Nat):List Nat:=(GZ M [] (Gm p H)).1
section
variable {F:CallF}{e:Env}{h h' h0:Hp}{S:Nat→Prop}{A:At}{T M:List Nat}{c0 bad m k p:Nat}{arm:Int}{ks:List Kt}{fr:List Nat}{v lv fv:Value}{ov:Bool}
theorem bM(R:h.Row A.bs 0 (slL A.bd A.tb lv fv bad false)):call AG (m+1) 38 [pt A.bs] h=.ok (.int .i64 0) h:=by
 obtain⟨l0,_,_,_,_,_,l6⟩:=BN R
 have n1:∀ e:Env,AB 0 e=pt A.bs→oEq HS.k false (AB 0) (kV (.pointer none)) (call AG m) e h=.ok (.bool false) h:=fun e he=>Iw bH he
 have n2:∀ e:Env,AB 10 e=pt A.bd→oEq UQ.k false (AB 10) (kV (.pointer none)) (call AG m) e h=.ok (.bool false) h:=fun e he=>Iw bG he
 rw[dr rfl]
 unfold d38
 simp only[AJ,AK,Nat.succ_eq_add_one,Nat.zero_add,Nat.reduceAdd,sT,Nat.reduceLT,Nat.reduceEqDiff,if_true,if_false,reduceIte,gD,n1,A4,Az,AM,AY,Nat.zero_add,AV,Ac,l0,n2,l6,AP,Aa]
theorem fA{n:Nat}{h:Hp}(W:h.Wf){u:Value}{xs:List Value}(V:h.Vals u xs)(ha:Bg xs=true)(hl:xs.length≤1000000):
  ∃ h' v,call AG (n+1) 48 [u] h=.ok v h'∧h.Ext h'∧h'.WI (fun b=>h.next≤b) v xs:=by
 rcases V with ⟨rfl,rfl⟩|⟨b,off,c,el,L,h1,h2,h3,h4⟩
 ·have ne:∀ e:Env,AB 0 e=.slice none 0 0→oEq XP.k false (AB 0) (kV (.slice none 0 0)) (call AG n) e h=.ok (.bool true) h:=fun e he=>Nb (t:=0) bJ he
  refine⟨h,nilS,?_,.refl W,.inl ⟨rfl,rfl⟩⟩
  rw[QW rfl]
  unfold d48
  simp only[AJ,AK,Nat.succ_eq_add_one,Nat.zero_add,Nat.reduceAdd,sT,Nat.reduceLT,Nat.reduceEqDiff,if_true,if_false,reduceIte,ne,AP,Aa]
 ·have V:h.Vals u xs:=.inr ⟨b,off,c,el,L,h1,h2,h3,h4⟩
  have x1:=(Hp.Ext.refl W).pushRow 0 []
  have R:=Hp.Row.new W 0 []
  have es:=fun (e:Env) (t:List Value)=>Qb (F:=call AG n) (e:=e) (t:=t) W
  have n1:(h.pushRow 0 []).next=h.next+1:=rfl
  generalize h.pushRow 0 []=g at x1 R es n1
  have ne:∀ e:Env,AB 0 e=u→oEq XP.k false (AB 0) (kV (.slice none 0 0)) (call AG n) e h=.ok (.bool false) h:=fun e he=>Na (t:=0) bJ (he.trans h1)
  have V1:=V.ext W x1
  have big:=W.big
  rcases Nat.eq_zero_or_pos xs.length with hz|hz
  ·obtain rfl:xs=[]:=List.eq_nil_of_length_eq_zero hz
   have ap:Eb 1 8 3 (.slice (some ⟨h.next,0,none⟩) 0 0) u g=.ok (.slice (some ⟨h.next,0,none⟩) 0 0) (g.wr h.next 0 []):=PB x1.wf big R (fun k=>V1.src rfl k) V1.lenV
   have R2:=R.wr_self x1.wf (off:=0) (vs:=[]) (Nat.le_refl _)
   refine⟨_,.slice (some ⟨h.next,0,none⟩) 0 0,?_,R.wr_ext x1 (Nat.le_refl _) (off:=0) (vs:=[]) (Nat.le_refl _),.inr ⟨h.next,0,rfl,R2,.inr rfl,Nat.le_refl _⟩⟩
   rw[QW rfl]
   unfold d48
   simp only[AJ,AK,Nat.succ_eq_add_one,Nat.zero_add,Nat.reduceAdd,sT,Nat.reduceLT,Nat.reduceEqDiff,if_true,if_false,reduceIte,ne,es,Bn,ap,AP,Aa]
  ·obtain⟨h2,a1,a2,a3,a4,a5⟩:=Hb (eb:=8) (en:=3) x1 R (es:=1) (fun k=>V1.src rfl k) V1.lenV (by omega) hz ha (by omega)
   refine⟨h2,_,?_,a2,.inr ⟨g.next,3+1,rfl,a3,.inl rfl,by omega⟩⟩
   rw[QW rfl]
   unfold d48
   simp only[AJ,AK,Nat.succ_eq_add_one,Nat.zero_add,Nat.reduceAdd,sT,Nat.reduceLT,Nat.reduceEqDiff,if_true,if_false,reduceIte,ne,es,Bn,a1,AP,Aa]
theorem U6(W:h.Wf)(K:h.KW S v ks)(hu:∀ k∈ks,A6 k.u=true)(h0:ks=[]→v=.slice none 0 0)(hl:ks.length≤10000):
  ∃ h' w,call AG (m+1) 49 [v] h=.ok w h'∧h.Ext h'∧h'.KO h.next w ks:=by
 rcases K with ⟨rfl,rfl⟩|⟨b,h1,h2,h3⟩
 ·have ne:∀ e:Env,AB 0 e=.slice none 0 0→oEq XQ.k false (AB 0) (kV (.slice none 0 0)) (call AG m) e h=.ok (.bool true) h:=fun e he=>Nb (t:=0) bK he
  refine⟨h,nilS,?_,.refl W,.inl ⟨rfl,rfl⟩⟩
  rw[Uy rfl]
  unfold d49
  simp only[AJ,AK,Nat.succ_eq_add_one,Nat.zero_add,Nat.reduceAdd,sT,Nat.reduceLT,Nat.reduceEqDiff,if_true,if_false,reduceIte,ne,AP,Aa]
 ·have hpos:0<ks.length:=by
   rcases Nat.eq_zero_or_pos ks.length with hz|hz
   ·have:=h0 (List.eq_nil_of_length_eq_zero hz)
    rw[this]at h1;cases h1
   ·exact hz
  have x1:=(Hp.Ext.refl W).pushRow 0 []
  have R:=Hp.Row.new W 0 []
  have es:=fun (e:Env) (t:List Value)=>Qb (F:=call AG m) (e:=e) (t:=t) W
  have n1:(h.pushRow 0 []).next=h.next+1:=rfl
  generalize h.pushRow 0 []=g at x1 R es n1
  have ne:∀ e:Env,AB 0 e=v→oEq XQ.k false (AB 0) (kV (.slice none 0 0)) (call AG m) e h=.ok (.bool false) h:=fun e he=>Na (t:=0) bK (he.trans h1)
  have R1:=h2.ext W x1
  have ha:Bg (flK ks)=true:=by
   clear h1 h2 R1 hl hpos h0
   induction ks with
   |nil=>rfl
   |cons k l ih=>
    refine Sd fun x hx=>?_
    obtain⟨y,hy,hxy⟩:=List.mem_flatMap.1 hx
    have huy:=hu y hy
    have hxy:x∈[Value.int .i64 y.a,.int .i64 y.b,.int .i64 y.c,.int .u8 (y.s:Int),y.u,.int .i64 (y.p:Int)]:=hxy
    simp only[List.mem_cons,List.mem_nil_iff,or_false]at hxy
    rcases hxy with rfl|rfl|rfl|rfl|rfl|rfl
    all_goals first|exact huy|rfl
  have big:=W.big
  obtain⟨h2',a1,a2,a3,a4,a5⟩:=Hb (eb:=64) (en:=83) (u:=v) (cs:=flK ks) (n:=ks.length) x1 R (es:=6) (fun K=>by
   have e1:=R1.srcE (es:=6) (off:=0) (n:=ks.length) (sl:=ks.length) (c:=ks.length) (k:=K) (by rw[Dy];omega)
   rw[h1,e1,List.drop_zero,List.take_of_length_le (by rw[Dy];omega)]) (by rw[h1];rfl) (by rw[Dy];omega) hpos ha (by omega)
  refine⟨h2',_,?_,a2,.inr ⟨g.next,rfl,a3,by omega,by omega⟩⟩
  rw[Uy rfl]
  unfold d49
  simp only[AJ,AK,Nat.succ_eq_add_one,Nat.zero_add,Nat.reduceAdd,sT,Nat.reduceLT,Nat.reduceEqDiff,if_true,if_false,reduceIte,ne,es,Bn,a1,AP,Aa]
theorem YI{xs:List Value}{z:Value}(o:h.WI S v (z::xs)):∃ w,h.Vals w xs∧∀ (F:CallF) (e:Env) (x:O),x e=v→Dj 3 1 x (some (kV (.int .i64 1))) none none F e h=.ok w h:=by
 rcases o with ⟨_,h2⟩|⟨b,el,hv,Rb,hel,_⟩
 ·cases h2
 ·have hl:(z::xs).length=xs.length+1:=rfl
  have key:∀ (F:CallF) (e:Env) (x:O),x e=v→Dj 3 1 x (some (kV (.int .i64 1))) none none F e h=CB (some ⟨b,0,none⟩) 1 1 (xs.length+1) (xs.length+1) h:=fun F e x hx=>by
   show(match x e with|.slice a n c=>Dv e n c (some (kV (.int .i64 1))) none none (fun l hh m=>Fz 3 1 a false l hh m h)|_=>.no)=_
   rw[hx,hv,hl]
   show(bif Nat.ble 1 (xs.length+1)then Fz 3 1 (some ⟨b,0,none⟩) false 1 (xs.length+1) (xs.length+1) h else .no)=_
   rw[Aq.2 (show 1≤xs.length+1 by omega)]
   show(bif F4 3 (some ⟨b,0,none⟩) h then CB (some ⟨b,0,none⟩) 1 1 (xs.length+1) (xs.length+1) h else .no)=_
   have:F4 3 (some ⟨b,0,none⟩) h=true:=by
    obtain⟨cc,hcc,_⟩:=Rb.rowOf
    unfold F4
    simp only[hcc]
    rcases hel with rfl|rfl<;>rfl
   rw[this];rfl
  cases xs with
  |nil=>
   refine⟨.slice (some ⟨b,0,none⟩) 0 0,.inr ⟨b,0,0,el,_,rfl,Rb,Nat.zero_le _,rfl⟩,fun F e x hx=>?_⟩
   rw[key F e x hx];rfl
  |cons y ys=>
   refine⟨.slice (some ⟨b,1,none⟩) (ys.length+1) (ys.length+1),.inr ⟨b,1,ys.length+1,el,_,rfl,Rb,?_,?_⟩,fun F e x hx=>?_⟩
   ·show 1+(ys.length+1)≤ys.length+1+1
    omega
   ·show((z::y::ys).drop 1).take (y::ys).length=y::ys
    exact List.take_length
   ·rw[key F e x hx]
    show CB (some ⟨b,0,none⟩) 1 1 (ys.length+1+1) (ys.length+1+1) h=_
    unfold CB
    simp only[Ao]
    have e1:Nat.beq (ys.length+1+1) 1=false:=rfl
    have e2:Nat.sub (ys.length+1+1) 1=ys.length+1:=rfl
    simp only[e1,e2]
theorem Up{g1 g2 g3 g5:O}{a b c:Int}{u:Value}(h1:g1 e=.int .i64 a)(h2:g2 e=.int .i64 b)(h3:g3 e=.int .i64 c)(h5:g5 e=u)(hc:cellsOf u=[u])(hk:known u=true):
  Bj FN.zero [(0,1,g1),(1,1,g2),(2,1,g3),(3,1,kV (.int .u8 1)),(4,1,g5)] F e h=.ok (CI a b c 1 u) h:=by
 rw[EO,RL,BC (hk:=by rw[h1];rfl),h1,BC (hk:=by rw[h2];rfl),h2,BC (hk:=by rw[h3];rfl),h3,BC,BC (hk:=by rw[h5];exact hk),h5,hc]
 simp only[G6,EG,List.length_singleton,List.length_cons,List.length_nil,A0,over,List.take,List.drop,List.append_eq,List.nil_append,List.cons_append,Nat.reduceAdd,Nat.reduceLeDiff,if_true,CV,reduceIte]
 rfl
theorem Sl.bsx{ks':List Kt}{fr':List Nat}{lv' fv':Value}{bad':Nat}{ov':Bool}(s:Sl h A T M c0 arm ks fr lv fv bad ov)(W:h.Wf)(x:Fx (fun b=>b=A.bs) h h')(row:h'.Row A.bs 0 (slL A.bd A.tb lv' fv' bad' ov'))(ls:h'.KW (fun b=>¬ A.D b) lv' ks')(ko:∀ k∈ks',KtOk h' (fun b=>¬ A.D b) k)
  (fs:h'.WI (fun b=>¬ A.D b) fv' (ints .i64 (fr'.map Int.ofNat)))(le:ks'.length≤1000∧fr'.length≤1000∧bad'≤1000∧∀ p∈fr',3 * p+3≤A.n):Sl h' A T M c0 arm ks' fr' lv' fv' bad' ov':=
 ⟨row,s.dk.fr W x (fun h=>s.ne.1 h.symm) (fun h=>s.ne.2.1 h.symm) (fun h=>s.ne.2.2.1 h.symm),x.row W s.tab (fun h=>s.ne.2.2.2.1 (.inl h)),s.tok,ls,ko,fs,s.ne,le⟩
end
end
noncomputable section
open Go
set_option maxRecDepth 100000
def prC:C:=(AF (AC 104) (AO 46 [(AB 0),(AB 14)])
(AF (AC 106) (AO 45 [(AB 0),(AB 104),(AB 15)])
(AF (AC 107) (A8 1 8 75 (AB 17) (AB 106))
(AF (AC 108) (AO 47 [(AB 0),(AB 107)])
(AF (AC 18) (AD (AB 108))
(AF (AC 110) (Ad iNe .i64 (AB 18) (kV (.int .i64 0)))
(AW (AB 110)
(AF (AC 10) (AD (AB 18))
Aj)
(AF (AC 114) (BJ (AB 0))
(AF (AC 115) (AH 4 (AB 114))
(AF (AC 116) (AL (AB 115))
(AF (AC 117) (Dj 3 1 (AB 116) (some (kV (.int .i64 1))) none none)
(AF (AC 118) (AO 48 [(AB 117)])
(AF (AC 119) (BJ (AB 0))
(AF (AC 120) (AH 4 (AB 119))
(cDo (Ae 1 (AB 120) (AB 118))
(Bm (AF (AC 123) (BJ (AB 0))
(AF (AC 124) (AH 3 (AB 123))
(AF (AC 125) (AL (AB 124))
(AF (AC 126) (Ak .weak (AO 49 [(AB 125)]))
(Ds (AB 12) (Ce (AB 12) []
(AF (AC 127) (BE 5 (AB 12))
(AF (AC 129) (Bj ED.zero [(0,5,(AB 127)),(5,1,(AB 14))])
(AF (AC 130) (Ak .strong (Af 1 (BG ED.zero 1) [(0,6,(AB 129))]))
(AF (AC 131) (Ak .free (A8 6 64 83 (AB 126) (AB 130)))
(AF (AC 132) (BJ (AB 0))
(AF (AC 133) (AH 3 (AB 132))
(cDo (Ak .free (Ae 1 (AB 133) (AB 131)))
(AF (AC 135) (BJ (AB 0))
(AF (AC 136) (AH 3 (AB 135))
(AF (AC 137) (AL (AB 136))
(AF (AC 138) (AO 50 [(AB 137),(kV (.func (.func 51) #[] #[]))])
(AF (AC 10) (AD (kV (.int .i64 0)))
Aj))))))))))))))))))))))))))))))))))
def kU:C:=(Bm (AF (AC 81) (BJ (AB 0))
(AF (AC 82) (AH 1 (AB 81))
(AF (AC 83) (AL (AB 82))
(AF (AC 84) (BE 5 (AB 12))
(AF (AC 85) (Ak .free (AO 44 [(AB 83),(AB 84)]))
(AF (AC 86) (AU 0 (AB 85))
(AF (AC 87) (AU 1 (AB 85))
(AF (AC 15) (AD (AB 86))
(AF (AC 16) (AD (AB 87))
(AF (AC 17) (AD (kV (.slice none 0 0)))
(AF (AC 89) (BR (AB 4))
(AF (AC 90) (Ad iGt .i64 (AB 89) (kV (.int .i64 0)))
(A5 (AW (AB 90)
(Bm (AF (AC 94) (Ak .weak (AO 46 [(AB 0),(AB 14)]))
(AF (AC 95) (Bh .i64 (Ax .i64) (AB 94) (kV (.int .i64 1)))
(AF (AC 96) (AH 4 (AB 12))
(Ds (AB 96) (Ce (AB 96) []
(AF (AC 97) (AL (AB 96))
(AF (AC 98) (Ak .free (AO 45 [(AB 0),(AB 95),(AB 97)]))
(AF (AC 17) (AD (AB 98))
Ai)))))))))
Ai)
prC))))))))))))))
theorem gn:prB=kU:=rfl
theorem fL:d11=YR:=rfl
section
variable {F:CallF}{e:Env}{h h' h0:Hp}{S:Nat→Prop}{A:At}{T M:List Nat}{c0 bad m k p:Nat}{arm:Int}{ks:List Kt}{fr:List Nat}{v lv fv:Value}{ov:Bool}
theorem Sh(W:h.Wf)(s:Sl h A T M c0 arm ks (p::fr) lv fv bad false)(hlv:ks=[]→lv=.slice none 0 0){a b c:Int}{l:List Nat}{o:Addr}{cp:Nat}(V:h.Vals (.slice (some o) l.length cp) (l.map bv))(hb:∀ x∈l,x<256)(hl:1≤l.length∧l.length≤100)
  (hr:CA a b c 1 l.length=true)(hf:ks.any (Ej a b c)=false)(hst:Ns a b c ks=false)(hso:∀ (i:Nat) (x y:Kc),(ks.map Kt.core++[⟨a,b,c,1,l,p⟩])[i]? =some x→(ks.map Kt.core++[⟨a,b,c,1,l,p⟩])[i+1]? =some y→0≤Tw y x)(hkl:ks.length≤10)(ha:CT arm (k+10)):
  ∃ h' c1 arm' lv' fv' k',call AG (m+8) 11 [pt A.bs,.int .i64 a,.int .i64 b,.int .i64 c,.slice (some o) l.length cp] h=.ok (.int .i64 0) h'∧Fx A.D h h'∧
   Sl h' A T (Gh T M p l (B7 T a b c 1 l)) c1 arm' (ks++[k']) fr lv' fv' bad false∧k'.core=⟨a,b,c,1,l,p⟩∧CT arm' k:=by
 have big:=W.big
 have hD:=s.D_lt W
 have hp3:3 * p+3≤A.n:=s.le.2.2.2 p List.mem_cons_self
 have hn:=s.dk.n1
 have hH:=Dn (T:=T) hr
 have hHb:=G0 (T:=T) (a:=a) (b:=b) (c:=c) (s:=1) (l:=l)
 have c00:iNe 0 0=false:=Db rfl
 have k0:=bM (m:=m+6) s.row
 obtain⟨h1,vc,k1,x1,mk1⟩:=OH (n:=m+6) W V (by omega)
 obtain⟨bc,elc,hvc,_⟩:=mk1
 have mk1:Mk h1 h.next vc l:=⟨bc,elc,hvc,by assumption⟩
 have oc:cellsOf vc=[vc]∧A6 vc=true∧known vc=true:=by rw[hvc];exact⟨rfl,rfl,rfl⟩
 have bl:=fun (F:CallF) (e:Env) (e1:AB 1 e=.int .i64 a) (e2:AB 2 e=.int .i64 b) (e3:AB 3 e=.int .i64 c) (e4:AB 28 e=vc)=>Up (F:=F) (h:=h1) (g1:=AB 1) (g2:=AB 2) (g3:=AB 3) (g5:=AB 28) e1 e2 e3 e4 oc.1 oc.2.2
 have al:=fun (F:CallF) (e:Env)=>Bt (F:=F) (e:=e) x1.wf (n:=5) (t:=CN)
 have Ra:=Hp.Row.alloc x1.wf Fo (show(A0 0 0 0 0 nilS).length=5 from rfl)
 have y2:h1.Ext (h1.push (.cells CN 5 0)):=(Hp.Ext.refl x1.wf).push _
 have n2:(h1.push (.cells CN 5 0)).next=h1.next+1:=rfl
 generalize h1.push (.cells CN 5 0)=h2 at al Ra y2 n2
 obtain⟨st,_,y3,R12,n3⟩:=J6 x1.wf y2 (Nat.le_refl _) Ra rfl (a:=a) (b:=b) (c:=c) (s:=1) (u:=vc) oc.2.1
 generalize h2.wr h1.next 0 (A0 a b c 1 vc)=h3 at st y3 R12 n3
 have x3:=x1.trans y3
 obtain⟨_,_,_,_,_,ld12⟩:=Ca R12
 have lnc:∀ g,Fc vc g=.ok (.int .i64 (l.length:Int)) g:=fun g=>by rw[hvc];rfl
 have k4:=Ly (n:=m+6) x3.wf (a:=a) (b:=b) (c:=c) (s:=1) (u:=vc) lnc
 rw[hr]at k4
 have y4:=(Hp.Ext.refl x3.wf).pushRow 0 (A0 a b c 1 vc)
 generalize h3.pushRow 0 (A0 a b c 1 vc)=h4 at k4 y4
 have x4:=x3.trans y4
 have lnu:∀ g:Hp,Fc (.slice (some o) l.length cp) g=.ok (.int .i64 (l.length:Int)) g:=fun g=>rfl
 obtain⟨_,_,l2,_⟩:=BN (s.row.ext W x4)
 have c1:iGt (l.length:Int) 100=false:=Gk (by omega)
 have s4:=s.ext W x4
 obtain⟨h5,k5,x5⟩:=KE (m:=m+4) x4.wf s4.row s4.ls.ks (by omega) a b c
 have hidx:FK (Ej a b c) 0 ks= -1:=by
  rcases NO (Ej a b c) ks 0 with ⟨_,h2⟩|⟨h1,_⟩
  ·exact h2
  ·rw[hf]at h1;cases h1
 rw[hidx]at k5
 have c2:iGe (-1) 0=false:=FZ (by omega)
 have x45:=x4.trans x5
 have s5:=s.ext W x45
 obtain⟨h6,k6,x6⟩:=P8 (m:=m+3) x45.wf s5.row s5.ls.ks (by omega) a b c
 rw[hst]at k6
 have x46:=x45.trans x6
 have s6:=s.ext W x46
 obtain⟨_,l1,_,_,l4,_⟩:=BN s6.row
 have hil:(ints .i64 ((p::fr).map Int.ofNat)).length=fr.length+1:=by unfold ints;rw[List.length_map,List.length_map];rfl
 have lnf:=s6.fs.vals.len
 rw[hil]at lnf
 have c3:iEq ((fr.length+1:Nat):Int) 0=false:=Cz (by omega)
 obtain⟨af,g1,g2⟩:=s6.fs.vals.at (i:=0) (by rw[hil];omega)
 have g1:Fa 1 fv (.int .i64 0) h6=.ok (.pointer (some af)) h6:=g1
 have g2:Gl (.pointer (some af)) h6=.ok (.int .i64 (p:Int)) h6:=g2
 have pre:∃ e1,YR (call AG (m+7)) (AZ e0 0 [pt A.bs,.int .i64 a,.int .i64 b,.int .i64 c,.slice (some o) l.length cp]) h=prB (call AG (m+7)) e1 h6∧AB 0 e1=pt A.bs∧AB 4 e1=.slice (some o) l.length cp∧AB 12 e1=pt h1.next∧AB 14 e1=.int .i64 (p:Int):=by
  unfold YR
  simp only[AJ,AK,Nat.succ_eq_add_one,Nat.zero_add,Nat.reduceAdd,sT,Nat.reduceLT,Nat.reduceEqDiff,if_true,if_false,reduceIte,gD,Ab,AN,AX,k0,AS,AQ,c00,k1,bl,al,Av,st,BP,BF,ld12,k4,CG,CF,Bool.not_true,Ay,lnu,A4,Az,AM,AY,Nat.zero_add,AV,Ac,l2,c1,k5,c2,k6,l4,lnf,c3]
  rw[Bb]
  simp only[sT,Nat.reduceLT,Nat.reduceEqDiff,if_true,if_false,reduceIte,g1,AV,g2]
  exact⟨_,rfl,by simp[AE],by simp[AE],by simp[AE],by simp[AE]⟩
 obtain⟨e1,p1,t0,t4,t12,t14⟩:=pre
 have x6m:=x46.marked
 have R12m:h6.marked.Row h1.next 0 (A0 a b c 1 vc):=(((R12.ext x3.wf y4).ext x4.wf x5).ext x45.wf x6).same rfl
 obtain⟨_,_,_,_,_,ld12m⟩:=Ca R12m
 obtain⟨_,l1m,_⟩:=BN (s.row.ext W x6m)
 have mkm:Mk h6.marked h.next vc l:=((mk1.ext x1.wf y3).ext x3.wf ((y4.trans x5).trans x6)).same rfl
 obtain⟨h7,x7,hd⟩:=SD (n:=m+4) x6m.quiet.wf ((s.tab.ext W x6m).same (h':=h6.marked.quiet) rfl) s.tok (a:=a) (b:=b) (c:=c) (s:=1) ((mkm.vals).same (h':=h6.marked.quiet) rfl) hb (by omega) (by omega)
 rcases hd with ⟨_,vh,k7,mkh⟩|⟨hrf,_⟩
 case inr=>rw[hr]at hrf;cases hrf
 have q7:∀ e:Env,AB 83 e=pt A.tb→AB 84 e=CI a b c 1 vc→Ak .free (AO 44 [AB 83,AB 84]) (call AG (m+7)) e h6.marked=.ok (.tuple ⟨[vh,.int .i64 0]⟩) (h6.marked.back h7):=fun e e1 e2=>by
  refine Bq ?_
  rw[Ab,AN,AN,AX,e1,e2];exact k7
 have y8:h6.Ext (h6.marked.back h7):=(Hp.Ext.refl x46.wf).marked.trans (.back x7)
 have mkh8:Mk (h6.marked.back h7) h6.next vh (B7 T a b c 1 l):=mkh.same rfl
 generalize h6.marked.back h7=h8 at q7 y8 mkh8
 have x8:=x46.trans y8
 have c4:iGt (l.length:Int) 0=true:=Hz (by omega)
 have x8m:=x8.marked
 have s8m:=s.ext W x8m
 have k9:=MN (m:=m+5) (s8m.row.same (h':=h8.marked.quiet) rfl) (p:=p) (by omega)
 have q9:∀ e:Env,AB 0 e=pt A.bs→AB 14 e=.int .i64 (p:Int)→Ak .weak (AO 46 [AB 0,AB 14]) (call AG (m+7)) e h8.marked=.ok (.int .i64 ((p * 3:Nat):Int)) (h8.marked.back h8.marked.quiet):=fun e e1 e2=>by
  refine HL x8m.wf ?_ (Nat.le_refl _)
  rw[Ab,AN,AN,AX,e1,e2];exact k9
 have y9:h8.Ext (h8.marked.back h8.marked.quiet):=Hp.Ext.back2 (Hp.Ext.refl x8.wf).marked (Hp.Ext.refl x8.wf).marked.quiet
 have n9:(h8.marked.back h8.marked.quiet).next=h8.next:=rfl
 have m9:(h8.marked.back h8.marked.quiet).mark=h8.next:=rfl
 generalize h8.marked.back h8.marked.quiet=h9 at q9 y9 n9 m9
 have x9:=x8.trans y9
 have ad:=C1 (h:=h9) (i:=p * 3) (by omega)
 have R12x:∀ g:Hp,h6.Ext g→g.Row h1.next 0 (A0 a b c 1 vc):=fun g x=>((((R12.ext x3.wf y4).ext x4.wf x5).ext x45.wf x6)).ext x46.wf x
 obtain⟨_,_,_,_,lv12,_⟩:=Ca (R12x h9 (y8.trans y9))
 have hr12:h1.next<h9.mark:=by
  rw[m9]
  have:=(R12x h8 y8).lt x8.wf
  exact this
 have old9:∀ (off:Nat) (kk:C) (F:CallF) (e:Env),Ja (.pointer (some ⟨h1.next,off,none⟩)) kk F e h9=kk F e h9:=fun off kk F e=>D7 hr12
 have s9:=s.ext W x9
 have mk9:Mk h9 h.next vc l:=(((mk1.ext x1.wf y3).ext x3.wf ((y4.trans x5).trans x6)).ext x46.wf (y8.trans y9))
 obtain⟨h10,dv1,k10,x10,D1⟩:=Ji (m:=m+6) x9.wf.quiet (s9.row.same (h':=h9.quiet) rfl) (fun b hb=>by have:=hD b hb;have:=x9.next;show b<h9.next;omega) (sct:=p * 3+1) (by omega) (mk9.same (h':=h9.quiet) rfl) (by omega)
 have q10:∀ e:Env,AB 0 e=pt A.bs→AB 95 e=.int .i64 ((p * 3+1:Nat):Int)→AB 97 e=vc→Ak .free (AO 45 [AB 0,AB 95,AB 97]) (call AG (m+7)) e h9=.ok dv1 (h9.back h10):=fun e e1 e2 e3=>by
  refine Bq ?_
  rw[Ab,AN,AN,AN,AX,e1,e2,e3];exact k10
 have y11:h9.Ext (h9.back h10):=.back x10
 have D11:CJ (h9.back h10) A h9.next dv1 (GK p l):=D1.same rfl
 generalize h9.back h10=h11 at q10 y11 D11
 have x11:=x9.trans y11
 have s11:=s.ext W x11
 have k11:=MN (m:=m+5) s11.row (p:=p) (by omega)
 have mkh11:Mk h11 h6.next vh (B7 T a b c 1 l):=(mkh8.ext x8.wf (y9.trans y11))
 obtain⟨h12,dv2,k12,x12,D2⟩:=Ji (m:=m+6) x11.wf s11.row (fun b hb=>by have:=hD b hb;have:=x11.next;omega) (sct:=p * 3) (by omega) mkh11 (by omega)
 rw[hH,show(List.range ((64+63) / 64)).map (fun j=>Deed.w (p * 3+j) (Co (B7 T a b c 1 l) j))++[.f]=Gm p (Co (B7 T a b c 1 l) 0)from rfl,OG hH]at D2
 have x12':=x11.trans x12
 obtain⟨h13,dv3,k13,x13,D3,n13,kp13⟩:=CJ.app x12' (by have:=x9.next;omega) (by have:=y11.next;have:=x12.next;omega) (D11.ext x11.wf x12) D2 (by show 0<2;omega) (by
  have:(GK p l).length≤3:=by
   unfold GK
   rw[List.length_append,List.length_map,List.length_range]
   show _+1≤3
   omega
  show _+2≤1000
  omega)
 have s13:=s.ext W x13
 obtain⟨vs,w1,w2,w3⟩:=D3.ends fun b hb=>by have:=hD b hb;have:=x9.next;omega
 have hdl:(GK p l++Gm p (B7 T a b c 1 l)).length≤6:=by
  rw[List.length_append]
  unfold GK
  rw[List.length_append,List.length_map,List.length_range]
  show _+1+2≤6
  omega
 obtain⟨h14,c14,arm14,k14,f14,d14,ea⟩:=QN (m:=m+2) x13.wf s13.row s.nK s13.dk w1 w2 w3 (Zx hp3 hl hb hH hHb) (ha.le (by omega)) (by omega)
 have hcs:(GZ M [] (GK p l++Gm p (B7 T a b c 1 l))).2=[]:=by
  have:GK p l++Gm p (B7 T a b c 1 l)=(GK p l++[.w (p * 3) (B7 T a b c 1 l)])++[.f]:=by rw[List.append_assoc];rfl
  rw[this];exact L2 _ _ _
 rw[hcs]at d14
 have s14:Sl h14 A T (Gh T M p l (B7 T a b c 1 l)) c14 arm14 ks (p::fr) lv fv bad false:=(s13.sc.fx x13.wf f14).sl d14
 have a14:CT arm14 k:=by rw[ea];exact Gz _ k arm (ha.le (by omega))
 obtain⟨_,_,_,l3',l4',_⟩:=BN s14.row
 obtain⟨wc,Vc,ct⟩:=YI (xs:=ints .i64 (fr.map Int.ofNat)) (z:=.int .i64 (p:Int)) s14.fs
 have hone:Bg (ints .i64 (fr.map Int.ofNat))=true:=Jj .i64 _
 obtain⟨h15,fv',k15,x15,wi15⟩:=fA (n:=m+6) f14.wf Vc hone (by have:=s.le.2.1;unfold ints;rw[List.length_map,List.length_map];rw[List.length_cons]at this;omega)
 have s15:=s14.ext f14.wf x15
 have onf:cellsOf fv'=[fv']∧A6 fv'=true:=by
  rcases wi15 with ⟨h1,_⟩|⟨b,el,h1,_⟩<;>rw[h1]<;>exact⟨rfl,rfl⟩
 obtain⟨h16,st16,row16,n16,f16,_⟩:=KF x15.wf s15.row (off:=4) (show 4<7 by omega) s.ne.2.2.2.2 onf.1 onf.2
 have hDn14:∀ b,A.D b→b<h14.next:=fun b hb=>by have:=hD b hb;have:=x13.next;have:=f14.next;omega
 have row16:h16.Row A.bs 0 (slL A.bd A.tb lv fv' bad false):=row16
 have nbs:∀ b,¬ A.D b→b≠A.bs:=fun b hb h=>hb (.inl h)
 have s16:Sl h16 A T (Gh T M p l (B7 T a b c 1 l)) c14 arm14 ks fr lv fv' bad false:=s15.bsx x15.wf f16 row16 (s15.ls.keep fun b el L hb r=>f16.row x15.wf r (nbs b hb)) (fun k hk=>⟨(s15.ko k hk).1.keep fun b el L hb _ r=>f16.row x15.wf r (nbs b hb),(s15.ko k hk).2⟩)
  (by
   rcases wi15 with h1|⟨b,el,h1,h2,h3,h4⟩
   ·exact .inl h1
   ·have hb:¬ A.D b:=fun h=>by have:=hDn14 b h;omega
    exact .inr ⟨b,el,h1,f16.row x15.wf h2 (nbs b hb),h3,hb⟩) ⟨s.le.1,by have:=s.le.2.1;rw[List.length_cons]at this;omega,s.le.2.2.1,fun q hq=>s.le.2.2.2 q (List.mem_cons_of_mem _ hq)⟩
 have W16:=f16.wf
 have xm16:=(Hp.Ext.refl W16).marked
 have s16m:=s16.ext W16 xm16
 obtain⟨_,_,_,l3m,_⟩:=BN s16m.row
 obtain⟨h17,w17,k17,x17,ko17⟩:=U6 (m:=m+6) xm16.quiet.wf ((s16m.same (h':=h16.marked.quiet) rfl).ls) (fun k hk=>(s16.ko k hk).1.vs.one.2.1) hlv (by omega)
 have q17:∀ e:Env,AB 125 e=lv→Ak .weak (AO 49 [AB 125]) (call AG (m+7)) e h16.marked=.ok w17 (h16.marked.back h17):=fun e he=>by
  refine DQ ?_ x17 (Nat.le_refl _)
  rw[Ab,AN,AX,he];exact k17
 have y18:h16.Ext (h16.marked.back h17):=Hp.Ext.back2 xm16 (xm16.quiet.trans x17)
 have ko18:(h16.marked.back h17).KO h16.next w17 ks:=ko17.same rfl
 have m18:(h16.marked.back h17).mark=h16.next:=rfl
 generalize h16.marked.back h17=h18 at q17 y18 ko18 m18
 have hr12lt:h1.next<h6.next:=(R12x h6 (.refl x46.wf)).lt x46.wf
 have hl6:h6.next≤h13.next:=by
  have a1:=y8.next;have a2:=y9.next;have a3:=y11.next;have a4:=x12.next
  omega
 have nD12:¬ A.D h1.next:=fun h=>by have:=hD _ h;have:=x1.next;omega
 have R12':=kp13 _ _ _ (.inl rfl) (R12x h12 (((y8.trans y9).trans y11).trans x12))
 have nK12:=V6 nD12
 have R1214:=f14.row x13.wf R12' nK12
 have R1216:=f16.row x15.wf (R1214.ext f14.wf x15) (nbs _ nD12)
 obtain⟨_,_,_,_,_,ld18⟩:=Ca (R1216.ext W16 y18)
 have old18:∀ (off:Nat) (kk:C) (F:CallF) (e:Env),Ja (.pointer (some ⟨h1.next,off,none⟩)) kk F e h18=kk F e h18:=fun off kk F e=>D7 (by
  rw[m18];exact R1216.lt W16)
 generalize hk':(⟨a,b,c,1,l,p,vc⟩:Kt)=k'
 have bd18:∀ (F:CallF) (e:Env),AB 127 e=CI a b c 1 vc→AB 14 e=.int .i64 (p:Int)→Bj ED.zero [(0,5,AB 127),(5,1,AB 14)] F e h18=.ok (ktV k') h18:=fun F e e1 e2=>by rw[← hk'];exact RR e1 e2
 have hku:k'.u=vc:=by rw[← hk']
 have qs:∀ (F:CallF) (e:Env),AB 129 e=ktV k'→Ak .strong (Af 1 (BG ED.zero 1) [(0,6,AB 129)]) F e h18=.ok (.slice (some ⟨h18.next,0,none⟩) 1 1) (h18.back (h18.quiet.pushRow 0 (Al k'))):=fun F e he=>DQ (LO y18.wf.quiet he) ((Hp.Ext.refl y18.wf.quiet).pushRow _ _) (by rw[m18];exact y18.next)
 have hn18:=y18.next
 have xX:h16.Ext (⟨h18.next,h18.next+1,0,h18.mark,h18.bl⟩:Hp):=⟨hn18,y18.get,by show _≤h18.next+1;omega,⟨y18.wf.big,y18.wf.has,y18.wf.fresh⟩⟩
 obtain⟨h20,lv',k20,x20,ko20,n20,_⟩:=Qq (k:=h16.next) xX (Nat.le_refl _) hn18 (ko18.same (h':=⟨h18.next,h18.next+1,0,h18.mark,h18.bl⟩) rfl) (x:=k') (by rw[hku];exact oc.2.1) (by omega)
 have q20:∀ (F:CallF) (e:Env),AB 126 e=w17→AB 130 e=.slice (some ⟨h18.next,0,none⟩) 1 1→Ak .free (A8 6 64 83 (AB 126) (AB 130)) F e (h18.back (h18.quiet.pushRow 0 (Al k')))=.ok lv' ((h18.back (h18.quiet.pushRow 0 (Al k'))).back h20):=fun F e e1 e2=>by
  refine Bq ?_
  rw[Bn,e1,e2];exact k20
 have y21:h16.Ext ((h18.back (h18.quiet.pushRow 0 (Al k'))).back h20):=Hp.Ext.back2 (Hp.Ext.back2 y18 (y18.quiet.pushRow _ _)) x20
 have ko21:((h18.back (h18.quiet.pushRow 0 (Al k'))).back h20).KO h16.next lv' (ks++[k']):=ko20.same rfl
 generalize h18.back (h18.quiet.pushRow 0 (Al k'))=h19 at qs q20 y21 ko21
 generalize h19.back h20=h21 at q20 y21 ko21
 have s21:=s16.ext W16 y21
 have onl:cellsOf lv'=[lv']∧A6 lv'=true:=⟨ko21.lst.one.1,ko21.lst.one.2.1⟩
 obtain⟨h22,st22,row22,n22,_,f22,_⟩:=Qe y21.wf s21.row (off:=3) (show 3<7 by omega) s.ne.2.2.2.2 onl.1 onl.2
 have row22:h22.Row A.bs 0 (slL A.bd A.tb lv' fv' bad false):=row22
 have hDn16:∀ b,A.D b→b<h16.next:=fun b hb=>by have:=hDn14 b hb;have:=x15.next;have:=f16.next;omega
 have ko22:h22.KO h16.next lv' (ks++[k']):=ko21.keep fun b el L hb r=>f22.row y21.wf r (fun h=>by
  have:=(ko21.blk y21.wf hb).1
  have:=hDn16 A.bs (.inl rfl)
  omega)
 have bsv:h22.BS (fun b=>¬ A.D b) vc (l.map bv):=by
  have mk12:=mk9.ext x9.wf (y11.trans x12)
  obtain⟨bq,eq,e1,e2,e3,e4⟩:=mk12
  have hb':¬ A.D bq:=fun h=>by have:=hD _ h;omega
  have r13:=kp13 _ _ _ e2 e3
  have r16:=f16.row x15.wf ((f14.row x13.wf r13 (V6 hb')).ext f14.wf x15) (nbs _ hb')
  exact .inr ⟨bq,0,l.length,eq,_,by rw[List.length_map];exact e1,by rw[List.length_map];exact Nat.le_refl _,f22.row y21.wf (r16.ext W16 y21) (nbs _ hb'),by omega,by rw[List.drop_zero,List.take_length],hb',e2⟩
 have s22:Sl h22 A T (Gh T M p l (B7 T a b c 1 l)) c14 arm14 (ks++[k']) fr lv' fv' bad false:=s21.bsx y21.wf f22 row22 (by
   rcases ko22 with ⟨h1,h2⟩|⟨b,h1,h2,h3,_⟩
   ·exact .inl ⟨h1,h2⟩
   ·exact .inr ⟨b,h1,h2,fun h=>by have:=hDn16 b h;omega⟩) (fun x hx=>by
   rcases List.mem_append.1 hx with hx|hx
   ·exact⟨(s21.ko x hx).1.keep fun b el L hb _ r=>f22.row y21.wf r (nbs b hb),(s21.ko x hx).2⟩
   ·rw[List.mem_singleton.1 hx,← hk']
    exact⟨bsv,hb,hl.2,.inl rfl,hr,by show p<65536;omega⟩)
  (s21.fs.keep fun b el L hb r=>f22.row y21.wf r (nbs b hb)) ⟨by rw[List.length_append];show ks.length+1≤1000;omega,s16.le.2.1,s16.le.2.2.1,s16.le.2.2.2⟩
 have hcore:k'.core=⟨a,b,c,1,l,p⟩:=by rw[← hk'];rfl
 obtain⟨_,_,_,l3z,_⟩:=BN s22.row
 obtain⟨h23,k23,x23⟩:=Sq (m:=m+1) f22.wf s22.ls.ks (by rw[List.length_append];show ks.length+1≤12;omega) fun i x y hx hy=>by
  have hmap:(ks++[k']).map Kt.core=ks.map Kt.core++[⟨a,b,c,1,l,p⟩]:=by rw[List.map_append,← hcore];rfl
  exact hso i x.core y.core (by rw[← hmap];exact JV hx) (by rw[← hmap];exact JV hy)
 have s23:=s22.ext f22.wf x23
 have fx:Fx A.D h h23:=by
  have e1:Fx A.D h h13:=.of x13
  have e2:Fx A.D h13 h14:=f14.mono fun b hb=>.inr hb
  have e3:Fx A.D h14 h15:=.of x15
  have e4:Fx A.D h15 h16:=f16.mono fun b hb=>.inl hb
  have e5:Fx A.D h16 h21:=.of y21
  have e6:Fx A.D h21 h22:=f22.mono fun b hb=>.inl hb
  exact(((((e1.trans e2).trans e3).trans e4).trans e5).trans e6).trans (.of x23)
 refine⟨h23,c14,arm14,lv',fv',k',?_,fx,s23,hcore,a14⟩
 have hrunB:∃ e2,prB (call AG (m+7)) e1 h6=prC (call AG (m+7)) e2 h11∧AB 0 e2=pt A.bs∧AB 12 e2=pt h1.next∧AB 14 e2=.int .i64 (p:Int)∧AB 15 e2=vh∧AB 17 e2=dv1:=by
  rw[gn]
  unfold kU
  simp only[sT,Nat.reduceLT,Nat.reduceEqDiff,if_true,if_false,reduceIte,BD,A4,t0,Az,AM,AY,Nat.zero_add,AV,Ac,l1m,BP,BF,t12,ld12m,q7,BM,BV,Ba,Ay,t4,lnu,AS,AQ,c4,q9,t14,BZ,ad,EW,old9,DY,lv12,q10]
  exact⟨_,rfl,by simp only[AE,Nat.reduceLT,Nat.reduceEqDiff,if_true,if_false,reduceIte];exact t0,by simp only[AE,Nat.reduceLT,Nat.reduceEqDiff,if_true,if_false,reduceIte];exact t12,by simp only[AE,Nat.reduceLT,Nat.reduceEqDiff,if_true,if_false,reduceIte];exact t14,by simp[AE],by simp[AE]⟩
 obtain⟨e2,r1,u0,u12,u14,u15,u17⟩:=hrunB
 rw[dX rfl,fL,p1,r1]
 unfold prC
 have k11':call AG (m+7) 46 [pt A.bs,.int .i64 (p:Int)] h11=.ok (.int .i64 ((p * 3:Nat):Int)) h11:=k11
 have k12':call AG (m+7) 45 [pt A.bs,.int .i64 ((p * 3:Nat):Int),vh] h11=.ok dv2 h12:=k12
 have k14':call AG (m+7) 47 [pt A.bs,dv3] h13=.ok (.int .i64 0) h14:=k14
 have k15':call AG (m+7) 48 [wc] h14=.ok fv' h15:=k15
 have k23':call AG (m+7) 50 [lv',.func (.func 51) ⟨[]⟩ ⟨[]⟩] h22=.ok noRes h23:=k23
 simp only[sT,Nat.reduceLT,Nat.reduceEqDiff,if_true,if_false,reduceIte,Ab,AN,AX,u0,u14,k11',u15,k12',Bn,u17,k13,k14',AS,AQ,c00,A4,Az,AM,AY,Nat.zero_add,AV,Ac,l4']
 rw[ct _ _ _ (by simp[AE])]
 simp only[sT,Nat.reduceLT,Nat.reduceEqDiff,if_true,if_false,reduceIte,Ab,AN,AX,u0,k15',A4,Az,AM,AY,Nat.zero_add,Av,st16,BD,AV,Ac,l3m,q17,u12,EW,old18,DY,BP,BF,ld18,u14,bd18,qs,q20]
 rw[st22 _ _ _ _ (by simp[AE]) (by simp[AE])]
 simp only[sT,Nat.reduceLT,Nat.reduceEqDiff,if_true,if_false,reduceIte,u0,A4,Az,AM,AY,Nat.zero_add,AV,Ac,l3z,Ab,AN,AX,k23',AP,Aa]
end
end
noncomputable section
open Go
set_option maxRecDepth 100000
theorem Rx:∀ (ks:List Kt) (j:Nat) (x:Kt),j<ks.length→over (flK ks) (6 * j) (Al x)=flK (ks.set j x)
 |[],j,x,h=>by cases h
 |k::ks,0,x,h=>by
  show over (Al k++flK ks) 0 (Al x)=Al x++flK ks
  exact Ln rfl
 |k::ks,j+1,x,h=>by
  have ih:=Rx ks j x (by simpa using h)
  show over (Al k++flK ks) (6 * (j+1)) (Al x)=Al k++flK (ks.set j x)
  rw[← ih]
  unfold over
  have e1:6 * (j+1)=(Al k).length+6 * j:=by show _=6+_;omega
  have e2:6 * (j+1)+(Al x).length=(Al k).length+(6 * j+(Al x).length):=by rw[e1];omega
  rw[e2,List.drop_length_add_append,e1,List.take_length_add_append,List.append_assoc,List.append_assoc,List.append_assoc]
def cmL:C:=(AF (AC 100) (BJ (AB 0))
(AF (AC 101) (AH 3 (AB 100))
(AF (AC 102) (AL (AB 101))
(AF (AC 103) (BR (AB 102))
(AF (AC 104) (Ad iLt .i64 (AB 16) (AB 103))
(AW (AB 104)
(Ah 2 (AF (AC 106) (BJ (AB 0))
(AF (AC 107) (AH 3 (AB 106))
(AF (AC 108) (AL (AB 107))
(AF (AC 110) (Bp 6 (AB 108) (AB 16))
(AF (AC 111) (BE 6 (AB 110))
(AF (AC 17) (A2 6 DA)
(cDo (Ae 6 (AB 17) (AB 111))
(AF (AC 112) (AH 0 (AB 17))
(AF (AC 113) (AH 0 (AB 112))
(AF (AC 114) (AL (AB 113))
(AF (AC 116) (Ad iEq .i64 (AB 114) (AB 1))
(cG (AB 116) true (AC 118) (AH 0 (AB 17))
(cG (AB 116) true (AC 119) (AH 1 (AB 118))
(cG (AB 116) true (AC 120) (AL (AB 119))
(cG (AB 116) true (AC 121) (AD (AB 2))
(cG (AB 116) true (AC 122) (Ad iEq .i64 (AB 120) (AB 121))
(AF (AC 123) (Am (AB 116) (AB 122) (kV (.bool false)))
(cG (AB 123) true (AC 125) (AH 0 (AB 17))
(cG (AB 123) true (AC 126) (AH 2 (AB 125))
(cG (AB 123) true (AC 127) (AL (AB 126))
(cG (AB 123) true (AC 128) (AD (AB 3))
(cG (AB 123) true (AC 129) (Ad iLt .i64 (AB 127) (AB 128))
(AF (AC 130) (Am (AB 123) (AB 129) (kV (.bool false)))
(AW (AB 130)
(AF (AC 134) (AO 52 [(AB 0),(AB 16)])
(AF (AC 135) (Af 1 (BG ty3.zero 1) [(0,1,(AB 134))])
(AF (AC 136) (A8 1 8 3 (AB 15) (AB 135))
(AF (AC 15) (AD (AB 136))
Ai))))
(AF (AC 138) (Bh .i64 (Ax .i64) (AB 16) (kV (.int .i64 1)))
(AF (AC 16) (AD (AB 138))
Ai)))))))))))))))))))))))))))
(Bc 1)))))))
def cmE:C:=(AF (AC 141) (AO 53 [(AB 0),(AB 15)])
(AF (AC 8) (AD (AB 141))
Aj))
def cmS:C:=(A5 (Ah 1 (A1 (AF (AC 100) (BJ (AB 0))
(AF (AC 101) (AH 3 (AB 100))
(AF (AC 102) (AL (AB 101))
(AF (AC 103) (BR (AB 102))
(AF (AC 104) (Ad iLt .i64 (AB 16) (AB 103))
(AW (AB 104)
(Ah 2 (AF (AC 106) (BJ (AB 0))
(AF (AC 107) (AH 3 (AB 106))
(AF (AC 108) (AL (AB 107))
(AF (AC 110) (Bp 6 (AB 108) (AB 16))
(AF (AC 111) (BE 6 (AB 110))
(AF (AC 17) (A2 6 DA)
(cDo (Ae 6 (AB 17) (AB 111))
(AF (AC 112) (AH 0 (AB 17))
(AF (AC 113) (AH 0 (AB 112))
(AF (AC 114) (AL (AB 113))
(AF (AC 116) (Ad iEq .i64 (AB 114) (AB 1))
(cG (AB 116) true (AC 118) (AH 0 (AB 17))
(cG (AB 116) true (AC 119) (AH 1 (AB 118))
(cG (AB 116) true (AC 120) (AL (AB 119))
(cG (AB 116) true (AC 121) (AD (AB 2))
(cG (AB 116) true (AC 122) (Ad iEq .i64 (AB 120) (AB 121))
(AF (AC 123) (Am (AB 116) (AB 122) (kV (.bool false)))
(cG (AB 123) true (AC 125) (AH 0 (AB 17))
(cG (AB 123) true (AC 126) (AH 2 (AB 125))
(cG (AB 123) true (AC 127) (AL (AB 126))
(cG (AB 123) true (AC 128) (AD (AB 3))
(cG (AB 123) true (AC 129) (Ad iLt .i64 (AB 127) (AB 128))
(AF (AC 130) (Am (AB 123) (AB 129) (kV (.bool false)))
(AW (AB 130)
(AF (AC 134) (AO 52 [(AB 0),(AB 16)])
(AF (AC 135) (Af 1 (BG ty3.zero 1) [(0,1,(AB 134))])
(AF (AC 136) (A8 1 8 3 (AB 15) (AB 135))
(AF (AC 15) (AD (AB 136))
Ai))))
(AF (AC 138) (Bh .i64 (Ax .i64) (AB 16) (kV (.int .i64 1)))
(AF (AC 16) (AD (AB 138))
Ai)))))))))))))))))))))))))))
(Bc 1)))))))))
(AF (AC 141) (AO 53 [(AB 0),(AB 15)])
(AF (AC 8) (AD (AB 141))
Aj)))
theorem fD:cmS=A5 (Ah 1 (A1 cmL)) cmE:=rfl
def jx:C:=(Bm (AF (AC 63) (BJ (AB 0))
(AF (AC 64) (AH 1 (AB 63))
(AF (AC 65) (AL (AB 64))
(AF (AC 66) (AH 0 (AB 11))
(AF (AC 67) (BE 5 (AB 66))
(AF (AC 68) (Ak .free (AO 44 [(AB 65),(AB 67)]))
(AF (AC 69) (AU 0 (AB 68))
(AF (AC 70) (AU 1 (AB 68))
(AF (AC 12) (AD (AB 69))
(AF (AC 13) (AD (AB 70))
(AF (AC 74) (AH 5 (AB 11))
(AF (AC 75) (AL (AB 74))
(AF (AC 76) (AO 46 [(AB 0),(AB 75)])
(AF (AC 78) (AO 45 [(AB 0),(AB 76),(AB 12)])
(AF (AC 79) (AO 47 [(AB 0),(AB 78)])
(AF (AC 14) (AD (AB 79))
(AF (AC 81) (Ad iNe .i64 (AB 14) (kV (.int .i64 0)))
(AW (AB 81)
(AF (AC 8) (AD (AB 14))
Aj)
(AF (AC 85) (BJ (AB 0))
(AF (AC 86) (AH 3 (AB 85))
(AF (AC 87) (AL (AB 86))
(AF (AC 88) (AO 49 [(AB 87)])
(AF (AC 89) (BJ (AB 0))
(AF (AC 90) (AH 3 (AB 89))
(cDo (Ae 1 (AB 90) (AB 88))
(Bm (AF (AC 92) (BJ (AB 0))
(AF (AC 93) (AH 3 (AB 92))
(AF (AC 94) (AL (AB 93))
(AF (AC 96) (BE 6 (AB 11))
(AF (AC 97) (Bp 6 (AB 94) (AB 10))
(cDo (Ak .free (Ae 6 (AB 97) (AB 96)))
(AF (AC 15) (AD (kV (.slice none 0 0)))
(AF (AC 16) (AD (kV (.int .i64 0)))
cmS)))))))))))))))))))))))))))))))))))
theorem fC:cmB=jx:=rfl
theorem fM:d12=YS:=rfl
section
variable {F:CallF}{e:Env}{h h' h0:Hp}{S:Nat→Prop}{A:At}{T M:List Nat}{c0 bad m k p:Nat}{arm:Int}{ks:List Kt}{fr:List Nat}{v lv fv:Value}{ov:Bool}
theorem YE(W:h.Wf)(R:h.Row A.bs 0 (slL A.bd A.tb lv fv bad ov))(K:h.KS S lv ks)(hu:∀ k∈ks,A6 k.u=true)(hl:ks.length≤1000){a b c:Int}(hno:∀ k∈ks,¬ (k.a=a∧k.b=b∧k.c<c))(s0:AB 0 e=pt A.bs)(s1:AB 1 e=.int .i64 a)(s2:AB 2 e=.int .i64 b)(s3:AB 3 e=.int .i64 c)(s15:AB 15 e=nilS)(s16:AB 16 e=.int .i64 ((0:Nat):Int)):
  ∃ e' h',A1 cmL F e h=.exit 1 e' h'∧h.Ext h'∧AB 0 e'=pt A.bs∧AB 15 e'=nilS:=by
 refine Bz (I:=fun i e' h'=>h.Ext h'∧AB 0 e'=pt A.bs∧AB 1 e'=.int .i64 a∧AB 2 e'=.int .i64 b∧AB 3 e'=.int .i64 c∧AB 15 e'=nilS∧AB 16 e'=.int .i64 (i:Int))
  (Q:=fun x=>∃ e' h',x=.exit 1 e' h'∧h.Ext h'∧AB 0 e'=pt A.bs∧AB 15 e'=nilS) ks.length (by omega) (fun i e' h' ⟨x',t0,t1,t2,t3,t15,t16⟩=>?_) ⟨.refl W,s0,s1,s2,s3,s15,s16⟩
 have W':=x'.wf
 obtain⟨_,_,_,l3,_⟩:=BN (R.ext W x')
 have K':=K.ext W x'
 have ln:=K'.len h'
 by_cases hlt:i<ks.length
 ·left
  have c1:=E8 hlt
  obtain⟨x,hx⟩:∃ x,ks[i]? =some x:=⟨_,List.getElem?_eq_getElem hlt⟩
  have hxm:=List.mem_of_getElem? hx
  obtain⟨b',_,ix,ld,_⟩:=K'.at hx
  have al:=fun (F:CallF) (e:Env)=>Bt (F:=F) (e:=e) W' (n:=6) (t:=DA)
  have Ra:=Hp.Row.alloc W' Ge (show(Al K0).length=6 from rfl)
  have y1:h'.Ext (h'.push (.cells DA 6 0)):=(Hp.Ext.refl W').push _
  generalize h'.push (.cells DA 6 0)=h1 at al Ra y1
  obtain⟨st,_,y2,R5,n2⟩:=J7 W' y1 (Nat.le_refl _) Ra rfl (k:=x) (hu x hxm)
  generalize h1.wr h'.next 0 (Al x)=h2 at st y2 R5 n2
  obtain⟨m0,m1,m2,_⟩:=Bw R5
  have a3:=C1 (i:=i) (h:=h2) (by omega)
  have hrun:∃ e2,cmL F e' h'=.norm e2 h2∧AB 0 e2=pt A.bs∧AB 1 e2=.int .i64 a∧AB 2 e2=.int .i64 b∧AB 3 e2=.int .i64 c∧AB 15 e2=nilS∧AB 16 e2=.int .i64 ((i+1:Nat):Int):=by
   unfold cmL
   by_cases h1:x.a=a
   ·have d1:iEq x.a a=true:=C4 h1
    by_cases h2:x.b=b
    ·have d2:iEq x.b b=true:=C4 h2
     have d3:iLt x.c c=false:=F6 (fun h3=>hno x hxm ⟨h1,h2,h3⟩)
     simp only[sT,Nat.reduceLT,Nat.reduceEqDiff,if_true,if_false,reduceIte,gD,A4,t0,Az,AM,AY,Nat.zero_add,AV,Ac,l3,Ay,ln,AS,AQ,t16,c1,Bb,ix,BP,BF,ld,al,Av,st,m0,m1,m2,t1,t2,t3,d1,d2,d3,BZ,a3]
     exact⟨_,rfl,by simp only[AE,Nat.reduceLT,Nat.reduceEqDiff,if_true,if_false,reduceIte];exact t0,by simp only[AE,Nat.reduceLT,Nat.reduceEqDiff,if_true,if_false,reduceIte];exact t1,by simp only[AE,Nat.reduceLT,Nat.reduceEqDiff,if_true,if_false,reduceIte];exact t2,by simp only[AE,Nat.reduceLT,Nat.reduceEqDiff,if_true,if_false,reduceIte];exact t3,by simp only[AE,Nat.reduceLT,Nat.reduceEqDiff,if_true,if_false,reduceIte];exact t15,by simp[AE]⟩
    ·have d2:iEq x.b b=false:=Cz h2
     simp only[sT,Nat.reduceLT,Nat.reduceEqDiff,if_true,if_false,reduceIte,gD,A4,t0,Az,AM,AY,Nat.zero_add,AV,Ac,l3,Ay,ln,AS,AQ,t16,c1,Bb,ix,BP,BF,ld,al,Av,st,m0,m1,m2,t1,t2,t3,d1,d2,BZ,a3]
     exact⟨_,rfl,by simp only[AE,Nat.reduceLT,Nat.reduceEqDiff,if_true,if_false,reduceIte];exact t0,by simp only[AE,Nat.reduceLT,Nat.reduceEqDiff,if_true,if_false,reduceIte];exact t1,by simp only[AE,Nat.reduceLT,Nat.reduceEqDiff,if_true,if_false,reduceIte];exact t2,by simp only[AE,Nat.reduceLT,Nat.reduceEqDiff,if_true,if_false,reduceIte];exact t3,by simp only[AE,Nat.reduceLT,Nat.reduceEqDiff,if_true,if_false,reduceIte];exact t15,by simp[AE]⟩
   ·have d1:iEq x.a a=false:=Cz h1
    simp only[sT,Nat.reduceLT,Nat.reduceEqDiff,if_true,if_false,reduceIte,gD,A4,t0,Az,AM,AY,Nat.zero_add,AV,Ac,l3,Ay,ln,AS,AQ,t16,c1,Bb,ix,BP,BF,ld,al,Av,st,m0,m1,m2,t1,t2,t3,d1,BZ,a3]
    exact⟨_,rfl,by simp only[AE,Nat.reduceLT,Nat.reduceEqDiff,if_true,if_false,reduceIte];exact t0,by simp only[AE,Nat.reduceLT,Nat.reduceEqDiff,if_true,if_false,reduceIte];exact t1,by simp only[AE,Nat.reduceLT,Nat.reduceEqDiff,if_true,if_false,reduceIte];exact t2,by simp only[AE,Nat.reduceLT,Nat.reduceEqDiff,if_true,if_false,reduceIte];exact t3,by simp only[AE,Nat.reduceLT,Nat.reduceEqDiff,if_true,if_false,reduceIte];exact t15,by simp[AE]⟩
  obtain⟨e2,r1,r2,r3,r4,r5,r6,r7⟩:=hrun
  exact⟨hlt,e2,h2,r1,x'.trans y2,r2,r3,r4,r5,r6,r7⟩
 ·right
  have c1:iLt (i:Int) (ks.length:Int)=false:=DU (by omega)
  have hrun:∃ e2,cmL F e' h'=.exit 1 e2 h'∧AB 0 e2=pt A.bs∧AB 15 e2=nilS:=by
   unfold cmL
   simp only[sT,Nat.reduceLT,Nat.reduceEqDiff,if_true,if_false,reduceIte,A4,t0,Az,AM,AY,Nat.zero_add,AV,Ac,l3,Ay,ln,AS,AQ,t16,c1]
   exact⟨_,rfl,by simp only[AE,Nat.reduceLT,Nat.reduceEqDiff,if_true,if_false,reduceIte];exact t0,by simp only[AE,Nat.reduceLT,Nat.reduceEqDiff,if_true,if_false,reduceIte];exact t15⟩
  obtain⟨e2,r1,r2,r3⟩:=hrun
  rw[r1]
  exact⟨rfl,e2,h',rfl,x',r2,r3⟩
theorem YG(W:h.Wf)(s:Sl h A T M c0 arm ks fr lv fv bad false){j:Nat}{kx:Kt}(hj:ks[j]? =some kx)(hs1:kx.s=1){a b c:Int}(hf:FK (Ej a b c) 0 ks=(j:Int))(habc:kx.a=a∧kx.b=b∧kx.c=c)(hst:Ns a b c ks=false)(hno:∀ k∈ks,¬ (k.a=a∧k.b=b∧k.c<c))(hp3:3 * kx.p+3≤A.n)(hkl:ks.length≤1000)(ha:CT arm (k+10)):
  ∃ h' c1 arm' lv',call AG (m+8) 12 [pt A.bs,.int .i64 a,.int .i64 b,.int .i64 c] h=.ok (.int .i64 0) h'∧Fx A.D h h'∧
   Sl h' A T (IX M kx.p (B7 T a b c 2 kx.l)) c1 arm' (ks.set j {kx with s:=2}) fr lv' fv bad false∧CT arm' k:=by
 have big:=W.big
 have hD:=s.D_lt W
 have hn:=s.dk.n1
 have hjl:=(List.getElem?_eq_some_iff.1 hj).1
 have hkm:=List.mem_of_getElem? hj
 obtain⟨o1,o2,o3,o4,o5,o6⟩:=s.ko kx hkm
 obtain⟨rfl,rfl,rfl⟩:=habc
 have oc:=o1.vs.one
 have c00:iNe 0 0=false:=Db rfl
 have k0:=bM (m:=m+6) s.row
 obtain⟨h1,k1,x1⟩:=KE (m:=m+4) W s.row s.ls.ks (by omega) kx.a kx.b kx.c
 rw[hf]at k1
 have c1:iGe (j:Int) 0=true:=Jr (by omega)
 have s1:=s.ext W x1
 obtain⟨_,_,_,l3,_⟩:=BN s1.row
 obtain⟨bb,_,ix,ld,lde⟩:=s1.ls.ks.at hj
 have lst:=lde 3 (.int .u8 (kx.s:Int)) rfl
 have c2:iEq (kx.s:Int) 2=false:=Cz (by omega)
 obtain⟨h2,k2,x2⟩:=P8 (m:=m+3) x1.wf s1.row s1.ls.ks (by omega) kx.a kx.b kx.c
 rw[hst]at k2
 have x12:=x1.trans x2
 have s2:=s.ext W x12
 have c3:iLt (j:Int) 0=false:=F6 (by omega)
 obtain⟨_,_,_,l3',_⟩:=BN s2.row
 obtain⟨bb2,_,ix2,ld2,_⟩:=s2.ls.ks.at hj
 have al:=fun (F:CallF) (e:Env)=>Bt (F:=F) (e:=e) x12.wf (n:=6) (t:=DA)
 have Ra:=Hp.Row.alloc x12.wf Ge (show(Al K0).length=6 from rfl)
 have y3:h2.Ext (h2.push (.cells DA 6 0)):=(Hp.Ext.refl x12.wf).push _
 have n3:(h2.push (.cells DA 6 0)).next=h2.next+1:=rfl
 generalize h2.push (.cells DA 6 0)=h3 at al Ra y3 n3
 obtain⟨st,_,y4,R11,n4⟩:=J7 x12.wf y3 (Nat.le_refl _) Ra rfl (k:=kx) oc.2.1
 generalize h3.wr h2.next 0 (Al kx)=h4 at st y4 R11 n4
 have h256:256≤h2.next:=by have:=x12.next;omega
 obtain⟨h5,st5,R5,n5,f5,e5⟩:=KF y4.wf R11 (off:=3) (show 3<6 by omega) h256 (v:=.int .u8 2) rfl rfl
 have y5:=e5 h2 y4 (Nat.le_refl _)
 generalize hkx:({kx with s:=2}:Kt)=X
 have R5:h5.Row h2.next 0 (Al X):=by rw[← hkx];exact R5
 have x5:=x12.trans y5
 have pre:∃ e1,YS (call AG (m+7)) (AZ e0 0 [pt A.bs,.int .i64 kx.a,.int .i64 kx.b,.int .i64 kx.c]) h=cmB (call AG (m+7)) e1 h5∧AB 0 e1=pt A.bs∧AB 1 e1=.int .i64 kx.a∧AB 2 e1=.int .i64 kx.b∧AB 3 e1=.int .i64 kx.c∧AB 10 e1=.int .i64 (j:Int)∧AB 11 e1=pt h2.next:=by
  unfold YS
  simp only[AJ,AK,Nat.succ_eq_add_one,Nat.zero_add,Nat.reduceAdd,sT,Nat.reduceLT,Nat.reduceEqDiff,if_true,if_false,reduceIte,gD,Ab,AN,AX,k0,AS,AQ,c00,k1,c1,A4,Az,AM,AY,Nat.zero_add,Nat.add_zero,AV,Ac,l3,Bb,ix,lst,c2,k2,c3,l3',ix2,BP,BF,ld2,al,Av,st,st5]
  exact⟨_,rfl,by simp[AE],by simp[AE],by simp[AE],by simp[AE],by simp[AE],by simp[AE]⟩
 obtain⟨e1,p1,t0,t1,t2,t3,t10,t11⟩:=pre
 have x5m:=x5.marked
 have s5m:=s.ext W x5m
 have R5m:h5.marked.Row h2.next 0 (Al X):=R5.same rfl
 obtain⟨_,_,_,_,_,_,_,ld5⟩:=Bw R5m
 obtain⟨_,l1m,_⟩:=BN s5m.row
 have hX:X.a=kx.a∧X.b=kx.b∧X.c=kx.c∧X.s=2∧X.u=kx.u∧X.l=kx.l∧X.p=kx.p:=by rw[← hkx];exact⟨rfl,rfl,rfl,rfl,rfl,rfl,rfl⟩
 obtain⟨e6a,e6b,e6c,e6s,e6u,e6l,e6p⟩:=hX
 rw[e6a,e6b,e6c,e6s,e6u]at ld5
 have bsu:=(s5m.ko kx hkm).1
 have hr2:CA kx.a kx.b kx.c 2 kx.l.length=true:=by
  obtain⟨g1,g2,g3,g4,g5,g6,g7,g8⟩:=Eh o5
  exact decide_eq_true ⟨g1,g2,g3,g4,g5,g6,.inr rfl,g8⟩
 have hH:=Dn (T:=T) hr2
 have hHb:=G0 (T:=T) (a:=kx.a) (b:=kx.b) (c:=kx.c) (s:=2) (l:=kx.l)
 obtain⟨h6,x6,hd⟩:=SD (n:=m+4) x5m.quiet.wf ((s5m.tab).same (h':=h5.marked.quiet) rfl) s.tok (a:=kx.a) (b:=kx.b) (c:=kx.c) (s:=2) (bsu.vs.vals.same (h':=h5.marked.quiet) rfl) o2 (by omega) (by omega)
 rcases hd with ⟨_,vh,k6,mkh⟩|⟨hrf,_⟩
 case inr=>rw[hr2]at hrf;cases hrf
 have q6:∀ e:Env,AB 65 e=pt A.tb→AB 67 e=CI kx.a kx.b kx.c 2 kx.u→Ak .free (AO 44 [AB 65,AB 67]) (call AG (m+7)) e h5.marked=.ok (.tuple ⟨[vh,.int .i64 0]⟩) (h5.marked.back h6):=fun e e1 e2=>by
  refine Bq ?_
  rw[Ab,AN,AN,AX,e1,e2];exact k6
 have y7:h5.Ext (h5.marked.back h6):=(Hp.Ext.refl x5.wf).marked.trans (.back x6)
 have mk7:Mk (h5.marked.back h6) h5.next vh (B7 T kx.a kx.b kx.c 2 kx.l):=mkh.same rfl
 generalize h5.marked.back h6=h7 at q6 y7 mk7
 have x7:=x5.trans y7
 have s7:=s.ext W x7
 obtain⟨_,_,_,_,_,lp7,_⟩:=Bw (R5.ext x5.wf y7)
 rw[e6p]at lp7
 have k7:=MN (m:=m+5) s7.row (p:=kx.p) (by omega)
 obtain⟨h8,dv,k8,x8,D8⟩:=Ji (m:=m+6) x7.wf s7.row (fun b hb=>by have:=hD b hb;have:=x7.next;omega) (sct:=kx.p * 3) (by omega) mk7 (by omega)
 rw[hH,show(List.range ((64+63) / 64)).map (fun j=>Deed.w (kx.p * 3+j) (Co (B7 T kx.a kx.b kx.c 2 kx.l) j))++[.f]=Gm kx.p (Co (B7 T kx.a kx.b kx.c 2 kx.l) 0)from rfl,OG hH]at D8
 have x8':=x7.trans x8
 have s8:=s.ext W x8'
 obtain⟨vs,w1,w2,w3⟩:=D8.ends fun b hb=>by have:=hD b hb;have:=x7.next;omega
 obtain⟨h9,c9,arm9,k9,f9,d9,ea⟩:=QN (m:=m+2) x8'.wf s8.row s.nK s8.dk w1 w2 w3 (Zy hp3 hH hHb) (ha.le (by show 2≤_;omega)) (by show 2≤100;omega)
 have d9:Dk h9 A.bd A.bm A.bc A.n (IX M kx.p (B7 T kx.a kx.b kx.c 2 kx.l)) c9 [] arm9 false:=d9
 have s9:Sl h9 A T (IX M kx.p (B7 T kx.a kx.b kx.c 2 kx.l)) c9 arm9 ks fr lv fv bad false:=(s8.sc.fx x8'.wf f9).sl d9
 have a9:CT arm9 k:=by rw[ea];exact Gz _ k arm (ha.le (by show 2+k≤_;omega))
 have nD11:¬ A.D h2.next:=fun h=>by have:=hD _ h;have:=x12.next;omega
 have R9:=f9.row x8'.wf ((R5.ext x5.wf y7).ext x7.wf x8) (V6 nD11)
 obtain⟨_,_,_,l39,_⟩:=BN s9.row
 have hu:∀ k∈ks,A6 k.u=true:=fun k hk=>(s9.ko k hk).1.vs.one.2.1
 obtain⟨h10,w10,k10,x10,ko10⟩:=U6 (m:=m+6) f9.wf s9.ls hu (fun h=>by rw[h]at hjl;cases hjl) (by omega)
 have s10:=s9.ext f9.wf x10
 obtain⟨h11,st11,row11,n11,f11,_⟩:=KF x10.wf s10.row (off:=3) (show 3<7 by omega) s.ne.2.2.2.2 (v:=w10) ko10.lst.one.1 ko10.lst.one.2.1
 have row11:h11.Row A.bs 0 (slL A.bd A.tb w10 fv bad false):=row11
 have nbs:∀ b,¬ A.D b→b≠A.bs:=fun b hb h=>hb (.inl h)
 have hDn9:∀ b,A.D b→b<h9.next:=fun b hb=>by have:=hD b hb;have:=x8'.next;have:=f9.next;omega
 have ko11:h11.KO h9.next w10 ks:=ko10.keep fun b el L hb r=>f11.row x10.wf r (fun h=>by
  have:=(ko10.blk x10.wf hb).1
  have:=hDn9 A.bs (.inl rfl)
  omega)
 have s11:Sl h11 A T (IX M kx.p (B7 T kx.a kx.b kx.c 2 kx.l)) c9 arm9 ks fr w10 fv bad false:=s10.bsx x10.wf f11 row11 (by
   rcases ko11 with ⟨h1,h2⟩|⟨b,h1,h2,h3,_⟩
   ·exact .inl ⟨h1,h2⟩
   ·exact .inr ⟨b,h1,h2,fun h=>by have:=hDn9 b h;omega⟩) (fun x hx=>⟨(s10.ko x hx).1.keep fun b el L hb _ r=>f11.row x10.wf r (nbs b hb),(s10.ko x hx).2⟩) (s10.fs.keep fun b el L hb r=>f11.row x10.wf r (nbs b hb)) s10.le
 have R1111:=f11.row x10.wf (R9.ext f9.wf x10) (nbs _ nD11)
 have W11:=f11.wf
 have xm:=(Hp.Ext.refl W11).marked
 have s11m:=s11.ext W11 xm
 obtain⟨_,_,_,l3m,_⟩:=BN s11m.row
 obtain⟨_,_,_,_,_,_,ld11,_⟩:=Bw (R1111.same (h':=h11.marked) rfl)
 rcases ko11 with ⟨_,hnil⟩|⟨bl,hw,Rl,hbk,hb256⟩
 ·rw[hnil]at hjl;cases hjl
 have ixl:Fa 6 w10 (.int .i64 (j:Int)) h11.marked=.ok (.pointer (some ⟨bl,6 * j,none⟩)) h11.marked:=by
  rw[hw]
  have:=D0 (h:=h11.marked) (n:=ks.length) (c:=ks.length) (es:=6) (b:=bl) (off:=0) (i:=j) (k:=.i64) hjl
  rwa [Nat.zero_add,Nat.mul_comm]at this
 have Rq:h11.marked.quiet.Row bl 84 (flK ks):=Rl.same rfl
 have hXu:A6 X.u=true:=by rw[e6u];exact oc.2.1
 have hoo:6 * j+(Al X).length≤(flK ks).length:=by rw[Dy];show 6 * j+6≤_;omega
 have stq:=Rq.storeR (n:=6) (off:=6 * j) (v:=ktV X) xm.wf.quiet hb256 rfl hoo (Kz hXu)
 have wrq:=Rq.wr_self xm.wf.quiet hoo
 rw[Rx ks j X hjl]at wrq
 have fxq:=Fx.wr (S:=fun b=>b=bl) xm.wf.quiet Rq hoo rfl
 have stq:storeR 6 (.pointer (some ⟨bl,6 * j,none⟩)) (ktV X) h11.marked.quiet=.ok noRes (h11.marked.quiet.wr bl (6 * j) (Al X)):=stq
 generalize h11.marked.quiet.wr bl (6 * j) (Al X)=q at stq wrq fxq
 have q12:∀ (F:CallF) (e:Env),AB 97 e=.pointer (some ⟨bl,6 * j,none⟩)→AB 96 e=ktV X→Ak .free (Ae 6 (AB 97) (AB 96)) F e h11.marked=.ok noRes (h11.marked.back q):=fun F e e1 e2=>Bq (by rw[Av,e1,e2];exact stq)
 have f12:Fx (fun b=>b=bl) h11 (h11.marked.back q):=((fxq.from (h:=h11.marked) rfl rfl).same (h2:=h11.marked.back q) rfl rfl).from (h:=h11) rfl rfl
 have Rl12:(h11.marked.back q).Row bl 84 (flK (ks.set j X)):=wrq.same rfl
 generalize h11.marked.back q=h12 at q12 f12 Rl12
 have nbl:¬ A.D bl:=fun h=>by have:=hDn9 bl h;omega
 have hsl:(ks.set j X).length=ks.length:=List.length_set
 have kp12:∀ b el L,b≠bl→h11.Row b el L→h12.Row b el L:=fun b el L hb r=>f12.row W11 r hb
 have nblb:∀ b el L,(el=0∨el=6∨el=4)→h11.Row b el L→b≠bl:=fun b el L he r=>Hg r Rl (by omega)
 have s12:Sl h12 A T (IX M kx.p (B7 T kx.a kx.b kx.c 2 kx.l)) c9 arm9 (ks.set j X) fr w10 fv bad false:=by
  refine⟨kp12 _ _ _ (nblb _ _ _ (.inl rfl) s11.row) s11.row,s11.dk.fr W11 f12 (nblb _ _ _ (.inl rfl) s11.dk.disk) (nblb _ _ _ (.inl rfl) s11.dk.med) (fun h=>(Nq Rl s11.dk.map) h.symm),kp12 _ _ _ (nblb _ _ _ (.inl rfl) s11.tab) s11.tab,s.tok,.inr ⟨bl,by rw[hsl];exact hw,Rl12,nbl⟩,fun x hx=>?_,?_,s.ne,by rw[hsl];exact s11.le⟩
  ·have kp:=fun (x:Kt) (hx:x∈ks)=>(s11.ko x hx).1.keep (h':=h12) fun b el L hb he r=>kp12 b el L (nblb b el L (by omega) r) r
   rcases List.mem_or_eq_of_mem_set hx with h1|h1
   ·exact⟨kp x h1,(s11.ko x h1).2⟩
   ·rw[h1]
    have:=kp kx hkm
    refine⟨?_,?_,?_,.inr e6s,?_,?_⟩
    ·rw[e6u,e6l];exact this
    ·rw[e6l];exact o2
    ·rw[e6l];exact o3
    ·rw[e6a,e6b,e6c,e6s,e6l];exact hr2
    ·rw[e6p];exact o6
  ·rcases s11.fs with h1|⟨b,el,h1,h2,h3,h4⟩
   ·exact .inl h1
   ·exact .inr ⟨b,el,h1,kp12 _ _ _ (nblb b el _ (by omega) h2) h2,h3,h4⟩
 have mid:∃ e2,cmB (call AG (m+7)) e1 h5=cmS (call AG (m+7)) e2 h12∧AB 0 e2=pt A.bs∧AB 1 e2=.int .i64 kx.a∧AB 2 e2=.int .i64 kx.b∧AB 3 e2=.int .i64 kx.c∧AB 15 e2=nilS∧AB 16 e2=.int .i64 ((0:Nat):Int):=by
  have k7':call AG (m+7) 46 [pt A.bs,.int .i64 (kx.p:Int)] h7=.ok (.int .i64 ((kx.p * 3:Nat):Int)) h7:=k7
  have k8':call AG (m+7) 45 [pt A.bs,.int .i64 ((kx.p * 3:Nat):Int),vh] h7=.ok dv h8:=k8
  have k9':call AG (m+7) 47 [pt A.bs,dv] h8=.ok (.int .i64 0) h9:=k9
  have k10':call AG (m+7) 49 [lv] h9=.ok w10 h10:=k10
  rw[fC]
  unfold jx
  simp only[sT,Nat.reduceLT,Nat.reduceEqDiff,if_true,if_false,reduceIte,BD,A4,t0,Az,AM,AY,Nat.zero_add,Nat.add_zero,AV,Ac,l1m,BP,BF,t11,ld5,q6,BM,BV,Ba,lp7,Ab,AN,AX,k7',k8',k9',AS,AQ,c00,l39,k10',Av,st11,l3m,ld11,Bb,t10,ixl,q12]
  exact⟨_,rfl,by simp only[AE,Nat.reduceLT,Nat.reduceEqDiff,if_true,if_false,reduceIte];exact t0,by simp only[AE,Nat.reduceLT,Nat.reduceEqDiff,if_true,if_false,reduceIte];exact t1,by simp only[AE,Nat.reduceLT,Nat.reduceEqDiff,if_true,if_false,reduceIte];exact t2,by simp only[AE,Nat.reduceLT,Nat.reduceEqDiff,if_true,if_false,reduceIte];exact t3,by simp[AE],by simp only[AE,Nat.reduceLT,Nat.reduceEqDiff,if_true,if_false,reduceIte];rfl⟩
 obtain⟨e2,r1,u0,u1,u2,u3,u15,u16⟩:=mid
 obtain⟨e3,h13,r2,x13,v0,v15⟩:=YE (F:=call AG (m+7)) f12.wf s12.row s12.ls.ks (fun k hk=>(s12.ko k hk).1.vs.one.2.1) (by rw[hsl];omega) (a:=kx.a) (b:=kx.b) (c:=kx.c) (fun x hx=>by
  rcases List.mem_or_eq_of_mem_set hx with h1|h1
  ·exact hno x h1
  ·rw[h1,e6a,e6b,e6c];exact hno kx hkm) u0 u1 u2 u3 u15 u16
 have s13:=s12.ext f12.wf x13
 obtain⟨h14,c14,arm14,k14,f14,s14,a14⟩:=M4 (m:=m+1) (k:=k) x13.wf s13 (ps:=[]) (pv:=nilS) (.inl ⟨rfl,rfl⟩) (fun p hp=>(by cases hp)) List.nodup_nil (by show 0≤50;omega) (by
  rw[ea]
  exact Gz _ _ arm (ha.le (by show 2+(0+1+k)≤_;omega)))
 have k14':call AG (m+7) 53 [pt A.bs,nilS] h13=.ok (.int .i64 0) h14:=k14
 refine⟨h14,c14,arm14,w10,?_,?_,s14,a14⟩
 ·rw[dY rfl,fM,p1,r1,fD]
  simp only[BU,A3,r2,A9,BH]
  unfold cmE
  simp only[sT,Nat.reduceLT,Nat.reduceEqDiff,if_true,if_false,reduceIte,Ab,AN,AX,v0,v15,k14',AP,Aa]
 ·have e1:Fx A.D h h8:=.of x8'
  have e2:Fx A.D h8 h9:=f9.mono fun b hb=>.inr hb
  have e3:Fx A.D h9 h10:=.of x10
  have e4:Fx A.D h10 h11:=f11.mono fun b hb=>.inl hb
  have e5:Fx A.D h h12:=by
   have e14:=((e1.trans e2).trans e3).trans e4
   refine⟨Nat.le_trans e14.next f12.next,fun i hi hs=>?_,f12.wf,fun L q1 q2 q3=>f12.low L (e14.low L q1 q2 q3) (Nat.le_trans q2 e14.next) fun b hb=>by have:=x8'.next;have:=f9.next;omega⟩
   rw[f12.get i (by have:=e14.next;omega) (fun h=>by have:=x8'.next;have:=f9.next;omega),e14.get i hi hs]
  exact(e5.trans (.of x13)).trans (f14.mono fun b hb=>.inr hb)
end
end
end Go.Proofs.YtedbmmfebjfibaaGreat

/-
  Part ZK of what Lawwn stands on: printed by program, names and spaces cut.
-/
import Derived.Test.YtglkncnkbofgfaaGreatZJ
namespace Go.Proofs.YtglkncnkbofgfaaGreat.awake
noncomputable section
open Go
set_option maxRecDepth 100000
def k60:Blk:=.map [] 0
def k61:Blk:=Az ([(.pointer (some ⟨611,0,none⟩)),(.pointer (some ⟨952,0,none⟩)),(.pointer (some ⟨1293,0,none⟩)),(.pointer (some ⟨1634,0,none⟩))]) 4 198
def p6:Piece:=⟨201,[(.agg ⟨[(i 1),(i 3),(i 2),(i 16),(i 2),(i 20),(i 4),(i 1),(i 1),(i 60),(i 200)]⟩)],256,[],[],(.tuple ⟨[(.pointer (some ⟨272,0,none⟩)),(i 0)]⟩),1786,[(267,k1),(272,k27),(273,k60),(274,k43),(278,k5),(611,k6),(619,k10),(952,k11),(960,k15),(1293,k16),(1301,k20),(1634,k21),(1638,k61),(1639,k28),(1640,k29),(1641,k26),(1652,k30),(1662,k31),(1663,k32),(1707,k33),(1709,k34),(1711,k35),(1774,k36),(1783,k37),(1785,k38)],256,1786⟩
set_option maxHeartbeats 0 in
theorem j6:Bl Tryz.prog ty 201 p6:=⟨rfl,_,12,OY 64,by kernel_rfl⟩
end
noncomputable section
open Go
set_option maxRecDepth 100000
def m2:MT:=(.nd [] (.nd [] (.nd [] (.nd [] (.nd [] (.nd [] (.nd [] (.nd [] .mt .mt) (.nd [] .mt .mt)) (.nd [] (.nd [] .mt .mt) .mt)) (.nd [] (.nd [] (.nd [] .mt .mt) .mt) (.nd [] (.nd [] .mt .mt) .mt))) (.nd [] (.nd [] (.nd [] (.nd [] .mt .mt) (.nd [] .mt .mt)) (.nd [] (.nd [] .mt .mt) .mt)) (.nd [] (.nd [] (.nd [] .mt .mt) .mt) (.nd [] (.nd [] .mt .mt) .mt)))) (.nd [] (.nd [] (.nd [] (.nd [] (.nd [] .mt .mt) (.nd [] .mt .mt)) (.nd [] (.nd [] .mt .mt) .mt)) (.nd [] (.nd [] (.nd [] .mt .mt) .mt) (.nd [] (.nd [] .mt .mt) .mt))) (.nd [] (.nd [] (.nd [] (.nd [] .mt .mt) .mt) (.nd [] (.nd [] .mt .mt) .mt)) (.nd [] (.nd [] (.nd [] .mt .mt) .mt) (.nd [] (.nd [] .mt .mt) .mt))))) (.nd [] (.nd [] (.nd [] (.nd [] (.nd [] (.nd [] .mt .mt) (.nd [] .mt .mt)) (.nd [] (.nd [] .mt .mt) .mt)) (.nd [] (.nd [] (.nd [] .mt .mt) .mt) (.nd [] (.nd [] .mt .mt) .mt))) (.nd [] (.nd [] (.nd [] (.nd [] .mt .mt) (.nd [p6] .mt .mt)) (.nd [] (.nd [] .mt .mt) .mt)) (.nd [] (.nd [] (.nd [] .mt .mt) .mt) (.nd [] (.nd [] .mt .mt) .mt)))) (.nd [] (.nd [] (.nd [] (.nd [] (.nd [] .mt .mt) (.nd [] .mt .mt)) (.nd [] (.nd [] .mt .mt) .mt)) (.nd [] (.nd [] (.nd [] .mt .mt) .mt) (.nd [] (.nd [] .mt .mt) .mt))) (.nd [p7] (.nd [] (.nd [] (.nd [] .mt .mt) .mt) (.nd [] (.nd [] .mt .mt) .mt)) (.nd [] (.nd [] (.nd [] .mt .mt) .mt) (.nd [] (.nd [] .mt .mt) .mt)))))) (.nd [] (.nd [] (.nd [] (.nd [] (.nd [] (.nd [] (.nd [] .mt .mt) (.nd [] .mt .mt)) (.nd [] (.nd [] .mt .mt) .mt)) (.nd [] (.nd [] (.nd [] .mt .mt) .mt) (.nd [] (.nd [] .mt .mt) .mt))) (.nd [] (.nd [] (.nd [] (.nd [] .mt .mt) (.nd [] .mt .mt)) (.nd [] (.nd [] .mt .mt) .mt)) (.nd [] (.nd [] (.nd [] .mt .mt) .mt) (.nd [] (.nd [] .mt .mt) .mt)))) (.nd [] (.nd [] (.nd [] (.nd [] (.nd [] .mt .mt) (.nd [] .mt .mt)) (.nd [] (.nd [] .mt .mt) .mt)) (.nd [] (.nd [] (.nd [] .mt .mt) .mt) (.nd [] (.nd [] .mt .mt) .mt))) (.nd [] (.nd [] (.nd [] (.nd [] .mt .mt) .mt) (.nd [] (.nd [] .mt .mt) .mt)) (.nd [] (.nd [] (.nd [] .mt .mt) .mt) (.nd [] (.nd [] .mt .mt) .mt))))) (.nd [] (.nd [] (.nd [] (.nd [] (.nd [] (.nd [] .mt .mt) (.nd [] .mt .mt)) (.nd [] (.nd [] .mt .mt) .mt)) (.nd [] (.nd [] (.nd [] .mt .mt) .mt) (.nd [] (.nd [] .mt .mt) .mt))) (.nd [] (.nd [] (.nd [] (.nd [] .mt .mt) .mt) (.nd [] (.nd [] .mt .mt) .mt)) (.nd [] (.nd [] (.nd [] .mt .mt) .mt) (.nd [] (.nd [] .mt .mt) .mt)))) (.nd [] (.nd [] (.nd [] (.nd [] (.nd [] .mt .mt) (.nd [] .mt .mt)) (.nd [] (.nd [] .mt .mt) .mt)) (.nd [] (.nd [] (.nd [] .mt .mt) .mt) (.nd [] (.nd [] .mt .mt) .mt))) (.nd [] (.nd [] (.nd [] (.nd [] .mt .mt) .mt) (.nd [] (.nd [] .mt .mt) .mt)) (.nd [] (.nd [] (.nd [] .mt .mt) .mt) (.nd [] (.nd [] .mt .mt) .mt)))))))
theorem jr:MT.All (Bl Tryz.prog ty) m2 id:=⟨AF,⟨AF,⟨AF,⟨AF,⟨AF,⟨AF,⟨AF,⟨AF,trivial,trivial⟩,⟨AF,trivial,trivial⟩⟩,⟨AF,⟨AF,trivial,trivial⟩,trivial⟩⟩,⟨AF,⟨AF,⟨AF,trivial,trivial⟩,trivial⟩,⟨AF,⟨AF,trivial,trivial⟩,trivial⟩⟩⟩,⟨AF,⟨AF,⟨AF,⟨AF,trivial,trivial⟩,⟨AF,trivial,trivial⟩⟩,⟨AF,⟨AF,trivial,trivial⟩,trivial⟩⟩,⟨AF,⟨AF,⟨AF,trivial,trivial⟩,trivial⟩,⟨AF,⟨AF,trivial,trivial⟩,trivial⟩⟩⟩⟩,⟨AF,⟨AF,⟨AF,⟨AF,⟨AF,trivial,trivial⟩,⟨AF,trivial,trivial⟩⟩,⟨AF,⟨AF,trivial,trivial⟩,trivial⟩⟩,⟨AF,⟨AF,⟨AF,trivial,trivial⟩,trivial⟩,⟨AF,⟨AF,trivial,trivial⟩,trivial⟩⟩⟩,⟨AF,⟨AF,⟨AF,⟨AF,trivial,trivial⟩,trivial⟩,⟨AF,⟨AF,trivial,trivial⟩,trivial⟩⟩,⟨AF,⟨AF,⟨AF,trivial,trivial⟩,trivial⟩,⟨AF,⟨AF,trivial,trivial⟩,trivial⟩⟩⟩⟩⟩,⟨AF,⟨AF,⟨AF,⟨AF,⟨AF,⟨AF,trivial,trivial⟩,⟨AF,trivial,trivial⟩⟩,⟨AF,⟨AF,trivial,trivial⟩,trivial⟩⟩,⟨AF,⟨AF,⟨AF,trivial,trivial⟩,trivial⟩,⟨AF,⟨AF,trivial,trivial⟩,trivial⟩⟩⟩,⟨AF,⟨AF,⟨AF,⟨AF,trivial,trivial⟩,⟨(Cd j6 AF),trivial,trivial⟩⟩,⟨AF,⟨AF,trivial,trivial⟩,trivial⟩⟩,⟨AF,⟨AF,⟨AF,trivial,trivial⟩,trivial⟩,⟨AF,⟨AF,trivial,trivial⟩,trivial⟩⟩⟩⟩,⟨AF,⟨AF,⟨AF,⟨AF,⟨AF,trivial,trivial⟩,⟨AF,trivial,trivial⟩⟩,⟨AF,⟨AF,trivial,trivial⟩,trivial⟩⟩,⟨AF,⟨AF,⟨AF,trivial,trivial⟩,trivial⟩,⟨AF,⟨AF,trivial,trivial⟩,trivial⟩⟩⟩,⟨(Cd ZL AF),⟨AF,⟨AF,⟨AF,trivial,trivial⟩,trivial⟩,⟨AF,⟨AF,trivial,trivial⟩,trivial⟩⟩,⟨AF,⟨AF,⟨AF,trivial,trivial⟩,trivial⟩,⟨AF,⟨AF,trivial,trivial⟩,trivial⟩⟩⟩⟩⟩⟩,⟨AF,⟨AF,⟨AF,⟨AF,⟨AF,⟨AF,⟨AF,trivial,trivial⟩,⟨AF,trivial,trivial⟩⟩,⟨AF,⟨AF,trivial,trivial⟩,trivial⟩⟩,⟨AF,⟨AF,⟨AF,trivial,trivial⟩,trivial⟩,⟨AF,⟨AF,trivial,trivial⟩,trivial⟩⟩⟩,⟨AF,⟨AF,⟨AF,⟨AF,trivial,trivial⟩,⟨AF,trivial,trivial⟩⟩,⟨AF,⟨AF,trivial,trivial⟩,trivial⟩⟩,⟨AF,⟨AF,⟨AF,trivial,trivial⟩,trivial⟩,⟨AF,⟨AF,trivial,trivial⟩,trivial⟩⟩⟩⟩,⟨AF,⟨AF,⟨AF,⟨AF,⟨AF,trivial,trivial⟩,⟨AF,trivial,trivial⟩⟩,⟨AF,⟨AF,trivial,trivial⟩,trivial⟩⟩,⟨AF,⟨AF,⟨AF,trivial,trivial⟩,trivial⟩,⟨AF,⟨AF,trivial,trivial⟩,trivial⟩⟩⟩,⟨AF,⟨AF,⟨AF,⟨AF,trivial,trivial⟩,trivial⟩,⟨AF,⟨AF,trivial,trivial⟩,trivial⟩⟩,⟨AF,⟨AF,⟨AF,trivial,trivial⟩,trivial⟩,⟨AF,⟨AF,trivial,trivial⟩,trivial⟩⟩⟩⟩⟩,⟨AF,⟨AF,⟨AF,⟨AF,⟨AF,⟨AF,trivial,trivial⟩,⟨AF,trivial,trivial⟩⟩,⟨AF,⟨AF,trivial,trivial⟩,trivial⟩⟩,⟨AF,⟨AF,⟨AF,trivial,trivial⟩,trivial⟩,⟨AF,⟨AF,trivial,trivial⟩,trivial⟩⟩⟩,⟨AF,⟨AF,⟨AF,⟨AF,trivial,trivial⟩,trivial⟩,⟨AF,⟨AF,trivial,trivial⟩,trivial⟩⟩,⟨AF,⟨AF,⟨AF,trivial,trivial⟩,trivial⟩,⟨AF,⟨AF,trivial,trivial⟩,trivial⟩⟩⟩⟩,⟨AF,⟨AF,⟨AF,⟨AF,⟨AF,trivial,trivial⟩,⟨AF,trivial,trivial⟩⟩,⟨AF,⟨AF,trivial,trivial⟩,trivial⟩⟩,⟨AF,⟨AF,⟨AF,trivial,trivial⟩,trivial⟩,⟨AF,⟨AF,trivial,trivial⟩,trivial⟩⟩⟩,⟨AF,⟨AF,⟨AF,⟨AF,trivial,trivial⟩,trivial⟩,⟨AF,⟨AF,trivial,trivial⟩,trivial⟩⟩,⟨AF,⟨AF,⟨AF,trivial,trivial⟩,trivial⟩,⟨AF,⟨AF,trivial,trivial⟩,trivial⟩⟩⟩⟩⟩⟩⟩
theorem calls_m2(n:Nat):BI Tryz.prog ty (IH Gt m2 n):=EU LC (by kernel_rfl) Fk jr n
end
end Go.Proofs.YtglkncnkbofgfaaGreat.awake
namespace Go.Proofs.YtglkncnkbofgfaaGreat
noncomputable section
open Go
set_option maxHeartbeats 0 in
set_option maxRecDepth 100000 in
theorem NP:Hg (IH Gt awake.m2 64 39 [] (F7 12))=true:=by kernel_rfl
theorem LL:DT Tryz.prog ty 39 I6:=OI ⟨Tryz.f39,Tryz.func39,AL (by kernel_rfl),by kernel_rfl⟩ (OA (awake.calls_m2 64) NP)
theorem oA:Ab Tryz.prog ty 39 I6:=Or.inr (.inr LL)
end
noncomputable section
open Go
set_option maxRecDepth 100000 in
def I7:FT:=(.nd AG (.nd AG (.nd AG (.nd AG (.nd AG (.nd b31 (.nd AG .mt .mt) .mt) (.nd AG (.nd AG .mt .mt) .mt)) (.nd b23 (.nd I6 (.nd AG .mt .mt) .mt) (.nd AG .mt .mt))) (.nd AG (.nd b19 (.nd b35 (.nd AG .mt .mt) .mt) (.nd AG (.nd AG .mt .mt) .mt)) (.nd b27 (.nd AG (.nd AG .mt .mt) .mt) (.nd AG .mt .mt)))) (.nd AG (.nd AG (.nd AG (.nd b33 (.nd AG .mt .mt) .mt) (.nd AG (.nd AG .mt .mt) .mt)) (.nd b25 (.nd AG (.nd AG .mt .mt) .mt) (.nd AG .mt .mt))) (.nd AG (.nd b21 (.nd b37 (.nd AG .mt .mt) .mt) (.nd AG .mt .mt)) (.nd b29 (.nd AG (.nd AG .mt .mt) .mt) (.nd AG .mt .mt))))) (.nd AG (.nd b4 (.nd AG (.nd AG (.nd b32 (.nd AG .mt .mt) .mt) (.nd AG (.nd AG .mt .mt) .mt)) (.nd b24 (.nd AG (.nd AG .mt .mt) .mt) (.nd AG .mt .mt))) (.nd AG (.nd b20 (.nd b36 (.nd b68 .mt .mt) .mt) (.nd AG (.nd b84 .mt .mt) .mt)) (.nd b28 (.nd AG (.nd AG .mt .mt) .mt) (.nd AG .mt .mt)))) (.nd AG (.nd AG (.nd AG (.nd b34 (.nd AG .mt .mt) .mt) (.nd AG (.nd AG .mt .mt) .mt)) (.nd b26 (.nd AG (.nd AG .mt .mt) .mt) (.nd AG .mt .mt))) (.nd AG (.nd b22 (.nd b38 (.nd AG .mt .mt) .mt) (.nd AG .mt .mt)) (.nd b30 (.nd AG (.nd AG .mt .mt) .mt) (.nd AG .mt .mt))))))
set_option maxRecDepth 100000 in
theorem LP:FT.All (Ab Tryz.prog ty) I7 id:=⟨AJ _,⟨AJ _,⟨AJ _,⟨AJ _,⟨AJ _,⟨o31,⟨AJ _,trivial,trivial⟩,trivial⟩,⟨AJ _,⟨AJ _,trivial,trivial⟩,trivial⟩⟩,⟨o23,⟨oA,⟨AJ _,trivial,trivial⟩,trivial⟩,⟨AJ _,trivial,trivial⟩⟩⟩,⟨AJ _,⟨o19,⟨o35,⟨AJ _,trivial,trivial⟩,trivial⟩,⟨AJ _,⟨AJ _,trivial,trivial⟩,trivial⟩⟩,⟨o27,⟨AJ _,⟨AJ _,trivial,trivial⟩,trivial⟩,⟨AJ _,trivial,trivial⟩⟩⟩⟩,⟨AJ _,⟨AJ _,⟨AJ _,⟨o33,⟨AJ _,trivial,trivial⟩,trivial⟩,⟨AJ _,⟨AJ _,trivial,trivial⟩,trivial⟩⟩,⟨o25,⟨AJ _,⟨AJ _,trivial,trivial⟩,trivial⟩,⟨AJ _,trivial,trivial⟩⟩⟩,⟨AJ _,⟨o21,⟨o37,⟨AJ _,trivial,trivial⟩,trivial⟩,⟨AJ _,trivial,trivial⟩⟩,⟨o29,⟨AJ _,⟨AJ _,trivial,trivial⟩,trivial⟩,⟨AJ _,trivial,trivial⟩⟩⟩⟩⟩,⟨AJ _,⟨o4,⟨AJ _,⟨AJ _,⟨o32,⟨AJ _,trivial,trivial⟩,trivial⟩,⟨AJ _,⟨AJ _,trivial,trivial⟩,trivial⟩⟩,⟨o24,⟨AJ _,⟨AJ _,trivial,trivial⟩,trivial⟩,⟨AJ _,trivial,trivial⟩⟩⟩,⟨AJ _,⟨o20,⟨o36,⟨o68,trivial,trivial⟩,trivial⟩,⟨AJ _,⟨o84,trivial,trivial⟩,trivial⟩⟩,⟨o28,⟨AJ _,⟨AJ _,trivial,trivial⟩,trivial⟩,⟨AJ _,trivial,trivial⟩⟩⟩⟩,⟨AJ _,⟨AJ _,⟨AJ _,⟨o34,⟨AJ _,trivial,trivial⟩,trivial⟩,⟨AJ _,⟨AJ _,trivial,trivial⟩,trivial⟩⟩,⟨o26,⟨AJ _,⟨AJ _,trivial,trivial⟩,trivial⟩,⟨AJ _,trivial,trivial⟩⟩⟩,⟨AJ _,⟨o22,⟨o38,⟨AJ _,trivial,trivial⟩,trivial⟩,⟨AJ _,trivial,trivial⟩⟩,⟨o30,⟨AJ _,⟨AJ _,trivial,trivial⟩,trivial⟩,⟨AJ _,trivial,trivial⟩⟩⟩⟩⟩⟩
theorem NR(n:Nat):BI Tryz.prog ty (call I7 n):=E9 LC (by kernel_rfl) LP n
set_option maxHeartbeats 0 in
set_option maxRecDepth 100000 in
theorem PH(x0 x1 x2 x3 x4 y0 y1 y2 y3 y4 z0 z1 z2 z3:Int)(s t:ByteArray)(o p:Option Addr)(n c k l:Nat):
 Hg (call I7 64 4 [.agg ⟨[.int .i64 x0,.int .i64 x1,.int .i64 x2,.int .i64 x3,.int .u8 x4,.slice o n c,.int .i64 y0,.int .i64 y1,.int .u8 y2,.int .i64 y3,.int .i64 y4,.string s,.int .i64 z0,.int .i64 z1,.string t,.int .i64 z2,.int .i64 z3,.slice p k l]⟩] LA)=true:=by kernel_rfl
end
noncomputable section
open Go Go.RowKit
section
variable {P:Program}{W:World}{base:Nat}
theorem GI{t:Nat}{v:Value}(ht:P.underlying t=some .string)(h:Cell.okWide P W .any base t v):∃ s,v=.string s:=by
 unfold Cell.okWide at h
 rw[ht]at h
 have h:Cell.ok P W .any base t v:=by cases v<;>exact h
 unfold Cell.ok at h
 rw[ht]at h
 split at h<;>first|(exact h.elim;done)|skip
 all_goals (rename_i e1 _;cases e1)
 exact⟨_,rfl⟩
def two(e0 e1:Option Pl):Phi:=fun i=>if i=0 then e0 else if i=1 then e1 else none
theorem It{t e:Nat}{v:Value}(ht:P.underlying t=some (.slice e))(h:Cell.okWide P W .any base t v):
  ∃ q:Option Pl,(∀ p,q=some p→p.inp=true∧p.blk<W.heap.size)∧∀ b,∃ o n c,∀ φ:Phi,φ b=q→RelV φ (.slice o n c) v:=by
 rcases MA ht h with rfl|⟨a,n,c,rfl,h1,h2,h3⟩
 ·exact⟨none,(fun p hp=>by cases hp),fun b=>⟨none,0,0,fun φ _=>.slice0⟩⟩
 ·refine⟨some {blk:=a.block,off:=a.off,sz:=c,room:=c,es:=1,inp:=true},(fun p hp=>by cases hp;exact⟨rfl,h3⟩),fun b=>⟨some ⟨b,0,none⟩,n,c,fun φ hφ=>?_⟩⟩
  refine .slice h1 ⟨rfl,h2,_,hφ,rfl,?_⟩
  rcases Nat.eq_zero_or_pos c with h|h
  ·exact .inr ⟨h,.inl h⟩
  ·exact .inl ⟨h,rfl,.inl rfl⟩
end
set_option maxRecDepth 100000 in
theorem Nj(s:Value)(w:World){base:Nat}(h:Value.okWide Tryz.prog w .any base 74 s):Calls Tryz.prog 4 #[s] w fun e w'=>e=.returned (.bool true)∧Below w.heap.size w w':=by
 obtain⟨l,rfl,hl,hc⟩:=QJ Tryz.underlying74 (ts:=[3,3,3,3,5,67,3,3,68,3,3,9,3,3,9,3,3,22]) (by kernel_rfl) (by kernel_rfl) h
 match l,hl with
 |[v0,v1,v2,v3,v4,v5,v6,v7,v8,v9,v10,v11,v12,v13,v14,v15,v16,v17],_=>
 obtain⟨x0,rfl⟩:=BU Tryz.underlying3 (hc 0 3 v0 rfl rfl)
 obtain⟨x1,rfl⟩:=BU Tryz.underlying3 (hc 1 3 v1 rfl rfl)
 obtain⟨x2,rfl⟩:=BU Tryz.underlying3 (hc 2 3 v2 rfl rfl)
 obtain⟨x3,rfl⟩:=BU Tryz.underlying3 (hc 3 3 v3 rfl rfl)
 obtain⟨x4,rfl⟩:=BU Tryz.underlying5 (hc 4 5 v4 rfl rfl)
 obtain⟨q5,g5,r5⟩:=It Tryz.underlying67 (hc 5 67 v5 rfl rfl)
 obtain⟨x6,rfl⟩:=BU Tryz.underlying3 (hc 6 3 v6 rfl rfl)
 obtain⟨x7,rfl⟩:=BU Tryz.underlying3 (hc 7 3 v7 rfl rfl)
 obtain⟨x8,rfl⟩:=BU Tryz.underlying68 (hc 8 68 v8 rfl rfl)
 obtain⟨x9,rfl⟩:=BU Tryz.underlying3 (hc 9 3 v9 rfl rfl)
 obtain⟨x10,rfl⟩:=BU Tryz.underlying3 (hc 10 3 v10 rfl rfl)
 obtain⟨x11,rfl⟩:=GI Tryz.underlying9 (hc 11 9 v11 rfl rfl)
 obtain⟨x12,rfl⟩:=BU Tryz.underlying3 (hc 12 3 v12 rfl rfl)
 obtain⟨x13,rfl⟩:=BU Tryz.underlying3 (hc 13 3 v13 rfl rfl)
 obtain⟨x14,rfl⟩:=GI Tryz.underlying9 (hc 14 9 v14 rfl rfl)
 obtain⟨x15,rfl⟩:=BU Tryz.underlying3 (hc 15 3 v15 rfl rfl)
 obtain⟨x16,rfl⟩:=BU Tryz.underlying3 (hc 16 3 v16 rfl rfl)
 obtain⟨q17,g17,r17⟩:=It Tryz.underlying22 (hc 17 22 v17 rfl rfl)
 obtain⟨o,n,c,r5⟩:=r5 0
 obtain⟨p,k,m,r17⟩:=r17 1
 have a5:=r5 (two q5 q17) rfl
 have a17:=r17 (two q5 q17) rfl
 have hat:∀ i z,two q5 q17 i=some z→i<256∧z.inp=true∧z.blk<w.heap.size:=fun i z hz=>by
  unfold two at hz
  split at hz
  ·rename_i hi
   exact⟨by omega,(g5 z hz).1,(g5 z hz).2⟩
  ·split at hz
   ·rename_i hi
    exact⟨by omega,(g17 z hz).1,(g17 z hz).2⟩
   ·cases hz
 exact Pn (φ:=two q5 q17) NR (PH x0 x1 x2 x3 x4 x6 x7 x8 x9 x10 x12 x13 x15 x16 x11 x14 o p n c k m)
  (.cons (.agg (.cons (.int _ _) (.cons (.int _ _) (.cons (.int _ _) (.cons (.int _ _) (.cons (.int _ _) (.cons a5 (.cons (.int _ _) (.cons (.int _ _) (.cons (.int _ _) (.cons (.int _ _) (.cons (.int _ _) (.cons (.string _) (.cons (.int _ _) (.cons (.int _ _) (.cons (.string _) (.cons (.int _ _) (.cons (.int _ _) (.cons a17 .nil))))))))))))))))))) .nil)
  (fun i z hz=>⟨(hat i z hz).1,(hat i z hz).2.1⟩) (fun i z hz=>(hat i z hz).2.2)
end
end Go.Proofs.YtglkncnkbofgfaaGreat

/-
  Part ZR of what Lawgn stands on: printed by program, names and spaces cut.
-/
import Derived.Test.YtglkncnkbofgfaaGreatZQ
namespace Go.Proofs.YtglkncnkbofgfaaGreat
noncomputable section
open Go
set_option maxHeartbeats 0 in
set_option maxRecDepth 100000 in
theorem Ob:D7 (JH Hs gawake.m2 64 5 [] (Gt 15))=true:=by kernel_rfl
theorem MW:ES Tryz.prog ty 5 J1:=PX ⟨Tryz.f5,Tryz.func5,SO (by kernel_rfl),by kernel_rfl⟩ (PO (gawake.calls_m2 64) Ob)
theorem oA:AX Tryz.prog ty 5 J1:=Or.inr (.inr MW)
end
noncomputable section
open Go
set_option maxRecDepth 100000 in
def Dw:FT:=(.nd AS (.nd AS (.nd b3 (.nd b7 (.nd b15 (.nd AS .mt .mt) (.nd AS .mt .mt)) (.nd AS (.nd AS .mt .mt) (.nd AS .mt .mt))) (.nd b11 (.nd AS (.nd AS .mt .mt) (.nd AS .mt .mt)) (.nd AS (.nd AS .mt .mt) (.nd AS .mt .mt)))) (.nd J1 (.nd b9 (.nd b17 (.nd AS .mt .mt) (.nd AS .mt .mt)) (.nd AS (.nd AS .mt .mt) (.nd AS .mt .mt))) (.nd b13 (.nd AS (.nd AS .mt .mt) (.nd AS .mt .mt)) (.nd AS (.nd AS .mt .mt) (.nd b61 .mt .mt))))) (.nd AS (.nd AS (.nd b8 (.nd b16 (.nd AS .mt .mt) (.nd AS .mt .mt)) (.nd AS (.nd AS .mt .mt) (.nd AS .mt .mt))) (.nd b12 (.nd AS (.nd AS .mt .mt) (.nd AS .mt .mt)) (.nd AS (.nd AS .mt .mt) (.nd AS .mt .mt)))) (.nd b6 (.nd b10 (.nd b18 (.nd AS .mt .mt) (.nd AS .mt .mt)) (.nd AS (.nd b42 .mt .mt) (.nd AS .mt .mt))) (.nd b14 (.nd AS (.nd AS .mt .mt) (.nd AS .mt .mt)) (.nd AS (.nd AS .mt .mt) .mt)))))
set_option maxRecDepth 100000 in
theorem MZ:FT.All (AX Tryz.prog ty) Dw id:=⟨AU _,⟨AU _,⟨o3,⟨o7,⟨o15,⟨AU _,trivial,trivial⟩,⟨AU _,trivial,trivial⟩⟩,⟨AU _,⟨AU _,trivial,trivial⟩,⟨AU _,trivial,trivial⟩⟩⟩,⟨o11,⟨AU _,⟨AU _,trivial,trivial⟩,⟨AU _,trivial,trivial⟩⟩,⟨AU _,⟨AU _,trivial,trivial⟩,⟨AU _,trivial,trivial⟩⟩⟩⟩,⟨oA,⟨o9,⟨o17,⟨AU _,trivial,trivial⟩,⟨AU _,trivial,trivial⟩⟩,⟨AU _,⟨AU _,trivial,trivial⟩,⟨AU _,trivial,trivial⟩⟩⟩,⟨o13,⟨AU _,⟨AU _,trivial,trivial⟩,⟨AU _,trivial,trivial⟩⟩,⟨AU _,⟨AU _,trivial,trivial⟩,⟨o61,trivial,trivial⟩⟩⟩⟩⟩,⟨AU _,⟨AU _,⟨o8,⟨o16,⟨AU _,trivial,trivial⟩,⟨AU _,trivial,trivial⟩⟩,⟨AU _,⟨AU _,trivial,trivial⟩,⟨AU _,trivial,trivial⟩⟩⟩,⟨o12,⟨AU _,⟨AU _,trivial,trivial⟩,⟨AU _,trivial,trivial⟩⟩,⟨AU _,⟨AU _,trivial,trivial⟩,⟨AU _,trivial,trivial⟩⟩⟩⟩,⟨o6,⟨o10,⟨o18,⟨AU _,trivial,trivial⟩,⟨AU _,trivial,trivial⟩⟩,⟨AU _,⟨o42,trivial,trivial⟩,⟨AU _,trivial,trivial⟩⟩⟩,⟨o14,⟨AU _,⟨AU _,trivial,trivial⟩,⟨AU _,trivial,trivial⟩⟩,⟨AU _,⟨AU _,trivial,trivial⟩,trivial⟩⟩⟩⟩⟩
theorem Od(n:Nat):BM Tryz.prog ty (call Dw n):=Fo L8 (by kernel_rfl) MZ n
set_option maxRecDepth 100000 in
def k3:C:=(AF g15
(cOp t16 (AE 5 [])
(cOp t4 (oMove g16)
AL))
(cOp t5 (oMove (kV (.pointer none)))
(cOp t18 (AZ Tb.zero [])
(cOp t19 (Al g18)
(cOp t20 (AZ Vw.zero [(0,1,g5),(1,1,g19)])
(cOp t21 (oMove (kV (.int .i64 0)))
(AY (AM 0 (Ah (cOp t22 (AH iLt .i64 g21 (kV (.int .i64 2)))
(AF g22
(AY (AM 1 (cOp t23 (oAt false 2 1 g20 g21)
(cOp t7 (oMove g23)
(cOp t25 (AE 6 [g7])
(cOp t27 (AE 7 [g7])
(cOp t29 (AE 8 [g7,(kV (.bool true))])
(cOp t33 (AE 9 [g7,g0,g1])
(cOp t34 (AH iNe .i64 g33 (kV (.int .i64 1)))
(cG g34 false t36 (oMove g7)
(cG g34 false t37 (AE 10 [g36])
(cG g34 false t38 (AP g37)
(cG g34 false t39 (AH iNe .i64 g38 (kV (.int .i64 0)))
(cOp t40 (AK g34 (kV (.bool true)) g39)
(cG g40 false t42 (oMove g7)
(cG g40 false t43 (AE 11 [g42,(kV (.int .i64 1)),(kV (.int .i64 2))])
(cG g40 false t44 (AH iNe .i64 g43 (kV (.int .i64 1)))
(cOp t45 (AK g40 (kV (.bool true)) g44)
(cG g45 false t47 (oMove g7)
(cG g45 false t48 (AE 12 [g47])
(cG g45 false t49 (C2 true 2 1 g48)
(cG g45 false t50 (C2 false 1 0 g49)
(cG g45 false t51 (AP g50)
(cG g45 false t52 (AH iNe .i64 g51 (kV (.int .i64 0)))
(cOp t53 (AK g45 (kV (.bool true)) g52)
(cG g53 false t55 (oMove g7)
(cG g53 false t56 (AE 13 [g55])
(cG g53 false t57 (AP g56)
(cG g53 false t58 (AH iNe .i64 g57 (kV (.int .i64 0)))
(cOp t59 (AK g53 (kV (.bool true)) g58)
(cG g59 false t61 (oMove g7)
(cG g59 false t62 (AE 14 [g61])
(cOp t63 (AK g59 (kV (.bool true)) g62)
(cG g63 false t65 (oMove g7)
(cG g63 false t66 (AE 15 [g65])
(cOp t67 (AK g63 (kV (.bool true)) g66)
(AF g67
(cOp t4 (oMove (kV (.bool false)))
AL)
cNorm))))))))))))))))))))))))))))))))))))
(cOp t68 (Ad .i64 (AW .i64) g21 (kV (.int .i64 1)))
(cOp t21 (oMove g68)
cNorm)))
(Af 0)))))
(cOp t70 (AE 16 [(kV (.int .i64 20))])
(cOp t71 (AG 0 g70)
(cOp t72 (AG 1 g70)
(cOp t8 (oMove g71)
(cOp t9 (oMove g72)
(cOp t73 (AE 17 [])
(cOp t10 (AV 256 Te)
(cDo (AD 256 g10 g73)
(cOp t76 (AZ Ta.zero [])
(cOp t77 (AE 18 [g8,(kV (.pointer none)),g10,g76])
(cOp t78 (AG 0 g77)
(cOp t79 (AG 1 g77)
(cOp t11 (oMove g78)
(cOp t12 (oMove g79)
(cOp t81 (AH iEq .i64 g12 (kV (.int .i64 1)))
(cG g81 true t83 (AE 5 [])
(cOp t84 (AK g81 g83 (kV (.bool false)))
(cOp t4 (oMove g84)
AL)))))))))))))))))))))))))
def e3(a:Int)(v:Value)(m:Nat):Env:=Env.set 14 (.int .i64 (.ofNat (Nat.succ m))) (Env.set 4 (.bool false) (Cc e0 0 [.int .i64 a,v]))
set_option maxHeartbeats 0 in
set_option maxRecDepth 100000 in
theorem SU(a:Int)(o:Option Addr)(m c:Nat):∀ b:Bool,D7 (LL [.t g4] (cOp t15 (fun _ _ h=>okB b h) k3 (call Dw 63) (e3 a (.slice o (Nat.succ m) c) m) GJ))=true:=fun b=>by cases b<;>kernel_rfl
set_option maxHeartbeats 0 in
set_option maxRecDepth 100000 in
theorem ST(a:Int)(o:Option Addr)(m c:Nat):D7 (call Dw 64 3 [.int .i64 a,.slice o (Nat.succ m) c] GJ)=D7 (LL [.t g4] (cOp t15 (fun _ _ h=>okB (iGt (.ofNat (Nat.succ m)) 3000) h) k3 (call Dw 63) (e3 a (.slice o (Nat.succ m) c) m) GJ)):=by kernel_rfl
set_option maxHeartbeats 0 in
set_option maxRecDepth 100000 in
theorem Oz(a:Int)(o:Option Addr)(c:Nat):D7 (call Dw 64 3 [.int .i64 a,.slice o 0 c] GJ)=true:=by kernel_rfl
theorem QX(a:Int)(o:Option Addr)(n c:Nat):D7 (call Dw 64 3 [.int .i64 a,.slice o n c] GJ)=true:=by
 cases n with
 |zero=>exact Oz a o c
 |succ m=>exact(ST a o m c).trans (SU a o m c _)
end
noncomputable section
open Go Go.RowKit
section
variable {P:Program}{W:World}{base:Nat}
theorem PQ{t e:Nat}{v:Value}(ht:P.underlying t=some (.slice e))(h:Cell.okWide P W .any base t v):
  ∃ q:Option Pl,(∀ p,q=some p→p.inp=true∧p.blk<W.heap.size)∧∀ b,∃ o n c,∀ φ:Phi,φ b=q→RelV φ (.slice o n c) v:=by
 rcases NJ ht h with rfl|⟨a,n,c,rfl,h1,h2,h3⟩
 ·exact⟨none,(fun p hp=>by cases hp),fun b=>⟨none,0,0,fun φ _=>.slice0⟩⟩
 ·refine⟨some {blk:=a.block,off:=a.off,sz:=c,room:=c,es:=1,inp:=true},(fun p hp=>by cases hp;exact⟨rfl,h3⟩),fun b=>⟨some ⟨b,0,none⟩,n,c,fun φ hφ=>?_⟩⟩
  refine .slice h1 ⟨rfl,h2,_,hφ,rfl,?_⟩
  rcases Nat.eq_zero_or_pos c with h|h
  ·exact .inr ⟨h,.inl h⟩
  ·exact .inl ⟨h,rfl,.inl rfl⟩
end
set_option maxRecDepth 100000 in
theorem Oy(x y:Value)(w:World){base:Nat}(hx:Value.okWide Tryz.prog w .any base 3 x)(hy:Value.okWide Tryz.prog w .any base 22 y):Calls Tryz.prog 3 #[x,y] w fun e w'=>e=.returned (.bool true)∧Below w.heap.size w w':=by
 have hx':Cell.okWide Tryz.prog w .any base 3 x:=by unfold Value.okWide at hx;rw[Tryz.underlying3]at hx;exact hx
 have hy':Cell.okWide Tryz.prog w .any base 22 y:=by unfold Value.okWide at hy;rw[Tryz.underlying22]at hy;exact hy
 obtain⟨a,rfl⟩:=QB Tryz.underlying3 hx'
 obtain⟨q,g,r⟩:=PQ Tryz.underlying22 hy'
 obtain⟨o,n,c,r⟩:=r 0
 have r:=r (fun i=>if i=0 then q else none) rfl
 have hat:∀ i z,(if i=0 then q else none)=some z→i<256∧z.inp=true∧z.blk<w.heap.size:=fun i z hz=>by
  split at hz
  ·rename_i hi
   exact⟨by omega,(g z hz).1,(g z hz).2⟩
  ·cases hz
 exact Q6 (φ:=fun i=>if i=0 then q else none) Od (QX a o n c) (.cons (.int _ _) (.cons r .nil)) (fun i z hz=>⟨(hat i z hz).1,(hat i z hz).2.1⟩) (fun i z hz=>(hat i z hz).2.2)
end
end Go.Proofs.YtglkncnkbofgfaaGreat

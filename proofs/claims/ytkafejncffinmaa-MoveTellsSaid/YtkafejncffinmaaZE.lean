/-
  THE CANONICAL MACHINE's CODE of this seat's functions, part 0; each is what 'bodyC' makes of the model's. Printed by program (compc.py).
  THE CANONICAL MACHINE's FUNCTIONS of this seat. Printed by program (compc.py).
  'awake' answers true: the kernel has reckoned it; so it is one step.
  THE CANONICAL MACHINE's FUNCTIONS of this seat, 'awake' a step. Printed by program (compc.py, awk.py).
  The code of functions with slots by number, and what each is at a call. Printed by program (symc.py).
  bytes.Uint and bytes.GetUint: what they give, for any number, any bytes.
  What is right, what is the same, copies: what these functions give, whatever they are handed.
  move.Bytes: what it gives, whatever move it is handed.
  The code of functions with slots by number, and what each is at a call. Printed by program (symc.py).
  Numbers of the document: Varint, joined, Uint, GetUint of cooperageref01: what these functions give.
-/
import Derived.Test.YtkafejncffinmaaZD
namespace Go.Proofs.Ytkafejncffinmaa
noncomputable section
open Go
set_option maxRecDepth 100000 in
def zt3 : VT := (.nd (.int .i64 0) .mt .mt)
set_option maxRecDepth 100000 in
def zt4 : VT := (.nd (.bool false) .mt .mt)
set_option maxRecDepth 100000 in
def BB : VT := (.nd (.int .i64 0) (.nd (.int .i64 0) .mt .mt) (.nd (.slice none 0 0) .mt .mt))
set_option maxRecDepth 100000 in
def DQ : VT := (.nd (.int .i64 0) (.nd (.slice none 0 0) .mt .mt) .mt)
def c2 : C :=
(cOp t0 (AQ 1 [])
Ac)
def b2 : Body := ⟨[], c2⟩
def al2 : List Nat := []
theorem dT : Bm ty al2 Try.f2 = some b2 := by kernel_rfl
set_option maxRecDepth 100000 in
def c3 : C :=
(cOp t4 (Bu g0)
(cOp t8 (AD (kV (.bool false)))
(cOp t32 (Ds 3 1 g4 (kV (.int .i64 0)))
(cOp t33 (AH g32)
(cOp t34 (C8 .u8 g33 (kV (.int .u8 20)))
(cOp t35 (BO .i64 g34)
(cOp t36 (A4 .i64 (Ai .i64) (kV (.int .i64 1)) g35)
(cOp t9 (AD g36)
(Bx (cOp t39 (Ds 3 1 g4 (kV (.int .i64 1)))
(cOp t40 (AH g39)
(cOp t41 (BO .i64 g40)
(cOp t43 (C8 .i64 g41 g9)
(cOp t44 (A4 .i64 (Ai .i64) (kV (.int .i64 1)) g43)
(cOp t45 (Ds 3 1 g4 (kV (.int .i64 2)))
(cOp t46 (AH g45)
(cOp t47 (C8 .u8 g46 (kV (.int .u8 40)))
(cOp t48 (BO .i64 g47)
(cOp t49 (A4 .i64 (Ai .i64) (kV (.int .i64 1)) g48)
(cOp t50 (An .free (AQ 7 [g9, g44, g49]))
(cOp t51 (AJ 0 g50)
(cOp t52 (AJ 1 g50)
(cOp t10 (AD g51)
(cOp t11 (AD g52)
(cOp t54 (AL iNe .i64 g11 (kV (.int .i64 0)))
(AP g54
(cOp t8 (AD (kV (.bool false)))
Ae)
(cOp t12 (AD (kV (.slice none 0 0)))
(cOp t13 (AD (kV (.int .i64 0)))
(Ar (AX 0 (Ao (cOp t57 (Af g2)
(cOp t58 (AL iLt .i64 g13 g57)
(cG g58 true t60 (AD g13)
(cG g58 true t61 (AL iLt .i64 g60 (kV (.int .i64 60)))
(cOp t62 (AS g58 g61 (kV (.bool false)))
(AP g62
(Ar (AX 1 (cOp t67 (A9 1 g2 g13)
(cOp t68 (AH g67)
(AP g68
(cOp t71 (AU 1 (BE ty3.zero 1) [(0, 1, g13)])
(cOp t72 (Az 1 8 3 g12 g71)
(cOp t12 (AD g72)
Ac)))
Ac))))
(cOp t64 (A4 .i64 (Ai .i64) g13 (kV (.int .i64 1)))
(cOp t13 (AD g64)
Ac)))
(A7 0)))))))))
(cOp t74 (C8 .u8 g1 (kV (.int .u8 25)))
(cOp t75 (BO .i64 g74)
(cOp t14 (AD g75)
(cOp t80 (AQ 8 [g10, g14, (kV (.int .i64 30)), g12])
(cOp t81 (AJ 0 g80)
(cOp t82 (AJ 1 g80)
(cOp t83 (AJ 2 g80)
(cOp t16 (At 3 BB)
(cOp t15 (AD g81)
(cDo (AY 3 g16 g82)
(cOp t17 (AD g83)
(cOp t85 (AL iNe .i64 g17 (kV (.int .i64 0)))
(cG g85 false t87 (AD g15)
(cG g85 false t88 (Af g87)
(cG g85 false t89 (AD g10)
(cG g85 false t90 (Af g89)
(cG g85 false t91 (AL iNe .i64 g88 g90)
(cOp t92 (AS g85 (kV (.bool true)) g91)
(cG g92 false t94 (Aa 3 g16)
(cG g92 false t95 (AQ 9 [g94])
(cG g92 false t96 (B7 g95)
(cOp t97 (AS g92 (kV (.bool true)) g96)
(AP g97
(cOp t8 (AD (kV (.bool false)))
Ae)
(cOp t98 K0
(cOp t18 (AD g98)
(cOp t99 (AF 2 g16)
(cOp WS (AH g99)
(cOp WT (Af RN)
(cOp Ny (AD (kV (.int .i64 0)))
(Ar (AX 2 (Ao (cOp QI (AL iLt .i64 Io UN)
(AP PR
(Ar (AX 3 (cOp QJ (A9 1 RN Io)
(cOp TN (AH Lh)
(cOp t20 (AD RO)
(cDo (DG ⟨false, [.i .i64]⟩ g18 g20 (kV (.int .i64 1)))
Ac)))))
(cOp TP (A4 .i64 (Ai .i64) Io (kV (.int .i64 1)))
(cOp Ny (AD RQ)
Ac)))
(A7 2)))))
(cOp WV (AD g12)
(cOp e9 (Af RR)
(cOp TQ (AD (kV (.int .i64 0)))
(Ar (AX 4 (Ao (cOp WW (AL iLt .i64 Li dk)
(AP RS
(Ar (AX 5 (cOp WX (A9 1 RR Li)
(cOp WY (AH UO)
(cOp t22 (AD UP)
(cOp WZ (AQ 10 [g10, g22])
(cOp Wa (AJ 0 NF)
(cOp am (AJ 1 NF)
(cOp t23 (At 2 DQ)
(cDo (AY 2 g23 UQ)
(cOp t24 (AD ZH)
(Bx (cOp aq (B7 g24)
(cG HX false Wb (AD g18)
(cG HX false Wc (AD g22)
(EG PT (DZ PT []
(cG HX false Wd (Cs ⟨false, [.i .i64]⟩ (.int .i64 0) false PT PU)
(cG HX false We (AL iEq .i64 UR (kV (.int .i64 1)))
(cG HX false au (Aa 2 g23)
(cG HX false av (AD g14)
(cG HX false ax (An .weak (AQ 11 [ZI, ZJ]))
(cG HX false Wh (AL iGe .i64 ZK (kV (.int .i64 0)))
(cG HX false Wi (oEq ty4.k true NG PV)
(cOp ay (AS HX (kV (.bool true)) NH)
(AP ZL
(cOp t8 (AD (kV (.bool false)))
Ae)
Ac)))))))))))))))))))))))))
(cOp Wj (A4 .i64 (Ai .i64) Li (kV (.int .i64 1)))
(cOp TQ (AD US)
Ac)))
(A7 4)))))
(cOp t25 (AD (kV (.int .i64 0)))
(Ar (AX 6 (Ao (cOp Wk (AL iLt .i64 g25 (kV (.int .i64 60)))
(cG JU true bA (AF 2 g16)
(cG JU true Wl (AH ZM)
(cG JU true bC (Af UT)
(cG JU true Wn (AL iGt .i64 ZN (kV (.int .i64 0)))
(cOp Wo (AS JU RT (kV (.bool false)))
(AP NJ
(Ar (AX 7 (cOp t26 (AD (kV (.int .i64 0)))
(cOp Wp (Af g3)
(cOp bH (AL iLt .i64 g25 NK)
(Ar (AP ZQ
(Bx (cOp Wr (A9 1 g3 g25)
(cOp Ws (AH RU)
(cOp bJ (BO .i64 Kg)
(cOp bK (AF 2 g16)
(cOp Wt (AH ZT)
(cOp Wu (Af UV)
(cOp Wv (C8 .i64 ZS RW)
(cOp t26 (AD UW)
Ac)))))))))
Ac)
(cOp Ww (AF 2 g16)
(cOp bL (AH UX)
(cOp Wx (A9 1 JV g26)
(cOp Wy (AH RX)
(cOp t27 (AD UY)
(cOp bN (Aa 3 g16)
(cOp bP (AQ 12 [ZV, g27])
(cOp Wz (AJ 0 UZ)
(cOp W2 (AJ 1 UZ)
(cOp t28 (At 3 BB)
(cDo (AY 3 g28 Ua)
(cOp t29 (AD Ub)
(cOp W3 (Aa 3 g28)
(cOp bT (AQ 12 [Uc, g27])
(cOp bU (AJ 0 NL)
(cOp W4 (AJ 1 NL)
(cOp t30 (At 3 BB)
(cDo (AY 3 g30 ZX)
(cOp t31 (AD Ud)
(cOp bW (AL iNe .i64 g29 (kV (.int .i64 0)))
(cG Ra false bY (AD g31)
(cG Ra false W5 (AL iNe .i64 ZY (kV (.int .i64 167)))
(cOp bZ (AS Ra (kV (.bool true)) NM)
(cG Iq false ba (AF 2 g28)
(cG Iq false bb (AH ZZ)
(cG Iq false bc (Af Za)
(cG Iq false fI (AF 2 g16)
(cG Iq false be (AH dw)
(cG Iq false bg (Af Zb)
(cG Iq false bh (CQ Int.sub .i64 Zc (kV (.int .i64 1)))
(cG Iq false bi (AL iNe .i64 NO Zd)
(cOp bj (AS Iq (kV (.bool true)) Ze)
(cG Lj false bk (Aa 3 g28)
(cG Lj false bm (AQ 9 [Zf])
(cG Lj false bn (B7 Zg)
(cOp fJ (AS Lj (kV (.bool true)) Re)
(cG Ug false bo (Aa 3 g16)
(cG Ug false bp (AQ 13 [Zh])
(cOp fL (AS Ug (kV (.bool true)) Rf)
(AP dz
(cOp t8 (AD (kV (.bool false)))
Ae)
(cOp bq (Aa 3 g28)
(cDo (AY 3 g16 Zi)
Ac)))))))))))))))))))))))))))))))))))))))))))))))
(cOp bD (A4 .i64 (Ai .i64) g25 (kV (.int .i64 1)))
(cOp t25 (AD ZO)
Ac)))
(A7 6))))))))))
(cOp br (Aa 3 g16)
(cOp bt (AQ 13 [Zj])
(cG PX true bu (AQ 14 [])
(cOp bx (AS PX Zk (kV (.bool false)))
(cOp t8 (AD Zl)
Ae))))))))))))))))))))))))))))))))))))))))))))))))))))))))))))))))))))))
def b3 : Body := ⟨[.t g8], c3⟩
def al3 : List Nat := [37, 38, 42, 53, 55, 56, 59, 63, 65, 66, 69, 70, 73, 76, 77, 78, 79, 84, 86, 93, 106, 107, 115, 116, 117, 121, 123, 135, 137, 143, 145, 146, 149, 150, 160, 163, 165, 169, 171, 175, 177, 181, 191, 196, 203]
theorem dU : Bm ty al3 Try.f3 = some b3 := by kernel_rfl
set_option maxRecDepth 100000 in
def c4 : C :=
(cOp t0 (AD (kV (.bool false)))
(cOp t38 (A6 B3.zero [])
(cOp t39 (A6 B3.zero [(0, 1, (kV (.int .i64 3))), (1, 1, (kV (.int .i64 3)))])
(cOp t40 (A6 B3.zero [(0, 1, (kV (.int .i64 (-1)))), (1, 1, (kV (.int .i64 3)))])
(cOp t41 (A6 B3.zero [(0, 1, (kV (.int .i64 256))), (1, 1, (kV (.int .i64 3)))])
(cOp t42 (A6 B3.zero [(1, 1, (kV (.int .i64 (-1))))])
(cOp t43 (A6 B3.zero [(1, 1, (kV (.int .i64 256)))])
(cOp t44 (AU 2 (BE ty3.zero 2) [(0, 1, (kV (.int .i64 2))), (1, 1, (kV (.int .i64 2)))])
(cOp t45 (A6 B3.zero [(1, 1, (kV (.int .i64 1))), (2, 1, g44)])
(cOp t46 (AU 2 (BE ty3.zero 2) [(0, 1, (kV (.int .i64 3))), (1, 1, (kV (.int .i64 2)))])
(cOp t47 (A6 B3.zero [(1, 1, (kV (.int .i64 1))), (2, 1, g46)])
(cOp t48 (AU 1 (BE ty3.zero 1) [(0, 1, (kV (.int .i64 (-1))))])
(cOp t49 (A6 B3.zero [(1, 1, (kV (.int .i64 1))), (2, 1, g48)])
(cOp t50 (AU 1 (BE ty3.zero 1) [(0, 1, (kV (.int .i64 1099511627777)))])
(cOp t51 (A6 B3.zero [(1, 1, (kV (.int .i64 1))), (2, 1, g50)])
(cOp t52 (AU 10 (BE B3.zero 10) [(0, 3, g38), (3, 3, g39), (6, 3, g40), (9, 3, g41), (12, 3, g42), (15, 3, g43), (18, 3, g45), (21, 3, g47), (24, 3, g49), (27, 3, g51)])
(cOp t53 (Af g52)
(cOp t54 (AD (kV (.int .i64 0)))
(Ar (AX 0 (Ao (cOp t55 (AL iLt .i64 g54 g53)
(AP g55
(Ar (AX 1 (cOp t57 (A9 3 g52 g54)
(cOp t58 (Aa 3 g57)
(cOp t2 (At 3 BB)
(cOp t1 (AD g54)
(cDo (AY 3 g2 g58)
(cOp t60 (Aa 3 g2)
(cOp t61 (AQ 12 [g60, (kV (.int .i64 2))])
(cOp t62 (AJ 0 g61)
(cOp t63 (AJ 1 g61)
(cOp t3 (At 3 BB)
(cDo (AY 3 g3 g62)
(cOp t4 (AD g63)
(cOp t65 (Aa 3 g2)
(cOp t66 (AQ 15 [g65])
(cOp t67 (AJ 0 g66)
(cOp t68 (AJ 1 g66)
(cOp t5 (AD g67)
(cOp t6 (AD g68)
(cOp t69 (Aa 3 g2)
(cOp t70 (AQ 9 [g69])
(cG g70 false t72 (Aa 3 g2)
(cG g70 false t73 (AQ 13 [g72])
(cOp t74 (AS g70 (kV (.bool true)) g73)
(cG g74 false t76 (AD g4)
(cG g74 false t77 (AL iNe .i64 g76 (kV (.int .i64 167)))
(cOp t78 (AS g74 (kV (.bool true)) g77)
(cG g78 false t80 (AD g6)
(cG g78 false t81 (AL iNe .i64 g80 (kV (.int .i64 167)))
(cOp t82 (AS g78 (kV (.bool true)) g81)
(AP g82
(cOp t84 (AL iLt .i64 g1 (kV (.int .i64 0)))
(cOp t0 (AD g84)
Ae))
Ac)))))))))))))))))))))))))))))))
(cOp t85 (A4 .i64 (Ai .i64) g54 (kV (.int .i64 1)))
(cOp t54 (AD g85)
Ac)))
(A7 0)))))
(cOp t86 (Oq 8 ty3.zero (kV (.int .i64 10001)) (kV (.int .i64 10001)))
(cOp t7 (AD g86)
(cOp t88 (Af g7)
(cOp t89 (AD (kV (.int .i64 0)))
(Ar (AX 2 (Ao (cOp t90 (AL iLt .i64 g89 g88)
(AP g90
(Ar (AX 3 (cOp t8 (AD g89)
(cOp t95 (A9 1 g7 g8)
(cDo (AY 1 g95 g8)
Ac))))
(cOp t96 (A4 .i64 (Ai .i64) g89 (kV (.int .i64 1)))
(cOp t89 (AD g96)
Ac)))
(A7 2)))))
(cOp t97 (AU 2 (BE ty3.zero 2) [(0, 1, (kV (.int .i64 4))), (1, 1, (kV (.int .i64 2)))])
(cOp t98 (A6 D8.zero [(0, 1, (kV (.int .i64 1))), (1, 1, g97)])
(cOp t99 (AU 1 (BE D8.zero 1) [(0, 2, g98)])
(cOp t9 (AD g99)
(cOp QI (Da 3 1 g7 none (some (kV (.int .i64 10000))) none)
(cOp QJ (AQ 8 [g9, (kV (.int .i64 4)), (kV (.int .i64 5)), PR])
(cOp TN (AJ 0 Lh)
(cOp TO (AJ 1 Lh)
(cOp WU (AJ 2 Lh)
(cOp t11 (At 3 BB)
(cOp t10 (AD RO)
(cDo (AY 3 g11 PS)
(cOp t12 (AD RP)
(cOp TQ (AQ 8 [g9, (kV (.int .i64 4)), (kV (.int .i64 5)), g7])
(cOp WW (AJ 0 Li)
(cOp WX (AJ 1 Li)
(cOp WY (AJ 2 Li)
(cOp t14 (At 3 BB)
(cOp t13 (AD RS)
(cDo (AY 3 g14 UO)
(cOp t15 (AD UP)
(cOp WZ (AQ 8 [g9, (kV (.int .i64 9)), (kV (.int .i64 5)), g7])
(cOp Wa (AJ 0 NF)
(cOp am (AJ 1 NF)
(cOp fB (AJ 2 NF)
(cOp t17 (At 3 BB)
(cOp t16 (AD UQ)
(cDo (AY 3 g17 ZH)
(cOp t18 (AD dm)
(cOp Wb (AU 2 (BE ty3.zero 2) [(0, 1, (kV (.int .i64 1))), (1, 1, (kV (.int .i64 1)))])
(cOp Wc (AQ 8 [g9, (kV (.int .i64 4)), (kV (.int .i64 5)), PT])
(cOp Wd (AJ 0 PU)
(cOp We (AJ 1 PU)
(cOp au (AJ 2 PU)
(cOp t20 (At 3 BB)
(cOp t19 (AD UR)
(cDo (AY 3 g20 NG)
(cOp t21 (AD ZI)
(cOp Wh (AQ 8 [g9, (kV (.int .i64 4)), (kV (.int .i64 2)), (kV (.slice none 0 0))])
(cOp Wi (AJ 0 PV)
(cOp ay (AJ 1 PV)
(cOp Wj (AJ 2 PV)
(cOp t23 (At 3 BB)
(cOp t22 (AD NH)
(cDo (AY 3 g23 ZL)
(cOp t24 (AD US)
(cOp Wk (AQ 8 [(kV (.slice none 0 0)), (kV (.int .i64 4)), (kV (.int .i64 5)), (kV (.slice none 0 0))])
(cOp az (AJ 0 JU)
(cOp bA (AJ 1 JU)
(cOp Wl (AJ 2 JU)
(cOp t26 (At 3 BB)
(cOp t25 (AD PW)
(cDo (AY 3 g26 ZM)
(cOp t27 (AD UT)
(cOp Wn (AQ 16 [(kV (.slice none 0 0))])
(cOp Wo (AJ 0 RT)
(cOp fE (AJ 1 RT)
(cOp t28 (At 3 BB)
(cDo (AY 3 g28 NJ)
(cOp t29 (AD dq)
(cOp bF (AU 3 (BE ty5.zero 3) [(0, 1, (kV (.int .u8 0))), (1, 1, (kV (.int .u8 1))), (2, 1, (kV (.int .u8 1)))])
(cOp bG (AQ 16 [ZP])
(cOp Wp (AJ 0 UU)
(cOp bH (AJ 1 UU)
(cOp t30 (At 3 BB)
(cDo (AY 3 g30 NK)
(cOp t31 (AD ZQ)
(cOp bI (AU 5 (BE ty5.zero 5) [(0, 1, (kV (.int .u8 0))), (1, 1, (kV (.int .u8 1))), (2, 1, (kV (.int .u8 2))), (3, 1, (kV (.int .u8 3))), (4, 1, (kV (.int .u8 0)))])
(cOp Wr (AQ 16 [ZR])
(cOp Ws (AJ 0 RU)
(cOp bJ (AJ 1 RU)
(cOp t32 (At 3 BB)
(cDo (AY 3 g32 Kg)
(cOp t33 (AD ZS)
(cOp Wt (AU 3 (BE ty5.zero 3) [(0, 1, (kV (.int .u8 0))), (1, 1, (kV (.int .u8 0))), (2, 1, (kV (.int .u8 0)))])
(cOp Wu (AQ 16 [UV])
(cOp Wv (AJ 0 RW)
(cOp Ww (AJ 1 RW)
(cOp t34 (At 3 BB)
(cDo (AY 3 g34 UW)
(cOp t35 (AD UX)
(cOp fG (AU 5 (BE ty5.zero 5) [(0, 1, (kV (.int .u8 0))), (1, 1, (kV (.int .u8 1))), (2, 1, (kV (.int .u8 2))), (3, 1, (kV (.int .u8 0))), (4, 1, (kV (.int .u8 1)))])
(cOp Wx (AQ 16 [du])
(cOp Wy (AJ 0 RX)
(cOp bM (AJ 1 RX)
(cOp t36 (At 3 BB)
(cDo (AY 3 g36 UY)
(cOp t37 (AD ZU)
(cOp bO (AL iEq .i64 g12 (kV (.int .i64 0)))
(cG Ip true Wz (AF 2 g11)
(cG Ip true W2 (AH Ua)
(cG Ip true bQ (Af Ub)
(cG Ip true W3 (AL iEq .i64 ZW (kV (.int .i64 10000)))
(cOp bR (AS Ip Uc (kV (.bool false)))
(cG RY true bU (AD g15)
(cG RY true W4 (AL iEq .i64 ZX (kV (.int .i64 5)))
(cOp bV (AS RY Ud (kV (.bool false)))
(cG RZ true bX (AD g18)
(cG RZ true bY (AL iEq .i64 Uf (kV (.int .i64 0)))
(cOp W5 (AS RZ ZY (kV (.bool false)))
(cG NM true fH (AD g16)
(cG NM true ba (Af dv)
(cG NM true bb (AL iEq .i64 ZZ (kV (.int .i64 1)))
(cOp bc (AS NM Za (kV (.bool false)))
(cG NO true be (AF 2 g17)
(cG NO true bg (AH Zb)
(cG NO true bh (Af Zc)
(cG NO true bi (AL iEq .i64 Zd (kV (.int .i64 0)))
(cOp bj (AS NO Ze (kV (.bool false)))
(cG Lj true bk (Aa 3 g17)
(cG Lj true bm (AQ 13 [Zf])
(cOp bn (AS Lj Zg (kV (.bool false)))
(cG Re true fK (AD g21)
(cG Re true bo (AL iEq .i64 dy (kV (.int .i64 2)))
(cOp bp (AS Re Zh (kV (.bool false)))
(cG Rf true bq (AD g24)
(cG Rf true br (AL iEq .i64 Zi (kV (.int .i64 100)))
(cOp bt (AS Rf Zj (kV (.bool false)))
(cG PX true bu (AD g27)
(cG PX true bx (AL iEq .i64 Zk (kV (.int .i64 2)))
(cOp fM (AS PX Zl (kV (.bool false)))
(cG Uh true fN (AD g29)
(cG Uh true fO (AL iEq .i64 d7 (kV (.int .i64 167)))
(cOp fP (AS Uh eA (kV (.bool false)))
(cG Ui true fQ (AD g31)
(cG Ui true fR (AL iEq .i64 eB (kV (.int .i64 167)))
(cOp fS (AS Ui eC (kV (.bool false)))
(cG Uj true fT (AD g33)
(cG Uj true fU (AL iEq .i64 eD (kV (.int .i64 167)))
(cOp fV (AS Uj eE (kV (.bool false)))
(cG Uk true fW (AD g35)
(cG Uk true fX (AL iEq .i64 eF (kV (.int .i64 167)))
(cOp fY (AS Uk eG (kV (.bool false)))
(cG Ul true fZ (AD g37)
(cG Ul true fa (AL iEq .i64 eH (kV (.int .i64 0)))
(cOp fb (AS Ul eI (kV (.bool false)))
(cG PY true fc (AF 2 g36)
(cG PY true fd (AH eJ)
(cG PY true ff (AU 2 (BE ty3.zero 2) [(0, 1, (kV (.int .i64 0))), (1, 1, (kV (.int .i64 1)))])
(cG PY true fg (AQ 17 [eK, eL])
(cOp fh (AS PY eM (kV (.bool false)))
(cG Zm true fj (AQ 14 [])
(cOp fk (AS Zm eN (kV (.bool false)))
(cOp t0 (AD eO)
Ae))))))))))))))))))))))))))))))))))))))))))))))))))))))))))))))))))))))))))))))))))))))))))))))))))))))))))))))))))))))))))))))))))))))))))))))))))))))))))))))))))))))))
def b4 : Body := ⟨[.t g0], c4⟩
def al4 : List Nat := [56, 59, 64, 71, 75, 79, 83, 87, 91, 92, 93, 94, 100, 101, 102, 108, 109, 110, 115, 116, 117, 122, 123, 129, 130, 135, 140, 144, 149, 154, 159, 164, 166, 172, 176, 180, 185, 191, 195, 199, 203, 207, 211, 215, 219, 223, 227, 233]
theorem dV : Bm ty al4 Try.f4 = some b4 := by kernel_rfl
def c5 : C :=
(cOp t7 (Bu g1)
(cOp t12 (AD (kV (.bool false)))
(cOp t33 (AQ 18 [g0, (kV (.int .i64 20)), (kV (.int .i64 30))])
(cOp t34 (B7 g33)
(cG g34 false t36 (AF 2 g7)
(cG g34 false t37 (AH g36)
(cG g34 false t38 (Af g37)
(cG g34 false t39 (AL iGt .i64 g38 (kV (.int .i64 100)))
(cOp t40 (AS g34 (kV (.bool true)) g39)
(cG g40 false t42 (AD g2)
(cG g40 false t43 (Af g42)
(cG g40 false t44 (AL iGt .i64 g43 (kV (.int .i64 100)))
(cOp t45 (AS g40 (kV (.bool true)) g44)
(cG g45 false t47 (AD g5)
(cG g45 false t48 (Af g47)
(cG g45 false t49 (AL iGt .i64 g48 (kV (.int .i64 500)))
(cOp t50 (AS g45 (kV (.bool true)) g49)
(AP g50
(cOp t51 (AQ 14 [])
(cOp t12 (AD g51)
Ae))
(Bx (cOp t52 (AF 0 g7)
(EG g52 (DZ g52 []
(cOp t53 (AH g52)
(cOp t54 (AF 1 g7)
(EG g54 (DZ g54 []
(cOp t55 (AH g54)
(cOp t56 (AF 2 g7)
(cOp t57 (AH g56)
(cOp t58 (An .weak (AQ 19 [g57]))
(cOp t59 (A6 B3.zero [(0, 1, g53), (1, 1, g55), (2, 1, g58)])
(cOp t13 (An .strong (At 3 BB))
(cDo (An .free (AY 3 g13 g59))
(cOp t65 (AQ 8 [g0, g3, g4, g2])
(cOp t66 (AJ 0 g65)
(cOp t67 (AJ 1 g65)
(cOp t68 (AJ 2 g65)
(cOp t15 (At 3 BB)
(cOp t14 (AD g66)
(cDo (AY 3 g15 g67)
(cOp t16 (AD g68)
(cOp t74 (AQ 20 [g0, g3, g4, g2])
(cOp t75 (AJ 0 g74)
(cOp t76 (AJ 1 g74)
(cOp t77 (AJ 2 g74)
(cOp t18 (At 3 BB)
(cOp t17 (AD g75)
(cDo (AY 3 g18 g76)
(cOp t19 (AD g77)
(cOp t80 (AQ 21 [g14, g17])
(cOp t81 (B7 g80)
(cG g81 false t83 (Aa 3 g15)
(cG g81 false t84 (Aa 3 g18)
(cG g81 false t85 (AQ 22 [g83, g84])
(cG g81 false t86 (B7 g85)
(cOp t87 (AS g81 (kV (.bool true)) g86)
(cG g87 false t89 (AD g16)
(cG g87 false t90 (AD g19)
(cG g87 false t91 (AL iNe .i64 g89 g90)
(cOp t92 (AS g87 (kV (.bool true)) g91)
(AP g92
(cOp t12 (AD (kV (.bool false)))
Ae)
(cOp t94 (Aa 3 g13)
(cOp t96 (AQ 12 [g94, g3])
(cOp t97 (AJ 0 g96)
(cOp t98 (AJ 1 g96)
(cOp t20 (At 3 BB)
(cDo (AY 3 g20 g97)
(cOp t21 (AD g98)
(cOp WS (Aa 3 g7)
(cOp Ny (AQ 23 [RN, g3])
(cOp QI (AJ 0 Io)
(cOp QJ (AJ 1 Io)
(cOp t22 (At 3 BB)
(cDo (AY 3 g22 PR)
(cOp t23 (AD Lh)
(cOp TO (Aa 3 g13)
(cOp WU (AQ 15 [PS])
(cOp TP (AJ 0 RP)
(cOp WV (AJ 1 RP)
(cOp t24 (AD RQ)
(cOp t25 (AD RR)
(cOp TQ (Aa 3 g7)
(cOp WW (AQ 24 [Li])
(cOp WX (AJ 0 RS)
(cOp WY (AJ 1 RS)
(cOp t26 (AD UO)
(cOp t27 (AD UP)
(cOp fA (AQ 16 [g5])
(cOp WZ (AJ 0 ZG)
(cOp Wa (AJ 1 ZG)
(cOp t28 (At 3 BB)
(cDo (AY 3 g28 NF)
(cOp t29 (AD UQ)
(cOp aq (AQ 25 [g5])
(cOp fC (AJ 0 HX)
(cOp Wb (AJ 1 HX)
(cOp t30 (At 3 BB)
(cDo (AY 3 g30 dn)
(cOp t31 (AD PT)
(Bx (cOp Wc (Aa 3 g20)
(cOp Wd (Aa 3 g22)
(cOp We (An .free (AQ 22 [PU, UR]))
(cG NG true av (AD g21)
(cG NG true ax (AD g23)
(cG NG true Wh (AL iEq .i64 ZJ ZK)
(cOp Wi (AS NG PV (kV (.bool false)))
(cG NH true Wj (AD g24)
(cG NH true fD (AD g26)
(cG NH true Wk (An .free (AQ 26 [US, dp]))
(cOp az (AS NH JU (kV (.bool false)))
(cG PW true Wl (AD g25)
(cG PW true bC (AD g27)
(cG PW true Wn (AL iEq .i64 UT ZN)
(cOp Wo (AS PW RT (kV (.bool false)))
(cG NJ true bD (Aa 3 g28)
(cG NJ true bF (Aa 3 g30)
(cG NJ true bG (An .free (AQ 22 [ZO, ZP]))
(cOp Wp (AS NJ UU (kV (.bool false)))
(cG NK true fF (AD g29)
(cG NK true bI (AD g31)
(cG NK true Wr (AL iEq .i64 dr ZR)
(cOp Ws (AS NK RU (kV (.bool false)))
(cG Kg true bK (Aa 3 g13)
(cG Kg true Wt (An .weak (AQ 9 [ZT]))
(EG g7 (DZ g7 []
(cG Kg true Wu (Aa 3 g7)
(cG Kg true Wv (An .free (AQ 27 [RW]))
(cG Kg true Ww (oEq ty4.k false UV UW)
(cOp bL (AS Kg UX (kV (.bool false)))
(cG JV true Wx (Aa 3 g13)
(cG JV true Wy (An .weak (AQ 13 [RX]))
(EG g7 (DZ g7 []
(cG JV true bM (Aa 3 g7)
(cG JV true bN (An .free (AQ 27 [ZU]))
(cG JV true bO (AD ZV)
(cG Ip true bP (AF 2 g7)
(cG Ip true Wz (AH UZ)
(cG Ip true W2 (Af Ua)
(cG Ip true bQ (AL iEq .i64 Ub (kV (.int .i64 0)))
(cG JV true W3 (AS Ip ZW (kV (.bool false)))
(cG JV true bR (oEq ty4.k false UY Uc)
(cOp bT (AS JV RY (kV (.bool false)))
(cG NL true W4 (Aa 3 g13)
(cG NL true bV (Aa 3 g7)
(cG NL true bW (An .free (AQ 22 [Ud, RZ]))
(cOp bX (AS NL Ra (kV (.bool false)))
(cG Uf true W5 (An .free (AQ 14 []))
(cOp bZ (AS Uf NM (kV (.bool false)))
(cOp t12 (AD Iq)
Ae))))))))))))))))))))))))))))))))))))))))))))))))))))))))))))))))))))))))))))))))))))))))))))))))))))))))))))))))))))))))))))))))))))))))))))))))))))))))
def b5 : Body := ⟨[.t g12], c5⟩
def al5 : List Nat := [32, 35, 41, 46, 60, 61, 62, 63, 64, 69, 70, 71, 72, 73, 78, 79, 82, 88, 93, 95, 99, 101, 105, 110, 115, 116, 120, 121, 128, 133, 138, 143, 148, 153, 160, 173, 178]
theorem dW : Bm ty al5 Try.f5 = some b5 := by kernel_rfl
def c6 : C :=
(cOp t3 (Bu g0)
(cOp t6 (AD (kV (.bool false)))
(cOp t19 (AF 2 g3)
(cOp t20 (AH g19)
(cOp t21 (Af g20)
(cOp t22 (AL iGt .i64 g21 (kV (.int .i64 100)))
(cG g22 false t24 (AD g2)
(cG g22 false t25 (Af g24)
(cG g22 false t26 (AL iGt .i64 g25 (kV (.int .i64 500)))
(cOp t27 (AS g22 (kV (.bool true)) g26)
(AP g27
(cOp t28 (AQ 14 [])
(cOp t6 (AD g28)
Ae))
(cOp t31 (AQ 16 [g2])
(cOp t32 (AJ 0 g31)
(cOp t33 (AJ 1 g31)
(cOp t7 (At 3 BB)
(cDo (AY 3 g7 g32)
(cOp t8 (AD g33)
(cOp t35 (AL iEq .i64 g8 (kV (.int .i64 0)))
(Ar (AP g35
(cOp t37 (Aa 3 g7)
(cOp t38 (AQ 15 [g37])
(cOp t39 (AJ 0 g38)
(cOp t40 (AJ 1 g38)
(cOp t9 (AD g39)
(cOp t10 (AD g40)
(cOp t42 (AL iNe .i64 g10 (kV (.int .i64 0)))
(cG g42 false t44 (AD g9)
(cG g42 false t45 (AD g2)
(cG g42 false t46 (AQ 26 [g44, g45])
(cG g42 false t47 (B7 g46)
(cOp t48 (AS g42 (kV (.bool true)) g47)
(AP g48
(cOp t6 (AD (kV (.bool false)))
Ae)
Ac)))))))))))))
Ac)
(cOp t50 (Aa 3 g3)
(cOp t51 (AQ 15 [g50])
(cOp t52 (AJ 0 g51)
(cOp t53 (AJ 1 g51)
(cOp t11 (AD g52)
(cOp t12 (AD g53)
(cOp t55 (AL iEq .i64 g12 (kV (.int .i64 0)))
(cOp t56 (Aa 3 g3)
(cOp t57 (AQ 9 [g56])
(cOp t58 (oEq ty4.k true g55 g57)
(AP g58
(cOp t6 (AD (kV (.bool false)))
Ae)
(cOp t60 (AL iNe .i64 g12 (kV (.int .i64 0)))
(AP g60
(cOp t61 (AQ 14 [])
(cOp t6 (AD g61)
Ae))
(cOp t64 (AQ 16 [g11])
(cOp t65 (AJ 0 g64)
(cOp t66 (AJ 1 g64)
(cOp t13 (At 3 BB)
(cDo (AY 3 g13 g65)
(cOp t14 (AD g66)
(cOp t68 (AL iNe .i64 g14 (kV (.int .i64 0)))
(cG g68 false t70 (Aa 3 g13)
(cG g68 false t71 (Aa 3 g3)
(cG g68 false t72 (AQ 22 [g70, g71])
(cG g68 false t73 (B7 g72)
(cOp t74 (AS g68 (kV (.bool true)) g73)
(cG g74 false t76 (AD g11)
(cG g74 false t77 (Af g76)
(cG g74 false t78 (AL iEq .i64 g77 (kV (.int .i64 0)))
(cOp t79 (AS g74 (kV (.bool true)) g78)
(AP g79
(cOp t6 (AD (kV (.bool false)))
Ae)
(cOp t83 (BO .i64 g1)
(cOp t85 (Af g11)
(cOp t86 (C8 .i64 g83 g85)
(cOp t87 (Da 5 1 g11 none (some g86) none)
(cOp t88 (AQ 16 [g87])
(cOp t89 (AJ 0 g88)
(cOp t90 (AJ 1 g88)
(cOp t15 (At 3 BB)
(cDo (AY 3 g15 g89)
(cOp t16 (AD g90)
(cOp t93 (AQ 28 [g11])
(cOp t95 (BO .u8 g1)
(cOp t96 (AU 1 (BE ty5.zero 1) [(0, 1, g95)])
(cOp t97 (Az 1 1 5 g93 g96)
(cOp t98 (AQ 16 [g97])
(cOp t99 (AJ 0 g98)
(cOp WS (AJ 1 g98)
(cOp t17 (At 3 BB)
(cDo (AY 3 g17 g99)
(cOp t18 (AD RN)
(cOp Ny (AL iEq .i64 g16 (kV (.int .i64 167)))
(cG Io true QJ (AD g18)
(cG Io true TN (AL iEq .i64 Lh (kV (.int .i64 167)))
(cOp TO (AS Io RO (kV (.bool false)))
(cG PS true TP (AQ 14 [])
(cOp WV (AS PS RQ (kV (.bool false)))
(cOp t6 (AD RR)
Ae))))))))))))))))))))))))))))))))))))))))))))))))))))))))))))))))))))))))))))
def b6 : Body := ⟨[.t g6], c6⟩
def al6 : List Nat := [23, 29, 30, 34, 36, 41, 43, 49, 54, 59, 62, 63, 67, 69, 75, 80, 81, 82, 84, 91, 92, 94, 101, 103, 107]
theorem dX : Bm ty al6 Try.f6 = some b6 := by kernel_rfl
def c7 : C :=
(cOp t6 (AD (kV (.slice none 0 0)))
(cOp t7 (AD (kV (.int .i64 0)))
(cOp t13 (AL iLt .i64 g0 (kV (.int .i64 1)))
(cG g13 false t15 (AD g0)
(cG g13 false t16 (AL iGt .i64 g15 (kV (.int .i64 256)))
(cOp t17 (AS g13 (kV (.bool true)) g16)
(cG g17 false t19 (AD g1)
(cG g17 false t20 (AL iLt .i64 g19 (kV (.int .i64 1)))
(cOp t21 (AS g17 (kV (.bool true)) g20)
(cG g21 false t23 (AD g1)
(cG g21 false t24 (AD g0)
(cG g21 false t25 (Vi (kV (.int .i64 255)) g24)
(cG g21 false t26 (AL iGt .i64 g23 g25)
(cOp t27 (AS g21 (kV (.bool true)) g26)
(cG g27 false t29 (AD g2)
(cG g27 false t30 (AL iLt .i64 g29 (kV (.int .i64 1)))
(cOp t31 (AS g27 (kV (.bool true)) g30)
(cG g31 false t33 (AD g2)
(cG g31 false t34 (AL iGt .i64 g33 (kV (.int .i64 1000)))
(cOp t35 (AS g31 (kV (.bool true)) g34)
(AP g35
(cOp t6 (AD (kV (.slice none 0 0)))
(cOp t7 (AD (kV (.int .i64 2)))
Ae))
(cOp t8 (AD (kV (.slice none 0 0)))
(cOp t36 (AD g2)
(cOp t37 (AD (kV (.int .i64 0)))
(Ar (AX 0 (Ao (cOp t38 (AL iLt .i64 g37 g36)
(AP g38
(Ar (AX 1 (cOp t9 (AD g37)
(cOp t40 (A6 D8.zero [(0, 1, (kV (.int .i64 1)))])
(cOp t10 (At 2 DQ)
(cDo (AY 2 g10 g40)
(cOp t41 (AD g1)
(cOp t42 (AD (kV (.int .i64 0)))
(Ar (AX 2 (Ao (cOp t43 (AL iLt .i64 g42 g41)
(AP g43
(Ar (AX 3 (cOp t11 (AD g42)
(Bx (cOp t45 (AF 1 g10)
(cOp t46 (AH g45)
(cOp t49 (A4 .i64 (Ai .i64) g9 g11)
(cOp t51 (C8 .i64 g49 g0)
(cOp t52 (An .strong (AU 1 (BE ty3.zero 1) [(0, 1, g51)]))
(cOp t53 (An .free (Az 1 8 3 g46 g52))
(cOp t54 (AF 1 g10)
(cDo (An .free (AY 1 g54 g53))
Ac)))))))))))
(cOp t55 (A4 .i64 (Ai .i64) g42 (kV (.int .i64 1)))
(cOp t42 (AD g55)
Ac)))
(A7 2)))))
(cOp t57 (Aa 2 g10)
(cOp t58 (AU 1 (BE D8.zero 1) [(0, 2, g57)])
(cOp t59 (Az 2 32 37 g8 g58)
(cOp t8 (AD g59)
Ac))))))))))))
(cOp t60 (A4 .i64 (Ai .i64) g37 (kV (.int .i64 1)))
(cOp t37 (AD g60)
Ac)))
(A7 0)))))
(cOp t6 (AD g8)
(cOp t7 (AD (kV (.int .i64 0)))
Ae)))))))))))))))))))))))))))
def b7 : Body := ⟨[.t g6, .t g7], c7⟩
def al7 : List Nat := [12, 14, 18, 22, 28, 32, 39, 44, 47, 48, 50, 56, 61]
theorem dY : Bm ty al7 Try.f7 = some b7 := by kernel_rfl
def c8 : C :=
(cOp t8 (AD (kV (.slice none 0 0)))
(cOp t9 (At 3 BB)
(cOp t10 (AD (kV (.int .i64 0)))
(cOp t24 (AQ 29 [g0, g1, g2])
(cOp t25 (AJ 0 g24)
(cOp t26 (AJ 1 g24)
(cOp t27 (AJ 2 g24)
(cOp t11 (AD g25)
(cOp t12 (AD g26)
(cOp t13 (AD g27)
(cOp t29 (AL iNe .i64 g13 (kV (.int .i64 0)))
(AP g29
(cOp t30 (A6 B3.zero [])
(cOp t8 (AD (kV (.slice none 0 0)))
(cDo (AY 3 g9 g30)
(cOp t10 (AD g13)
Ae))))
(cOp t33 (AQ 30 [g3])
(cOp t34 (B7 g33)
(AP g34
(cOp t35 (A6 B3.zero [])
(cOp t8 (AD (kV (.slice none 0 0)))
(cDo (AY 3 g9 g35)
(cOp t10 (AD (kV (.int .i64 2)))
Ae))))
(cOp t36 K0
(cOp t14 (AD g36)
(cOp t37 (AD g12)
(cOp t38 (Af g37)
(cOp t39 (AD (kV (.int .i64 0)))
(Ar (AX 0 (Ao (cOp t40 (AL iLt .i64 g39 g38)
(AP g40
(Ar (AX 1 (cOp t41 (A9 1 g37 g39)
(cOp t42 (AH g41)
(cOp t16 (AD g42)
(cOp t45 (Cs ⟨false, [.i .i64]⟩ (.int .i64 0) false g14 g16)
(cOp t46 (A4 .i64 (Ai .i64) g45 (kV (.int .i64 1)))
(cDo (DG ⟨false, [.i .i64]⟩ g14 g16 g46)
Ac)))))))
(cOp t47 (A4 .i64 (Ai .i64) g39 (kV (.int .i64 1)))
(cOp t39 (AD g47)
Ac)))
(A7 0)))))
(cOp t50 (A6 B3.zero [(0, 1, g1), (1, 1, g2)])
(cOp t17 (At 3 BB)
(cDo (AY 3 g17 g50)
(cOp t51 (AD g3)
(cOp t52 (Af g51)
(cOp t53 (AD (kV (.int .i64 0)))
(Ar (AX 2 (Ao (cOp t54 (AL iLt .i64 g53 g52)
(AP g54
(Ar (AX 3 (cOp t55 (A9 1 g51 g53)
(cOp t56 (AH g55)
(cOp t19 (AD g56)
(cOp t60 (Af g0)
(cOp t61 (C8 .i64 g19 g60)
(cOp t62 (Cs ⟨false, [.i .i64]⟩ (.int .i64 0) false g14 g61)
(cOp t63 (AL iEq .i64 g62 (kV (.int .i64 0)))
(AP g63
(A7 3)
(cOp t64 (AF 2 g17)
(cOp t65 (AH g64)
(cOp t66 (Af g65)
(cOp t67 (AL iGe .i64 g66 (kV (.int .i64 10000)))
(AP g67
(cOp t68 (A6 B3.zero [])
(cOp t8 (AD (kV (.slice none 0 0)))
(cDo (AY 3 g9 g68)
(cOp t10 (AD (kV (.int .i64 5)))
Ae))))
(cOp t69 (AF 2 g17)
(cOp t70 (AH g69)
(cOp t72 (AU 1 (BE ty3.zero 1) [(0, 1, g19)])
(cOp t73 (Az 1 8 3 g70 g72)
(cOp t74 (AF 2 g17)
(cDo (AY 1 g74 g73)
Ac))))))))))))))))))))
(cOp t75 (A4 .i64 (Ai .i64) g53 (kV (.int .i64 1)))
(cOp t53 (AD g75)
Ac)))
(A7 2)))))
(Bx (cOp t77 (Aa 3 g17)
(cOp t8 (AD g11)
(cDo (An .free (AY 3 g9 g77))
(cOp t10 (AD (kV (.int .i64 0)))
Ae)))))))))))))))))))))))))))))))))
def b8 : Body := ⟨[.t g8, .cN g9 3, .t g10], c8⟩
def al8 : List Nat := [20, 21, 22, 23, 28, 31, 32, 43, 44, 48, 49, 57, 58, 59, 71, 76]
theorem dZ : Bm ty al8 Try.f8 = some b8 := by kernel_rfl
def c9 : C :=
(cOp t1 (Bu g0)
(cOp t2 (AD (kV (.bool false)))
(cOp t3 (AD (kV (.func (.func 31) #[] #[])))
(cOp t5 (AF 0 g1)
(cOp t6 (AH g5)
(cOp t7 (CN g3 [g6])
(cG g7 true t9 (AD g3)
(cG g7 true t10 (AF 1 g1)
(cG g7 true t11 (AH g10)
(cG g7 true t12 (CN g9 [g11])
(cOp t13 (AS g7 g12 (kV (.bool false)))
(cG g13 true t15 (AF 0 g1)
(cG g13 true t16 (AH g15)
(cG g13 true t17 (AF 1 g1)
(cG g13 true t18 (AH g17)
(cG g13 true t19 (AL iNe .i64 g16 g18)
(cOp t20 (AS g13 g19 (kV (.bool false)))
(cG g20 true t22 (AF 2 g1)
(cG g20 true t23 (AH g22)
(cG g20 true t24 (Af g23)
(cG g20 true t25 (AL iLe .i64 g24 (kV (.int .i64 10000)))
(cOp t26 (AS g20 g25 (kV (.bool false)))
(cG g26 true t28 (AF 2 g1)
(cG g26 true t29 (AH g28)
(cG g26 true t30 (AQ 30 [g29])
(cOp t31 (AS g26 g30 (kV (.bool false)))
(cOp t2 (AD g31)
Ae)))))))))))))))))))))))))))
def b9 : Body := ⟨[.t g2], c9⟩
def al9 : List Nat := [4, 8, 14, 21, 27]
theorem da : Bm ty al9 Try.f9 = some b9 := by kernel_rfl
def c10 : C :=
(cOp t4 (At 2 DQ)
(cOp t5 (AD (kV (.bool false)))
(cOp t7 (Af g0)
(cOp t8 (AL iEq .i64 g7 (kV (.int .i64 0)))
(cG g8 false t10 (AD g1)
(cG g8 false t11 (AL iLt .i64 g10 (kV (.int .i64 0)))
(cOp t12 (AS g8 (kV (.bool true)) g11)
(AP g12
(cOp t13 (A6 D8.zero [])
(cDo (AY 2 g4 g13)
(cOp t5 (AD (kV (.bool false)))
Ae)))
(cOp t17 (Af g0)
(cOp t18 (C8 .i64 g1 g17)
(cOp t19 (A9 2 g0 g18)
(cOp t20 (Aa 2 g19)
(cOp t21 (AQ 32 [g20])
(cDo (AY 2 g4 g21)
(cOp t5 (AD (kV (.bool true)))
Ae)))))))))))))))
def b10 : Body := ⟨[.cN g4 2, .t g5], c10⟩
def cK : List Nat := [6, 9, 14, 15, 16]
theorem XT : Bm ty cK Try.f10 = some b10 := by kernel_rfl
def c11 : C :=
(cOp t2 (Bu g0)
(cOp t4 (AD (kV (.int .i64 0)))
(cOp t5 (AF 1 g2)
(cOp t6 (AH g5)
(cOp t8 (AQ 33 [g6, g1])
(cOp t4 (AD g8)
Ae))))))
def b11 : Body := ⟨[.t g4], c11⟩
def cL : List Nat := [7]
theorem XU : Bm ty cL Try.f11 = some b11 := by kernel_rfl
def c12 : C :=
(cOp t2 (Bu g0)
(cOp t4 (At 3 BB)
(cOp t5 (AD (kV (.int .i64 0)))
(cOp t7 (AF 2 g2)
(cOp t8 (AH g7)
(cOp t10 (AQ 33 [g8, g1])
(cOp t6 (AD g10)
(cOp t11 (Aa 3 g2)
(cOp t12 (AQ 9 [g11])
(cOp t13 (B7 g12)
(cG g13 false t15 (AD g6)
(cG g13 false t16 (AL iLt .i64 g15 (kV (.int .i64 0)))
(cOp t17 (AS g13 (kV (.bool true)) g16)
(AP g17
(cOp t18 (Aa 3 g2)
(cDo (AY 3 g4 g18)
(cOp t5 (AD (kV (.int .i64 167)))
Ae)))
(cOp t19 (AF 2 g2)
(cOp t20 (AH g19)
(cOp t21 (AQ 35 [g20])
(cOp t24 (A4 .i64 (Ai .i64) g6 (kV (.int .i64 1)))
(cOp t25 (AQ 34 [g21, g6, g24])
(cOp t26 (AF 2 g2)
(cDo (AY 1 g26 g25)
(cOp t27 (Aa 3 g2)
(cDo (AY 3 g4 g27)
(cOp t5 (AD (kV (.int .i64 0)))
Ae))))))))))))))))))))))))
def b12 : Body := ⟨[.cN g4 3, .t g5], c12⟩
def cM : List Nat := [9, 14, 22, 23]
theorem XV : Bm ty cM Try.f12 = some b12 := by kernel_rfl
def c13 : C :=
(cOp t1 (Bu g0)
(cOp t2 (AD (kV (.bool false)))
(cOp t3 (Aa 3 g1)
(cOp t4 (AQ 9 [g3])
(cG g4 true t6 (AF 2 g1)
(cG g4 true t7 (AH g6)
(cG g4 true t8 (Af g7)
(cG g4 true t9 (AL iEq .i64 g8 (kV (.int .i64 0)))
(cOp t10 (AS g4 g9 (kV (.bool false)))
(cOp t2 (AD g10)
Ae))))))))))
def b13 : Body := ⟨[.t g2], c13⟩
def cP : List Nat := [5]
theorem XW : Bm ty cP Try.f13 = some b13 := by kernel_rfl
def c14 : C :=
(cOp t0 (AD (kV (.bool false)))
(cOp t13 (AQ 7 [(kV (.int .i64 4)), (kV (.int .i64 3)), (kV (.int .i64 4))])
(cOp t14 (AJ 0 g13)
(cOp t15 (AJ 1 g13)
(cOp t1 (AD g14)
(cOp t2 (AD g15)
(cOp t18 (AU 10 (BE ty3.zero 10) [(0, 1, (kV (.int .i64 0))), (1, 1, (kV (.int .i64 1))), (2, 1, (kV (.int .i64 2))), (3, 1, (kV (.int .i64 3))), (4, 1, (kV (.int .i64 4))), (5, 1, (kV (.int .i64 5))), (6, 1, (kV (.int .i64 6))), (7, 1, (kV (.int .i64 7))), (8, 1, (kV (.int .i64 8))), (9, 1, (kV (.int .i64 9)))])
(cOp t19 (AQ 8 [g1, (kV (.int .i64 0)), (kV (.int .i64 5)), g18])
(cOp t20 (AJ 0 g19)
(cOp t21 (AJ 1 g19)
(cOp t22 (AJ 2 g19)
(cOp t4 (At 3 BB)
(cOp t3 (AD g20)
(cDo (AY 3 g4 g21)
(cOp t5 (AD g22)
(cOp t24 (AL iNe .i64 g2 (kV (.int .i64 0)))
(cG g24 false t26 (AD g5)
(cG g24 false t27 (AL iNe .i64 g26 (kV (.int .i64 0)))
(cOp t28 (AS g24 (kV (.bool true)) g27)
(cG g28 false t30 (AD g3)
(cG g28 false t31 (Af g30)
(cG g28 false t32 (AL iNe .i64 g31 (kV (.int .i64 4)))
(cOp t33 (AS g28 (kV (.bool true)) g32)
(cG g33 false t35 (AD g3)
(cG g33 false t36 (A9 2 g35 (kV (.int .i64 2)))
(cG g33 false t37 (Aa 2 g36)
(cG g33 false t38 (AQ 11 [g37, (kV (.int .i64 5))])
(cG g33 false t39 (AL iNe .i64 g38 (kV (.int .i64 2)))
(cOp t40 (AS g33 (kV (.bool true)) g39)
(cG g40 false t42 (AF 2 g4)
(cG g40 false t43 (AH g42)
(cG g40 false t44 (AU 7 (BE ty3.zero 7) [(0, 1, (kV (.int .i64 0))), (1, 1, (kV (.int .i64 2))), (2, 1, (kV (.int .i64 3))), (3, 1, (kV (.int .i64 4))), (4, 1, (kV (.int .i64 6))), (5, 1, (kV (.int .i64 7))), (6, 1, (kV (.int .i64 8)))])
(cG g40 false t45 (AQ 17 [g43, g44])
(cG g40 false t46 (B7 g45)
(cOp t47 (AS g40 (kV (.bool true)) g46)
(cG g47 false t49 (AF 0 g4)
(cG g47 false t50 (AH g49)
(cG g47 false t51 (AL iNe .i64 g50 (kV (.int .i64 0)))
(cOp t52 (AS g47 (kV (.bool true)) g51)
(cG g52 false t54 (AF 1 g4)
(cG g52 false t55 (AH g54)
(cG g52 false t56 (AL iNe .i64 g55 (kV (.int .i64 5)))
(cOp t57 (AS g52 (kV (.bool true)) g56)
(AP g57
(cOp t0 (AD (kV (.bool false)))
Ae)
(cOp t59 (Aa 3 g4)
(cOp t60 (AQ 12 [g59, (kV (.int .i64 4))])
(cOp t61 (AJ 0 g60)
(cOp t62 (AJ 1 g60)
(cOp t6 (At 3 BB)
(cDo (AY 3 g6 g61)
(cOp t7 (AD g62)
(cOp t64 (Aa 3 g6)
(cOp t65 (AQ 12 [g64, (kV (.int .i64 4))])
(cOp t66 (AJ 0 g65)
(cOp t67 (AJ 1 g65)
(cOp t8 (At 3 BB)
(cDo (AY 3 g8 g66)
(cOp t9 (AD g67)
(cOp t69 (AU 3 (BE ty3.zero 3) [(0, 1, (kV (.int .i64 2))), (1, 1, (kV (.int .i64 3))), (2, 1, (kV (.int .i64 6)))])
(cOp t70 (A6 B3.zero [(0, 1, (kV (.int .i64 0))), (1, 1, (kV (.int .i64 5))), (2, 1, g69)])
(cOp t71 (AQ 15 [g70])
(cOp t72 (AJ 0 g71)
(cOp t73 (AJ 1 g71)
(cOp t10 (AD g72)
(cOp t11 (AD g73)
(cOp t75 (AL iEq .i64 g7 (kV (.int .i64 0)))
(cG g75 true t77 (AF 2 g6)
(cG g75 true t78 (AH g77)
(cG g75 true t79 (AU 6 (BE ty3.zero 6) [(0, 1, (kV (.int .i64 0))), (1, 1, (kV (.int .i64 2))), (2, 1, (kV (.int .i64 3))), (3, 1, (kV (.int .i64 6))), (4, 1, (kV (.int .i64 7))), (5, 1, (kV (.int .i64 8)))])
(cG g75 true t80 (AQ 17 [g78, g79])
(cOp t81 (AS g75 g80 (kV (.bool false)))
(cG g81 true t83 (AD g9)
(cG g81 true t84 (AL iEq .i64 g83 (kV (.int .i64 167)))
(cOp t85 (AS g81 g84 (kV (.bool false)))
(cG g85 true t87 (AD g11)
(cG g85 true t88 (AL iEq .i64 g87 (kV (.int .i64 0)))
(cOp t89 (AS g85 g88 (kV (.bool false)))
(cG g89 true t91 (AD g10)
(cG g89 true t92 (AU 6 (BE ty5.zero 6) [(0, 1, (kV (.int .u8 0))), (1, 1, (kV (.int .u8 5))), (2, 1, (kV (.int .u8 3))), (3, 1, (kV (.int .u8 2))), (4, 1, (kV (.int .u8 1))), (5, 1, (kV (.int .u8 3)))])
(cG g89 true t93 (AQ 26 [g91, g92])
(cOp t94 (AS g89 g93 (kV (.bool false)))
(cG g94 true t96 (Aa 3 g6)
(cG g94 true t97 (AQ 13 [g96])
(cG g94 true t98 (B7 g97)
(cOp t99 (AS g94 g98 (kV (.bool false)))
(cG g99 true WT (A6 B3.zero [(1, 1, (kV (.int .i64 1)))])
(cG g99 true Ny (AQ 13 [UN])
(cOp QI (AS g99 Io (kV (.bool false)))
(cOp t0 (AD PR)
Ae)))))))))))))))))))))))))))))))))))))))))))))))))))))))))))))))))))))))))))))))))))))))))
def b14 : Body := ⟨[.t g0], c14⟩
def cQ : List Nat := [12, 16, 17, 23, 25, 29, 34, 41, 48, 53, 58, 63, 68, 74, 76, 82, 86, 90, 95, 100]
theorem XX : Bm ty cQ Try.f14 = some b14 := by kernel_rfl
def c15 : C :=
(cOp t1 (Bu g0)
(cOp t2 (AD (kV (.slice none 0 0)))
(cOp t3 (AD (kV (.int .i64 0)))
(cOp t8 (Aa 3 g1)
(cOp t9 (AQ 9 [g8])
(cOp t10 (B7 g9)
(AP g10
(cOp t2 (AD (kV (.slice none 0 0)))
(cOp t3 (AD (kV (.int .i64 167)))
Ae))
(Bx (cOp t11 (AF 0 g1)
(cOp t12 (AH g11)
(cOp t13 (BO .u64 g12)
(cOp t14 (An .weak (AQ 36 [(kV (.slice none 0 0)), g13]))
(cOp t15 (AF 1 g1)
(EG g15 (DZ g15 []
(cOp t16 (AH g15)
(cOp t17 (BO .u64 g16)
(cOp t18 (An .weak (AQ 36 [g14, g17]))
(cOp t19 (AF 2 g1)
(EG g19 (DZ g19 []
(cOp t20 (AH g19)
(cOp t21 (Af g20)
(cOp t22 (BO .u64 g21)
(cOp t23 (An .free (AQ 36 [g18, g22]))
(cOp t4 (AD g23)
(cOp t5 (AD (kV (.int .i64 0)))
(cOp t24 (AF 2 g1)
(cOp t25 (AH g24)
(cOp t26 (Af g25)
(cOp t27 (AD (kV (.int .i64 0)))
(Ar (AX 0 (Ao (cOp t28 (AL iLt .i64 g27 g26)
(AP g28
(Ar (AX 1 (cOp t29 (A9 1 g25 g27)
(cOp t30 (AH g29)
(cOp t7 (AD g30)
(cOp t34 (CQ Int.sub .i64 g7 g5)
(cOp t35 (BO .u64 g34)
(cOp t36 (AQ 36 [g4, g35])
(cOp t4 (AD g36)
(cOp t5 (AD g7)
Ac)))))))))
(cOp t38 (A4 .i64 (Ai .i64) g27 (kV (.int .i64 1)))
(cOp t27 (AD g38)
Ac)))
(A7 0)))))
(cOp t2 (AD g4)
(cOp t3 (AD (kV (.int .i64 0)))
Ae))))))))))))))))))))))))))))))))))
def b15 : Body := ⟨[.t g2, .t g3], c15⟩
def cR : List Nat := [31, 32, 33, 37, 39]
theorem XY : Bm ty cR Try.f15 = some b15 := by kernel_rfl
def c16 : C :=
(cOp t1 (Bu g0)
(cOp t2 (At 3 BB)
(cOp t3 (AD (kV (.int .i64 0)))
(cOp t4 (At 1 zt3)
(cOp t5 (At 1 zt4)
(cDo (AY 1 g4 (kV (.int .i64 0)))
(cDo (AY 1 g5 (kV (.bool false)))
(cOp t9 (GO (.func 37) [] [g5, g1, g4])
(cOp t6 (AD g9)
(cOp t11 (CN g6 [(kV (.int .i64 256))])
(cOp t13 (CN g6 [(kV (.int .i64 256))])
(cOp t14 (A6 B3.zero [(0, 1, g11), (1, 1, g13)])
(cOp t7 (At 3 BB)
(cDo (AY 3 g7 g14)
(cOp t8 (AD (kV (.int .i64 0)))
(cOp t16 (CN g6 [(kV (.int .i64 10000))])
(cOp t17 (AD (kV (.int .i64 0)))
(Ar (AX 0 (Ao (cOp t18 (AL iLt .i64 g17 g16)
(AP g18
(Ar (AX 1 (cOp t21 (CN g6 [(kV (.int .i64 1099511627776))])
(cOp t22 (A4 .i64 (Ai .i64) g8 g21)
(cOp t8 (AD g22)
(cOp t23 (AH g5)
(cG g23 false t25 (AD g8)
(cG g23 false t26 (AL iGt .i64 g25 (kV (.int .i64 1099511627776)))
(cOp t27 (AS g23 (kV (.bool true)) g26)
(AP g27
(cOp t28 (A6 B3.zero [])
(cDo (AY 3 g2 g28)
(cOp t3 (AD (kV (.int .i64 167)))
Ae)))
(cOp t29 (AF 2 g7)
(cOp t30 (AH g29)
(cOp t32 (AU 1 (BE ty3.zero 1) [(0, 1, g8)])
(cOp t33 (Az 1 8 3 g30 g32)
(cOp t34 (AF 2 g7)
(cDo (AY 1 g34 g33)
Ac)))))))))))))))
(cOp t35 (A4 .i64 (Ai .i64) g17 (kV (.int .i64 1)))
(cOp t17 (AD g35)
Ac)))
(A7 0)))))
(cOp t36 (AH g5)
(cG g36 false t38 (AH g4)
(cG g36 false t39 (AH g1)
(cG g36 false t40 (Af g39)
(cG g36 false t41 (AL iNe .i64 g38 g40)
(cOp t42 (AS g36 (kV (.bool true)) g41)
(cG g42 false t44 (Aa 3 g7)
(cG g42 false t45 (AQ 9 [g44])
(cG g42 false t46 (B7 g45)
(cOp t47 (AS g42 (kV (.bool true)) g46)
(AP g47
(cOp t48 (A6 B3.zero [])
(cDo (AY 3 g2 g48)
(cOp t3 (AD (kV (.int .i64 167)))
Ae)))
(cOp t49 (Aa 3 g7)
(cDo (AY 3 g2 g49)
(cOp t3 (AD (kV (.int .i64 0)))
Ae))))))))))))))))))))))))))))))))
def b16 : Body := ⟨[.cN g2 3, .t g3], c16⟩
def cS : List Nat := [10, 12, 15, 19, 20, 24, 31, 37, 43]
theorem XZ : Bm ty cS Try.f16 = some b16 := by kernel_rfl
def c17 : C :=
(cOp t4 (AD (kV (.bool false)))
(cOp t7 (Af g0)
(cOp t9 (Af g1)
(cOp t10 (AL iNe .i64 g7 g9)
(AP g10
(cOp t4 (AD (kV (.bool false)))
Ae)
(cOp t5 (AD (kV (.int .i64 0)))
(Ar (AX 0 (Ao (cOp t13 (Af g0)
(cOp t14 (AL iLt .i64 g5 g13)
(AP g14
(Ar (AX 1 (Bx (cOp t19 (A9 1 g0 g5)
(cOp t20 (AH g19)
(cOp t23 (A9 1 g1 g5)
(cOp t24 (AH g23)
(cOp t25 (AL iNe .i64 g20 g24)
(AP g25
(cOp t4 (AD (kV (.bool false)))
Ae)
Ac))))))))
(cOp t16 (A4 .i64 (Ai .i64) g5 (kV (.int .i64 1)))
(cOp t5 (AD g16)
Ac)))
(A7 0))))))
(cOp t4 (AD (kV (.bool true)))
Ae))))))))
def b17 : Body := ⟨[.t g4], c17⟩
def cT : List Nat := [6, 8, 11, 12, 15, 17, 18, 21, 22]
theorem Xa : Bm ty cT Try.f17 = some b17 := by kernel_rfl
def c18 : C :=
(cOp t6 (AD (kV (.bool false)))
(cOp t9 (Af g0)
(cOp t11 (AL iGt .i64 g9 g1)
(AP g11
(cOp t6 (AD (kV (.bool false)))
Ae)
(cOp t7 (AD (kV (.int .i64 0)))
(Ar (AX 0 (Ao (cOp t14 (Af g0)
(cOp t15 (AL iLt .i64 g7 g14)
(AP g15
(Ar (AX 1 (cOp t20 (A9 2 g0 g7)
(cOp t21 (AF 1 g20)
(cOp t22 (AH g21)
(cOp t23 (Af g22)
(cOp t25 (AL iGt .i64 g23 g2)
(AP g25
(cOp t6 (AD (kV (.bool false)))
Ae)
Ac)))))))
(cOp t17 (A4 .i64 (Ai .i64) g7 (kV (.int .i64 1)))
(cOp t7 (AD g17)
Ac)))
(A7 0))))))
(cOp t6 (AD (kV (.bool true)))
Ae)))))))
def b18 : Body := ⟨[.t g6], c18⟩
def cU : List Nat := [8, 10, 12, 13, 16, 18, 19, 24]
theorem Xb : Bm ty cU Try.f18 = some b18 := by kernel_rfl
def c19 : C :=
(cOp t2 (AD (kV (.slice none 0 0)))
(cOp t3 (AD (kV (.slice none 0 0)))
(cOp t6 (Az 1 8 3 g3 g0)
(cOp t2 (AD g6)
Ae))))
def b19 : Body := ⟨[.t g2], c19⟩
def cV : List Nat := [4, 5]
theorem Xc : Bm ty cV Try.f19 = some b19 := by kernel_rfl
def c20 : C :=
(cOp t8 (AD (kV (.slice none 0 0)))
(cOp t9 (At 3 BB)
(cOp t10 (AD (kV (.int .i64 0)))
(cOp t20 (AQ 39 [g0, g1, g2])
(cOp t21 (AJ 0 g20)
(cOp t22 (AJ 1 g20)
(cOp t23 (AJ 2 g20)
(cOp t11 (AD g21)
(cOp t12 (AD g22)
(cOp t13 (AD g23)
(cOp t25 (AL iNe .i64 g13 (kV (.int .i64 0)))
(AP g25
(cOp t26 (A6 B3.zero [])
(cOp t8 (AD (kV (.slice none 0 0)))
(cDo (AY 3 g9 g26)
(cOp t10 (AD g13)
Ae))))
(cOp t29 (AQ 40 [g3])
(cOp t30 (B7 g29)
(AP g30
(cOp t31 (A6 B3.zero [])
(cOp t8 (AD (kV (.slice none 0 0)))
(cDo (AY 3 g9 g31)
(cOp t10 (AD (kV (.int .i64 2)))
Ae))))
(cOp t34 (A6 B3.zero [(0, 1, g1), (1, 1, g2)])
(cOp t14 (At 3 BB)
(cDo (AY 3 g14 g34)
(cOp t15 (AD (kV (.int .i64 0)))
(Ar (AX 0 (Ao (cOp t37 (Af g3)
(cOp t38 (AL iLt .i64 g15 g37)
(AP g38
(Ar (AX 1 (cOp t44 (A9 1 g3 g15)
(cOp t45 (AH g44)
(cOp t47 (Af g0)
(cOp t48 (C8 .i64 g45 g47)
(cOp t49 (A9 2 g0 g48)
(cOp t50 (Aa 2 g49)
(cOp t52 (AQ 41 [g50, g1])
(cOp t53 (AL iGe .i64 g52 (kV (.int .i64 0)))
(AP g53
(Bx (cOp t54 (AF 2 g14)
(cOp t55 (AH g54)
(cOp t58 (A9 1 g3 g15)
(cOp t59 (AH g58)
(cOp t60 (An .strong (AU 1 (BE ty3.zero 1) [(0, 1, g59)]))
(cOp t61 (An .free (Az 1 8 3 g55 g60))
(cOp t62 (AF 2 g14)
(cDo (An .free (AY 1 g62 g61))
Ac)))))))))
Ac))))))))))
(cOp t40 (A4 .i64 (Ai .i64) g15 (kV (.int .i64 1)))
(cOp t15 (AD g40)
Ac)))
(A7 0))))))
(cOp t63 (AF 2 g14)
(cOp t64 (AH g63)
(cOp t65 (Af g64)
(cOp t66 (AL iGt .i64 g65 (kV (.int .i64 10000)))
(AP g66
(cOp t67 (A6 B3.zero [])
(cOp t8 (AD (kV (.slice none 0 0)))
(cDo (AY 3 g9 g67)
(cOp t10 (AD (kV (.int .i64 5)))
Ae))))
(Bx (cOp t69 (Aa 3 g14)
(cOp t8 (AD g11)
(cDo (An .free (AY 3 g9 g69))
(cOp t10 (AD (kV (.int .i64 0)))
Ae))))))))))))))))))))))))))))))
def b20 : Body := ⟨[.t g8, .cN g9 3, .t g10], c20⟩
def cW : List Nat := [16, 17, 18, 19, 24, 27, 28, 32, 33, 35, 36, 39, 41, 42, 43, 46, 51, 56, 57, 68]
theorem Xd : Bm ty cW Try.f20 = some b20 := by kernel_rfl
def c21 : C :=
(cOp t4 (AD (kV (.bool false)))
(cOp t7 (Af g0)
(cOp t9 (Af g1)
(cOp t10 (AL iNe .i64 g7 g9)
(AP g10
(cOp t4 (AD (kV (.bool false)))
Ae)
(cOp t5 (AD (kV (.int .i64 0)))
(Ar (AX 0 (Ao (cOp t13 (Af g0)
(cOp t14 (AL iLt .i64 g5 g13)
(AP g14
(Ar (AX 1 (Bx (cOp t19 (A9 2 g0 g5)
(cOp t20 (AF 0 g19)
(cOp t21 (AH g20)
(cOp t24 (A9 2 g1 g5)
(cOp t25 (AF 0 g24)
(cOp t26 (AH g25)
(cOp t27 (AL iNe .i64 g21 g26)
(cG g27 false t29 (AD g0)
(cG g27 false t30 (AD g5)
(cG g27 false t31 (A9 2 g29 g30)
(cG g27 false t32 (AF 1 g31)
(cG g27 false t33 (AH g32)
(cG g27 false t34 (AD g1)
(cG g27 false t35 (AD g5)
(cG g27 false t36 (A9 2 g34 g35)
(cG g27 false t37 (AF 1 g36)
(cG g27 false t38 (AH g37)
(cG g27 false t39 (An .free (AQ 17 [g33, g38]))
(cG g27 false t40 (B7 g39)
(cOp t41 (AS g27 (kV (.bool true)) g40)
(AP g41
(cOp t4 (AD (kV (.bool false)))
Ae)
Ac)))))))))))))))))))))))
(cOp t16 (A4 .i64 (Ai .i64) g5 (kV (.int .i64 1)))
(cOp t5 (AD g16)
Ac)))
(A7 0))))))
(cOp t4 (AD (kV (.bool true)))
Ae))))))))
def b21 : Body := ⟨[.t g4], c21⟩
def cX : List Nat := [6, 8, 11, 12, 15, 17, 18, 22, 23, 28]
theorem Xe : Bm ty cX Try.f21 = some b21 := by kernel_rfl
def c22 : C :=
(cOp t2 (Bu g0)
(cOp t3 (Bu g1)
(cOp t4 (AD (kV (.bool false)))
(cOp t5 (AF 0 g2)
(cOp t6 (AH g5)
(cOp t7 (AF 0 g3)
(cOp t8 (AH g7)
(cOp t9 (AL iEq .i64 g6 g8)
(cG g9 true t11 (AF 1 g2)
(cG g9 true t12 (AH g11)
(cG g9 true t13 (AF 1 g3)
(cG g9 true t14 (AH g13)
(cG g9 true t15 (AL iEq .i64 g12 g14)
(cOp t16 (AS g9 g15 (kV (.bool false)))
(cG g16 true t18 (AF 2 g2)
(cG g16 true t19 (AH g18)
(cG g16 true t20 (AF 2 g3)
(cG g16 true t21 (AH g20)
(cG g16 true t22 (AQ 17 [g19, g21])
(cOp t23 (AS g16 g22 (kV (.bool false)))
(cOp t4 (AD g23)
Ae)))))))))))))))))))))
def b22 : Body := ⟨[.t g4], c22⟩
def cY : List Nat := [10, 17]
theorem Xf : Bm ty cY Try.f22 = some b22 := by kernel_rfl
def c23 : C :=
(cOp t2 (Bu g0)
(cOp t4 (At 3 BB)
(cOp t5 (AD (kV (.int .i64 0)))
(cOp t8 (Aa 3 g2)
(cOp t9 (AQ 27 [g8])
(cOp t10 (B7 g9)
(AP g10
(cOp t11 (Aa 3 g2)
(cDo (AY 3 g4 g11)
(cOp t5 (AD (kV (.int .i64 167)))
Ae)))
(cOp t6 (AD (kV (.slice none 0 0)))
(cOp t7 (AD (kV (.int .i64 0)))
(Ar (AX 0 (Ao (cOp t13 (AF 2 g2)
(cOp t14 (AH g13)
(cOp t15 (Af g14)
(cOp t16 (AL iLt .i64 g7 g15)
(AP g16
(Ar (AX 1 (cOp t19 (AF 2 g2)
(cOp t20 (AH g19)
(cOp t22 (A9 1 g20 g7)
(cOp t23 (AH g22)
(cOp t25 (AL iNe .i64 g23 g1)
(AP g25
(cOp t27 (AF 2 g2)
(cOp t28 (AH g27)
(cOp t30 (A9 1 g28 g7)
(cOp t31 (AH g30)
(cOp t32 (AU 1 (BE ty3.zero 1) [(0, 1, g31)])
(cOp t33 (Az 1 8 3 g6 g32)
(cOp t6 (AD g33)
Ac)))))))
Ac)))))))
(cOp t18 (A4 .i64 (Ai .i64) g7 (kV (.int .i64 1)))
(cOp t7 (AD g18)
Ac)))
(A7 0))))))))
(cOp t35 (Af g6)
(cOp t36 (AF 2 g2)
(cOp t37 (AH g36)
(cOp t38 (Af g37)
(cOp t39 (AL iEq .i64 g35 g38)
(AP g39
(cOp t40 (Aa 3 g2)
(cDo (AY 3 g4 g40)
(cOp t5 (AD (kV (.int .i64 167)))
Ae)))
(cOp t42 (AF 2 g2)
(cDo (AY 1 g42 g6)
(cOp t43 (Aa 3 g2)
(cDo (AY 3 g4 g43)
(cOp t5 (AD (kV (.int .i64 0)))
Ae)))))))))))))))))))))
def b23 : Body := ⟨[.cN g4 3, .t g5], c23⟩
def cZ : List Nat := [12, 17, 21, 24, 26, 29, 34, 41]
theorem Xg : Bm ty cZ Try.f23 = some b23 := by kernel_rfl
def c24 : C :=
(cOp t1 (Bu g0)
(cOp t2 (AD (kV (.slice none 0 0)))
(cOp t3 (AD (kV (.int .i64 0)))
(cOp t7 (Aa 3 g1)
(cOp t8 (AQ 27 [g7])
(cOp t9 (B7 g8)
(AP g9
(cOp t2 (AD (kV (.slice none 0 0)))
(cOp t3 (AD (kV (.int .i64 167)))
Ae))
(cOp t10 (AF 0 g1)
(cOp t11 (AH g10)
(cOp t12 (BO .u64 g11)
(cOp t13 (AQ 42 [g12])
(cOp t4 (AD g13)
(cOp t15 (AF 1 g1)
(cOp t16 (AH g15)
(cOp t17 (BO .u64 g16)
(cOp t18 (AQ 43 [g4, g17])
(cOp t4 (AD g18)
(cOp t20 (AF 2 g1)
(cOp t21 (AH g20)
(cOp t22 (Af g21)
(cOp t23 (BO .u64 g22)
(cOp t24 (AQ 43 [g4, g23])
(cOp t4 (AD g24)
(cOp t5 (AD (kV (.int .i64 0)))
(Ar (AX 0 (Ao (cOp t26 (AF 2 g1)
(cOp t27 (AH g26)
(cOp t28 (Af g27)
(cOp t29 (AL iLt .i64 g5 g28)
(AP g29
(Ar (AX 1 (cOp t32 (AF 2 g1)
(cOp t33 (AH g32)
(cOp t35 (A9 1 g33 g5)
(cOp t36 (AH g35)
(cOp t6 (AD g36)
(cOp t38 (AL iGt .i64 g5 (kV (.int .i64 0)))
(Ar (AP g38
(cOp t40 (AF 2 g1)
(cOp t41 (AH g40)
(cOp t43 (CQ Int.sub .i64 g5 (kV (.int .i64 1)))
(cOp t44 (A9 1 g41 g43)
(cOp t45 (AH g44)
(cOp t46 (CQ Int.sub .i64 g6 g45)
(cOp t6 (AD g46)
Ac)))))))
Ac)
(cOp t49 (BO .u64 g6)
(cOp t50 (AQ 43 [g4, g49])
(cOp t4 (AD g50)
Ac)))))))))))
(cOp t31 (A4 .i64 (Ai .i64) g5 (kV (.int .i64 1)))
(cOp t5 (AD g31)
Ac)))
(A7 0))))))))
(cOp t2 (AD g4)
(cOp t3 (AD (kV (.int .i64 0)))
Ae)))))))))))))))))))))))))))
def b24 : Body := ⟨[.t g2, .t g3], c24⟩
def ca : List Nat := [14, 19, 25, 30, 34, 37, 39, 42, 47, 48, 51]
theorem Xh : Bm ty ca Try.f24 = some b24 := by kernel_rfl
def c25 : C :=
(cOp t2 (At 3 BB)
(cOp t3 (AD (kV (.int .i64 0)))
(cOp t18 (AQ 44 [g0, (kV (.int .i64 0))])
(cOp t19 (AJ 0 g18)
(cOp t20 (AJ 1 g18)
(cOp t21 (AJ 2 g18)
(cOp t4 (AD g19)
(cOp t5 (AD g20)
(cOp t6 (AD g21)
(cOp t23 (AL iNe .i64 g6 (kV (.int .i64 0)))
(cG g23 false t25 (AD g4)
(cG g23 false t26 (AL iGt .u64 g25 (kV (.int .u64 256)))
(cOp t27 (AS g23 (kV (.bool true)) g26)
(AP g27
(cOp t28 (A6 B3.zero [])
(cDo (AY 3 g2 g28)
(cOp t3 (AD (kV (.int .i64 167)))
Ae)))
(cOp t32 (AQ 44 [g0, g5])
(cOp t33 (AJ 0 g32)
(cOp t34 (AJ 1 g32)
(cOp t35 (AJ 2 g32)
(cOp t7 (AD g33)
(cOp t5 (AD g34)
(cOp t6 (AD g35)
(cOp t37 (AL iNe .i64 g6 (kV (.int .i64 0)))
(cG g37 false t39 (AD g7)
(cG g37 false t40 (AL iGt .u64 g39 (kV (.int .u64 256)))
(cOp t41 (AS g37 (kV (.bool true)) g40)
(AP g41
(cOp t42 (A6 B3.zero [])
(cDo (AY 3 g2 g42)
(cOp t3 (AD (kV (.int .i64 167)))
Ae)))
(cOp t46 (AQ 44 [g0, g5])
(cOp t47 (AJ 0 g46)
(cOp t48 (AJ 1 g46)
(cOp t49 (AJ 2 g46)
(cOp t8 (AD g47)
(cOp t5 (AD g48)
(cOp t6 (AD g49)
(cOp t51 (AL iNe .i64 g6 (kV (.int .i64 0)))
(cG g51 false t53 (AD g8)
(cG g51 false t54 (AL iGt .u64 g53 (kV (.int .u64 10000)))
(cOp t55 (AS g51 (kV (.bool true)) g54)
(AP g55
(cOp t56 (A6 B3.zero [])
(cDo (AY 3 g2 g56)
(cOp t3 (AD (kV (.int .i64 167)))
Ae)))
(cOp t58 (BO .i64 g4)
(cOp t60 (BO .i64 g7)
(cOp t61 (A6 B3.zero [(0, 1, g58), (1, 1, g60)])
(cOp t9 (At 3 BB)
(cDo (AY 3 g9 g61)
(cOp t10 (AD (kV (.int .i64 0)))
(cOp t11 (AD (kV (.int .i64 0)))
(Ar (AX 0 (Ao (cOp t64 (BO .i64 g8)
(cOp t65 (AL iLt .i64 g11 g64)
(AP g65
(Ar (AX 1 (cOp t71 (AQ 44 [g0, g5])
(cOp t72 (AJ 0 g71)
(cOp t73 (AJ 1 g71)
(cOp t74 (AJ 2 g71)
(cOp t12 (AD g72)
(cOp t13 (AD g73)
(cOp t14 (AD g74)
(cOp t76 (AL iNe .i64 g14 (kV (.int .i64 0)))
(cG g76 false t78 (AD g12)
(cG g76 false t79 (AL iGt .u64 g78 (kV (.int .u64 1099511627776)))
(cOp t80 (AS g76 (kV (.bool true)) g79)
(AP g80
(cOp t81 (A6 B3.zero [])
(cDo (AY 3 g2 g81)
(cOp t3 (AD (kV (.int .i64 167)))
Ae)))
(cOp t84 (BO .i64 g12)
(cOp t85 (A4 .i64 (Ai .i64) g10 g84)
(cOp t10 (AD g85)
(cOp t86 (AF 2 g9)
(cOp t87 (AH g86)
(cOp t89 (AU 1 (BE ty3.zero 1) [(0, 1, g10)])
(cOp t90 (Az 1 8 3 g87 g89)
(cOp t91 (AF 2 g9)
(cDo (AY 1 g91 g90)
(cOp t5 (AD g13)
Ac)))))))))))))))))))))))
(cOp t67 (A4 .i64 (Ai .i64) g11 (kV (.int .i64 1)))
(cOp t11 (AD g67)
Ac)))
(A7 0))))))
(cOp t94 (Aa 3 g9)
(cOp t95 (AQ 24 [g94])
(cOp t96 (AJ 0 g95)
(cOp t97 (AJ 1 g95)
(cOp t15 (AD g96)
(cOp t6 (AD g97)
(cOp t99 (AL iNe .i64 g6 (kV (.int .i64 0)))
(cG g99 false WT (AD g15)
(cG g99 false Ny (Cm UN)
(cG g99 false QI (AD g0)
(cG g99 false QJ (Cm PR)
(cG g99 false TN (GK (fun a b => !bEq a b) Io Lh)
(cOp TO (AS g99 (kV (.bool true)) RO)
(AP PS
(cOp WU (A6 B3.zero [])
(cDo (AY 3 g2 RP)
(cOp t3 (AD (kV (.int .i64 167)))
Ae)))
(cOp TP (Aa 3 g9)
(cDo (AY 3 g2 RQ)
(cOp t3 (AD (kV (.int .i64 0)))
Ae)))))))))))))))))))))))))))))))))))))))))))))))))))))))))))))))
def b25 : Body := ⟨[.cN g2 3, .t g3], c25⟩
def cb : List Nat := [16, 17, 22, 24, 29, 30, 31, 36, 38, 43, 44, 45, 50, 52, 57, 59, 62, 63, 66, 68, 69, 70, 75, 77, 82, 83, 88, 92, 93, 98, 100]
theorem Xi : Bm ty cb Try.f25 = some b25 := by kernel_rfl
def c26 : C :=
(cOp t4 (AD (kV (.bool false)))
(cOp t6 (Cm g0)
(cOp t8 (Cm g1)
(cOp t9 (GK bEq g6 g8)
(cOp t4 (AD g9)
Ae)))))
def b26 : Body := ⟨[.t g4], c26⟩
def cd : List Nat := [5, 7]
theorem Xj : Bm ty cd Try.f26 = some b26 := by kernel_rfl
def c27 : C :=
(cOp t1 (Bu g0)
(cOp t2 (AD (kV (.bool false)))
(cOp t3 (AF 0 g1)
(cOp t4 (AH g3)
(cOp t5 (AL iGe .i64 g4 (kV (.int .i64 0)))
(cG g5 true t7 (AF 0 g1)
(cG g5 true t8 (AH g7)
(cG g5 true t9 (AL iLt .i64 g8 (kV (.int .i64 256)))
(cOp t10 (AS g5 g9 (kV (.bool false)))
(cG g10 true t12 (AF 1 g1)
(cG g10 true t13 (AH g12)
(cG g10 true t14 (AL iGe .i64 g13 (kV (.int .i64 0)))
(cOp t15 (AS g10 g14 (kV (.bool false)))
(cG g15 true t17 (AF 1 g1)
(cG g15 true t18 (AH g17)
(cG g15 true t19 (AL iLt .i64 g18 (kV (.int .i64 256)))
(cOp t20 (AS g15 g19 (kV (.bool false)))
(cG g20 true t22 (AF 0 g1)
(cG g20 true t23 (AH g22)
(cG g20 true t24 (AF 1 g1)
(cG g20 true t25 (AH g24)
(cG g20 true t26 (AL iNe .i64 g23 g25)
(cOp t27 (AS g20 g26 (kV (.bool false)))
(cG g27 true t29 (AF 2 g1)
(cG g27 true t30 (AH g29)
(cG g27 true t31 (Af g30)
(cG g27 true t32 (AL iLe .i64 g31 (kV (.int .i64 10000)))
(cOp t33 (AS g27 g32 (kV (.bool false)))
(cG g33 true t35 (AF 2 g1)
(cG g33 true t36 (AH g35)
(cG g33 true t37 (AQ 40 [g36])
(cOp t38 (AS g33 g37 (kV (.bool false)))
(cOp t2 (AD g38)
Ae)))))))))))))))))))))))))))))))))
def b27 : Body := ⟨[.t g2], c27⟩
def cg : List Nat := [6, 11, 16, 21, 28, 34]
theorem Xk : Bm ty cg Try.f27 = some b27 := by kernel_rfl
def c28 : C :=
(cOp t2 (AD (kV (.slice none 0 0)))
(cOp t3 (AD (kV (.slice none 0 0)))
(cOp t6 (Az 1 1 5 g3 g0)
(cOp t2 (AD g6)
Ae))))
def b28 : Body := ⟨[.t g2], c28⟩
def ch : List Nat := [4, 5]
theorem Xl : Bm ty ch Try.f28 = some b28 := by kernel_rfl
def c29 : C :=
(cOp t4 (Bu g1)
(cOp t5 (Bu g2)
(cOp t6 (AD (kV (.slice none 0 0)))
(cOp t7 (AD (kV (.slice none 0 0)))
(cOp t8 (AD (kV (.int .i64 0)))
(cOp t9 (AD (kV (.func (.func 45) #[] #[])))
(cOp t16 (GO (.func 46) [] [g4, g5])
(cOp t10 (AD g16)
(Ar (AX 0 (cOp t19 (AQ 47 [g0])
(cOp t20 (B7 g19)
(cOp t17 (AD g20)
(AP g17
(cOp t6 (AD (kV (.slice none 0 0)))
(cOp t7 (AD (kV (.slice none 0 0)))
(cOp t8 (AD (kV (.int .i64 2)))
Ae)))
(cOp t23 (AH g4)
(cOp t24 (CN g9 [g23])
(cOp t25 (B7 g24)
(cG g25 false t27 (AD g9)
(cG g25 false t28 (AH g5)
(cG g25 false t29 (CN g27 [g28])
(cG g25 false t30 (B7 g29)
(cOp t31 (AS g25 (kV (.bool true)) g30)
(cG g31 false t33 (AH g4)
(cG g31 false t34 (AH g5)
(cG g31 false t35 (AL iEq .i64 g33 g34)
(cOp t36 (AS g31 (kV (.bool true)) g35)
(cG g36 false t38 (AD g0)
(cG g36 false t39 (AD g10)
(cG g36 false t40 (AQ 48 [g38, g39])
(cOp t41 (AS g36 (kV (.bool true)) g40)
(cOp t21 (AD g41)
(AP g21
(cOp t6 (AD (kV (.slice none 0 0)))
(cOp t7 (AD (kV (.slice none 0 0)))
(cOp t8 (AD (kV (.int .i64 100)))
Ae)))
Ac)))))))))))))))))))))))
(cOp t11 (AD (kV (.slice none 0 0)))
(cOp t12 (AD (kV (.slice none 0 0)))
(cOp t42 (AD g0)
(cOp t43 (Af g42)
(cOp t44 (AD (kV (.int .i64 0)))
(Ar (AX 1 (Ao (cOp t45 (AL iLt .i64 g44 g43)
(AP g45
(Ar (AX 2 (cOp t47 (A9 2 g42 g44)
(cOp t48 (Aa 2 g47)
(cOp t14 (At 2 DQ)
(cOp t13 (AD g44)
(cDo (AY 2 g14 g48)
(cOp t49 (Aa 2 g14)
(cOp t50 (AQ 32 [g49])
(cDo (AY 2 g14 g50)
(cOp t51 (Aa 2 g14)
(cOp t52 (AH g4)
(cOp t53 (AQ 11 [g51, g52])
(cOp t15 (AD g53)
(cOp t55 (AL iGe .i64 g15 (kV (.int .i64 0)))
(Ar (AP g55
(cOp t56 (AF 1 g14)
(cOp t57 (AH g56)
(cOp t59 (AH g5)
(cOp t60 (A9 1 g57 g15)
(cDo (AY 1 g60 g59)
(cOp t61 (AF 0 g14)
(cOp t62 (AH g61)
(cOp t63 (A4 .i64 (Ai .i64) g62 (kV (.int .i64 1)))
(cOp t64 (AF 0 g14)
(cDo (AY 1 g64 g63)
(cOp t67 (AU 1 (BE ty3.zero 1) [(0, 1, g13)])
(cOp t68 (Az 1 8 3 g12 g67)
(cOp t12 (AD g68)
Ac)))))))))))))
Ac)
(cOp t70 (Aa 2 g14)
(cOp t71 (AU 1 (BE D8.zero 1) [(0, 2, g70)])
(cOp t72 (Az 2 32 37 g11 g71)
(cOp t11 (AD g72)
Ac)))))))))))))))))))
(cOp t73 (A4 .i64 (Ai .i64) g44 (kV (.int .i64 1)))
(cOp t44 (AD g73)
Ac)))
(A7 1)))))
(cOp t6 (AD g11)
(cOp t7 (AD g12)
(cOp t8 (AD (kV (.int .i64 0)))
Ae))))))))))))))))))
def b29 : Body := ⟨[.t g6, .t g7, .t g8], c29⟩
def cj : List Nat := [18, 22, 26, 32, 37, 46, 54, 58, 65, 66, 69, 74, 75]
theorem Xm : Bm ty cj Try.f29 = some b29 := by kernel_rfl
def c30 : C :=
(cOp t2 (AD (kV (.bool false)))
(cOp t5 (AD g0)
(cOp t6 (Af g5)
(cOp t7 (AD (kV (.int .i64 0)))
(Ar (AX 0 (Ao (cOp t8 (AL iLt .i64 g7 g6)
(AP g8
(Ar (AX 1 (cOp t10 (A9 1 g5 g7)
(cOp t11 (AH g10)
(cOp t3 (AD g7)
(cOp t4 (AD g11)
(cOp t13 (AL iLt .i64 g4 (kV (.int .i64 0)))
(cG g13 false t15 (AD g4)
(cG g13 false t16 (AL iGt .i64 g15 (kV (.int .i64 1099511627776)))
(cOp t17 (AS g13 (kV (.bool true)) g16)
(cG g17 false t19 (AD g3)
(cG g17 false t20 (AL iGt .i64 g19 (kV (.int .i64 0)))
(cG g17 false t21 (AD g20)
(cG g21 true t22 (AD g4)
(cG g21 true t23 (AD g0)
(cG g21 true t24 (AD g3)
(cG g21 true t25 (CQ Int.sub .i64 g24 (kV (.int .i64 1)))
(cG g21 true t26 (A9 1 g23 g25)
(cG g21 true t27 (AH g26)
(cG g21 true t28 (AL iLe .i64 g22 g27)
(cG g17 false t29 (AS g21 g28 (kV (.bool false)))
(cOp t30 (AS g17 (kV (.bool true)) g29)
(AP g30
(cOp t2 (AD (kV (.bool false)))
Ae)
Ac))))))))))))))))))))))
(cOp t31 (A4 .i64 (Ai .i64) g7 (kV (.int .i64 1)))
(cOp t7 (AD g31)
Ac)))
(A7 0)))))
(cOp t2 (AD (kV (.bool true)))
Ae))))))
def b30 : Body := ⟨[.t g2], c30⟩
def ck : List Nat := [9, 12, 14, 18]
theorem Xn : Bm ty ck Try.f30 = some b30 := by kernel_rfl
def c31 : C :=
(cOp t2 (AD (kV (.bool false)))
(cOp t4 (AL iGe .i64 g0 (kV (.int .i64 0)))
(cG g4 true t6 (AD g0)
(cG g4 true t7 (AL iLt .i64 g6 (kV (.int .i64 256)))
(cOp t8 (AS g4 g7 (kV (.bool false)))
(cOp t2 (AD g8)
Ae))))))
def b31 : Body := ⟨[.t g2], c31⟩
def co : List Nat := [3, 5]
theorem Xo : Bm ty co Try.f31 = some b31 := by kernel_rfl
def c32 : C :=
(cOp t1 (Bu g0)
(cOp t2 (At 2 DQ)
(cOp t3 (AF 1 g1)
(cOp t4 (AH g3)
(cOp t5 (AQ 35 [g4])
(cOp t6 (AF 1 g1)
(cDo (AY 1 g6 g5)
(cOp t7 (Aa 2 g1)
(cDo (AY 2 g2 g7)
Ae)))))))))
def b32 : Body := ⟨[.cN g2 2], c32⟩
def cp : List Nat := []
theorem Xp : Bm ty cp Try.f32 = some b32 := by kernel_rfl
def c33 : C :=
(cOp t4 (AD (kV (.int .i64 0)))
(cOp t7 (Af g0)
(cOp t8 (AD (kV (.int .i64 0)))
(Ar (AX 0 (Ao (cOp t9 (AL iLt .i64 g8 g7)
(AP g9
(Ar (AX 1 (cOp t5 (AD g8)
(cOp t14 (A9 1 g0 g5)
(cOp t15 (AH g14)
(cOp t16 (AL iEq .i64 g1 g15)
(AP g16
(cOp t4 (AD g5)
Ae)
Ac))))))
(cOp t18 (A4 .i64 (Ai .i64) g8 (kV (.int .i64 1)))
(cOp t8 (AD g18)
Ac)))
(A7 0)))))
(cOp t4 (AD (kV (.int .i64 (-1))))
Ae)))))
def b33 : Body := ⟨[.t g4], c33⟩
def cq : List Nat := [6, 10, 11, 12, 13, 17]
theorem Xq : Bm ty cq Try.f33 = some b33 := by kernel_rfl
def c34 : C :=
(cOp t6 (AD (kV (.slice none 0 0)))
(cOp t12 (Af g0)
(cOp t13 (Da 3 1 g0 (some g1) (some g2) (some g12))
(cOp t16 (AL iEq .i64 g1 g2)
(AP g16
(cOp t6 (AD g0)
Ae)
(cOp t19 (Af g0)
(cOp t7 (AD g19)
(Bx (cOp t22 (Da 3 1 g0 none (some g1) none)
(cOp t25 (Da 3 1 g0 (some g2) none none)
(cOp t26 (An .free (Az 1 8 3 g22 g25))
(cOp t0 (AD g26)
(cOp t29 (Af g0)
(cOp t31 (Da 3 1 g0 (some g29) (some g7) none)
(cDo (Hd ty3.zero g31)
(cOp t6 (AD g0)
Ae))))))))))))))))
def b34 : Body := ⟨[.t g6], c34⟩
def cr : List Nat := [8, 9, 10, 11, 14, 15, 17, 18, 20, 21, 23, 24, 27, 28, 30, 32]
theorem Xr : Bm ty cr Try.f34 = some b34 := by kernel_rfl
def c35 : C :=
(cOp t2 (AD (kV (.slice none 0 0)))
(cOp t4 (oEq N3.k false g0 (kV (.slice none 0 0)))
(AP g4
(cOp t2 (AD (kV (.slice none 0 0)))
Ae)
(cOp t5 (AU 0 (BE ty3.zero 0) [])
(cOp t7 (Az 1 8 3 g5 g0)
(cOp t2 (AD g7)
Ae))))))
def b35 : Body := ⟨[.t g2], c35⟩
def cu : List Nat := [3, 6]
theorem Xs : Bm ty cu Try.f35 = some b35 := by kernel_rfl
def c36 : C :=
(cOp t4 (AD (kV (.slice none 0 0)))
(Ar (AX 0 (Ao (cOp t6 (AL iGt .u64 g1 (kV (.int .u64 127)))
(AP g6
(AX 1 (cOp t9 (C8 .u64 g1 (kV (.int .u64 128)))
(cOp t10 (A4 .u64 (Ai .u64) g9 (kV (.int .u64 128)))
(cOp t11 (BO .u8 g10)
(cOp t12 (AU 1 (BE ty5.zero 1) [(0, 1, g11)])
(cOp t13 (Az 1 1 5 g0 g12)
(cOp t15 (Kz .u64 g1 (kV (.int .u64 128)))
(cOp t0 (AD g13)
(cOp t1 (AD g15)
Ac)))))))))
(A7 0)))))
(cOp t18 (BO .u8 g1)
(cOp t19 (AU 1 (BE ty5.zero 1) [(0, 1, g18)])
(cOp t20 (Az 1 1 5 g0 g19)
(cOp t4 (AD g20)
Ae))))))
def b36 : Body := ⟨[.t g4], c36⟩
def cx : List Nat := [5, 7, 8, 14, 16, 17]
theorem Xt : Bm ty cx Try.f36 = some b36 := by kernel_rfl
def c37 : C :=
(cOp t5 (AD (kV (.int .i64 0)))
(cOp t9 (AH g1)
(AP g9
(cOp t5 (AD (kV (.int .i64 0)))
Ae)
(cOp t11 (AH g2)
(cOp t12 (AH g3)
(cOp t13 (AQ 38 [g11, g12])
(cOp t14 (AJ 0 g13)
(cOp t15 (AJ 1 g13)
(cOp t16 (AJ 2 g13)
(cOp t6 (AD g14)
(cOp t7 (AD g15)
(cOp t8 (AD g16)
(cOp t18 (AL iNe .i64 g8 (kV (.int .i64 0)))
(cG g18 false t20 (AD g6)
(cG g18 false t21 (AD g0)
(cG g18 false t22 (BO .u64 g21)
(cG g18 false t23 (AL iGt .u64 g20 g22)
(cOp t24 (AS g18 (kV (.bool true)) g23)
(cDo (AY 1 g1 g24)
(cOp t25 (AH g1)
(AP g25
(cOp t5 (AD (kV (.int .i64 0)))
Ae)
(cDo (AY 1 g3 g7)
(cOp t28 (BO .i64 g6)
(cOp t5 (AD g28)
Ae))))))))))))))))))))))))
def b37 : Body := ⟨[.t g5], c37⟩
def cy : List Nat := [10, 17, 19, 26, 27]
theorem Xu : Bm ty cy Try.f37 = some b37 := by kernel_rfl
def c38 : C :=
(cOp t4 (AD (kV (.int .u64 0)))
(cOp t5 (AD (kV (.int .i64 0)))
(cOp t6 (AD (kV (.int .i64 0)))
(cOp t12 (AL iLt .i64 g1 (kV (.int .i64 0)))
(cG g12 false t14 (AD g1)
(cG g12 false t15 (AD g0)
(cG g12 false t16 (Af g15)
(cG g12 false t17 (AL iGt .i64 g14 g16)
(cOp t18 (AS g12 (kV (.bool true)) g17)
(AP g18
(cOp t4 (AD (kV (.int .u64 0)))
(cOp t5 (AD (kV (.int .i64 0)))
(cOp t6 (AD (kV (.int .i64 2)))
Ae)))
(cOp t7 (AD (kV (.int .u64 0)))
(cOp t8 (AD g1)
(Ar (AX 0 (Ao (cOp t22 (Af g0)
(cOp t23 (AL iLt .i64 g8 g22)
(AP g23
(Ar (AX 1 (cOp t28 (A9 1 g0 g8)
(cOp t29 (AH g28)
(cOp t32 (CQ Int.sub .i64 g8 g1)
(cOp t9 (AD g29)
(cOp t10 (AD g32)
(cOp t34 (AL iGt .i64 g10 (kV (.int .i64 0)))
(cG g34 true t36 (AD g9)
(cG g34 true t37 (AL iEq .u8 g36 (kV (.int .u8 0)))
(cOp t38 (AS g34 g37 (kV (.bool false)))
(cG g38 false t40 (AD g10)
(cG g38 false t41 (AL iGt .i64 g40 (kV (.int .i64 8)))
(cG g38 false t42 (AD g41)
(cG g42 true t43 (AD g9)
(cG g42 true t44 (AL iGt .u8 g43 (kV (.int .u8 1)))
(cG g38 false t45 (AS g42 g44 (kV (.bool false)))
(cOp t46 (AS g38 (kV (.bool true)) g45)
(AP g46
(cOp t4 (AD (kV (.int .u64 0)))
(cOp t5 (AD (kV (.int .i64 0)))
(cOp t6 (AD (kV (.int .i64 10)))
Ae)))
(cOp t49 (C8 .u8 g9 (kV (.int .u8 128)))
(cOp t50 (BO .u64 g49)
(cOp t52 (CQ Int.mul .i64 (kV (.int .i64 7)) g10)
(cOp t53 (K1 .u64 g50 g52)
(cOp t54 (A4 .u64 (Ai .u64) g7 g53)
(cOp t7 (AD g54)
(cOp t56 (AL iLt .u8 g9 (kV (.int .u8 128)))
(AP g56
(cOp t59 (A4 .i64 (Ai .i64) g8 (kV (.int .i64 1)))
(cOp t4 (AD g7)
(cOp t5 (AD g59)
(cOp t6 (AD (kV (.int .i64 0)))
Ae))))
Ac))))))))))))))))))))))))))
(cOp t25 (A4 .i64 (Ai .i64) g8 (kV (.int .i64 1)))
(cOp t8 (AD g25)
Ac)))
(A7 0))))))
(cOp t4 (AD (kV (.int .u64 0)))
(cOp t5 (AD (kV (.int .i64 0)))
(cOp t6 (AD (kV (.int .i64 11)))
Ae))))))))))))))))
def b38 : Body := ⟨[.t g4, .t g5, .t g6], c38⟩
def cz : List Nat := [11, 13, 19, 20, 21, 24, 26, 27, 30, 31, 33, 35, 39, 47, 48, 51, 55, 57, 58]
theorem Xv : Bm ty cz Try.f38 = some b38 := by kernel_rfl
def c39 : C :=
(cOp t6 (AD (kV (.slice none 0 0)))
(cOp t7 (AD (kV (.slice none 0 0)))
(cOp t8 (AD (kV (.int .i64 0)))
(cOp t16 (AQ 49 [g0])
(cOp t17 (B7 g16)
(AP g17
(cOp t6 (AD (kV (.slice none 0 0)))
(cOp t7 (AD (kV (.slice none 0 0)))
(cOp t8 (AD (kV (.int .i64 2)))
Ae)))
(cOp t19 (AL iLt .i64 g1 (kV (.int .i64 0)))
(cG g19 false t21 (AD g1)
(cG g19 false t22 (AL iGe .i64 g21 (kV (.int .i64 256)))
(cOp t23 (AS g19 (kV (.bool true)) g22)
(cG g23 false t25 (AD g2)
(cG g23 false t26 (AL iLt .i64 g25 (kV (.int .i64 0)))
(cOp t27 (AS g23 (kV (.bool true)) g26)
(cG g27 false t29 (AD g2)
(cG g27 false t30 (AL iGe .i64 g29 (kV (.int .i64 256)))
(cOp t31 (AS g27 (kV (.bool true)) g30)
(cG g31 false t33 (AD g1)
(cG g31 false t34 (AD g2)
(cG g31 false t35 (AL iEq .i64 g33 g34)
(cOp t36 (AS g31 (kV (.bool true)) g35)
(AP g36
(cOp t6 (AD (kV (.slice none 0 0)))
(cOp t7 (AD (kV (.slice none 0 0)))
(cOp t8 (AD (kV (.int .i64 100)))
Ae)))
(cOp t9 (AD (kV (.slice none 0 0)))
(cOp t10 (AD (kV (.slice none 0 0)))
(cOp t11 (AD (kV (.int .i64 0)))
(Ar (AX 0 (Ao (cOp t39 (Af g0)
(cOp t40 (AL iLt .i64 g11 g39)
(AP g40
(Ar (AX 1 (cOp t45 (A9 2 g0 g11)
(cOp t46 (Aa 2 g45)
(cOp t12 (At 2 DQ)
(cDo (AY 2 g12 g46)
(cOp t47 (Aa 2 g12)
(cOp t49 (AQ 41 [g47, g1])
(cOp t13 (AD g49)
(cOp t51 (AL iLt .i64 g13 (kV (.int .i64 0)))
(AP g51
(cOp t53 (Aa 2 g12)
(cOp t54 (AU 1 (BE D8.zero 1) [(0, 2, g53)])
(cOp t55 (Az 2 32 37 g9 g54)
(cOp t9 (AD g55)
(A7 1)))))
(cOp t56 (Aa 2 g12)
(cOp t58 (AQ 41 [g56, g2])
(cOp t59 (AL iGe .i64 g58 (kV (.int .i64 0)))
(cG g59 false t61 (AF 0 g12)
(cG g59 false t62 (AH g61)
(cG g59 false t63 (AL iEq .i64 g62 (kV (.int .i64 1099511627776)))
(cOp t64 (AS g59 (kV (.bool true)) g63)
(AP g64
(cOp t6 (AD (kV (.slice none 0 0)))
(cOp t7 (AD (kV (.slice none 0 0)))
(cOp t8 (AD (kV (.int .i64 100)))
Ae)))
(cOp t14 (AD (kV (.slice none 0 0)))
(cOp t66 (AF 1 g12)
(cOp t67 (AH g66)
(cOp t68 (Az 1 8 3 g14 g67)
(cOp t14 (AD g68)
(cOp t72 (A9 1 g14 g13)
(cDo (AY 1 g72 g2)
(cOp t74 (AF 0 g12)
(cOp t75 (AH g74)
(cOp t76 (A4 .i64 (Ai .i64) g75 (kV (.int .i64 1)))
(cOp t78 (A6 D8.zero [(0, 1, g76), (1, 1, g14)])
(cOp t79 (AU 1 (BE D8.zero 1) [(0, 2, g78)])
(cOp t80 (Az 2 32 37 g9 g79)
(cOp t9 (AD g80)
(cOp t83 (AU 1 (BE ty3.zero 1) [(0, 1, g11)])
(cOp t84 (Az 1 8 3 g10 g83)
(cOp t10 (AD g84)
Ac)))))))))))))))))))))))))))))))))))
(cOp t42 (A4 .i64 (Ai .i64) g11 (kV (.int .i64 1)))
(cOp t11 (AD g42)
Ac)))
(A7 0))))))
(cOp t6 (AD g9)
(cOp t7 (AD g10)
(cOp t8 (AD (kV (.int .i64 0)))
Ae))))))))))))))))))))))))))))
def b39 : Body := ⟨[.t g6, .t g7, .t g8], c39⟩
def dA : List Nat := [15, 18, 20, 24, 28, 32, 37, 38, 41, 43, 44, 48, 50, 52, 57, 60, 65, 69, 70, 71, 73, 77, 81, 82, 85, 86]
theorem Xw : Bm ty dA Try.f39 = some b39 := by kernel_rfl
def c40 : C :=
(cOp t2 (AD (kV (.bool false)))
(cOp t3 (AD (kV (.int .i64 0)))
(Ar (AX 0 (Ao (cOp t6 (Af g0)
(cOp t7 (AL iLt .i64 g3 g6)
(AP g7
(Ar (AX 1 (Bx (cOp t12 (A9 1 g0 g3)
(cOp t13 (AH g12)
(cOp t14 (AL iLt .i64 g13 (kV (.int .i64 0)))
(cG g14 false t16 (AD g0)
(cG g14 false t17 (AD g3)
(cG g14 false t18 (A9 1 g16 g17)
(cG g14 false t19 (AH g18)
(cG g14 false t20 (AL iGt .i64 g19 (kV (.int .i64 1099511627776)))
(cOp t21 (AS g14 (kV (.bool true)) g20)
(cG g21 false t23 (AD g3)
(cG g21 false t24 (AL iGt .i64 g23 (kV (.int .i64 0)))
(cG g21 false t25 (AD g24)
(cG g25 true t26 (AD g0)
(cG g25 true t27 (AD g3)
(cG g25 true t28 (A9 1 g26 g27)
(cG g25 true t29 (AH g28)
(cG g25 true t30 (AD g0)
(cG g25 true t31 (AD g3)
(cG g25 true t32 (CQ Int.sub .i64 g31 (kV (.int .i64 1)))
(cG g25 true t33 (A9 1 g30 g32)
(cG g25 true t34 (AH g33)
(cG g25 true t35 (AL iLe .i64 g29 g34)
(cG g21 false t36 (AS g25 g35 (kV (.bool false)))
(cOp t37 (AS g21 (kV (.bool true)) g36)
(AP g37
(cOp t2 (AD (kV (.bool false)))
Ae)
Ac)))))))))))))))))))))))))))
(cOp t9 (A4 .i64 (Ai .i64) g3 (kV (.int .i64 1)))
(cOp t3 (AD g9)
Ac)))
(A7 0))))))
(cOp t2 (AD (kV (.bool true)))
Ae))))
def b40 : Body := ⟨[.t g2], c40⟩
def dC : List Nat := [4, 5, 8, 10, 11, 15, 22]
theorem Xx : Bm ty dC Try.f40 = some b40 := by kernel_rfl
def c41 : C :=
(cOp t2 (Bu g0)
(cOp t4 (AD (kV (.int .i64 0)))
(cOp t5 (AD (kV (.int .i64 0)))
(Ar (AX 0 (Ao (cOp t7 (AF 1 g2)
(cOp t8 (AH g7)
(cOp t9 (Af g8)
(cOp t10 (AL iLt .i64 g5 g9)
(AP g10
(Ar (AX 1 (cOp t13 (AF 1 g2)
(cOp t14 (AH g13)
(cOp t16 (A9 1 g14 g5)
(cOp t17 (AH g16)
(cOp t19 (AL iEq .i64 g17 g1)
(AP g19
(cOp t4 (AD g5)
Ae)
Ac)))))))
(cOp t12 (A4 .i64 (Ai .i64) g5 (kV (.int .i64 1)))
(cOp t5 (AD g12)
Ac)))
(A7 0))))))))
(cOp t4 (AD (kV (.int .i64 (-1))))
Ae)))))
def b41 : Body := ⟨[.t g4], c41⟩
def dD : List Nat := [6, 11, 15, 18, 20]
theorem Xy : Bm ty dD Try.f41 = some b41 := by kernel_rfl
def c42 : C :=
(cOp t2 (AD (kV (.slice none 0 0)))
(cOp t3 (AD (kV (.slice none 0 0)))
(AX 0 (Ao (AX 1 (cOp t5 (AL iLt .u64 g0 (kV (.int .u64 128)))
(AP g5
(cOp t8 (BO .u8 g0)
(cOp t9 (AU 1 (BE ty5.zero 1) [(0, 1, g8)])
(cOp t10 (Az 1 1 5 g3 g9)
(cOp t2 (AD g10)
Ae))))
(cOp t13 (C8 .u64 g0 (kV (.int .u64 128)))
(cOp t14 (BO .u8 g13)
(cOp t15 (A4 .u8 (Ai .u8) g14 (kV (.int .u8 128)))
(cOp t16 (AU 1 (BE ty5.zero 1) [(0, 1, g15)])
(cOp t17 (Az 1 1 5 g3 g16)
(cOp t3 (AD g17)
(cOp t19 (Kz .u64 g0 (kV (.int .u64 128)))
(cOp t0 (AD g19)
Ac)))))))))))))))
def b42 : Body := ⟨[.t g2], c42⟩
def dE : List Nat := [4, 6, 7, 11, 12, 18]
theorem Xz : Bm ty dE Try.f42 = some b42 := by kernel_rfl
def c43 : C :=
(cOp t4 (AD (kV (.slice none 0 0)))
(cOp t7 (AQ 42 [g1])
(cOp t8 (AQ 50 [g0, g7])
(cOp t4 (AD g8)
Ae))))
def b43 : Body := ⟨[.t g4], c43⟩
def dF : List Nat := [5, 6]
theorem X0 : Bm ty dF Try.f43 = some b43 := by kernel_rfl
def c44 : C :=
(cOp t4 (AD (kV (.int .u64 0)))
(cOp t5 (AD (kV (.int .i64 0)))
(cOp t6 (AD (kV (.int .i64 0)))
(cOp t12 (AL iLt .i64 g1 (kV (.int .i64 0)))
(cG g12 false t14 (AD g1)
(cG g12 false t15 (AD g0)
(cG g12 false t16 (Af g15)
(cG g12 false t17 (AL iGt .i64 g14 g16)
(cOp t18 (AS g12 (kV (.bool true)) g17)
(AP g18
(cOp t4 (AD (kV (.int .u64 0)))
(cOp t5 (AD (kV (.int .i64 0)))
(cOp t6 (AD (kV (.int .i64 2)))
Ae)))
(cOp t7 (AD (kV (.int .u64 0)))
(cOp t8 (AD (kV (.int .u64 1)))
(cOp t9 (AD (kV (.int .i64 0)))
(AX 0 (Ao (AX 1 (cOp t21 (A4 .i64 (Ai .i64) g1 g9)
(cOp t23 (Af g0)
(cOp t24 (AL iEq .i64 g21 g23)
(AP g24
(cOp t4 (AD (kV (.int .u64 0)))
(cOp t5 (AD (kV (.int .i64 0)))
(cOp t6 (AD (kV (.int .i64 11)))
Ae)))
(cOp t28 (A4 .i64 (Ai .i64) g1 g9)
(cOp t29 (A9 1 g0 g28)
(cOp t30 (AH g29)
(cOp t10 (AD g30)
(cOp t32 (A4 .i64 (Ai .i64) g9 (kV (.int .i64 1)))
(cOp t9 (AD g32)
(cOp t34 (AL iGt .i64 g9 (kV (.int .i64 1)))
(cG g34 true t36 (AD g10)
(cG g34 true t37 (AL iEq .u8 g36 (kV (.int .u8 0)))
(cOp t38 (AS g34 g37 (kV (.bool false)))
(cG g38 false t40 (AD g9)
(cG g38 false t41 (AL iEq .i64 g40 (kV (.int .i64 10)))
(cG g38 false t42 (AD g41)
(cG g42 true t43 (AD g10)
(cG g42 true t44 (AL iGt .u8 g43 (kV (.int .u8 1)))
(cG g38 false t45 (AS g42 g44 (kV (.bool false)))
(cOp t46 (AS g38 (kV (.bool true)) g45)
(AP g46
(cOp t4 (AD (kV (.int .u64 0)))
(cOp t5 (AD (kV (.int .i64 0)))
(cOp t6 (AD (kV (.int .i64 10)))
Ae)))
(cOp t48 (AL iLt .u8 g10 (kV (.int .u8 128)))
(AP g48
(cOp t52 (BO .u64 g10)
(cOp t53 (CQ Int.mul .u64 g8 g52)
(cOp t54 (A4 .u64 (Ai .u64) g7 g53)
(cOp t57 (A4 .i64 (Ai .i64) g1 g9)
(cOp t4 (AD g54)
(cOp t5 (AD g57)
(cOp t6 (AD (kV (.int .i64 0)))
Ae)))))))
(cOp t61 (CQ Int.sub .u8 g10 (kV (.int .u8 128)))
(cOp t62 (BO .u64 g61)
(cOp t63 (CQ Int.mul .u64 g8 g62)
(cOp t64 (A4 .u64 (Ai .u64) g7 g63)
(cOp t7 (AD g64)
(cOp t66 (CQ Int.mul .u64 g8 (kV (.int .u64 128)))
(cOp t8 (AD g66)
Ac)))))))))))))))))))))))))))))))))))))))))))))))
def b44 : Body := ⟨[.t g4, .t g5, .t g6], c44⟩
def dG : List Nat := [11, 13, 19, 20, 22, 25, 26, 27, 31, 33, 35, 39, 47, 49, 50, 51, 55, 56, 58, 59, 60, 65]
theorem YA : Bm ty dG Try.f44 = some b44 := by kernel_rfl
def c45 : C :=
(cOp t2 (AD (kV (.bool false)))
(cOp t4 (AL iGe .i64 g0 (kV (.int .i64 0)))
(cG g4 true t6 (AD g0)
(cG g4 true t7 (AL iLt .i64 g6 (kV (.int .i64 256)))
(cOp t8 (AS g4 g7 (kV (.bool false)))
(cOp t2 (AD g8)
Ae))))))
def b45 : Body := ⟨[.t g2], c45⟩
def dH : List Nat := [3, 5]
theorem YB : Bm ty dH Try.f45 = some b45 := by kernel_rfl
def c46 : C :=
(cOp t3 (Bu g0)
(cOp t4 (AD (kV (.bool false)))
(cOp t5 (Aa 2 g3)
(cOp t6 (AH g1)
(cOp t7 (AQ 11 [g5, g6])
(cOp t8 (AL iGe .i64 g7 (kV (.int .i64 0)))
(cG g8 true t10 (Aa 2 g3)
(cG g8 true t11 (AH g2)
(cG g8 true t12 (AQ 11 [g10, g11])
(cG g8 true t13 (AL iGe .i64 g12 (kV (.int .i64 0)))
(cG g8 true t14 (AD g13)
(cG g14 false t15 (AF 0 g3)
(cG g14 false t16 (AH g15)
(cG g14 false t17 (AL iGe .i64 g16 (kV (.int .i64 1099511627776)))
(cG g8 true t18 (AS g14 (kV (.bool true)) g17)
(cOp t19 (AS g8 g18 (kV (.bool false)))
(cOp t4 (AD g19)
Ae)))))))))))))))))
def b46 : Body := ⟨[.t g4], c46⟩
def dI : List Nat := [9]
theorem YC : Bm ty dI Try.f46 = some b46 := by kernel_rfl
def c47 : C :=
(cOp t2 (AD (kV (.bool false)))
(cOp t4 (Af g0)
(cOp t5 (AL iGe .i64 g4 (kV (.int .i64 1)))
(cG g5 true t7 (AD g0)
(cG g5 true t8 (Af g7)
(cG g5 true t9 (AL iLe .i64 g8 (kV (.int .i64 1000)))
(cOp t10 (AS g5 g9 (kV (.bool false)))
(cG g10 true t12 (AD g0)
(cG g10 true t13 (AQ 48 [g12, (kV (.func (.func 51) #[] #[]))])
(cG g10 true t14 (B7 g13)
(cOp t15 (AS g10 g14 (kV (.bool false)))
(cOp t2 (AD g15)
Ae))))))))))))
def b47 : Body := ⟨[.t g2], c47⟩
def dJ : List Nat := [3, 6, 11]
theorem YD : Bm ty dJ Try.f47 = some b47 := by kernel_rfl
def c48 : C :=
(cOp t4 (AD (kV (.bool false)))
(cOp t7 (AQ 53 [g0, g1])
(cOp t8 (AL iGe .i64 g7 (kV (.int .i64 0)))
(cOp t4 (AD g8)
Ae))))
def b48 : Body := ⟨[.t g4], c48⟩
def dK : List Nat := [5, 6]
theorem YE : Bm ty dK Try.f48 = some b48 := by kernel_rfl
def c49 : C :=
(cOp t2 (AD (kV (.bool false)))
(cOp t5 (Af g0)
(cOp t6 (AL iLt .i64 g5 (kV (.int .i64 1)))
(cG g6 false t8 (AD g0)
(cG g6 false t9 (Af g8)
(cG g6 false t10 (AL iGt .i64 g9 (kV (.int .i64 1000)))
(cOp t11 (AS g6 (kV (.bool true)) g10)
(AP g11
(cOp t2 (AD (kV (.bool false)))
Ae)
(cOp t3 (AD (kV (.int .i64 0)))
(Ar (AX 0 (Ao (cOp t14 (Af g0)
(cOp t15 (AL iLt .i64 g3 g14)
(AP g15
(Ar (AX 1 (cOp t20 (A9 2 g0 g3)
(cOp t21 (Aa 2 g20)
(cOp t22 (AQ 54 [g21, (kV (.int .i64 256))])
(cOp t23 (B7 g22)
(AP g23
(cOp t2 (AD (kV (.bool false)))
Ae)
Ac))))))
(cOp t17 (A4 .i64 (Ai .i64) g3 (kV (.int .i64 1)))
(cOp t3 (AD g17)
Ac)))
(A7 0))))))
(cOp t2 (AD (kV (.bool true)))
Ae)))))))))))
def b49 : Body := ⟨[.t g2], c49⟩
def dL : List Nat := [4, 7, 12, 13, 16, 18, 19]
theorem YF : Bm ty dL Try.f49 = some b49 := by kernel_rfl
def c50 : C :=
(cOp t4 (AD (kV (.slice none 0 0)))
(cOp t6 (Cm g0)
(cOp t8 (Cm g1)
(cOp t9 (Kx g6 g8)
(cOp t10 (D4 5 g9)
(cOp t4 (AD g10)
Ae))))))
def b50 : Body := ⟨[.t g4], c50⟩
def dM : List Nat := [5, 7]
theorem YG : Bm ty dM Try.f50 = some b50 := by kernel_rfl
def c51 : C :=
(cOp t1 (Bu g0)
(cOp t2 (AD (kV (.bool false)))
(cOp t3 (Aa 2 g1)
(cOp t4 (AQ 52 [g3, (kV (.int .i64 256))])
(cOp t5 (B7 g4)
(cOp t2 (AD g5)
Ae))))))
def b51 : Body := ⟨[.t g2], c51⟩
def dN : List Nat := []
theorem YH : Bm ty dN Try.f51 = some b51 := by kernel_rfl
def c52 : C :=
(cOp t2 (Bu g0)
(cOp t4 (AD (kV (.bool false)))
(cOp t8 (AL iLt .i64 g1 (kV (.int .i64 1)))
(cG g8 false t10 (AD g1)
(cG g8 false t11 (AL iGt .i64 g10 (kV (.int .i64 256)))
(cOp t12 (AS g8 (kV (.bool true)) g11)
(cG g12 false t14 (AF 0 g2)
(cG g12 false t15 (AH g14)
(cG g12 false t16 (AL iLt .i64 g15 (kV (.int .i64 1)))
(cOp t17 (AS g12 (kV (.bool true)) g16)
(cG g17 false t19 (AF 0 g2)
(cG g17 false t20 (AH g19)
(cG g17 false t21 (AL iGt .i64 g20 (kV (.int .i64 1099511627776)))
(cOp t22 (AS g17 (kV (.bool true)) g21)
(cG g22 false t24 (AF 1 g2)
(cG g22 false t25 (AH g24)
(cG g22 false t26 (Af g25)
(cG g22 false t27 (AL iLt .i64 g26 (kV (.int .i64 1)))
(cOp t28 (AS g22 (kV (.bool true)) g27)
(cG g28 false t30 (AF 1 g2)
(cG g28 false t31 (AH g30)
(cG g28 false t32 (Af g31)
(cG g28 false t33 (AL iGt .i64 g32 (kV (.int .i64 255)))
(cOp t34 (AS g28 (kV (.bool true)) g33)
(AP g34
(cOp t4 (AD (kV (.bool false)))
Ae)
(cOp t35 (AF 1 g2)
(cOp t36 (AH g35)
(cOp t37 (Af g36)
(cOp t38 (AD (kV (.int .i64 0)))
(Ar (AX 0 (Ao (cOp t39 (AL iLt .i64 g38 g37)
(AP g39
(Ar (AX 1 (cOp t41 (A9 1 g36 g38)
(cOp t42 (AH g41)
(cOp t5 (AD g38)
(cOp t6 (AD g42)
(cOp t44 (AL iLt .i64 g6 (kV (.int .i64 0)))
(cG g44 false t46 (AD g6)
(cG g44 false t47 (AD g1)
(cG g44 false t48 (AL iGe .i64 g46 g47)
(cOp t49 (AS g44 (kV (.bool true)) g48)
(cG g49 false t51 (AF 1 g2)
(cG g49 false t52 (AH g51)
(cG g49 false t53 (AD g5)
(cG g49 false t54 (Da 3 1 g52 none (some g53) none)
(cG g49 false t55 (AD g6)
(cG g49 false t56 (AQ 55 [g54, g55])
(cOp t57 (AS g49 (kV (.bool true)) g56)
(AP g57
(cOp t4 (AD (kV (.bool false)))
Ae)
Ac))))))))))))))))))
(cOp t58 (A4 .i64 (Ai .i64) g38 (kV (.int .i64 1)))
(cOp t38 (AD g58)
Ac)))
(A7 0)))))
(cOp t4 (AD (kV (.bool true)))
Ae)))))))))))))))))))))))))))))))
def b52 : Body := ⟨[.t g4], c52⟩
def dO : List Nat := [7, 9, 13, 18, 23, 29, 40, 43, 45, 50]
theorem YI : Bm ty dO Try.f52 = some b52 := by kernel_rfl
def c53 : C :=
(cOp t4 (AD (kV (.int .i64 0)))
(cOp t7 (Af g0)
(cOp t8 (AD (kV (.int .i64 0)))
(Ar (AX 0 (Ao (cOp t9 (AL iLt .i64 g8 g7)
(AP g9
(Ar (AX 1 (cOp t5 (AD g8)
(cOp t14 (A9 2 g0 g5)
(cOp t15 (Aa 2 g14)
(cOp t16 (CN g1 [g15])
(AP g16
(cOp t4 (AD g5)
Ae)
Ac))))))
(cOp t18 (A4 .i64 (Ai .i64) g8 (kV (.int .i64 1)))
(cOp t8 (AD g18)
Ac)))
(A7 0)))))
(cOp t4 (AD (kV (.int .i64 (-1))))
Ae)))))
def b53 : Body := ⟨[.t g4], c53⟩
def dP : List Nat := [6, 10, 11, 12, 13, 17]
theorem YJ : Bm ty dP Try.f53 = some b53 := by kernel_rfl
def c54 : C :=
(cOp t2 (Bu g0)
(cOp t4 (AD (kV (.bool false)))
(cOp t8 (AL iLt .i64 g1 (kV (.int .i64 1)))
(cG g8 false t10 (AD g1)
(cG g8 false t11 (AL iGt .i64 g10 (kV (.int .i64 256)))
(cOp t12 (AS g8 (kV (.bool true)) g11)
(cG g12 false t14 (AF 0 g2)
(cG g12 false t15 (AH g14)
(cG g12 false t16 (AL iLt .i64 g15 (kV (.int .i64 1)))
(cOp t17 (AS g12 (kV (.bool true)) g16)
(cG g17 false t19 (AF 0 g2)
(cG g17 false t20 (AH g19)
(cG g17 false t21 (AL iGt .i64 g20 (kV (.int .i64 1099511627776)))
(cOp t22 (AS g17 (kV (.bool true)) g21)
(cG g22 false t24 (AF 1 g2)
(cG g22 false t25 (AH g24)
(cG g22 false t26 (Af g25)
(cG g22 false t27 (AL iLt .i64 g26 (kV (.int .i64 1)))
(cOp t28 (AS g22 (kV (.bool true)) g27)
(cG g28 false t30 (AF 1 g2)
(cG g28 false t31 (AH g30)
(cG g28 false t32 (Af g31)
(cG g28 false t33 (AL iGt .i64 g32 (kV (.int .i64 255)))
(cOp t34 (AS g28 (kV (.bool true)) g33)
(AP g34
(cOp t4 (AD (kV (.bool false)))
Ae)
(cOp t5 (AD (kV (.int .i64 0)))
(Ar (AX 0 (Ao (cOp t36 (AF 1 g2)
(cOp t37 (AH g36)
(cOp t38 (Af g37)
(cOp t39 (AL iLt .i64 g5 g38)
(AP g39
(Ar (AX 1 (cOp t42 (AF 1 g2)
(cOp t43 (AH g42)
(cOp t45 (A9 1 g43 g5)
(cOp t46 (AH g45)
(cOp t47 (AL iLt .i64 g46 (kV (.int .i64 0)))
(cG g47 false t49 (AF 1 g2)
(cG g47 false t50 (AH g49)
(cG g47 false t51 (AD g5)
(cG g47 false t52 (A9 1 g50 g51)
(cG g47 false t53 (AH g52)
(cG g47 false t54 (AD g1)
(cG g47 false t55 (AL iGe .i64 g53 g54)
(cOp t56 (AS g47 (kV (.bool true)) g55)
(AP g56
(cOp t4 (AD (kV (.bool false)))
Ae)
(cOp t6 (AD (kV (.int .i64 0)))
(AX 2 (Ao (cOp t59 (AL iLt .i64 g6 g5)
(AP g59
(Ar (AX 3 (Bx (cOp t62 (AF 1 g2)
(cOp t63 (AH g62)
(cOp t65 (A9 1 g63 g6)
(cOp t66 (AH g65)
(cOp t67 (AF 1 g2)
(cOp t68 (AH g67)
(cOp t70 (A9 1 g68 g5)
(cOp t71 (AH g70)
(cOp t72 (AL iEq .i64 g66 g71)
(AP g72
(cOp t4 (AD (kV (.bool false)))
Ae)
Ac))))))))))))
(cOp t61 (A4 .i64 (Ai .i64) g6 (kV (.int .i64 1)))
(cOp t6 (AD g61)
Ac)))
(A7 2)))))))))))))))))))))
(cOp t41 (A4 .i64 (Ai .i64) g5 (kV (.int .i64 1)))
(cOp t5 (AD g41)
Ac)))
(A7 0))))))))
(cOp t4 (AD (kV (.bool true)))
Ae))))))))))))))))))))))))))))
def b54 : Body := ⟨[.t g4], c54⟩
def dQ : List Nat := [7, 9, 13, 18, 23, 29, 35, 40, 44, 48, 57, 58, 60, 64, 69]
theorem YK : Bm ty dQ Try.f54 = some b54 := by kernel_rfl
def c55 : C :=
(cOp t4 (AD (kV (.bool false)))
(cOp t7 (AQ 33 [g0, g1])
(cOp t8 (AL iGe .i64 g7 (kV (.int .i64 0)))
(cOp t4 (AD g8)
Ae))))
def b55 : Body := ⟨[.t g4], c55⟩
def dR : List Nat := [5, 6]
theorem YL : Bm ty dR Try.f55 = some b55 := by kernel_rfl
end
end Go.Proofs.Ytkafejncffinmaa
namespace Go.Proofs.Ytkafejncffinmaa
noncomputable section
open Go
theorem BD {a b : String} (h : (a == b) = false) : a ≠ b := by simpa using h
theorem o2 : B8 Try.prog ty 2 b2 := Or.inl ⟨Try.f2, al2, Try.func2, BD (by kernel_rfl), dT⟩
theorem o3 : B8 Try.prog ty 3 b3 := Or.inl ⟨Try.f3, al3, Try.func3, BD (by kernel_rfl), dU⟩
theorem o4 : B8 Try.prog ty 4 b4 := Or.inl ⟨Try.f4, al4, Try.func4, BD (by kernel_rfl), dV⟩
theorem o5 : B8 Try.prog ty 5 b5 := Or.inl ⟨Try.f5, al5, Try.func5, BD (by kernel_rfl), dW⟩
theorem o6 : B8 Try.prog ty 6 b6 := Or.inl ⟨Try.f6, al6, Try.func6, BD (by kernel_rfl), dX⟩
theorem o7 : B8 Try.prog ty 7 b7 := Or.inl ⟨Try.f7, al7, Try.func7, BD (by kernel_rfl), dY⟩
theorem o8 : B8 Try.prog ty 8 b8 := Or.inl ⟨Try.f8, al8, Try.func8, BD (by kernel_rfl), dZ⟩
theorem o9 : B8 Try.prog ty 9 b9 := Or.inl ⟨Try.f9, al9, Try.func9, BD (by kernel_rfl), da⟩
theorem o10 : B8 Try.prog ty 10 b10 := Or.inl ⟨Try.f10, cK, Try.func10, BD (by kernel_rfl), XT⟩
theorem o11 : B8 Try.prog ty 11 b11 := Or.inl ⟨Try.f11, cL, Try.func11, BD (by kernel_rfl), XU⟩
theorem o12 : B8 Try.prog ty 12 b12 := Or.inl ⟨Try.f12, cM, Try.func12, BD (by kernel_rfl), XV⟩
theorem o13 : B8 Try.prog ty 13 b13 := Or.inl ⟨Try.f13, cP, Try.func13, BD (by kernel_rfl), XW⟩
theorem o14 : B8 Try.prog ty 14 b14 := Or.inl ⟨Try.f14, cQ, Try.func14, BD (by kernel_rfl), XX⟩
theorem o15 : B8 Try.prog ty 15 b15 := Or.inl ⟨Try.f15, cR, Try.func15, BD (by kernel_rfl), XY⟩
theorem o16 : B8 Try.prog ty 16 b16 := Or.inl ⟨Try.f16, cS, Try.func16, BD (by kernel_rfl), XZ⟩
theorem o17 : B8 Try.prog ty 17 b17 := Or.inl ⟨Try.f17, cT, Try.func17, BD (by kernel_rfl), Xa⟩
theorem o18 : B8 Try.prog ty 18 b18 := Or.inl ⟨Try.f18, cU, Try.func18, BD (by kernel_rfl), Xb⟩
theorem o19 : B8 Try.prog ty 19 b19 := Or.inl ⟨Try.f19, cV, Try.func19, BD (by kernel_rfl), Xc⟩
theorem o20 : B8 Try.prog ty 20 b20 := Or.inl ⟨Try.f20, cW, Try.func20, BD (by kernel_rfl), Xd⟩
theorem o21 : B8 Try.prog ty 21 b21 := Or.inl ⟨Try.f21, cX, Try.func21, BD (by kernel_rfl), Xe⟩
theorem o22 : B8 Try.prog ty 22 b22 := Or.inl ⟨Try.f22, cY, Try.func22, BD (by kernel_rfl), Xf⟩
theorem o23 : B8 Try.prog ty 23 b23 := Or.inl ⟨Try.f23, cZ, Try.func23, BD (by kernel_rfl), Xg⟩
theorem o24 : B8 Try.prog ty 24 b24 := Or.inl ⟨Try.f24, ca, Try.func24, BD (by kernel_rfl), Xh⟩
theorem o25 : B8 Try.prog ty 25 b25 := Or.inl ⟨Try.f25, cb, Try.func25, BD (by kernel_rfl), Xi⟩
theorem o26 : B8 Try.prog ty 26 b26 := Or.inl ⟨Try.f26, cd, Try.func26, BD (by kernel_rfl), Xj⟩
theorem o27 : B8 Try.prog ty 27 b27 := Or.inl ⟨Try.f27, cg, Try.func27, BD (by kernel_rfl), Xk⟩
theorem o28 : B8 Try.prog ty 28 b28 := Or.inl ⟨Try.f28, ch, Try.func28, BD (by kernel_rfl), Xl⟩
theorem o29 : B8 Try.prog ty 29 b29 := Or.inl ⟨Try.f29, cj, Try.func29, BD (by kernel_rfl), Xm⟩
theorem o30 : B8 Try.prog ty 30 b30 := Or.inl ⟨Try.f30, ck, Try.func30, BD (by kernel_rfl), Xn⟩
theorem o31 : B8 Try.prog ty 31 b31 := Or.inl ⟨Try.f31, co, Try.func31, BD (by kernel_rfl), Xo⟩
theorem o32 : B8 Try.prog ty 32 b32 := Or.inl ⟨Try.f32, cp, Try.func32, BD (by kernel_rfl), Xp⟩
theorem o33 : B8 Try.prog ty 33 b33 := Or.inl ⟨Try.f33, cq, Try.func33, BD (by kernel_rfl), Xq⟩
theorem o34 : B8 Try.prog ty 34 b34 := Or.inl ⟨Try.f34, cr, Try.func34, BD (by kernel_rfl), Xr⟩
theorem o35 : B8 Try.prog ty 35 b35 := Or.inl ⟨Try.f35, cu, Try.func35, BD (by kernel_rfl), Xs⟩
theorem o36 : B8 Try.prog ty 36 b36 := Or.inl ⟨Try.f36, cx, Try.func36, BD (by kernel_rfl), Xt⟩
theorem o37 : B8 Try.prog ty 37 b37 := Or.inl ⟨Try.f37, cy, Try.func37, BD (by kernel_rfl), Xu⟩
theorem o38 : B8 Try.prog ty 38 b38 := Or.inl ⟨Try.f38, cz, Try.func38, BD (by kernel_rfl), Xv⟩
theorem o39 : B8 Try.prog ty 39 b39 := Or.inl ⟨Try.f39, dA, Try.func39, BD (by kernel_rfl), Xw⟩
theorem o40 : B8 Try.prog ty 40 b40 := Or.inl ⟨Try.f40, dC, Try.func40, BD (by kernel_rfl), Xx⟩
theorem o41 : B8 Try.prog ty 41 b41 := Or.inl ⟨Try.f41, dD, Try.func41, BD (by kernel_rfl), Xy⟩
theorem o42 : B8 Try.prog ty 42 b42 := Or.inl ⟨Try.f42, dE, Try.func42, BD (by kernel_rfl), Xz⟩
theorem o43 : B8 Try.prog ty 43 b43 := Or.inl ⟨Try.f43, dF, Try.func43, BD (by kernel_rfl), X0⟩
theorem o44 : B8 Try.prog ty 44 b44 := Or.inl ⟨Try.f44, dG, Try.func44, BD (by kernel_rfl), YA⟩
theorem o45 : B8 Try.prog ty 45 b45 := Or.inl ⟨Try.f45, dH, Try.func45, BD (by kernel_rfl), YB⟩
theorem o46 : B8 Try.prog ty 46 b46 := Or.inl ⟨Try.f46, dI, Try.func46, BD (by kernel_rfl), YC⟩
theorem o47 : B8 Try.prog ty 47 b47 := Or.inl ⟨Try.f47, dJ, Try.func47, BD (by kernel_rfl), YD⟩
theorem o48 : B8 Try.prog ty 48 b48 := Or.inl ⟨Try.f48, dK, Try.func48, BD (by kernel_rfl), YE⟩
theorem o49 : B8 Try.prog ty 49 b49 := Or.inl ⟨Try.f49, dL, Try.func49, BD (by kernel_rfl), YF⟩
theorem o50 : B8 Try.prog ty 50 b50 := Or.inl ⟨Try.f50, dM, Try.func50, BD (by kernel_rfl), YG⟩
theorem o51 : B8 Try.prog ty 51 b51 := Or.inl ⟨Try.f51, dN, Try.func51, BD (by kernel_rfl), YH⟩
theorem o52 : B8 Try.prog ty 52 b52 := Or.inl ⟨Try.f52, dO, Try.func52, BD (by kernel_rfl), YI⟩
theorem o53 : B8 Try.prog ty 53 b53 := Or.inl ⟨Try.f53, dP, Try.func53, BD (by kernel_rfl), YJ⟩
theorem o54 : B8 Try.prog ty 54 b54 := Or.inl ⟨Try.f54, dQ, Try.func54, BD (by kernel_rfl), YK⟩
theorem o55 : B8 Try.prog ty 55 b55 := Or.inl ⟨Try.f55, dR, Try.func55, BD (by kernel_rfl), YL⟩
theorem CF (i : Nat) : B8 Try.prog ty i CA := Or.inr (.inl rfl)
set_option maxRecDepth 100000 in
def KP : FT := (.nd CA (.nd CA (.nd b3 (.nd b7 (.nd b15 (.nd b31 (.nd CA .mt .mt) .mt) (.nd b47 .mt .mt)) (.nd b23 (.nd b39 (.nd CA .mt .mt) .mt) (.nd b55 .mt .mt))) (.nd b11 (.nd b19 (.nd b35 (.nd CA .mt .mt) .mt) (.nd b51 .mt .mt)) (.nd b27 (.nd b43 .mt .mt) (.nd CA .mt .mt)))) (.nd b5 (.nd b9 (.nd b17 (.nd b33 (.nd CA .mt .mt) .mt) (.nd b49 .mt .mt)) (.nd b25 (.nd b41 .mt .mt) (.nd CA .mt .mt))) (.nd b13 (.nd b21 (.nd b37 (.nd CA .mt .mt) .mt) (.nd b53 .mt .mt)) (.nd b29 (.nd b45 .mt .mt) (.nd CA .mt .mt))))) (.nd b2 (.nd b4 (.nd b8 (.nd b16 (.nd b32 (.nd CA .mt .mt) .mt) (.nd b48 .mt .mt)) (.nd b24 (.nd b40 .mt .mt) (.nd CA .mt .mt))) (.nd b12 (.nd b20 (.nd b36 (.nd CA .mt .mt) .mt) (.nd b52 .mt .mt)) (.nd b28 (.nd b44 .mt .mt) (.nd CA .mt .mt)))) (.nd b6 (.nd b10 (.nd b18 (.nd b34 (.nd CA .mt .mt) .mt) (.nd b50 .mt .mt)) (.nd b26 (.nd b42 .mt .mt) (.nd CA .mt .mt))) (.nd b14 (.nd b22 (.nd b38 (.nd CA .mt .mt) .mt) (.nd b54 .mt .mt)) (.nd b30 (.nd b46 .mt .mt) (.nd CA .mt .mt))))))
set_option maxRecDepth 100000 in
theorem Ms : FT.All (B8 Try.prog ty) KP id := ⟨CF _, ⟨CF _, ⟨o3, ⟨o7, ⟨o15, ⟨o31, ⟨CF _, trivial, trivial⟩, trivial⟩, ⟨o47, trivial, trivial⟩⟩, ⟨o23, ⟨o39, ⟨CF _, trivial, trivial⟩, trivial⟩, ⟨o55, trivial, trivial⟩⟩⟩, ⟨o11, ⟨o19, ⟨o35, ⟨CF _, trivial, trivial⟩, trivial⟩, ⟨o51, trivial, trivial⟩⟩, ⟨o27, ⟨o43, trivial, trivial⟩, ⟨CF _, trivial, trivial⟩⟩⟩⟩, ⟨o5, ⟨o9, ⟨o17, ⟨o33, ⟨CF _, trivial, trivial⟩, trivial⟩, ⟨o49, trivial, trivial⟩⟩, ⟨o25, ⟨o41, trivial, trivial⟩, ⟨CF _, trivial, trivial⟩⟩⟩, ⟨o13, ⟨o21, ⟨o37, ⟨CF _, trivial, trivial⟩, trivial⟩, ⟨o53, trivial, trivial⟩⟩, ⟨o29, ⟨o45, trivial, trivial⟩, ⟨CF _, trivial, trivial⟩⟩⟩⟩⟩, ⟨o2, ⟨o4, ⟨o8, ⟨o16, ⟨o32, ⟨CF _, trivial, trivial⟩, trivial⟩, ⟨o48, trivial, trivial⟩⟩, ⟨o24, ⟨o40, trivial, trivial⟩, ⟨CF _, trivial, trivial⟩⟩⟩, ⟨o12, ⟨o20, ⟨o36, ⟨CF _, trivial, trivial⟩, trivial⟩, ⟨o52, trivial, trivial⟩⟩, ⟨o28, ⟨o44, trivial, trivial⟩, ⟨CF _, trivial, trivial⟩⟩⟩⟩, ⟨o6, ⟨o10, ⟨o18, ⟨o34, ⟨CF _, trivial, trivial⟩, trivial⟩, ⟨o50, trivial, trivial⟩⟩, ⟨o26, ⟨o42, trivial, trivial⟩, ⟨CF _, trivial, trivial⟩⟩⟩, ⟨o14, ⟨o22, ⟨o38, ⟨CF _, trivial, trivial⟩, trivial⟩, ⟨o54, trivial, trivial⟩⟩, ⟨o30, ⟨o46, trivial, trivial⟩, ⟨CF _, trivial, trivial⟩⟩⟩⟩⟩⟩
theorem XM : CY Try.prog ty := bz (by kernel_rfl) (by kernel_rfl)
theorem PK (n : Nat) : Cq Try.prog ty (call KP n) := Gh XM (by kernel_rfl) Ms n
end
end Go.Proofs.Ytkafejncffinmaa
namespace Go.Proofs.Ytkafejncffinmaa
noncomputable section
open Go
set_option maxHeartbeats 0 in
theorem PC : Sf (call KP 64 14 [] Mk) = true := by kernel_rfl
theorem Mq : Mo Try.prog ty 14 HM := QL ⟨Try.f14, Try.func14, BD (by kernel_rfl), by kernel_rfl⟩ (Sy PK PC)
theorem oA : B8 Try.prog ty 14 HM := Or.inr (.inr Mq)
end
end Go.Proofs.Ytkafejncffinmaa
namespace Go.Proofs.Ytkafejncffinmaa
noncomputable section
open Go
set_option maxRecDepth 100000 in
def AG : FT := (.nd CA (.nd CA (.nd b3 (.nd b7 (.nd b15 (.nd b31 (.nd CA .mt .mt) .mt) (.nd b47 .mt .mt)) (.nd b23 (.nd b39 (.nd CA .mt .mt) .mt) (.nd b55 .mt .mt))) (.nd b11 (.nd b19 (.nd b35 (.nd CA .mt .mt) .mt) (.nd b51 .mt .mt)) (.nd b27 (.nd b43 .mt .mt) (.nd CA .mt .mt)))) (.nd b5 (.nd b9 (.nd b17 (.nd b33 (.nd CA .mt .mt) .mt) (.nd b49 .mt .mt)) (.nd b25 (.nd b41 .mt .mt) (.nd CA .mt .mt))) (.nd b13 (.nd b21 (.nd b37 (.nd CA .mt .mt) .mt) (.nd b53 .mt .mt)) (.nd b29 (.nd b45 .mt .mt) (.nd CA .mt .mt))))) (.nd b2 (.nd b4 (.nd b8 (.nd b16 (.nd b32 (.nd CA .mt .mt) .mt) (.nd b48 .mt .mt)) (.nd b24 (.nd b40 .mt .mt) (.nd CA .mt .mt))) (.nd b12 (.nd b20 (.nd b36 (.nd CA .mt .mt) .mt) (.nd b52 .mt .mt)) (.nd b28 (.nd b44 .mt .mt) (.nd CA .mt .mt)))) (.nd b6 (.nd b10 (.nd b18 (.nd b34 (.nd CA .mt .mt) .mt) (.nd b50 .mt .mt)) (.nd b26 (.nd b42 .mt .mt) (.nd CA .mt .mt))) (.nd HM (.nd b22 (.nd b38 (.nd CA .mt .mt) .mt) (.nd b54 .mt .mt)) (.nd b30 (.nd b46 .mt .mt) (.nd CA .mt .mt))))))
set_option maxRecDepth 100000 in
theorem PF : FT.All (B8 Try.prog ty) AG id := ⟨CF _, ⟨CF _, ⟨o3, ⟨o7, ⟨o15, ⟨o31, ⟨CF _, trivial, trivial⟩, trivial⟩, ⟨o47, trivial, trivial⟩⟩, ⟨o23, ⟨o39, ⟨CF _, trivial, trivial⟩, trivial⟩, ⟨o55, trivial, trivial⟩⟩⟩, ⟨o11, ⟨o19, ⟨o35, ⟨CF _, trivial, trivial⟩, trivial⟩, ⟨o51, trivial, trivial⟩⟩, ⟨o27, ⟨o43, trivial, trivial⟩, ⟨CF _, trivial, trivial⟩⟩⟩⟩, ⟨o5, ⟨o9, ⟨o17, ⟨o33, ⟨CF _, trivial, trivial⟩, trivial⟩, ⟨o49, trivial, trivial⟩⟩, ⟨o25, ⟨o41, trivial, trivial⟩, ⟨CF _, trivial, trivial⟩⟩⟩, ⟨o13, ⟨o21, ⟨o37, ⟨CF _, trivial, trivial⟩, trivial⟩, ⟨o53, trivial, trivial⟩⟩, ⟨o29, ⟨o45, trivial, trivial⟩, ⟨CF _, trivial, trivial⟩⟩⟩⟩⟩, ⟨o2, ⟨o4, ⟨o8, ⟨o16, ⟨o32, ⟨CF _, trivial, trivial⟩, trivial⟩, ⟨o48, trivial, trivial⟩⟩, ⟨o24, ⟨o40, trivial, trivial⟩, ⟨CF _, trivial, trivial⟩⟩⟩, ⟨o12, ⟨o20, ⟨o36, ⟨CF _, trivial, trivial⟩, trivial⟩, ⟨o52, trivial, trivial⟩⟩, ⟨o28, ⟨o44, trivial, trivial⟩, ⟨CF _, trivial, trivial⟩⟩⟩⟩, ⟨o6, ⟨o10, ⟨o18, ⟨o34, ⟨CF _, trivial, trivial⟩, trivial⟩, ⟨o50, trivial, trivial⟩⟩, ⟨o26, ⟨o42, trivial, trivial⟩, ⟨CF _, trivial, trivial⟩⟩⟩, ⟨oA, ⟨o22, ⟨o38, ⟨CF _, trivial, trivial⟩, trivial⟩, ⟨o54, trivial, trivial⟩⟩, ⟨o30, ⟨o46, trivial, trivial⟩, ⟨CF _, trivial, trivial⟩⟩⟩⟩⟩⟩
theorem LN (n : Nat) : Cq Try.prog ty (call AG n) := Gh XM (by kernel_rfl) PF n
theorem LI : AG.get 14 = some HM := by kernel_rfl
end
end Go.Proofs.Ytkafejncffinmaa
namespace Go.Proofs.Ytkafejncffinmaa
noncomputable section
open Go
set_option maxRecDepth 100000
def d9 : C :=
(cOp (AC 1) (Bu (AB 0))
(cOp (AC 2) (AD (kV (.bool false)))
(cOp (AC 3) (AD (kV (.func (.func 31) #[] #[])))
(cOp (AC 5) (AF 0 (AB 1))
(cOp (AC 6) (AH (AB 5))
(cOp (AC 7) (CN (AB 3) [(AB 6)])
(cG (AB 7) true (AC 9) (AD (AB 3))
(cG (AB 7) true (AC 10) (AF 1 (AB 1))
(cG (AB 7) true (AC 11) (AH (AB 10))
(cG (AB 7) true (AC 12) (CN (AB 9) [(AB 11)])
(cOp (AC 13) (AS (AB 7) (AB 12) (kV (.bool false)))
(cG (AB 13) true (AC 15) (AF 0 (AB 1))
(cG (AB 13) true (AC 16) (AH (AB 15))
(cG (AB 13) true (AC 17) (AF 1 (AB 1))
(cG (AB 13) true (AC 18) (AH (AB 17))
(cG (AB 13) true (AC 19) (AL iNe .i64 (AB 16) (AB 18))
(cOp (AC 20) (AS (AB 13) (AB 19) (kV (.bool false)))
(cG (AB 20) true (AC 22) (AF 2 (AB 1))
(cG (AB 20) true (AC 23) (AH (AB 22))
(cG (AB 20) true (AC 24) (Af (AB 23))
(cG (AB 20) true (AC 25) (AL iLe .i64 (AB 24) (kV (.int .i64 10000)))
(cOp (AC 26) (AS (AB 20) (AB 25) (kV (.bool false)))
(cG (AB 26) true (AC 28) (AF 2 (AB 1))
(cG (AB 26) true (AC 29) (AH (AB 28))
(cG (AB 26) true (AC 30) (AQ 30 [(AB 29)])
(cOp (AC 31) (AS (AB 26) (AB 30) (kV (.bool false)))
(cOp (AC 2) (AD (AB 31))
Ae)))))))))))))))))))))))))))
theorem de {n : Nat} {args : List Value} {h : Hp} (hl : Nat.ble (Bk args) 320 = true) : call AG (Nat.succ n) 9 args h = Bs [.t (AB 2)] (d9 (call AG n) (Ak e0 0 args) h) := by
  have hb : AG.get 9 = some b9 := by kernel_rfl
  rw [BM hb]
  have hd : b9 = ⟨[.t (AB 2)], d9⟩ := by kernel_rfl
  rw [hd, BC hl]
def d15 : C :=
(cOp (AC 1) (Bu (AB 0))
(cOp (AC 2) (AD (kV (.slice none 0 0)))
(cOp (AC 3) (AD (kV (.int .i64 0)))
(cOp (AC 8) (Aa 3 (AB 1))
(cOp (AC 9) (AQ 9 [(AB 8)])
(cOp (AC 10) (B7 (AB 9))
(AP (AB 10)
(cOp (AC 2) (AD (kV (.slice none 0 0)))
(cOp (AC 3) (AD (kV (.int .i64 167)))
Ae))
(Bx (cOp (AC 11) (AF 0 (AB 1))
(cOp (AC 12) (AH (AB 11))
(cOp (AC 13) (BO .u64 (AB 12))
(cOp (AC 14) (An .weak (AQ 36 [(kV (.slice none 0 0)), (AB 13)]))
(cOp (AC 15) (AF 1 (AB 1))
(EG (AB 15) (DZ (AB 15) []
(cOp (AC 16) (AH (AB 15))
(cOp (AC 17) (BO .u64 (AB 16))
(cOp (AC 18) (An .weak (AQ 36 [(AB 14), (AB 17)]))
(cOp (AC 19) (AF 2 (AB 1))
(EG (AB 19) (DZ (AB 19) []
(cOp (AC 20) (AH (AB 19))
(cOp (AC 21) (Af (AB 20))
(cOp (AC 22) (BO .u64 (AB 21))
(cOp (AC 23) (An .free (AQ 36 [(AB 18), (AB 22)]))
(cOp (AC 4) (AD (AB 23))
(cOp (AC 5) (AD (kV (.int .i64 0)))
(cOp (AC 24) (AF 2 (AB 1))
(cOp (AC 25) (AH (AB 24))
(cOp (AC 26) (Af (AB 25))
(cOp (AC 27) (AD (kV (.int .i64 0)))
(Ar (AX 0 (Ao (cOp (AC 28) (AL iLt .i64 (AB 27) (AB 26))
(AP (AB 28)
(Ar (AX 1 (cOp (AC 29) (A9 1 (AB 25) (AB 27))
(cOp (AC 30) (AH (AB 29))
(cOp (AC 7) (AD (AB 30))
(cOp (AC 34) (CQ Int.sub .i64 (AB 7) (AB 5))
(cOp (AC 35) (BO .u64 (AB 34))
(cOp (AC 36) (AQ 36 [(AB 4), (AB 35)])
(cOp (AC 4) (AD (AB 36))
(cOp (AC 5) (AD (AB 7))
Ac)))))))))
(cOp (AC 38) (A4 .i64 (Ai .i64) (AB 27) (kV (.int .i64 1)))
(cOp (AC 27) (AD (AB 38))
Ac)))
(A7 0)))))
(cOp (AC 2) (AD (AB 4))
(cOp (AC 3) (AD (kV (.int .i64 0)))
Ae))))))))))))))))))))))))))))))))))
theorem Qe {n : Nat} {args : List Value} {h : Hp} (hl : Nat.ble (Bk args) 320 = true) : call AG (Nat.succ n) 15 args h = Bs [.t (AB 2), .t (AB 3)] (d15 (call AG n) (Ak e0 0 args) h) := by
  have hb : AG.get 15 = some b15 := by kernel_rfl
  rw [BM hb]
  have hd : b15 = ⟨[.t (AB 2), .t (AB 3)], d15⟩ := by kernel_rfl
  rw [hd, BC hl]
def d22 : C :=
(cOp (AC 2) (Bu (AB 0))
(cOp (AC 3) (Bu (AB 1))
(cOp (AC 4) (AD (kV (.bool false)))
(cOp (AC 5) (AF 0 (AB 2))
(cOp (AC 6) (AH (AB 5))
(cOp (AC 7) (AF 0 (AB 3))
(cOp (AC 8) (AH (AB 7))
(cOp (AC 9) (AL iEq .i64 (AB 6) (AB 8))
(cG (AB 9) true (AC 11) (AF 1 (AB 2))
(cG (AB 9) true (AC 12) (AH (AB 11))
(cG (AB 9) true (AC 13) (AF 1 (AB 3))
(cG (AB 9) true (AC 14) (AH (AB 13))
(cG (AB 9) true (AC 15) (AL iEq .i64 (AB 12) (AB 14))
(cOp (AC 16) (AS (AB 9) (AB 15) (kV (.bool false)))
(cG (AB 16) true (AC 18) (AF 2 (AB 2))
(cG (AB 16) true (AC 19) (AH (AB 18))
(cG (AB 16) true (AC 20) (AF 2 (AB 3))
(cG (AB 16) true (AC 21) (AH (AB 20))
(cG (AB 16) true (AC 22) (AQ 17 [(AB 19), (AB 21)])
(cOp (AC 23) (AS (AB 16) (AB 22) (kV (.bool false)))
(cOp (AC 4) (AD (AB 23))
Ae)))))))))))))))))))))
theorem YY {n : Nat} {args : List Value} {h : Hp} (hl : Nat.ble (Bk args) 320 = true) : call AG (Nat.succ n) 22 args h = Bs [.t (AB 4)] (d22 (call AG n) (Ak e0 0 args) h) := by
  have hb : AG.get 22 = some b22 := by kernel_rfl
  rw [BM hb]
  have hd : b22 = ⟨[.t (AB 4)], d22⟩ := by kernel_rfl
  rw [hd, BC hl]
def d26 : C :=
(cOp (AC 4) (AD (kV (.bool false)))
(cOp (AC 6) (Cm (AB 0))
(cOp (AC 8) (Cm (AB 1))
(cOp (AC 9) (GK bEq (AB 6) (AB 8))
(cOp (AC 4) (AD (AB 9))
Ae)))))
theorem YZ {n : Nat} {args : List Value} {h : Hp} (hl : Nat.ble (Bk args) 320 = true) : call AG (Nat.succ n) 26 args h = Bs [.t (AB 4)] (d26 (call AG n) (Ak e0 0 args) h) := by
  have hb : AG.get 26 = some b26 := by kernel_rfl
  rw [BM hb]
  have hd : b26 = ⟨[.t (AB 4)], d26⟩ := by kernel_rfl
  rw [hd, BC hl]
def d31 : C :=
(cOp (AC 2) (AD (kV (.bool false)))
(cOp (AC 4) (AL iGe .i64 (AB 0) (kV (.int .i64 0)))
(cG (AB 4) true (AC 6) (AD (AB 0))
(cG (AB 4) true (AC 7) (AL iLt .i64 (AB 6) (kV (.int .i64 256)))
(cOp (AC 8) (AS (AB 4) (AB 7) (kV (.bool false)))
(cOp (AC 2) (AD (AB 8))
Ae))))))
theorem Yc {n : Nat} {args : List Value} {h : Hp} (hl : Nat.ble (Bk args) 320 = true) : call AG (Nat.succ n) 31 args h = Bs [.t (AB 2)] (d31 (call AG n) (Ak e0 0 args) h) := by
  have hb : AG.get 31 = some b31 := by kernel_rfl
  rw [BM hb]
  have hd : b31 = ⟨[.t (AB 2)], d31⟩ := by kernel_rfl
  rw [hd, BC hl]
def d37 : C :=
(cOp (AC 5) (AD (kV (.int .i64 0)))
(cOp (AC 9) (AH (AB 1))
(AP (AB 9)
(cOp (AC 5) (AD (kV (.int .i64 0)))
Ae)
(cOp (AC 11) (AH (AB 2))
(cOp (AC 12) (AH (AB 3))
(cOp (AC 13) (AQ 38 [(AB 11), (AB 12)])
(cOp (AC 14) (AJ 0 (AB 13))
(cOp (AC 15) (AJ 1 (AB 13))
(cOp (AC 16) (AJ 2 (AB 13))
(cOp (AC 6) (AD (AB 14))
(cOp (AC 7) (AD (AB 15))
(cOp (AC 8) (AD (AB 16))
(cOp (AC 18) (AL iNe .i64 (AB 8) (kV (.int .i64 0)))
(cG (AB 18) false (AC 20) (AD (AB 6))
(cG (AB 18) false (AC 21) (AD (AB 0))
(cG (AB 18) false (AC 22) (BO .u64 (AB 21))
(cG (AB 18) false (AC 23) (AL iGt .u64 (AB 20) (AB 22))
(cOp (AC 24) (AS (AB 18) (kV (.bool true)) (AB 23))
(cDo (AY 1 (AB 1) (AB 24))
(cOp (AC 25) (AH (AB 1))
(AP (AB 25)
(cOp (AC 5) (AD (kV (.int .i64 0)))
Ae)
(cDo (AY 1 (AB 3) (AB 7))
(cOp (AC 28) (BO .i64 (AB 6))
(cOp (AC 5) (AD (AB 28))
Ae))))))))))))))))))))))))
theorem KT {n : Nat} {args : List Value} {h : Hp} (hl : Nat.ble (Bk args) 320 = true) : call AG (Nat.succ n) 37 args h = Bs [.t (AB 5)] (d37 (call AG n) (Ak e0 0 args) h) := by
  have hb : AG.get 37 = some b37 := by kernel_rfl
  rw [BM hb]
  have hd : b37 = ⟨[.t (AB 5)], d37⟩ := by kernel_rfl
  rw [hd, BC hl]
end
end Go.Proofs.Ytkafejncffinmaa
set_option linter.unusedVariables false
set_option linter.unusedSimpArgs false
namespace Go.Proofs.Ytkafejncffinmaa
noncomputable section
open Go
set_option maxRecDepth 100000
theorem O8 : BE ty5.zero 1 = [.int .u8 0] := by kernel_rfl
theorem Hz : BE ty3.zero 1 = [.int .i64 0] := by kernel_rfl
def JQ : C := (cOp (AC 6) (AL iGt .u64 (AB 1) (kV (.int .u64 127)))
(AP (AB 6)
(AX 1 (cOp (AC 9) (C8 .u64 (AB 1) (kV (.int .u64 128)))
(cOp (AC 10) (A4 .u64 (Ai .u64) (AB 9) (kV (.int .u64 128)))
(cOp (AC 11) (BO .u8 (AB 10))
(cOp (AC 12) (AU 1 (BE ty5.zero 1) [(0, 1, (AB 11))])
(cOp (AC 13) (Az 1 1 5 (AB 0) (AB 12))
(cOp (AC 15) (Kz .u64 (AB 1) (kV (.int .u64 128)))
(cOp (AC 0) (AD (AB 13))
(cOp (AC 1) (AD (AB 15))
Ac)))))))))
(A7 0)))
def TV : C := (cOp (AC 18) (BO .u8 (AB 1))
(cOp (AC 19) (AU 1 (BE ty5.zero 1) [(0, 1, (AB 18))])
(cOp (AC 20) (Az 1 1 5 (AB 0) (AB 19))
(cOp (AC 4) (AD (AB 20))
Ae))))
def d36 : C := cOp (AC 4) (AD (kV (.slice none 0 0))) (Ar (AX 0 (Ao JQ)) TV)
theorem Yh {n : Nat} {args : List Value} {h : Hp} (hl : Nat.ble (Bk args) 320 = true) : call AG (Nat.succ n) 36 args h = Bs [.t (AB 4)] (d36 (call AG n) (Ak e0 0 args) h) := by
  have hb : AG.get 36 = some b36 := by kernel_rfl
  rw [BM hb]
  have hd : b36 = ⟨[.t (AB 4)], d36⟩ := by kernel_rfl
  rw [hd, BC hl]
theorem Y2 : d36 = cOp (AC 4) (AD (kV (.slice none 0 0))) (Ar (AX 0 (Ao JQ)) TV) := rfl
theorem QM {F : CallF} {h0 h : Hp} {k : Nat} (x0 : h0.Ext h) (hk : h0.next ≤ k) (hk2 : k ≤ h.next) {v : Value} {l : List Nat} (o : h.Own k 5 v (l.map bv)) (hl : l.length ≤ 1000000) {N : Nat} (hN : N < 18446744073709551616) {e : Env} (s0 : AB 0 e = v) (s1 : AB 1 e = .int .u64 (N : Int)) :
    ∃ e' h' v' xs m, Ao JQ F e h = .exit 0 e' h' ∧ AB 0 e' = v' ∧ AB 1 e' = .int .u64 ((m : Nat) : Int) ∧ m < 128 ∧ l ++ BR N = xs ++ [m] ∧ h0.Ext h' ∧ h'.Own k 5 v' (xs.map bv) ∧ h.next ≤ h'.next ∧ (∀ b el L, ¬ B2 v b → h.Row b el L → h'.Row b el L ∧ ¬ B2 v' b) := by
  have hten := Cd hN
  refine Bo (I := fun i e' h' => ∃ v' xs m, AB 0 e' = v' ∧ AB 1 e' = .int .u64 ((m : Nat) : Int) ∧ m < 18446744073709551616 ∧ l ++ BR N = xs ++ BR m ∧ i + (BR m).length = (BR N).length ∧ h0.Ext h' ∧ h'.Own k 5 v' (xs.map bv) ∧ h.next ≤ h'.next ∧ (∀ b el L, ¬ B2 v b → h.Row b el L → h'.Row b el L ∧ ¬ B2 v' b))
    (Q := fun x => ∃ e' h' v' xs m, x = .exit 0 e' h' ∧ AB 0 e' = v' ∧ AB 1 e' = .int .u64 ((m : Nat) : Int) ∧ m < 128 ∧ l ++ BR N = xs ++ [m] ∧ h0.Ext h' ∧ h'.Own k 5 v' (xs.map bv) ∧ h.next ≤ h'.next ∧ (∀ b el L, ¬ B2 v b → h.Row b el L → h'.Row b el L ∧ ¬ B2 v' b)) 20 (by omega) (fun i e' h' ⟨v', xs, m, t0, t1, hm, hx, hi, x1, o1, hn, fr⟩ => ?_)
    ⟨v, l, N, s0, s1, hN, rfl, Nat.zero_add _, x0, o, Nat.le_refl _, fun b el L hb r => ⟨r, hb⟩⟩
  have hlen := congrArg List.length hx
  rw [List.length_append, List.length_append] at hlen
  by_cases h1 : m < 128
  · right
    have c1 : iGt (m : Int) 127 = false := by rw [BS]; simp; omega
    have hrun : JQ F e' h' = .exit 0 (Env.set 6 (.bool false) e') h' := by
      unfold JQ
      simp only [sT, Nat.reduceLT, Nat.reduceEqDiff, if_true, if_false, reduceIte, AO, AN, t1, c1]
    rw [hrun]
    refine ⟨rfl, _, _, v', xs, m, rfl, by simp only [AE, Nat.reduceLT, Nat.reduceEqDiff, if_true, if_false, reduceIte]; exact t0, by simp only [AE, Nat.reduceLT, Nat.reduceEqDiff, if_true, if_false, reduceIte]; exact t1, h1, ?_, x1, o1, hn, fr⟩
    rw [hx, DX h1]
  · left
    have W := x1.wf
    have c1 : iGt (m : Int) 127 = true := by rw [BS]; simp; omega
    have r1 : MX .u64 (.int .u64 (m : Int)) (.int .u64 128) h' = .ok (.int .u64 ((m % 128 : Nat) : Int)) h' := by rw [HD (by omega)]; rfl
    have a1 : Ci .u64 (.int .u64 ((m % 128 : Nat) : Int)) (.int .u64 128) h' = .ok (.int .u64 ((m % 128 + 128 : Nat) : Int)) h' := by
      have : IntKind.u64.wrap (((m % 128 : Nat) : Int) + 128) = ((m % 128 + 128 : Nat) : Int) := by
        rw [show ((m % 128 : Nat) : Int) + 128 = ((m % 128 + 128 : Nat) : Int) by omega]; exact B5 (by omega)
      rw [Bc, this]
    have v1 : C2 .u8 (.int .u64 ((m % 128 + 128 : Nat) : Int)) h' = .ok (.int .u8 ((m % 128 + 128 : Nat) : Int)) h' := by
      rw [B0, GI, Nat.mod_eq_of_lt (show m % 128 + 128 < 256 by omega)]
    have os : ∀ e, AB 11 e = .int .u8 ((m % 128 + 128 : Nat) : Int) → AU 1 (BE ty5.zero 1) [(0, 1, AB 11)] F e h' = .ok (.slice (some ⟨h'.next, 0, none⟩) 1 1) (h'.pushRow 0 [.int .u8 ((m % 128 + 128 : Nat) : Int)]) := fun e he => by rw [O8]; exact Cn W he rfl rfl
    have hpos := Hm (m / 128)
    rw [Ee (n := m) (by omega)] at hi hlen hx
    rw [List.length_cons] at hi hlen
    obtain ⟨h2, v2, a2, x2, o2, hn2, fr2⟩ := Dt (eb := 1) (n := ((m % 128 + 128 : Nat) : Int)) (kd := .u8) x1 hk (Nat.le_trans hk2 hn) o1 (by rw [List.length_map]; omega)
    have d1 : RH .u64 (.int .u64 (m : Int)) (.int .u64 128) h2 = .ok (.int .u64 ((m / 128 : Nat) : Int)) h2 := by
      have : IntKind.u64.wrap ((m : Int).tdiv 128) = ((m / 128 : Nat) : Int) := B5 (n := m / 128) (by omega)
      rw [OJ (by omega), this]
    have hrun : ∃ e2, JQ F e' h' = .norm e2 h2 ∧ AB 0 e2 = v2 ∧ AB 1 e2 = .int .u64 ((m / 128 : Nat) : Int) := by
      unfold JQ
      simp only [sT, Nat.reduceLT, Nat.reduceEqDiff, if_true, if_false, reduceIte, AO, AN, t1, c1, Ep, r1, Bb, a1, B4, v1, os, Bv, t0, a2, On, d1]
      exact ⟨_, rfl, by simp [AE], by simp [AE]⟩
    obtain ⟨e2, b1, b2, b3⟩ := hrun
    refine ⟨by omega, e2, h2, b1, v2, xs ++ [m % 128 + 128], m / 128, b2, b3, by omega, ?_, by omega, x2, ?_, by omega, fun b el L hb r => ?_⟩
    · rw [hx]; simp
    · rw [List.map_append]; exact o2
    · obtain ⟨r1, r2⟩ := fr b el L hb r
      exact fr2 b el L r2 r1
theorem IJ {n : Nat} {h0 h : Hp} {k : Nat} (x0 : h0.Ext h) (hk : h0.next ≤ k) (hk2 : k ≤ h.next) {v : Value} {l : List Nat} (o : h.Own k 5 v (l.map bv)) (hl : l.length ≤ 1000000) {N : Nat} (hN : N < 18446744073709551616) :
    ∃ h' v', call AG (n + 1) 36 [v, .int .u64 (N : Int)] h = .ok v' h' ∧ h0.Ext h' ∧ h'.Own k 5 v' ((l ++ BR N).map bv) ∧ h.next ≤ h'.next ∧ (∀ b el L, ¬ B2 v b → h.Row b el L → h'.Row b el L ∧ ¬ B2 v' b) := by
  obtain ⟨e1, h1, v1, xs, m, q1, s0, s1, hm, hx, x1, o1, hn, fr⟩ := QM (F := call AG n) x0 hk hk2 o hl hN (e := Env.set 4 (.slice none 0 0) (Env.set 1 (.int .u64 (N : Int)) (Env.set 0 v e0))) (by simp [AE]) (by simp [AE])
  have W := x1.wf
  have hten := Cd hN
  have hlen := congrArg List.length hx
  rw [List.length_append, List.length_append, List.length_singleton] at hlen
  have c1 : C2 .u8 (.int .u64 (m : Int)) h1 = .ok (.int .u8 (m : Int)) h1 := by
    rw [B0, GI, Nat.mod_eq_of_lt (show m < 256 by omega)]
  have os : ∀ e, AB 18 e = .int .u8 (m : Int) → AU 1 (BE ty5.zero 1) [(0, 1, AB 18)] (call AG n) e h1 = .ok (.slice (some ⟨h1.next, 0, none⟩) 1 1) (h1.pushRow 0 [.int .u8 (m : Int)]) := fun e he => by rw [O8]; exact Cn W he rfl rfl
  obtain ⟨h2, v2, a2, x2, o2, hn2, fr2⟩ := Dt (eb := 1) (n := (m : Int)) (kd := .u8) x1 hk (Nat.le_trans hk2 hn) o1 (by rw [List.length_map]; omega)
  refine ⟨h2, v2, ?_, x2, ?_, by omega, fun b el L hb r => ?_⟩
  · rw [Yh rfl, Y2]
    simp only [AK, AM, Nat.succ_eq_add_one, Nat.zero_add, Nat.reduceAdd, AE, Nat.reduceLT, Nat.reduceEqDiff, if_true, if_false, reduceIte, BX, BZ, A5, Br, BI, Aq]
    rw [q1]
    simp only [BA, BH]
    unfold TV
    simp only [sT, Nat.reduceLT, Nat.reduceEqDiff, if_true, if_false, reduceIte, B4, s1, c1, os, Bv, s0, a2, AZ, Ap]
  · rw [hx, List.map_append]; exact o2
  · obtain ⟨r1, r2⟩ := fr b el L hb r
    exact fr2 b el L r2 r1
def O9 (l : List Nat) (p : Nat) (a b c : Int) : Prop := (∃ v j : Nat, Cb 0 0 (l.drop p) = some (v, j) ∧ a = (v : Int) ∧ b = ((p + j : Nat) : Int) ∧ c = 0) ∨ (Cb 0 0 (l.drop p) = none ∧ c ≠ 0)
def NP : C := (cOp (AC 22) (Af (AB 0))
(cOp (AC 23) (AL iLt .i64 (AB 8) (AB 22))
(AP (AB 23)
(Ar (AX 1 (cOp (AC 28) (A9 1 (AB 0) (AB 8))
(cOp (AC 29) (AH (AB 28))
(cOp (AC 32) (CQ Int.sub .i64 (AB 8) (AB 1))
(cOp (AC 9) (AD (AB 29))
(cOp (AC 10) (AD (AB 32))
(cOp (AC 34) (AL iGt .i64 (AB 10) (kV (.int .i64 0)))
(cG (AB 34) true (AC 36) (AD (AB 9))
(cG (AB 34) true (AC 37) (AL iEq .u8 (AB 36) (kV (.int .u8 0)))
(cOp (AC 38) (AS (AB 34) (AB 37) (kV (.bool false)))
(cG (AB 38) false (AC 40) (AD (AB 10))
(cG (AB 38) false (AC 41) (AL iGt .i64 (AB 40) (kV (.int .i64 8)))
(cG (AB 38) false (AC 42) (AD (AB 41))
(cG (AB 42) true (AC 43) (AD (AB 9))
(cG (AB 42) true (AC 44) (AL iGt .u8 (AB 43) (kV (.int .u8 1)))
(cG (AB 38) false (AC 45) (AS (AB 42) (AB 44) (kV (.bool false)))
(cOp (AC 46) (AS (AB 38) (kV (.bool true)) (AB 45))
(AP (AB 46)
(cOp (AC 4) (AD (kV (.int .u64 0)))
(cOp (AC 5) (AD (kV (.int .i64 0)))
(cOp (AC 6) (AD (kV (.int .i64 10)))
Ae)))
(cOp (AC 49) (C8 .u8 (AB 9) (kV (.int .u8 128)))
(cOp (AC 50) (BO .u64 (AB 49))
(cOp (AC 52) (CQ Int.mul .i64 (kV (.int .i64 7)) (AB 10))
(cOp (AC 53) (K1 .u64 (AB 50) (AB 52))
(cOp (AC 54) (A4 .u64 (Ai .u64) (AB 7) (AB 53))
(cOp (AC 7) (AD (AB 54))
(cOp (AC 56) (AL iLt .u8 (AB 9) (kV (.int .u8 128)))
(AP (AB 56)
(cOp (AC 59) (A4 .i64 (Ai .i64) (AB 8) (kV (.int .i64 1)))
(cOp (AC 4) (AD (AB 7))
(cOp (AC 5) (AD (AB 59))
(cOp (AC 6) (AD (kV (.int .i64 0)))
Ae))))
Ac))))))))))))))))))))))))))
(cOp (AC 25) (A4 .i64 (Ai .i64) (AB 8) (kV (.int .i64 1)))
(cOp (AC 8) (AD (AB 25))
Ac)))
(A7 0))))
def Kh : C := (AP (AB 46)
(cOp (AC 4) (AD (kV (.int .u64 0)))
(cOp (AC 5) (AD (kV (.int .i64 0)))
(cOp (AC 6) (AD (kV (.int .i64 10)))
Ae)))
(cOp (AC 49) (C8 .u8 (AB 9) (kV (.int .u8 128)))
(cOp (AC 50) (BO .u64 (AB 49))
(cOp (AC 52) (CQ Int.mul .i64 (kV (.int .i64 7)) (AB 10))
(cOp (AC 53) (K1 .u64 (AB 50) (AB 52))
(cOp (AC 54) (A4 .u64 (Ai .u64) (AB 7) (AB 53))
(cOp (AC 7) (AD (AB 54))
(cOp (AC 56) (AL iLt .u8 (AB 9) (kV (.int .u8 128)))
(AP (AB 56)
(cOp (AC 59) (A4 .i64 (Ai .i64) (AB 8) (kV (.int .i64 1)))
(cOp (AC 4) (AD (AB 7))
(cOp (AC 5) (AD (AB 59))
(cOp (AC 6) (AD (kV (.int .i64 0)))
Ae))))
Ac)))))))))
def Zq (K : C) : C := (cOp (AC 34) (AL iGt .i64 (AB 10) (kV (.int .i64 0)))
(cG (AB 34) true (AC 36) (AD (AB 9))
(cG (AB 34) true (AC 37) (AL iEq .u8 (AB 36) (kV (.int .u8 0)))
(cOp (AC 38) (AS (AB 34) (AB 37) (kV (.bool false)))
(cG (AB 38) false (AC 40) (AD (AB 10))
(cG (AB 38) false (AC 41) (AL iGt .i64 (AB 40) (kV (.int .i64 8)))
(cG (AB 38) false (AC 42) (AD (AB 41))
(cG (AB 42) true (AC 43) (AD (AB 9))
(cG (AB 42) true (AC 44) (AL iGt .u8 (AB 43) (kV (.int .u8 1)))
(cG (AB 38) false (AC 45) (AS (AB 42) (AB 44) (kV (.bool false)))
(cOp (AC 46) (AS (AB 38) (kV (.bool true)) (AB 45))
K)))))))))))
theorem OP : NP = cOp (AC 22) (Af (AB 0)) (cOp (AC 23) (AL iLt .i64 (AB 8) (AB 22)) (AP (AB 23) (Ar (AX 1 (cOp (AC 28) (A9 1 (AB 0) (AB 8)) (cOp (AC 29) (AH (AB 28)) (cOp (AC 32) (CQ Int.sub .i64 (AB 8) (AB 1)) (cOp (AC 9) (AD (AB 29)) (cOp (AC 10) (AD (AB 32)) (Zq Kh))))))) (cOp (AC 25) (A4 .i64 (Ai .i64) (AB 8) (kV (.int .i64 1))) (cOp (AC 8) (AD (AB 25)) Ac))) (A7 0))) := rfl
theorem Um {K : C} {F : CallF} {h : Hp} {e : Env} {c i : Nat} {b1 b2 b3 b4 : Bool} (s9 : AB 9 e = .int .u8 (c : Int)) (s10 : AB 10 e = .int .i64 (i : Int)) (i1 : iGt (i : Int) 0 = b1) (i2 : iEq (c : Int) 0 = b2) (i3 : iGt (i : Int) 8 = b3) (i4 : iGt (c : Int) 1 = b4) :
    ∃ e', Zq K F e h = K F e' h ∧ AB 46 e' = .bool ((b1 && b2) || (b3 && b4)) ∧ AB 0 e' = AB 0 e ∧ AB 1 e' = AB 1 e ∧ AB 7 e' = AB 7 e ∧ AB 8 e' = AB 8 e ∧ AB 9 e' = AB 9 e ∧ AB 10 e' = AB 10 e := by
  unfold Zq
  cases b1 <;> cases b2 <;> cases b3 <;> cases b4 <;>
  · simp only [sT, Nat.reduceLT, Nat.reduceEqDiff, if_true, if_false, reduceIte, gD, AO, AN, s9, s10, i1, i2, i3, i4]
    exact ⟨_, rfl, by simp only [AE, Nat.reduceLT, Nat.reduceEqDiff, if_true, if_false, reduceIte]; rfl, by simp [AE], by simp [AE], by simp [AE], by simp [AE], by simp only [AE, Nat.reduceLT, Nat.reduceEqDiff, if_true, if_false, reduceIte, s9], by simp only [AE, Nat.reduceLT, Nat.reduceEqDiff, if_true, if_false, reduceIte, s10]⟩
theorem Fv {i : Nat} (hi : i ≤ 9) : 2 ^ (7 * i) ≤ 9223372036854775808 := by
  have : 2 ^ (7 * i) ≤ 2 ^ 63 := Nat.pow_le_pow_right (by omega) (by omega)
  have e : (2 : Nat) ^ 63 = 9223372036854775808 := rfl
  omega
theorem Rh {F : CallF} {h : Hp} {u : Value} {l : List Nat} {p : Nat} (V : h.Vals u (l.map bv)) (hb : ∀ x ∈ l, x < 256) (hp : p ≤ l.length) (hl : l.length ≤ 1000000) {e : Env} (s0 : AB 0 e = u) (s1 : AB 1 e = .int .i64 (p : Int)) (s7 : AB 7 e = .int .u64 0) (s8 : AB 8 e = .int .i64 (p : Int)) :
    (∃ e', Ao NP F e h = .exit 0 e' h ∧ Cb 0 0 (l.drop p) = none) ∨ (∃ e' a b c, Ao NP F e h = .ret e' h ∧ AB 4 e' = .int .u64 a ∧ AB 5 e' = .int .i64 b ∧ AB 6 e' = .int .i64 c ∧ O9 l p a b c) := by
  have Vl : Ca u h = .ok (.int .i64 (l.length : Int)) h := by have := V.len; rwa [List.length_map] at this
  refine Bo (I := fun i e' h' => h' = h ∧ ∃ acc : Nat, AB 0 e' = u ∧ AB 1 e' = .int .i64 (p : Int) ∧ AB 7 e' = .int .u64 (acc : Int) ∧ AB 8 e' = .int .i64 ((p + i : Nat) : Int) ∧ acc < 2 ^ (7 * i) ∧ i ≤ 9 ∧ p + i ≤ l.length ∧ Cb 0 0 (l.drop p) = Cb i acc (l.drop (p + i)))
    (Q := fun x => (∃ e', x = .exit 0 e' h ∧ Cb 0 0 (l.drop p) = none) ∨ (∃ e' a b c, x = .ret e' h ∧ AB 4 e' = .int .u64 a ∧ AB 5 e' = .int .i64 b ∧ AB 6 e' = .int .i64 c ∧ O9 l p a b c)) 20 (by omega) (fun i e' h' ⟨hh, acc, t0, t1, t7, t8, hacc, hi9, hpi, hu⟩ => ?_)
    ⟨rfl, 0, s0, s1, s7, s8, by decide, by omega, hp, rfl⟩
  subst hh
  by_cases hlt : p + i < l.length
  · have hc : l.getD (p + i) 0 < 256 := hb _ (by rw [List.getD_eq_getElem?_getD, List.getElem?_eq_getElem hlt]; exact List.getElem_mem hlt)
    have hd : l.drop (p + i) = l.getD (p + i) 0 :: l.drop (p + i + 1) := by
      rw [List.drop_eq_getElem_cons hlt, List.getD_eq_getElem?_getD, List.getElem?_eq_getElem hlt]; rfl
    have hel : (l.map bv).getD (p + i) noRes = .int .u8 ((l.getD (p + i) 0 : Nat) : Int) := by
      rw [List.getD_eq_getElem?_getD, List.getElem?_map, List.getD_eq_getElem?_getD, List.getElem?_eq_getElem hlt]; rfl
    obtain ⟨a, g1, g2⟩ := V.at (i := p + i) (by rw [List.length_map]; exact hlt)
    rw [hel] at g2
    rw [hd] at hu
    generalize l.getD (p + i) 0 = c at hc g2 hu
    have c1 : iLt ((p + i : Nat) : Int) (l.length : Int) = true := by rw [As]; simp; omega
    have a2 : GR Int.sub .i64 (.int .i64 ((p + i : Nat) : Int)) (.int .i64 (p : Int)) h' = .ok (.int .i64 (i : Int)) h' := by
      have : Int.sub ((p + i : Nat) : Int) (p : Int) = (i : Int) := by show ((p + i : Nat) : Int) - (p : Int) = i; omega
      rw [Do, this, BJ (by omega)]
    have a3 : Ci .i64 (.int .i64 ((p + i : Nat) : Int)) (.int .i64 1) h' = .ok (.int .i64 ((p + (i + 1) : Nat) : Int)) h' := by
      have : ((p + i : Nat) : Int) + 1 = ((p + (i + 1) : Nat) : Int) := by omega
      rw [Bc, this, BJ (by omega)]
    have pre : ∃ e2, NP F e' h' = Hi (DT 1 (Kh F e2 h')) (cOp (AC 25) (A4 .i64 (Ai .i64) (AB 8) (kV (.int .i64 1))) (cOp (AC 8) (AD (AB 25)) Ac)) F ∧ AB 46 e2 = .bool ((decide (0 < i) && decide (c = 0)) || (decide (8 < i) && decide (1 < c))) ∧ AB 0 e2 = u ∧ AB 1 e2 = .int .i64 (p : Int) ∧ AB 7 e2 = .int .u64 (acc : Int) ∧ AB 8 e2 = .int .i64 ((p + i : Nat) : Int) ∧ AB 9 e2 = .int .u8 (c : Int) ∧ AB 10 e2 = .int .i64 (i : Int) := by
      obtain ⟨e2, q1, q2, q3, q4, q5, q6, q7, q8⟩ := Um (K := Kh) (F := F) (h := h') (e := Env.set 10 (.int .i64 (i : Int)) (Env.set 9 (.int .u8 (c : Int)) (Env.set 32 (.int .i64 (i : Int)) (Env.set 29 (.int .u8 (c : Int)) (Env.set 28 (.pointer (some a)) (Env.set 23 (.bool true) (Env.set 22 (.int .i64 (l.length : Int)) e'))))))) (c := c) (i := i) (b1 := decide (0 < i)) (b2 := decide (c = 0)) (b3 := decide (8 < i)) (b4 := decide (1 < c))
        (by simp [AE]) (by simp [AE]) (by rw [BS, decide_eq_decide]; omega) (by rw [B6, Bool.eq_iff_iff, beq_iff_eq, decide_eq_true_eq]; omega) (by rw [BS, decide_eq_decide]; omega) (by rw [BS, decide_eq_decide]; omega)
      refine ⟨e2, ?_, q2, ?_, ?_, ?_, ?_, ?_, ?_⟩
      · rw [OP]
        simp only [BX, Bj, BI, Aq, BZ, CM, A5, Br, AE, Nat.reduceLT, Nat.reduceEqDiff, if_true, if_false, reduceIte, Al, t0, Vl, AO, AN, t8, c1, BV, g1, Ab, g2, EJ, t1, a2, q1]
      · rw [q3]; simp only [AE, Nat.reduceLT, Nat.reduceEqDiff, if_true, if_false, reduceIte]; exact t0
      · rw [q4]; simp only [AE, Nat.reduceLT, Nat.reduceEqDiff, if_true, if_false, reduceIte]; exact t1
      · rw [q5]; simp only [AE, Nat.reduceLT, Nat.reduceEqDiff, if_true, if_false, reduceIte]; exact t7
      · rw [q6]; simp only [AE, Nat.reduceLT, Nat.reduceEqDiff, if_true, if_false, reduceIte]; exact t8
      · rw [q7]; simp only [AE, Nat.reduceLT, Nat.reduceEqDiff, if_true, if_false, reduceIte]
      · rw [q8]; simp only [AE, Nat.reduceLT, Nat.reduceEqDiff, if_true, if_false, reduceIte]
    obtain ⟨e2, p1, p46, p0, pp1, p7, p8, p9, p10⟩ := pre
    rw [Cb] at hu
    by_cases hbad : (0 < i ∧ c = 0) ∨ (8 < i ∧ 1 < c)
    · right
      have hB : ((decide (0 < i) && decide (c = 0)) || (decide (8 < i) && decide (1 < c))) = true := by simpa using hbad
      rw [hB] at p46
      rw [if_pos hbad] at hu
      have hrun : ∃ e3, Kh F e2 h' = .ret e3 h' ∧ AB 4 e3 = .int .u64 0 ∧ AB 5 e3 = .int .i64 0 ∧ AB 6 e3 = .int .i64 10 := by
        unfold Kh
        simp only [sT, Nat.reduceLT, Nat.reduceEqDiff, if_true, if_false, reduceIte, p46]
        exact ⟨_, rfl, by simp [AE], by simp [AE], by simp [AE]⟩
      obtain ⟨e3, r1, r4, r5, r6⟩ := hrun
      rw [p1, r1, BL, Bw]
      exact ⟨rfl, .inr ⟨e3, 0, 0, 10, rfl, r4, r5, r6, .inr ⟨hu, by omega⟩⟩⟩
    · have hB : ((decide (0 < i) && decide (c = 0)) || (decide (8 < i) && decide (1 < c))) = false := by
        rw [← Bool.not_eq_true]; simpa using hbad
      rw [hB] at p46
      rw [if_neg hbad] at hu
      have hle : acc + c % 128 * 2 ^ (7 * i) < 2 ^ (7 * (i + 1)) := by
        rw [G9]
        have h1 : c % 128 ≤ 127 := by omega
        have h2 := Nat.mul_le_mul_right (2 ^ (7 * i)) h1
        omega
      have htop : c % 128 * 2 ^ (7 * i) ≤ 9223372036854775808 ∧ acc < 9223372036854775808 := by
        have h3 := Fv hi9
        refine ⟨?_, by omega⟩
        rcases Nat.lt_or_ge i 9 with h4 | h4
        · have h5 : 2 ^ (7 * (i + 1)) ≤ 9223372036854775808 := Fv (by omega)
          omega
        · have h5 : c % 128 ≤ 1 := by omega
          have h6 := Nat.mul_le_mul_right (2 ^ (7 * i)) h5
          omega
      have m1 : MX .u8 (.int .u8 (c : Int)) (.int .u8 128) h' = .ok (.int .u8 ((c % 128 : Nat) : Int)) h' := by rw [HD (by omega)]; rfl
      have m2 : C2 .u64 (.int .u8 ((c % 128 : Nat) : Int)) h' = .ok (.int .u64 ((c % 128 : Nat) : Int)) h' := by rw [B0, B5 (by omega)]
      have m3 : GR Int.mul .i64 (.int .i64 7) (.int .i64 (i : Int)) h' = .ok (.int .i64 ((7 * i : Nat) : Int)) h' := by
        have : Int.mul 7 (i : Int) = ((7 * i : Nat) : Int) := by show (7 : Int) * (i : Int) = _; omega
        rw [Do, this, BJ (by omega)]
      have m4 : WK .u64 (.int .u64 ((c % 128 : Nat) : Int)) (.int .i64 ((7 * i : Nat) : Int)) h' = .ok (.int .u64 ((c % 128 * 2 ^ (7 * i) : Nat) : Int)) h' := by
        have : min (7 * i) IntKind.u64.bits = 7 * i := Nat.min_eq_left (by show 7 * i ≤ 64; omega)
        rw [WL, this, B5 (by omega)]
      have m5 : Ci .u64 (.int .u64 (acc : Int)) (.int .u64 ((c % 128 * 2 ^ (7 * i) : Nat) : Int)) h' = .ok (.int .u64 ((acc + c % 128 * 2 ^ (7 * i) : Nat) : Int)) h' := by
        rw [Bc, ← Int.natCast_add, B5 (by omega)]
      by_cases hsm : c < 128
      · right
        rw [if_pos hsm] at hu
        have c2 : iLt (c : Int) 128 = true := by rw [As]; simp; omega
        have hrun : ∃ e3, Kh F e2 h' = .ret e3 h' ∧ AB 4 e3 = .int .u64 ((acc + c % 128 * 2 ^ (7 * i) : Nat) : Int) ∧ AB 5 e3 = .int .i64 ((p + (i + 1) : Nat) : Int) ∧ AB 6 e3 = .int .i64 0 := by
          unfold Kh
          simp only [sT, Nat.reduceLT, Nat.reduceEqDiff, if_true, if_false, reduceIte, p46, Ep, p9, m1, B4, m2, EJ, p10, m3, Ot, m4, Bb, p7, m5, AO, AN, c2, p8, a3]
          exact ⟨_, rfl, by simp [AE], by simp [AE], by simp [AE]⟩
        obtain ⟨e3, r1, r4, r5, r6⟩ := hrun
        rw [p1, r1, BL, Bw]
        refine ⟨rfl, .inr ⟨e3, _, _, _, rfl, r4, r5, r6, .inl ⟨_, _, hu, ?_, rfl, rfl⟩⟩⟩
        rw [Nat.mod_eq_of_lt hsm]
      · left
        rw [if_neg hsm] at hu
        have hi8 : i ≤ 8 := by omega
        have c2 : iLt (c : Int) 128 = false := by rw [As]; simp; omega
        have hrun : ∃ e3, Kh F e2 h' = .norm e3 h' ∧ AB 0 e3 = u ∧ AB 1 e3 = .int .i64 (p : Int) ∧ AB 7 e3 = .int .u64 ((acc + c % 128 * 2 ^ (7 * i) : Nat) : Int) ∧ AB 8 e3 = .int .i64 ((p + i : Nat) : Int) := by
          unfold Kh
          simp only [sT, Nat.reduceLT, Nat.reduceEqDiff, if_true, if_false, reduceIte, p46, Ep, p9, m1, B4, m2, EJ, p10, m3, Ot, m4, Bb, p7, m5, AO, AN, c2, p8, a3]
          exact ⟨_, rfl, by simp only [AE, Nat.reduceLT, Nat.reduceEqDiff, if_true, if_false, reduceIte]; exact p0, by simp only [AE, Nat.reduceLT, Nat.reduceEqDiff, if_true, if_false, reduceIte]; exact pp1, by simp [AE], by simp only [AE, Nat.reduceLT, Nat.reduceEqDiff, if_true, if_false, reduceIte]; exact p8⟩
        obtain ⟨e3, r1, r0, rr1, r7, r8⟩ := hrun
        have hrun2 : ∃ e4, NP F e' h' = .norm e4 h' ∧ AB 0 e4 = u ∧ AB 1 e4 = .int .i64 (p : Int) ∧ AB 7 e4 = .int .u64 ((acc + c % 128 * 2 ^ (7 * i) : Nat) : Int) ∧ AB 8 e4 = .int .i64 ((p + (i + 1) : Nat) : Int) := by
          rw [p1, r1]
          simp only [Ce, BH, BX, BZ, Bb, r8, Br, a3, A5, FA, AE, Nat.reduceLT, Nat.reduceEqDiff, if_true, if_false, reduceIte]
          exact ⟨_, rfl, by simp only [AE, Nat.reduceLT, Nat.reduceEqDiff, if_true, if_false, reduceIte]; exact r0, by simp only [AE, Nat.reduceLT, Nat.reduceEqDiff, if_true, if_false, reduceIte]; exact rr1, by simp only [AE, Nat.reduceLT, Nat.reduceEqDiff, if_true, if_false, reduceIte]; exact r7, by simp [AE]⟩
        obtain ⟨e4, k1, k2, k3, k4, k5⟩ := hrun2
        exact ⟨by omega, e4, h', k1, rfl, _, k2, k3, k4, k5, hle, by omega, by omega, hu⟩
  · right
    have c1 : iLt ((p + i : Nat) : Int) (l.length : Int) = false := by rw [As]; simp; omega
    have hrun : ∃ e2, NP F e' h' = .exit 0 e2 h' := by
      rw [OP]
      simp only [sT, Nat.reduceLT, Nat.reduceEqDiff, if_true, if_false, reduceIte, Al, t0, Vl, AO, AN, t8, c1]
      exact ⟨_, rfl⟩
    obtain ⟨e2, r1⟩ := hrun
    rw [r1]
    refine ⟨rfl, .inl ⟨e2, rfl, ?_⟩⟩
    rw [hu, List.drop_of_length_le (by omega)]; rfl
def Ir : C := (cOp (AC 7) (AD (kV (.int .u64 0)))
(cOp (AC 8) (AD (AB 1))
(Ar (AX 0 (Ao (cOp (AC 22) (Af (AB 0))
(cOp (AC 23) (AL iLt .i64 (AB 8) (AB 22))
(AP (AB 23)
(Ar (AX 1 (cOp (AC 28) (A9 1 (AB 0) (AB 8))
(cOp (AC 29) (AH (AB 28))
(cOp (AC 32) (CQ Int.sub .i64 (AB 8) (AB 1))
(cOp (AC 9) (AD (AB 29))
(cOp (AC 10) (AD (AB 32))
(cOp (AC 34) (AL iGt .i64 (AB 10) (kV (.int .i64 0)))
(cG (AB 34) true (AC 36) (AD (AB 9))
(cG (AB 34) true (AC 37) (AL iEq .u8 (AB 36) (kV (.int .u8 0)))
(cOp (AC 38) (AS (AB 34) (AB 37) (kV (.bool false)))
(cG (AB 38) false (AC 40) (AD (AB 10))
(cG (AB 38) false (AC 41) (AL iGt .i64 (AB 40) (kV (.int .i64 8)))
(cG (AB 38) false (AC 42) (AD (AB 41))
(cG (AB 42) true (AC 43) (AD (AB 9))
(cG (AB 42) true (AC 44) (AL iGt .u8 (AB 43) (kV (.int .u8 1)))
(cG (AB 38) false (AC 45) (AS (AB 42) (AB 44) (kV (.bool false)))
(cOp (AC 46) (AS (AB 38) (kV (.bool true)) (AB 45))
(AP (AB 46)
(cOp (AC 4) (AD (kV (.int .u64 0)))
(cOp (AC 5) (AD (kV (.int .i64 0)))
(cOp (AC 6) (AD (kV (.int .i64 10)))
Ae)))
(cOp (AC 49) (C8 .u8 (AB 9) (kV (.int .u8 128)))
(cOp (AC 50) (BO .u64 (AB 49))
(cOp (AC 52) (CQ Int.mul .i64 (kV (.int .i64 7)) (AB 10))
(cOp (AC 53) (K1 .u64 (AB 50) (AB 52))
(cOp (AC 54) (A4 .u64 (Ai .u64) (AB 7) (AB 53))
(cOp (AC 7) (AD (AB 54))
(cOp (AC 56) (AL iLt .u8 (AB 9) (kV (.int .u8 128)))
(AP (AB 56)
(cOp (AC 59) (A4 .i64 (Ai .i64) (AB 8) (kV (.int .i64 1)))
(cOp (AC 4) (AD (AB 7))
(cOp (AC 5) (AD (AB 59))
(cOp (AC 6) (AD (kV (.int .i64 0)))
Ae))))
Ac))))))))))))))))))))))))))
(cOp (AC 25) (A4 .i64 (Ai .i64) (AB 8) (kV (.int .i64 1)))
(cOp (AC 8) (AD (AB 25))
Ac)))
(A7 0))))))
(cOp (AC 4) (AD (kV (.int .u64 0)))
(cOp (AC 5) (AD (kV (.int .i64 0)))
(cOp (AC 6) (AD (kV (.int .i64 11)))
Ae))))))
def eP : C := (cOp (AC 4) (AD (kV (.int .u64 0))) (cOp (AC 5) (AD (kV (.int .i64 0))) (cOp (AC 6) (AD (kV (.int .i64 11))) Ae)))
theorem OR : Ir = cOp (AC 7) (AD (kV (.int .u64 0))) (cOp (AC 8) (AD (AB 1)) (Ar (AX 0 (Ao NP)) eP)) := rfl
def UC : C := (cOp (AC 4) (AD (kV (.int .u64 0)))
(cOp (AC 5) (AD (kV (.int .i64 0)))
(cOp (AC 6) (AD (kV (.int .i64 0)))
(cOp (AC 12) (AL iLt .i64 (AB 1) (kV (.int .i64 0)))
(cG (AB 12) false (AC 14) (AD (AB 1))
(cG (AB 12) false (AC 15) (AD (AB 0))
(cG (AB 12) false (AC 16) (Af (AB 15))
(cG (AB 12) false (AC 17) (AL iGt .i64 (AB 14) (AB 16))
(cOp (AC 18) (AS (AB 12) (kV (.bool true)) (AB 17))
(AP (AB 18)
(cOp (AC 4) (AD (kV (.int .u64 0)))
(cOp (AC 5) (AD (kV (.int .i64 0)))
(cOp (AC 6) (AD (kV (.int .i64 2)))
Ae)))
Ir))))))))))
def d38 : C := UC
theorem Qj {n : Nat} {args : List Value} {h : Hp} (hl : Nat.ble (Bk args) 320 = true) : call AG (Nat.succ n) 38 args h = Bs [.t (AB 4), .t (AB 5), .t (AB 6)] (d38 (call AG n) (Ak e0 0 args) h) := by
  have hb : AG.get 38 = some b38 := by kernel_rfl
  rw [BM hb]
  have hd : b38 = ⟨[.t (AB 4), .t (AB 5), .t (AB 6)], d38⟩ := by kernel_rfl
  rw [hd, BC hl]
theorem Qz : d38 = UC := rfl
theorem Zt {n : Nat} {h : Hp} {u : Value} {l : List Nat} {p : Nat} (V : h.Vals u (l.map bv)) (hb : ∀ x ∈ l, x < 256) (hp : p ≤ l.length) (hl : l.length ≤ 1000000) :
    ∃ a b c, call AG (n + 1) 38 [u, .int .i64 (p : Int)] h = .ok (.tuple ⟨[.int .u64 a, .int .i64 b, .int .i64 c]⟩) h ∧ O9 l p a b c := by
  have Vl : Ca u h = .ok (.int .i64 (l.length : Int)) h := by have := V.len; rwa [List.length_map] at this
  have c0 : iLt (p : Int) 0 = false := by rw [As]; simp
  have c1 : iGt (p : Int) (l.length : Int) = false := by rw [BS]; simp; omega
  have pre : ∃ e1, UC (call AG n) (Ak e0 0 [u, .int .i64 (p : Int)]) h = Ir (call AG n) e1 h ∧ AB 0 e1 = u ∧ AB 1 e1 = .int .i64 (p : Int) := by
    unfold UC
    simp only [AK, AM, Nat.succ_eq_add_one, Nat.zero_add, Nat.reduceAdd, BX, Bj, BZ, Ba, A5, Br, AE, Nat.reduceLT, Nat.reduceEqDiff, if_true, if_false, reduceIte, gD, AO, AN, c0, Al, Vl, c1]
    exact ⟨_, rfl, by simp [AE], by simp [AE]⟩
  obtain ⟨e1, p1, p2, p3⟩ := pre
  have H := Rh (F := call AG n) (e := Env.set 8 (.int .i64 (p : Int)) (Env.set 7 (.int .u64 0) e1)) V hb hp hl (by simp only [AE, Nat.reduceLT, Nat.reduceEqDiff, if_true, if_false, reduceIte]; exact p2) (by simp only [AE, Nat.reduceLT, Nat.reduceEqDiff, if_true, if_false, reduceIte]; exact p3) (by simp [AE]) (by simp [AE])
  rcases H with ⟨e2, q1, q2⟩ | ⟨e2, a, b, c, q1, q4, q5, q6, q7⟩
  · refine ⟨0, 0, 11, ?_, .inr ⟨q2, by omega⟩⟩
    rw [Qj rfl, Qz, p1, OR]
    simp only [BX, BZ, A5, Br, AE, Nat.reduceLT, Nat.reduceEqDiff, if_true, if_false, reduceIte, p3, BI, Aq]
    rw [q1]
    simp only [BA, BH]
    unfold eP
    simp only [sT, Nat.reduceLT, Nat.reduceEqDiff, if_true, if_false, reduceIte, AZ, CW]
  · refine ⟨a, b, c, ?_, q7⟩
    rw [Qj rfl, Qz, p1, OR]
    simp only [BX, BZ, A5, Br, AE, Nat.reduceLT, Nat.reduceEqDiff, if_true, if_false, reduceIte, p3, BI, Aq]
    rw [q1]
    simp only [BL, Bw]
    simp only [AZ, CW, q4, q5, q6]
end
end Go.Proofs.Ytkafejncffinmaa
set_option linter.unusedVariables false
set_option linter.unusedSimpArgs false
namespace Go.Proofs.Ytkafejncffinmaa
noncomputable section
open Go
set_option maxRecDepth 100000
def rB : C := (cOp (AC 8) (AL iLt .i64 (AB 7) (AB 6))
(AP (AB 8)
(Ar (AX 1 (cOp (AC 10) (A9 1 (AB 5) (AB 7))
(cOp (AC 11) (AH (AB 10))
(cOp (AC 3) (AD (AB 7))
(cOp (AC 4) (AD (AB 11))
(cOp (AC 13) (AL iLt .i64 (AB 4) (kV (.int .i64 0)))
(cG (AB 13) false (AC 15) (AD (AB 4))
(cG (AB 13) false (AC 16) (AL iGt .i64 (AB 15) (kV (.int .i64 1099511627776)))
(cOp (AC 17) (AS (AB 13) (kV (.bool true)) (AB 16))
(cG (AB 17) false (AC 19) (AD (AB 3))
(cG (AB 17) false (AC 20) (AL iGt .i64 (AB 19) (kV (.int .i64 0)))
(cG (AB 17) false (AC 21) (AD (AB 20))
(cG (AB 21) true (AC 22) (AD (AB 4))
(cG (AB 21) true (AC 23) (AD (AB 0))
(cG (AB 21) true (AC 24) (AD (AB 3))
(cG (AB 21) true (AC 25) (CQ Int.sub .i64 (AB 24) (kV (.int .i64 1)))
(cG (AB 21) true (AC 26) (A9 1 (AB 23) (AB 25))
(cG (AB 21) true (AC 27) (AH (AB 26))
(cG (AB 21) true (AC 28) (AL iLe .i64 (AB 22) (AB 27))
(cG (AB 17) false (AC 29) (AS (AB 21) (AB 28) (kV (.bool false)))
(cOp (AC 30) (AS (AB 17) (kV (.bool true)) (AB 29))
(AP (AB 30)
(cOp (AC 2) (AD (kV (.bool false)))
Ae)
Ac))))))))))))))))))))))
(cOp (AC 31) (A4 .i64 (Ai .i64) (AB 7) (kV (.int .i64 1)))
(cOp (AC 7) (AD (AB 31))
Ac)))
(A7 0)))
def rE : C := (cOp (AC 2) (AD (kV (.bool true)))
Ae)
def rT : C := (AP (AB 30)
(cOp (AC 2) (AD (kV (.bool false)))
Ae)
Ac)
def rG (K : C) : C := (cOp (AC 13) (AL iLt .i64 (AB 4) (kV (.int .i64 0)))
(cG (AB 13) false (AC 15) (AD (AB 4))
(cG (AB 13) false (AC 16) (AL iGt .i64 (AB 15) (kV (.int .i64 1099511627776)))
(cOp (AC 17) (AS (AB 13) (kV (.bool true)) (AB 16))
(cG (AB 17) false (AC 19) (AD (AB 3))
(cG (AB 17) false (AC 20) (AL iGt .i64 (AB 19) (kV (.int .i64 0)))
(cG (AB 17) false (AC 21) (AD (AB 20))
(cG (AB 21) true (AC 22) (AD (AB 4))
(cG (AB 21) true (AC 23) (AD (AB 0))
(cG (AB 21) true (AC 24) (AD (AB 3))
(cG (AB 21) true (AC 25) (CQ Int.sub .i64 (AB 24) (kV (.int .i64 1)))
(cG (AB 21) true (AC 26) (A9 1 (AB 23) (AB 25))
(cG (AB 21) true (AC 27) (AH (AB 26))
(cG (AB 21) true (AC 28) (AL iLe .i64 (AB 22) (AB 27))
(cG (AB 17) false (AC 29) (AS (AB 21) (AB 28) (kV (.bool false)))
(cOp (AC 30) (AS (AB 17) (kV (.bool true)) (AB 29))
K))))))))))))))))
def d30 : C := cOp (AC 2) (AD (kV (.bool false))) (cOp (AC 5) (AD (AB 0)) (cOp (AC 6) (Af (AB 5)) (cOp (AC 7) (AD (kV (.int .i64 0))) (Ar (AX 0 (Ao rB)) rE))))
theorem Yb {n : Nat} {args : List Value} {h : Hp} (hl : Nat.ble (Bk args) 320 = true) : call AG (Nat.succ n) 30 args h = Bs [.t (AB 2)] (d30 (call AG n) (Ak e0 0 args) h) := by
  have hb : AG.get 30 = some b30 := by kernel_rfl
  rw [BM hb]
  have hd : b30 = ⟨[.t (AB 2)], d30⟩ := by kernel_rfl
  rw [hd, BC hl]
theorem Y0 : d30 = cOp (AC 2) (AD (kV (.bool false))) (cOp (AC 5) (AD (AB 0)) (cOp (AC 6) (Af (AB 5)) (cOp (AC 7) (AD (kV (.int .i64 0))) (Ar (AX 0 (Ao rB)) rE)))) := rfl
theorem XK : rB = cOp (AC 8) (AL iLt .i64 (AB 7) (AB 6)) (AP (AB 8) (Ar (AX 1 (cOp (AC 10) (A9 1 (AB 5) (AB 7)) (cOp (AC 11) (AH (AB 10)) (cOp (AC 3) (AD (AB 7)) (cOp (AC 4) (AD (AB 11)) (rG rT)))))) (cOp (AC 31) (A4 .i64 (Ai .i64) (AB 7) (kV (.int .i64 1))) (cOp (AC 7) (AD (AB 31)) Ac))) (A7 0)) := rfl
theorem eo {K : C} {F : CallF} {h : Hp} {e : Env} {u : Value} {z q : Int} {i : Nat} {b1 b2 b3 b4 : Bool} (s0 : AB 0 e = u) (s3 : AB 3 e = .int .i64 (i : Int)) (s4 : AB 4 e = .int .i64 z) (f1 : iLt z 0 = b1) (f2 : iGt z 1099511627776 = b2) (f3 : iGt (i : Int) 0 = b3)
    (g : b3 = true → ∃ j a, GR Int.sub .i64 (.int .i64 (i : Int)) (.int .i64 1) h = .ok j h ∧ ET 1 u j h = .ok (.pointer (some a)) h ∧ Cu (.pointer (some a)) h = .ok (.int .i64 q) h ∧ iLe z q = b4) :
    ∃ e', rG K F e h = K F e' h ∧ AB 30 e' = .bool ((b1 || b2) || (b3 && b4)) ∧ AB 0 e' = AB 0 e ∧ AB 5 e' = AB 5 e ∧ AB 6 e' = AB 6 e ∧ AB 7 e' = AB 7 e := by
  unfold rG
  cases b3 with
  | false =>
    cases b1 <;> cases b2 <;>
    · simp only [sT, Nat.reduceLT, Nat.reduceEqDiff, if_true, if_false, reduceIte, gD, AO, AN, s0, s3, s4, f1, f2, f3]
      exact ⟨_, rfl, by simp only [AE, Nat.reduceLT, Nat.reduceEqDiff, if_true, if_false, reduceIte]; rfl, by simp only [AE, Nat.reduceLT, Nat.reduceEqDiff, if_true, if_false, reduceIte, s0], by simp [AE], by simp [AE], by simp [AE]⟩
  | true =>
    obtain ⟨j, a, g1, g2, g3, g4⟩ := g rfl
    cases b1 <;> cases b2 <;> cases b4 <;>
    · simp only [sT, Nat.reduceLT, Nat.reduceEqDiff, if_true, if_false, reduceIte, gD, AO, AN, s0, s3, s4, f1, f2, f3, EJ, g1, BV, g2, Ab, g3, g4]
      exact ⟨_, rfl, by simp only [AE, Nat.reduceLT, Nat.reduceEqDiff, if_true, if_false, reduceIte]; rfl, by simp only [AE, Nat.reduceLT, Nat.reduceEqDiff, if_true, if_false, reduceIte, s0], by simp [AE], by simp [AE], by simp [AE]⟩
theorem BG {k : IntKind} {Z : List Int} : (ints k Z).length = Z.length := List.length_map ..
theorem Uo {k : IntKind} {Z : List Int} {i : Nat} (hi : i < Z.length) : (ints k Z).getD i noRes = .int k (Z.getD i 0) := by
  unfold ints
  rw [List.getD_eq_getElem?_getD, List.getElem?_map, List.getD_eq_getElem?_getD, List.getElem?_eq_getElem hi]; rfl
theorem Hp.Vals.int {h : Hp} {k : IntKind} {u : Value} {Z : List Int} (V : h.Vals u (ints k Z)) {i : Nat} (hi : i < Z.length) : ∃ a, ET 1 u (.int .i64 (i : Int)) h = .ok (.pointer (some a)) h ∧ Cu (.pointer (some a)) h = .ok (.int k (Z.getD i 0)) h := by
  obtain ⟨a, g1, g2⟩ := V.at (i := i) (by rw [BG]; exact hi)
  rw [Uo hi] at g2
  exact ⟨a, g1, g2⟩
theorem Hp.Vals.ilen {h : Hp} {k : IntKind} {u : Value} {Z : List Int} (V : h.Vals u (ints k Z)) : Ca u h = .ok (.int .i64 (Z.length : Int)) h := by
  have := V.len; rwa [BG] at this
def Dc (zs : List Int) : Nat → Int
  | 0 => -1
  | i + 1 => zs.getD i 0
theorem Ma {F : CallF} {h : Hp} {u : Value} {zs : List Int} (V : h.Vals u (ints .i64 zs)) (hl : zs.length ≤ 1000000) {e : Env} (hl2 : zs.length < 999999) (s0 : AB 0 e = u) (s5 : AB 5 e = u) (s6 : AB 6 e = .int .i64 (zs.length : Int)) (s7 : AB 7 e = .int .i64 0) :
    (∃ e', Ao rB F e h = .exit 0 e' h ∧ BN (-1) zs = true) ∨ (∃ e', Ao rB F e h = .ret e' h ∧ AB 2 e' = .bool false ∧ BN (-1) zs = false) := by
  refine Bo (I := fun i e' h' => h' = h ∧ AB 0 e' = u ∧ AB 5 e' = u ∧ AB 6 e' = .int .i64 (zs.length : Int) ∧ AB 7 e' = .int .i64 (i : Int) ∧ i ≤ zs.length ∧ BN (-1) zs = BN (Dc zs i) (zs.drop i))
    (Q := fun x => (∃ e', x = .exit 0 e' h ∧ BN (-1) zs = true) ∨ (∃ e', x = .ret e' h ∧ AB 2 e' = .bool false ∧ BN (-1) zs = false)) zs.length (by omega) (fun i e' h' ⟨hh, t0, t5, t6, t7, hi, hr⟩ => ?_)
    ⟨rfl, s0, s5, s6, s7, Nat.zero_le _, rfl⟩
  subst hh
  by_cases hlt : i < zs.length
  · obtain ⟨a, g1, g2⟩ := V.int hlt
    have hd : zs.drop i = zs.getD i 0 :: zs.drop (i + 1) := by
      rw [List.drop_eq_getElem_cons hlt, List.getD_eq_getElem?_getD, List.getElem?_eq_getElem hlt]; rfl
    rw [hd] at hr
    have hnext : Dc zs (i + 1) = zs.getD i 0 := rfl
    generalize hz : zs.getD i 0 = z at g2 hr hnext
    have c1 : iLt (i : Int) (zs.length : Int) = true := by rw [As]; simp; omega
    have pre : ∃ b e2, rB F e' h' = Hi (DT 1 (rT F e2 h')) (cOp (AC 31) (A4 .i64 (Ai .i64) (AB 7) (kV (.int .i64 1))) (cOp (AC 7) (AD (AB 31)) Ac)) F ∧ AB 30 e2 = .bool b ∧ (b = true ↔ ¬ (0 ≤ z ∧ z ≤ 1099511627776 ∧ Dc zs i < z)) ∧ AB 0 e2 = u ∧ AB 5 e2 = u ∧ AB 6 e2 = .int .i64 (zs.length : Int) ∧ AB 7 e2 = .int .i64 (i : Int) := by
      have key : ∃ (q : Int) (b4 : Bool), (iGt (i : Int) 0 = true → ∃ j a, GR Int.sub .i64 (.int .i64 (i : Int)) (.int .i64 1) h' = .ok j h' ∧ ET 1 u j h' = .ok (.pointer (some a)) h' ∧ Cu (.pointer (some a)) h' = .ok (.int .i64 q) h' ∧ iLe z q = b4) ∧
          (((iLt z 0 || iGt z 1099511627776) || (iGt (i : Int) 0 && b4)) = true ↔ ¬ (0 ≤ z ∧ z ≤ 1099511627776 ∧ Dc zs i < z)) := by
        cases i with
        | zero =>
          refine ⟨0, false, fun h0 => ?_, ?_⟩
          · rw [BS] at h0; simp at h0
          · rw [As, BS, BS]
            show _ ↔ ¬ (0 ≤ z ∧ z ≤ 1099511627776 ∧ (-1 : Int) < z)
            simp
            omega
        | succ j =>
          obtain ⟨a', k1, k2⟩ := V.int (i := j) (by omega)
          refine ⟨zs.getD j 0, iLe z (zs.getD j 0), fun _ => ⟨.int .i64 (j : Int), a', ?_, k1, k2, rfl⟩, ?_⟩
          · have : Int.sub ((j + 1 : Nat) : Int) 1 = (j : Int) := by show ((j + 1 : Nat) : Int) - 1 = j; omega
            rw [Do, this, BJ (by omega)]
          · rw [As, BS, BS, HZ]
            show _ ↔ ¬ (0 ≤ z ∧ z ≤ 1099511627776 ∧ zs.getD j 0 < z)
            simp only [Bool.or_eq_true, Bool.and_eq_true, decide_eq_true_eq]
            omega
      obtain ⟨q, b4, kg, kb⟩ := key
      obtain ⟨e2, q1, q2, q3, q4, q5, q6⟩ := eo (K := rT) (F := F) (h := h') (e := Env.set 4 (.int .i64 z) (Env.set 3 (.int .i64 (i : Int)) (Env.set 11 (.int .i64 z) (Env.set 10 (.pointer (some a)) (Env.set 8 (.bool true) e'))))) (u := u) (z := z) (q := q) (i := i) (b4 := b4)
        (by simp only [AE, Nat.reduceLT, Nat.reduceEqDiff, if_true, if_false, reduceIte]; exact t0) (by simp [AE]) (by simp [AE]) rfl rfl rfl kg
      refine ⟨_, e2, ?_, q2, kb, ?_, ?_, ?_, ?_⟩
      · rw [XK]
        simp only [BX, Bj, BI, Aq, BZ, CM, A5, Br, AE, Nat.reduceLT, Nat.reduceEqDiff, if_true, if_false, reduceIte, t7, t6, AO, AN, c1, BV, t5, g1, Ab, g2, q1]
      · rw [q3]; simp only [AE, Nat.reduceLT, Nat.reduceEqDiff, if_true, if_false, reduceIte]; exact t0
      · rw [q4]; simp only [AE, Nat.reduceLT, Nat.reduceEqDiff, if_true, if_false, reduceIte]; exact t5
      · rw [q5]; simp only [AE, Nat.reduceLT, Nat.reduceEqDiff, if_true, if_false, reduceIte]; exact t6
      · rw [q6]; simp only [AE, Nat.reduceLT, Nat.reduceEqDiff, if_true, if_false, reduceIte]; exact t7
    obtain ⟨b, e2, p1, p30, pb, p0, p5, p6, p7⟩ := pre
    have hr : BN (-1) zs = (decide (0 ≤ z ∧ z ≤ 1099511627776 ∧ Dc zs i < z) && BN z (zs.drop (i + 1))) := hr
    cases b with
    | true =>
      right
      have hno : ¬ (0 ≤ z ∧ z ≤ 1099511627776 ∧ Dc zs i < z) := pb.1 rfl
      have hrun : ∃ e3, rT F e2 h' = .ret e3 h' ∧ AB 2 e3 = .bool false := by
        unfold rT
        simp only [sT, Nat.reduceLT, Nat.reduceEqDiff, if_true, if_false, reduceIte, p30]
        exact ⟨_, rfl, by simp [AE]⟩
      obtain ⟨e3, r1, r2⟩ := hrun
      rw [p1, r1, BL, Bw]
      refine ⟨rfl, .inr ⟨e3, rfl, r2, ?_⟩⟩
      rw [hr, decide_eq_false hno]; rfl
    | false =>
      left
      have hok : 0 ≤ z ∧ z ≤ 1099511627776 ∧ Dc zs i < z := by
        by_cases hx : 0 ≤ z ∧ z ≤ 1099511627776 ∧ Dc zs i < z
        · exact hx
        · have := pb.2 hx; cases this
      have a3 : Ci .i64 (.int .i64 (i : Int)) (.int .i64 1) h' = .ok (.int .i64 ((i + 1 : Nat) : Int)) h' := by
        have : (i : Int) + 1 = ((i + 1 : Nat) : Int) := by omega
        rw [Bc, this, BJ (by omega)]
      have hrun : ∃ e4, rB F e' h' = .norm e4 h' ∧ AB 0 e4 = u ∧ AB 5 e4 = u ∧ AB 6 e4 = .int .i64 (zs.length : Int) ∧ AB 7 e4 = .int .i64 ((i + 1 : Nat) : Int) := by
        rw [p1]
        unfold rT
        simp only [sT, Nat.reduceLT, Nat.reduceEqDiff, if_true, if_false, reduceIte, p30, Bb, p7, a3]
        exact ⟨_, rfl, by simp only [AE, Nat.reduceLT, Nat.reduceEqDiff, if_true, if_false, reduceIte]; exact p0, by simp only [AE, Nat.reduceLT, Nat.reduceEqDiff, if_true, if_false, reduceIte]; exact p5, by simp only [AE, Nat.reduceLT, Nat.reduceEqDiff, if_true, if_false, reduceIte]; exact p6, by simp [AE]⟩
      obtain ⟨e4, k1, k2, k3, k4, k5⟩ := hrun
      refine ⟨hlt, e4, h', k1, rfl, k2, k3, k4, k5, hlt, ?_⟩
      rw [hr, decide_eq_true hok, hnext]; rfl
  · right
    have c1 : iLt (i : Int) (zs.length : Int) = false := by rw [As]; simp; omega
    have hrun : ∃ e2, rB F e' h' = .exit 0 e2 h' := by
      rw [XK]
      simp only [sT, Nat.reduceLT, Nat.reduceEqDiff, if_true, if_false, reduceIte, t6, AO, AN, t7, c1]
      exact ⟨_, rfl⟩
    obtain ⟨e2, r1⟩ := hrun
    rw [r1]
    refine ⟨rfl, .inl ⟨e2, rfl, ?_⟩⟩
    rw [hr, List.drop_of_length_le (by omega)]; rfl
theorem KC {n : Nat} {h : Hp} {u : Value} {zs : List Int} (V : h.Vals u (ints .i64 zs)) (hl : zs.length < 900000) : call AG (n + 1) 30 [u] h = .ok (.bool (BN (-1) zs)) h := by
  have H := Ma (F := call AG n) (e := Env.set 7 (.int .i64 0) (Env.set 6 (.int .i64 (zs.length : Int)) (Env.set 5 u (Env.set 2 (.bool false) (Env.set 0 u e0))))) V (by omega) (by omega) (by simp [AE]) (by simp [AE]) (by simp [AE]) (by simp [AE])
  rw [Yb rfl, Y0]
  rcases H with ⟨e2, q1, q2⟩ | ⟨e2, q1, q2, q3⟩
  · simp only [AK, AM, Nat.succ_eq_add_one, Nat.zero_add, Nat.reduceAdd, BX, BZ, A5, Br, AE, Nat.reduceLT, Nat.reduceEqDiff, if_true, if_false, reduceIte, Al, V.ilen, BI, Aq]
    rw [q1]
    simp only [BA, BH]
    unfold rE
    simp only [sT, Nat.reduceLT, Nat.reduceEqDiff, if_true, if_false, reduceIte, AZ, Ap, q2]
  · simp only [AK, AM, Nat.succ_eq_add_one, Nat.zero_add, Nat.reduceAdd, BX, BZ, A5, Br, AE, Nat.reduceLT, Nat.reduceEqDiff, if_true, if_false, reduceIte, Al, V.ilen, BI, Aq]
    rw [q1]
    simp only [BL, Bw, AZ, Ap, q2, q3]
theorem Ok {n : Nat} {h : Hp} (f : Int) : call AG (n + 1) 31 [.int .i64 f] h = .ok (.bool (decide (0 ≤ f ∧ f < 256))) h := by
  rw [Yc rfl]
  unfold d31
  by_cases h1 : 0 ≤ f
  · have c1 : iGe f 0 = true := by rw [Cl]; simp; omega
    by_cases h2 : f < 256
    · have c2 : iLt f 256 = true := by rw [As]; simp; omega
      rw [decide_eq_true ⟨h1, h2⟩]
      simp only [AK, AM, Nat.succ_eq_add_one, Nat.zero_add, Nat.reduceAdd, sT, Nat.reduceLT, Nat.reduceEqDiff, if_true, if_false, reduceIte, gD, AO, AN, c1, c2, AZ, Ap]
    · have c2 : iLt f 256 = false := by rw [As]; simp; omega
      rw [decide_eq_false (fun x => h2 x.2)]
      simp only [AK, AM, Nat.succ_eq_add_one, Nat.zero_add, Nat.reduceAdd, sT, Nat.reduceLT, Nat.reduceEqDiff, if_true, if_false, reduceIte, gD, AO, AN, c1, c2, AZ, Ap]
  · have c1 : iGe f 0 = false := by rw [Cl]; simp; omega
    rw [decide_eq_false (fun x => h1 x.1)]
    simp only [AK, AM, Nat.succ_eq_add_one, Nat.zero_add, Nat.reduceAdd, sT, Nat.reduceLT, Nat.reduceEqDiff, if_true, if_false, reduceIte, gD, AO, AN, c1, AZ, Ap]
def mvV (f t : Int) (u : Value) : Value := .agg ⟨[.int .i64 f, .int .i64 t, u]⟩
theorem EZ {n : Nat} {h : Hp} (W : h.Wf) {f t : Int} {u : Value} {zs : List Int} (V : h.Vals u (ints .i64 zs)) (hl : zs.length < 900000) : call AG (n + 2) 9 [mvV f t u] h = .ok (.bool (Bq f t zs)) (h.pushRow 0 [.int .i64 f, .int .i64 t, u]) := by
  have R := Hp.Row.new W 0 [.int .i64 f, .int .i64 t, u]
  have x1 := (Hp.Ext.refl W).pushRow 0 [.int .i64 f, .int .i64 t, u]
  have V1 := V.ext W x1
  have hbx : ∀ e : Env, AB 0 e = mvV f t u → Bu (AB 0) (call AG (n + 1)) e h = .ok (.pointer (some ⟨h.next, 0, none⟩)) (h.pushRow 0 [.int .i64 f, .int .i64 t, u]) := fun e he => by rw [DF, he, DD W]; rfl
  generalize h.pushRow 0 [.int .i64 f, .int .i64 t, u] = h1 at R x1 V1 hbx
  have l0 : load1 ⟨h.next, 0, none⟩ h1 = .ok (.int .i64 f) h1 := R.load1 (off := 0) (by simp)
  have l1 : load1 ⟨h.next, 1, none⟩ h1 = .ok (.int .i64 t) h1 := R.load1 (off := 1) (by simp)
  have l2 : load1 ⟨h.next, 2, none⟩ h1 = .ok u h1 := R.load1 (off := 2) (by simp)
  have k1 := Ok (n := n) (h := h1) f
  have k2 := Ok (n := n) (h := h1) t
  have k3 := KC (n := n) V1 hl
  rw [de rfl]
  unfold d9
  have c3 : iNe f t = decide (f ≠ t) := by rw [DB, Bool.eq_iff_iff, Bool.not_eq_true', beq_eq_false_iff_ne, decide_eq_true_eq]
  have c4 : iLe (zs.length : Int) 10000 = decide (zs.length ≤ 10000) := by rw [HZ]; congr 1; simp; omega
  have hb : Bq f t zs = (decide (0 ≤ f ∧ f < 256) && (decide (0 ≤ t ∧ t < 256) && (decide (f ≠ t) && (decide (zs.length ≤ 10000) && BN (-1) zs)))) := by
    unfold Bq
    rw [Bool.eq_iff_iff]
    simp only [Bool.and_eq_true, decide_eq_true_eq]
    constructor
    · rintro ⟨⟨a, b, c, d, e, g⟩, k⟩; exact ⟨⟨a, b⟩, ⟨c, d⟩, e, g, k⟩
    · rintro ⟨⟨a, b⟩, ⟨c, d⟩, e, g, k⟩; exact ⟨⟨a, b, c, d, e, g⟩, k⟩
  rw [hb]
  generalize decide (0 ≤ f ∧ f < 256) = b1 at k1 ⊢
  generalize decide (0 ≤ t ∧ t < 256) = b2 at k2 ⊢
  generalize decide (f ≠ t) = b3 at c3 ⊢
  generalize decide (zs.length ≤ 10000) = b4 at c4 ⊢
  generalize BN (-1) zs = b5 at k3 ⊢
  cases b1 <;> cases b2 <;> cases b3 <;> cases b4 <;>
  · simp only [AK, AM, Nat.succ_eq_add_one, Nat.zero_add, Nat.reduceAdd, sT, Nat.reduceLT, Nat.reduceEqDiff, if_true, if_false, reduceIte, gD, hbx, AW, Aj, Ab, Am, l0, l1, l2, Cc, E6, List.nil_append, List.append_nil, Ah, AV, Ad, k1, k2, AO, AN, c3, Al, V1.ilen, c4, k3, AZ, Ap]
    rfl
theorem DP {h : Hp} (W : h.Wf) {f t : Int} {u : Value} : h.Ext (h.pushRow 0 [.int .i64 f, .int .i64 t, u]) := (Hp.Ext.refl W).pushRow _ _
theorem Lm (n : Int) : iEq n n = true := by rw [B6]; simp
def siB : C := (cOp (AC 13) (Af (AB 0))
(cOp (AC 14) (AL iLt .i64 (AB 5) (AB 13))
(AP (AB 14)
(Ar (AX 1 (Bx (cOp (AC 19) (A9 1 (AB 0) (AB 5))
(cOp (AC 20) (AH (AB 19))
(cOp (AC 23) (A9 1 (AB 1) (AB 5))
(cOp (AC 24) (AH (AB 23))
(cOp (AC 25) (AL iNe .i64 (AB 20) (AB 24))
(AP (AB 25)
(cOp (AC 4) (AD (kV (.bool false)))
Ae)
Ac))))))))
(cOp (AC 16) (A4 .i64 (Ai .i64) (AB 5) (kV (.int .i64 1)))
(cOp (AC 5) (AD (AB 16))
Ac)))
(A7 0))))
def siE : C := (cOp (AC 4) (AD (kV (.bool true)))
Ae)
theorem WN {F : CallF} {h : Hp} {u v : Value} {zs : List Int} (V : h.Vals u (ints .i64 zs)) (U : h.Vals v (ints .i64 zs)) (hl : zs.length < 900000) {e : Env} (s0 : AB 0 e = u) (s1 : AB 1 e = v) (s5 : AB 5 e = .int .i64 0) :
    ∃ e' h', Ao siB F e h = .exit 0 e' h' ∧ (h' = h ∨ h' = h.marked) := by
  refine Bo (I := fun i e' h' => (h' = h ∨ h' = h.marked) ∧ AB 0 e' = u ∧ AB 1 e' = v ∧ AB 5 e' = .int .i64 (i : Int) ∧ i ≤ zs.length)
    (Q := fun x => ∃ e' h', x = .exit 0 e' h' ∧ (h' = h ∨ h' = h.marked)) zs.length (by omega) (fun i e' h' ⟨hh, t0, t1, t5, hi⟩ => ?_) ⟨.inl rfl, s0, s1, s5, Nat.zero_le _⟩
  have hm : h'.marked = h.marked := by rcases hh with rfl | rfl <;> rfl
  have hbl : h'.bl = h.bl := by rcases hh with rfl | rfl <;> rfl
  have V1 := V.same hbl
  by_cases hlt : i < zs.length
  · left
    have V2 : h.marked.Vals u (ints .i64 zs) := V.same rfl
    have U2 : h.marked.Vals v (ints .i64 zs) := U.same rfl
    obtain ⟨a, g1, g2⟩ := V2.int hlt
    obtain ⟨b, g3, g4⟩ := U2.int hlt
    have c1 : iLt (i : Int) (zs.length : Int) = true := by rw [As]; simp; omega
    have c2 : iNe (zs.getD i 0) (zs.getD i 0) = false := by rw [DB]; simp
    have a3 : Ci .i64 (.int .i64 (i : Int)) (.int .i64 1) h.marked = .ok (.int .i64 ((i + 1 : Nat) : Int)) h.marked := by
      have : (i : Int) + 1 = ((i + 1 : Nat) : Int) := by omega
      rw [Bc, this, BJ (by omega)]
    have hrun : ∃ e2, siB F e' h' = .norm e2 h.marked ∧ AB 0 e2 = u ∧ AB 1 e2 = v ∧ AB 5 e2 = .int .i64 ((i + 1 : Nat) : Int) := by
      unfold siB
      simp only [sT, Nat.reduceLT, Nat.reduceEqDiff, if_true, if_false, reduceIte, Al, t0, V1.ilen, AO, AN, t5, c1, Cw, hm, BV, g1, Ab, g2, t1, g3, g4, c2, Bb, a3]
      exact ⟨_, rfl, by simp only [AE, Nat.reduceLT, Nat.reduceEqDiff, if_true, if_false, reduceIte]; exact t0, by simp only [AE, Nat.reduceLT, Nat.reduceEqDiff, if_true, if_false, reduceIte]; exact t1, by simp [AE]⟩
    obtain ⟨e2, r1, r2, r3, r4⟩ := hrun
    exact ⟨hlt, e2, h.marked, r1, .inr rfl, r2, r3, r4, hlt⟩
  · right
    have c1 : iLt (i : Int) (zs.length : Int) = false := by rw [As]; simp; omega
    have hrun : ∃ e2, siB F e' h' = .exit 0 e2 h' := by
      unfold siB
      simp only [sT, Nat.reduceLT, Nat.reduceEqDiff, if_true, if_false, reduceIte, Al, t0, V1.ilen, AO, AN, t5, c1]
      exact ⟨_, rfl⟩
    obtain ⟨e2, r1⟩ := hrun
    rw [r1]
    exact ⟨rfl, e2, h', rfl, hh⟩
def siS : C := (Ar (AX 0 (Ao (cOp (AC 13) (Af (AB 0))
(cOp (AC 14) (AL iLt .i64 (AB 5) (AB 13))
(AP (AB 14)
(Ar (AX 1 (Bx (cOp (AC 19) (A9 1 (AB 0) (AB 5))
(cOp (AC 20) (AH (AB 19))
(cOp (AC 23) (A9 1 (AB 1) (AB 5))
(cOp (AC 24) (AH (AB 23))
(cOp (AC 25) (AL iNe .i64 (AB 20) (AB 24))
(AP (AB 25)
(cOp (AC 4) (AD (kV (.bool false)))
Ae)
Ac))))))))
(cOp (AC 16) (A4 .i64 (Ai .i64) (AB 5) (kV (.int .i64 1)))
(cOp (AC 5) (AD (AB 16))
Ac)))
(A7 0))))))
(cOp (AC 4) (AD (kV (.bool true)))
Ae))
theorem ac : siS = Ar (AX 0 (Ao siB)) siE := rfl
def Tz : C := (cOp (AC 4) (AD (kV (.bool false)))
(cOp (AC 7) (Af (AB 0))
(cOp (AC 9) (Af (AB 1))
(cOp (AC 10) (AL iNe .i64 (AB 7) (AB 9))
(AP (AB 10)
(cOp (AC 4) (AD (kV (.bool false)))
Ae)
(cOp (AC 5) (AD (kV (.int .i64 0)))
siS))))))
def d17 : C := Tz
theorem YW {n : Nat} {args : List Value} {h : Hp} (hl : Nat.ble (Bk args) 320 = true) : call AG (Nat.succ n) 17 args h = Bs [.t (AB 4)] (d17 (call AG n) (Ak e0 0 args) h) := by
  have hb : AG.get 17 = some b17 := by kernel_rfl
  rw [BM hb]
  have hd : b17 = ⟨[.t (AB 4)], d17⟩ := by kernel_rfl
  rw [hd, BC hl]
theorem Yw : d17 = Tz := rfl
theorem XL {n : Nat} {h : Hp} {u v : Value} {zs : List Int} (V : h.Vals u (ints .i64 zs)) (U : h.Vals v (ints .i64 zs)) (hl : zs.length < 900000) : ∃ h', call AG (n + 1) 17 [u, v] h = .ok (.bool true) h' ∧ (h' = h ∨ h' = h.marked) := by
  have c1 : iNe (zs.length : Int) (zs.length : Int) = false := by rw [DB]; simp
  have pre : ∃ e1, Tz (call AG n) (Ak e0 0 [u, v]) h = siS (call AG n) e1 h ∧ AB 0 e1 = u ∧ AB 1 e1 = v ∧ AB 5 e1 = .int .i64 0 := by
    unfold Tz
    simp only [AK, AM, Nat.succ_eq_add_one, Nat.zero_add, Nat.reduceAdd, BX, Bj, BZ, Ba, A5, Br, AE, Nat.reduceLT, Nat.reduceEqDiff, if_true, if_false, reduceIte, Al, V.ilen, U.ilen, AO, AN, c1]
    exact ⟨_, rfl, by simp [AE], by simp [AE], by simp [AE]⟩
  obtain ⟨e1, p1, p2, p3, p4⟩ := pre
  obtain ⟨e2, h', q1, q2⟩ := WN (F := call AG n) V U hl p2 p3 p4
  refine ⟨h', ?_, q2⟩
  rw [YW rfl, Yw, p1, ac]
  simp only [BI, Aq, q1, BA, BH]
  unfold siE
  simp only [sT, Nat.reduceLT, Nat.reduceEqDiff, if_true, if_false, reduceIte, AZ, Ap]
theorem Oz {n : Nat} {h : Hp} (W : h.Wf) {f t : Int} {u v : Value} {zs : List Int} (V : h.Vals u (ints .i64 zs)) (U : h.Vals v (ints .i64 zs)) (hl : zs.length < 900000) : ∃ h', call AG (n + 2) 22 [mvV f t u, mvV f t v] h = .ok (.bool true) h' ∧ h.Ext h' := by
  have R := Hp.Row.new W 0 [.int .i64 f, .int .i64 t, u]
  have x1 := (Hp.Ext.refl W).pushRow 0 [.int .i64 f, .int .i64 t, u]
  have hn1 : (h.pushRow 0 [.int .i64 f, .int .i64 t, u]).next = h.next + 1 := rfl
  have hbx : ∀ e : Env, AB 0 e = mvV f t u → Bu (AB 0) (call AG (n + 1)) e h = .ok (.pointer (some ⟨h.next, 0, none⟩)) (h.pushRow 0 [.int .i64 f, .int .i64 t, u]) := fun e he => by rw [DF, he, DD W]; rfl
  generalize h.pushRow 0 [.int .i64 f, .int .i64 t, u] = h1 at R x1 hbx hn1
  have W1 := x1.wf
  have S := Hp.Row.new W1 0 [.int .i64 f, .int .i64 t, v]
  have y2 := (Hp.Ext.refl W1).pushRow 0 [.int .i64 f, .int .i64 t, v]
  have x2 := x1.trans y2
  have R2 := R.ext W1 y2
  have hby : ∀ e : Env, AB 1 e = mvV f t v → Bu (AB 1) (call AG (n + 1)) e h1 = .ok (.pointer (some ⟨h1.next, 0, none⟩)) (h1.pushRow 0 [.int .i64 f, .int .i64 t, v]) := fun e he => by rw [DF, he, DD W1]; rfl
  generalize h1.pushRow 0 [.int .i64 f, .int .i64 t, v] = h2 at S y2 x2 R2 hby
  have l0 : load1 ⟨h.next, 0, none⟩ h2 = .ok (.int .i64 f) h2 := R2.load1 (off := 0) (by simp)
  have l1 : load1 ⟨h.next, 1, none⟩ h2 = .ok (.int .i64 t) h2 := R2.load1 (off := 1) (by simp)
  have l2 : load1 ⟨h.next, 2, none⟩ h2 = .ok u h2 := R2.load1 (off := 2) (by simp)
  have m0 : load1 ⟨h1.next, 0, none⟩ h2 = .ok (.int .i64 f) h2 := S.load1 (off := 0) (by simp)
  have m1 : load1 ⟨h1.next, 1, none⟩ h2 = .ok (.int .i64 t) h2 := S.load1 (off := 1) (by simp)
  have m2 : load1 ⟨h1.next, 2, none⟩ h2 = .ok v h2 := S.load1 (off := 2) (by simp)
  obtain ⟨h3, k1, k2⟩ := XL (n := n) (V.ext W x2) (U.ext W x2) hl
  refine ⟨h3, ?_, ?_⟩
  · rw [YY rfl]
    unfold d22
    simp only [AK, AM, Nat.succ_eq_add_one, Nat.zero_add, Nat.reduceAdd, sT, Nat.reduceLT, Nat.reduceEqDiff, if_true, if_false, reduceIte, gD, hbx, hby, AW, Aj, Ab, Am, l0, l1, l2, m0, m1, m2, AO, AN, Lm, Ah, AV, Ad, k1, AZ, Ap]
  · rcases k2 with rfl | rfl
    · exact x2
    · exact x2.marked
theorem LJ : ∀ l : List UInt8, bEq l l = true
  | [] => rfl
  | a :: l => by
    show (bif Nat.beq a.toNat a.toNat then bEq l l else false) = true
    rw [Nat.beq_refl, LJ l]; rfl
theorem ew {n : Nat} {h : Hp} {u v : Value} {l : List Nat} (V : h.Vals u (l.map bv)) (U : h.Vals v (l.map bv)) : call AG (n + 1) 26 [u, v] h = .ok (.bool true) h := by
  rw [YZ rfl]
  unfold d26
  simp only [AK, AM, Nat.succ_eq_add_one, Nat.zero_add, Nat.reduceAdd, sT, Nat.reduceLT, Nat.reduceEqDiff, if_true, if_false, reduceIte, GE, V.bytes.str, U.bytes.str, K2, Kb, LJ, AZ, Ap]
end
end Go.Proofs.Ytkafejncffinmaa
set_option linter.unusedVariables false
set_option linter.unusedSimpArgs false
namespace Go.Proofs.Ytkafejncffinmaa
noncomputable section
open Go
set_option maxRecDepth 100000
def bB : C := (cOp (AC 28) (AL iLt .i64 (AB 27) (AB 26))
(AP (AB 28)
(Ar (AX 1 (cOp (AC 29) (A9 1 (AB 25) (AB 27))
(cOp (AC 30) (AH (AB 29))
(cOp (AC 7) (AD (AB 30))
(cOp (AC 34) (CQ Int.sub .i64 (AB 7) (AB 5))
(cOp (AC 35) (BO .u64 (AB 34))
(cOp (AC 36) (AQ 36 [(AB 4), (AB 35)])
(cOp (AC 4) (AD (AB 36))
(cOp (AC 5) (AD (AB 7))
Ac)))))))))
(cOp (AC 38) (A4 .i64 (Ai .i64) (AB 27) (kV (.int .i64 1)))
(cOp (AC 27) (AD (AB 38))
Ac)))
(A7 0)))
def bE : C := (cOp (AC 2) (AD (AB 4))
(cOp (AC 3) (AD (kV (.int .i64 0)))
Ae))
theorem Hp.Ext.requiet {h0 m g : Hp} (x : h0.Ext g) : h0.Ext (m.back g).quiet := ⟨x.next, x.get, by show _ ≤ g.next; have := x.next; omega, ⟨x.wf.big, x.wf.has, x.wf.fresh⟩⟩
theorem Jp {zs : List Int} {i : Nat} (hlt : i < zs.length) : zs.drop i = zs.getD i 0 :: zs.drop (i + 1) := by
  rw [List.drop_eq_getElem_cons hlt, List.getD_eq_getElem?_getD, List.getElem?_eq_getElem hlt]; rfl
theorem Mv {n : Nat} {h m : Hp} (W : h.Wf) {u : Value} {zs : List Int} (V : h.Vals u (ints .i64 zs)) (hl : zs.length ≤ 10000) (hr : BN (-1) zs = true) {k : Nat} (hk : h.next ≤ k) (hk2 : k ≤ m.next) (x : h.Ext m) {w : Value} {xs : List Nat} (o : m.Own k 5 w (xs.map bv)) (hx : xs.length ≤ 30)
    {e : Env} (s4 : AB 4 e = w) (s5 : AB 5 e = .int .i64 0) (s25 : AB 25 e = u) (s26 : AB 26 e = .int .i64 (zs.length : Int)) (s27 : AB 27 e = .int .i64 0) :
    ∃ e' h' w', Ao bB (call AG (n + 1)) e m = .exit 0 e' h' ∧ AB 4 e' = w' ∧ h.Ext h' ∧ k ≤ h'.next ∧ h'.Own k 5 w' ((xs ++ CH 0 zs).map bv) := by
  refine Bo (I := fun i e' h' => ∃ w' ys last p, h.Ext h' ∧ k ≤ h'.next ∧ h'.Own k 5 w' (ys.map bv) ∧ ys.length ≤ 30 + 10 * i ∧ i ≤ zs.length ∧ ys ++ CH last (zs.drop i) = xs ++ CH 0 zs ∧ BN p (zs.drop i) = true ∧ (p = last ∨ p = -1 ∧ last = 0) ∧ 0 ≤ last ∧ AB 4 e' = w' ∧ AB 5 e' = .int .i64 last ∧ AB 25 e' = u ∧ AB 26 e' = .int .i64 (zs.length : Int) ∧ AB 27 e' = .int .i64 (i : Int))
    (Q := fun y => ∃ e' h' w', y = .exit 0 e' h' ∧ AB 4 e' = w' ∧ h.Ext h' ∧ k ≤ h'.next ∧ h'.Own k 5 w' ((xs ++ CH 0 zs).map bv)) zs.length (by omega) (fun i e' h' ⟨w', ys, last, p, x', hn, o', hy, hi, hd, hr', hp, h0, t4, t5, t25, t26, t27⟩ => ?_)
    ⟨w, xs, 0, -1, x, hk2, o, by omega, Nat.zero_le _, rfl, hr, .inr ⟨rfl, rfl⟩, by omega, s4, s5, s25, s26, s27⟩
  by_cases hlt : i < zs.length
  · left
    obtain ⟨a, g1, g2⟩ := (V.ext W x').int hlt
    rw [Jp hlt] at hd hr'
    generalize zs.getD i 0 = z at g2 hd hr'
    have hr2 : (decide (0 ≤ z ∧ z ≤ 1099511627776 ∧ p < z) && BN z (zs.drop (i + 1))) = true := hr'
    rw [Bool.and_eq_true, decide_eq_true_eq] at hr2
    obtain ⟨⟨z0, z1, z2⟩, hr3⟩ := hr2
    obtain ⟨d, hdn⟩ := Int.eq_ofNat_of_zero_le (a := z - last) (by omega)
    have c1 : iLt (i : Int) (zs.length : Int) = true := by rw [As]; simp; omega
    have a2 : GR Int.sub .i64 (.int .i64 z) (.int .i64 last) h' = .ok (.int .i64 (d : Int)) h' := by
      have : Int.sub z last = (d : Int) := hdn
      rw [Do, this, BJ (by omega)]
    have a3 : C2 .u64 (.int .i64 (d : Int)) h' = .ok (.int .u64 (d : Int)) h' := by rw [B0, B5 (by omega)]
    obtain ⟨h2, w2, b1, b2, b3, b4, _⟩ := IJ (n := n) x' hk hn o' (by omega) (N := d) (by omega)
    have a4 : Ci .i64 (.int .i64 (i : Int)) (.int .i64 1) h2 = .ok (.int .i64 ((i + 1 : Nat) : Int)) h2 := by
      have : (i : Int) + 1 = ((i + 1 : Nat) : Int) := by omega
      rw [Bc, this, BJ (by omega)]
    have hrun : ∃ e2, bB (call AG (n + 1)) e' h' = .norm e2 h2 ∧ AB 4 e2 = w2 ∧ AB 5 e2 = .int .i64 z ∧ AB 25 e2 = u ∧ AB 26 e2 = .int .i64 (zs.length : Int) ∧ AB 27 e2 = .int .i64 ((i + 1 : Nat) : Int) := by
      unfold bB
      simp only [sT, Nat.reduceLT, Nat.reduceEqDiff, if_true, if_false, reduceIte, AO, AN, t27, t26, c1, BV, t25, g1, Ab, g2, EJ, t5, a2, B4, a3, Ah, AV, Ad, t4, b1, Bb, a4]
      exact ⟨_, rfl, by simp [AE], by simp [AE], by simp only [AE, Nat.reduceLT, Nat.reduceEqDiff, if_true, if_false, reduceIte]; exact t25, by simp only [AE, Nat.reduceLT, Nat.reduceEqDiff, if_true, if_false, reduceIte]; exact t26, by simp [AE]⟩
    obtain ⟨e2, r1, r2, r3, r4, r5, r6⟩ := hrun
    have hten := Cd (n := d) (by omega)
    refine ⟨hlt, e2, h2, r1, w2, ys ++ BR d, z, z, b2, by omega, b3, by rw [List.length_append]; omega, hlt, ?_, hr3, .inl rfl, z0, r2, r3, r4, r5, r6⟩
    rw [← hd]
    show ys ++ BR d ++ CH z (zs.drop (i + 1)) = ys ++ (BR (z - last).toNat ++ CH z (zs.drop (i + 1)))
    rw [hdn, List.append_assoc]; rfl
  · right
    have c1 : iLt (i : Int) (zs.length : Int) = false := by rw [As]; simp; omega
    have hrun : ∃ e2, bB (call AG (n + 1)) e' h' = .exit 0 e2 h' ∧ AB 4 e2 = w' := by
      unfold bB
      simp only [sT, Nat.reduceLT, Nat.reduceEqDiff, if_true, if_false, reduceIte, AO, AN, t27, t26, c1]
      exact ⟨_, rfl, by simp only [AE, Nat.reduceLT, Nat.reduceEqDiff, if_true, if_false, reduceIte]; exact t4⟩
    obtain ⟨e2, r1, r2⟩ := hrun
    rw [r1]
    rw [List.drop_of_length_le (by omega)] at hd
    have hd : ys ++ [] = xs ++ CH 0 zs := hd
    rw [List.append_nil] at hd
    rw [hd] at o'
    exact ⟨rfl, e2, h', w', rfl, r2, x', hn, o'⟩
theorem Qb {n : Nat} {h : Hp} (W : h.Wf) {f t : Int} {u : Value} {zs : List Int} (V : h.Vals u (ints .i64 zs)) (hl : zs.length < 900000) (hr : Bq f t zs = false) : ∃ h', call AG (n + 3) 15 [mvV f t u] h = .ok (.tuple ⟨[.slice none 0 0, .int .i64 167]⟩) h' ∧ h.Ext h' := by
  have R := Hp.Row.new W 0 [.int .i64 f, .int .i64 t, u]
  have x1 := (Hp.Ext.refl W).pushRow 0 [.int .i64 f, .int .i64 t, u]
  have hbx : ∀ e : Env, AB 0 e = mvV f t u → Bu (AB 0) (call AG (n + 2)) e h = .ok (.pointer (some ⟨h.next, 0, none⟩)) (h.pushRow 0 [.int .i64 f, .int .i64 t, u]) := fun e he => by rw [DF, he, DD W]; rfl
  have V1 := V.ext W x1
  generalize h.pushRow 0 [.int .i64 f, .int .i64 t, u] = h1 at R x1 V1 hbx
  have l1 : loadN 3 ⟨h.next, 0, none⟩ h1 = .ok (mvV f t u) h1 := R.loadN (by simp)
  have k1 := EZ (n := n) x1.wf V1 hl (f := f) (t := t)
  rw [hr] at k1
  refine ⟨h1.pushRow 0 [.int .i64 f, .int .i64 t, u], ?_, x1.trans (DP x1.wf)⟩
  rw [Qe rfl]
  unfold d15
  simp only [AK, AM, Nat.succ_eq_add_one, Nat.zero_add, Nat.reduceAdd, BX, Bj, BZ, CM, A5, Br, AE, Nat.reduceLT, Nat.reduceEqDiff, if_true, if_false, reduceIte, hbx, Ay, Aw, l1, Ah, AV, Ad, k1, Bf, Be, Bool.not_false, H8, AZ, Gq]
def bS : C := (Ar (AX 0 (Ao (cOp (AC 28) (AL iLt .i64 (AB 27) (AB 26))
(AP (AB 28)
(Ar (AX 1 (cOp (AC 29) (A9 1 (AB 25) (AB 27))
(cOp (AC 30) (AH (AB 29))
(cOp (AC 7) (AD (AB 30))
(cOp (AC 34) (CQ Int.sub .i64 (AB 7) (AB 5))
(cOp (AC 35) (BO .u64 (AB 34))
(cOp (AC 36) (AQ 36 [(AB 4), (AB 35)])
(cOp (AC 4) (AD (AB 36))
(cOp (AC 5) (AD (AB 7))
Ac)))))))))
(cOp (AC 38) (A4 .i64 (Ai .i64) (AB 27) (kV (.int .i64 1)))
(cOp (AC 27) (AD (AB 38))
Ac)))
(A7 0)))))
(cOp (AC 2) (AD (AB 4))
(cOp (AC 3) (AD (kV (.int .i64 0)))
Ae)))
theorem db : bS = Ar (AX 0 (Ao bB)) bE := rfl
def Yv : C := (cOp (AC 1) (Bu (AB 0))
(cOp (AC 2) (AD (kV (.slice none 0 0)))
(cOp (AC 3) (AD (kV (.int .i64 0)))
(cOp (AC 8) (Aa 3 (AB 1))
(cOp (AC 9) (AQ 9 [(AB 8)])
(cOp (AC 10) (B7 (AB 9))
(AP (AB 10)
(cOp (AC 2) (AD (kV (.slice none 0 0)))
(cOp (AC 3) (AD (kV (.int .i64 167)))
Ae))
(Bx (cOp (AC 11) (AF 0 (AB 1))
(cOp (AC 12) (AH (AB 11))
(cOp (AC 13) (BO .u64 (AB 12))
(cOp (AC 14) (An .weak (AQ 36 [(kV (.slice none 0 0)), (AB 13)]))
(cOp (AC 15) (AF 1 (AB 1))
(EG (AB 15) (DZ (AB 15) []
(cOp (AC 16) (AH (AB 15))
(cOp (AC 17) (BO .u64 (AB 16))
(cOp (AC 18) (An .weak (AQ 36 [(AB 14), (AB 17)]))
(cOp (AC 19) (AF 2 (AB 1))
(EG (AB 19) (DZ (AB 19) []
(cOp (AC 20) (AH (AB 19))
(cOp (AC 21) (Af (AB 20))
(cOp (AC 22) (BO .u64 (AB 21))
(cOp (AC 23) (An .free (AQ 36 [(AB 18), (AB 22)]))
(cOp (AC 4) (AD (AB 23))
(cOp (AC 5) (AD (kV (.int .i64 0)))
(cOp (AC 24) (AF 2 (AB 1))
(cOp (AC 25) (AH (AB 24))
(cOp (AC 26) (Af (AB 25))
(cOp (AC 27) (AD (kV (.int .i64 0)))
bS)))))))))))))))))))))))))))))))
theorem Yu : d15 = Yv := rfl
theorem Qd {n : Nat} {h : Hp} (W : h.Wf) {f t : Int} {u : Value} {zs : List Int} (V : h.Vals u (ints .i64 zs)) (hr : Bq f t zs = true) : ∃ h' v k, call AG (n + 3) 15 [mvV f t u] h = .ok (.tuple ⟨[v, .int .i64 0]⟩) h' ∧ h.Ext h' ∧ h.next ≤ k ∧ k ≤ h'.next ∧ h'.Own k 5 v ((Cj f t zs).map bv) := by
  obtain ⟨f0, f1, t0, t1, _, hl, hrise⟩ := D7 hr
  obtain ⟨a, rfl⟩ := Int.eq_ofNat_of_zero_le f0
  obtain ⟨b, rfl⟩ := Int.eq_ofNat_of_zero_le t0
  have R := Hp.Row.new W 0 [.int .i64 (a : Int), .int .i64 (b : Int), u]
  have x1 := (Hp.Ext.refl W).pushRow 0 [.int .i64 (a : Int), .int .i64 (b : Int), u]
  have hbx : ∀ e : Env, AB 0 e = mvV a b u → Bu (AB 0) (call AG (n + 2)) e h = .ok (.pointer (some ⟨h.next, 0, none⟩)) (h.pushRow 0 [.int .i64 (a : Int), .int .i64 (b : Int), u]) := fun e he => by rw [DF, he, DD W]; rfl
  have V1 := V.ext W x1
  generalize h.pushRow 0 [.int .i64 (a : Int), .int .i64 (b : Int), u] = h1 at R x1 V1 hbx
  have l1 : loadN 3 ⟨h.next, 0, none⟩ h1 = .ok (mvV a b u) h1 := R.loadN (by simp)
  have k1 := EZ (n := n) x1.wf V1 (by omega) (f := (a : Int)) (t := (b : Int))
  rw [hr] at k1
  have x2 := x1.trans (DP x1.wf (f := (a : Int)) (t := (b : Int)) (u := u))
  have R2 := R.ext x1.wf (DP x1.wf (f := (a : Int)) (t := (b : Int)) (u := u))
  generalize h1.pushRow 0 [.int .i64 (a : Int), .int .i64 (b : Int), u] = h2 at k1 x2 R2
  have hlt2 : h.next < h2.next := R2.lt x2.wf
  have Wq := x2.wf.marked.quiet
  have hold : h.next < h2.marked.mark := hlt2
  have Rq : h2.marked.quiet.Row h.next 0 [.int .i64 (a : Int), .int .i64 (b : Int), u] := R2.same rfl
  have xq : h.Ext h2.marked.quiet := x2.marked.quiet
  have yq := Hp.Ext.refl Wq
  have la : load1 ⟨h.next, 0, none⟩ h2.marked = .ok (.int .i64 (a : Int)) h2.marked := (R2.same (h' := h2.marked) rfl).load1 (off := 0) (by simp)
  have cva : C2 .u64 (.int .i64 (a : Int)) h2.marked = .ok (.int .u64 (a : Int)) h2.marked := by rw [B0, B5 (by omega)]
  obtain ⟨g1, v1, u1, y1, o1, n1, _⟩ := IJ (n := n + 1) yq (Nat.le_refl _) (Nat.le_refl _) (k := h2.marked.quiet.next) (v := .slice none 0 0) (l := []) (.inl ⟨rfl, rfl⟩) (by simp) (N := a) (by omega)
  have low1 : h2.marked.mark ≤ g1.low := by have := y1.low; show h2.next ≤ _; have e1 : h2.marked.quiet.low = h2.next := rfl; have e2 : h2.marked.quiet.next = h2.next := rfl; omega
  have q1 : ∀ e, AB 13 e = .int .u64 (a : Int) → An .weak (AQ 36 [(kV (.slice none 0 0)), AB 13]) (call AG (n + 2)) e h2.marked = .ok v1 (h2.marked.back g1) := fun e he => Hh (by simp only [Ah, AV, Ad, Br, he]; exact u1) low1 (by intro h; cases h)
  have xm1 : h.Ext (h2.marked.back g1) := x2.marked.trans y1.back
  have o1 : (h2.marked.back g1).quiet.Own h2.marked.quiet.next 5 v1 ((BR a).map bv) := o1.same rfl
  have Rm1 : (h2.marked.back g1).Row h.next 0 [.int .i64 (a : Int), .int .i64 (b : Int), u] := (Rq.ext Wq y1).same rfl
  have z1 : h2.marked.quiet.Ext (h2.marked.back g1).quiet := y1.requiet
  have mk1 : (h2.marked.back g1).mark = h2.next := rfl
  have nx1 : h2.marked.quiet.next ≤ (h2.marked.back g1).quiet.next := n1
  generalize h2.marked.back g1 = m1 at q1 xm1 o1 Rm1 z1 mk1 nx1
  have lb : load1 ⟨h.next, 1, none⟩ m1 = .ok (.int .i64 (b : Int)) m1 := Rm1.load1 (off := 1) (by simp)
  have cvb : C2 .u64 (.int .i64 (b : Int)) m1 = .ok (.int .u64 (b : Int)) m1 := by rw [B0, B5 (by omega)]
  have ten1 := Cd (n := a) (by omega)
  have ten2 := Cd (n := b) (by omega)
  have ten3 := Cd (n := zs.length) (by omega)
  obtain ⟨g2, v2, u2, y2, o2, n2, _⟩ := IJ (n := n + 1) z1 (Nat.le_refl _) nx1 o1 (by omega) (N := b) (by omega)
  have low2 : m1.mark ≤ g2.low := by have := y2.low; rw [mk1]; have e1 : h2.marked.quiet.low = h2.next := rfl; have e2 : h2.marked.quiet.next = h2.next := rfl; omega
  have q2 : ∀ e, AB 14 e = v1 → AB 17 e = .int .u64 (b : Int) → An .weak (AQ 36 [AB 14, AB 17]) (call AG (n + 2)) e m1 = .ok v2 (m1.back g2) := fun e he1 he2 => Hh (by simp only [Ah, AV, Ad, he1, he2]; exact u2) low2 (by intro h; cases h)
  have xm2 : h.Ext (m1.back g2) := xm1.back2 (xq.trans y2)
  have o2 : (m1.back g2).quiet.Own h2.marked.quiet.next 5 v2 ((BR a ++ BR b).map bv) := o2.same rfl
  have Rm2 : (m1.back g2).Row h.next 0 [.int .i64 (a : Int), .int .i64 (b : Int), u] := (Rq.ext Wq y2).same rfl
  have z2 : h2.marked.quiet.Ext (m1.back g2).quiet := y2.requiet
  have mk2 : (m1.back g2).mark = h2.next := mk1
  have nx2 : h2.marked.quiet.next ≤ (m1.back g2).quiet.next := Nat.le_trans nx1 n2
  generalize m1.back g2 = m2 at q2 xm2 o2 Rm2 z2 mk2 nx2
  have lc : load1 ⟨h.next, 2, none⟩ m2 = .ok u m2 := Rm2.load1 (off := 2) (by simp)
  have V2 := V.ext W xm2
  have cvc : C2 .u64 (.int .i64 (zs.length : Int)) m2 = .ok (.int .u64 (zs.length : Int)) m2 := by rw [B0, B5 (by omega)]
  obtain ⟨g3, v3, u3, y3, o3, n3, _⟩ := IJ (n := n + 1) z2 (Nat.le_refl _) nx2 o2 (by rw [List.length_append]; omega) (N := zs.length) (by omega)
  have low3 : m2.mark ≤ g3.low := by have := y3.low; rw [mk2]; have e1 : h2.marked.quiet.low = h2.next := rfl; have e2 : h2.marked.quiet.next = h2.next := rfl; omega
  have q3 : ∀ e, AB 18 e = v2 → AB 22 e = .int .u64 (zs.length : Int) → An .free (AQ 36 [AB 18, AB 22]) (call AG (n + 2)) e m2 = .ok v3 (m2.back g3) := fun e he1 he2 => Hh (by simp only [Ah, AV, Ad, he1, he2]; exact u3) low3 (by intro h; cases h)
  have xm3 : h.Ext (m2.back g3) := xm2.back2 (xq.trans y3)
  have o3 : (m2.back g3).Own h2.marked.quiet.next 5 v3 ((BR a ++ BR b ++ BR zs.length).map bv) := o3.same rfl
  have Rm3 : (m2.back g3).Row h.next 0 [.int .i64 (a : Int), .int .i64 (b : Int), u] := (Rq.ext Wq y3).same rfl
  have nx3 : h2.marked.quiet.next ≤ (m2.back g3).next := Nat.le_trans nx2 n3
  generalize m2.back g3 = m3 at q3 xm3 o3 Rm3 nx3
  have ld : load1 ⟨h.next, 2, none⟩ m3 = .ok u m3 := Rm3.load1 (off := 2) (by simp)
  have V3 := V.ext W xm3
  have pre : ∃ e1, Yv (call AG (n + 2)) (Ak e0 0 [mvV a b u]) h = bS (call AG (n + 2)) e1 m3 ∧ AB 4 e1 = v3 ∧ AB 5 e1 = .int .i64 0 ∧ AB 25 e1 = u ∧ AB 26 e1 = .int .i64 (zs.length : Int) ∧ AB 27 e1 = .int .i64 0 := by
    unfold Yv
    simp only [AK, AM, Nat.succ_eq_add_one, Nat.zero_add, Nat.reduceAdd, BX, Bj, BZ, Ba, A5, Br, AE, Nat.reduceLT, Nat.reduceEqDiff, if_true, if_false, reduceIte, hbx, Ay, Aw, l1, Ah, AV, Ad, k1, Bf, Be, Bool.not_true, Cw, AW, Aj, Ab, Am, la, B4, cva, q1, H7, EX (show h.next < m1.mark by omega), EX (show h.next < m2.mark by omega), Gf, lb, cvb, q2, lc, Al, V2.ilen, cvc, q3, ld, V3.ilen]
    exact ⟨_, rfl, by simp [AE], by simp [AE], by simp [AE], by simp [AE], by simp [AE]⟩
  obtain ⟨e1, p1, p4, p5, p25, p26, p27⟩ := pre
  obtain ⟨e2, h4, v4, c1, c2, c3, c5, c4⟩ := Mv (n := n + 1) W V hl hrise (k := h2.marked.quiet.next) (Nat.le_of_lt hlt2) nx3 xm3 o3 (by simp only [List.length_append]; omega) p4 p5 p25 p26 p27
  refine ⟨h4, v4, h2.marked.quiet.next, ?_, c3, Nat.le_of_lt hlt2, c5, ?_⟩
  · rw [Qe rfl, Yu, p1, db]
    simp only [BI, Aq, c1, BA, BH]
    unfold bE
    simp only [sT, Nat.reduceLT, Nat.reduceEqDiff, if_true, if_false, reduceIte, c2, AZ, Gq]
  · have e3 : Cj (a : Int) (b : Int) zs = BR a ++ BR b ++ BR zs.length ++ CH 0 zs := by
      unfold Cj
      simp only [Int.toNat_natCast, List.append_assoc]
    rw [e3]
    exact c4
end
end Go.Proofs.Ytkafejncffinmaa
namespace Go.Proofs.Ytkafejncffinmaa
noncomputable section
open Go
set_option maxRecDepth 100000
def d5 : C :=
(cOp (AC 7) (Bu (AB 1))
(cOp (AC 12) (AD (kV (.bool false)))
(cOp (AC 33) (AQ 18 [(AB 0), (kV (.int .i64 20)), (kV (.int .i64 30))])
(cOp (AC 34) (B7 (AB 33))
(cG (AB 34) false (AC 36) (AF 2 (AB 7))
(cG (AB 34) false (AC 37) (AH (AB 36))
(cG (AB 34) false (AC 38) (Af (AB 37))
(cG (AB 34) false (AC 39) (AL iGt .i64 (AB 38) (kV (.int .i64 100)))
(cOp (AC 40) (AS (AB 34) (kV (.bool true)) (AB 39))
(cG (AB 40) false (AC 42) (AD (AB 2))
(cG (AB 40) false (AC 43) (Af (AB 42))
(cG (AB 40) false (AC 44) (AL iGt .i64 (AB 43) (kV (.int .i64 100)))
(cOp (AC 45) (AS (AB 40) (kV (.bool true)) (AB 44))
(cG (AB 45) false (AC 47) (AD (AB 5))
(cG (AB 45) false (AC 48) (Af (AB 47))
(cG (AB 45) false (AC 49) (AL iGt .i64 (AB 48) (kV (.int .i64 500)))
(cOp (AC 50) (AS (AB 45) (kV (.bool true)) (AB 49))
(AP (AB 50)
(cOp (AC 51) (AQ 14 [])
(cOp (AC 12) (AD (AB 51))
Ae))
(Bx (cOp (AC 52) (AF 0 (AB 7))
(EG (AB 52) (DZ (AB 52) []
(cOp (AC 53) (AH (AB 52))
(cOp (AC 54) (AF 1 (AB 7))
(EG (AB 54) (DZ (AB 54) []
(cOp (AC 55) (AH (AB 54))
(cOp (AC 56) (AF 2 (AB 7))
(cOp (AC 57) (AH (AB 56))
(cOp (AC 58) (An .weak (AQ 19 [(AB 57)]))
(cOp (AC 59) (A6 B3.zero [(0, 1, (AB 53)), (1, 1, (AB 55)), (2, 1, (AB 58))])
(cOp (AC 13) (An .strong (At 3 BB))
(cDo (An .free (AY 3 (AB 13) (AB 59)))
(cOp (AC 65) (AQ 8 [(AB 0), (AB 3), (AB 4), (AB 2)])
(cOp (AC 66) (AJ 0 (AB 65))
(cOp (AC 67) (AJ 1 (AB 65))
(cOp (AC 68) (AJ 2 (AB 65))
(cOp (AC 15) (At 3 BB)
(cOp (AC 14) (AD (AB 66))
(cDo (AY 3 (AB 15) (AB 67))
(cOp (AC 16) (AD (AB 68))
(cOp (AC 74) (AQ 20 [(AB 0), (AB 3), (AB 4), (AB 2)])
(cOp (AC 75) (AJ 0 (AB 74))
(cOp (AC 76) (AJ 1 (AB 74))
(cOp (AC 77) (AJ 2 (AB 74))
(cOp (AC 18) (At 3 BB)
(cOp (AC 17) (AD (AB 75))
(cDo (AY 3 (AB 18) (AB 76))
(cOp (AC 19) (AD (AB 77))
(cOp (AC 80) (AQ 21 [(AB 14), (AB 17)])
(cOp (AC 81) (B7 (AB 80))
(cG (AB 81) false (AC 83) (Aa 3 (AB 15))
(cG (AB 81) false (AC 84) (Aa 3 (AB 18))
(cG (AB 81) false (AC 85) (AQ 22 [(AB 83), (AB 84)])
(cG (AB 81) false (AC 86) (B7 (AB 85))
(cOp (AC 87) (AS (AB 81) (kV (.bool true)) (AB 86))
(cG (AB 87) false (AC 89) (AD (AB 16))
(cG (AB 87) false (AC 90) (AD (AB 19))
(cG (AB 87) false (AC 91) (AL iNe .i64 (AB 89) (AB 90))
(cOp (AC 92) (AS (AB 87) (kV (.bool true)) (AB 91))
(AP (AB 92)
(cOp (AC 12) (AD (kV (.bool false)))
Ae)
(cOp (AC 94) (Aa 3 (AB 13))
(cOp (AC 96) (AQ 12 [(AB 94), (AB 3)])
(cOp (AC 97) (AJ 0 (AB 96))
(cOp (AC 98) (AJ 1 (AB 96))
(cOp (AC 20) (At 3 BB)
(cDo (AY 3 (AB 20) (AB 97))
(cOp (AC 21) (AD (AB 98))
(cOp (AC 100) (Aa 3 (AB 7))
(cOp (AC 102) (AQ 23 [(AB 100), (AB 3)])
(cOp (AC 103) (AJ 0 (AB 102))
(cOp (AC 104) (AJ 1 (AB 102))
(cOp (AC 22) (At 3 BB)
(cDo (AY 3 (AB 22) (AB 103))
(cOp (AC 23) (AD (AB 104))
(cOp (AC 106) (Aa 3 (AB 13))
(cOp (AC 107) (AQ 15 [(AB 106)])
(cOp (AC 108) (AJ 0 (AB 107))
(cOp (AC 109) (AJ 1 (AB 107))
(cOp (AC 24) (AD (AB 108))
(cOp (AC 25) (AD (AB 109))
(cOp (AC 111) (Aa 3 (AB 7))
(cOp (AC 112) (AQ 24 [(AB 111)])
(cOp (AC 113) (AJ 0 (AB 112))
(cOp (AC 114) (AJ 1 (AB 112))
(cOp (AC 26) (AD (AB 113))
(cOp (AC 27) (AD (AB 114))
(cOp (AC 117) (AQ 16 [(AB 5)])
(cOp (AC 118) (AJ 0 (AB 117))
(cOp (AC 119) (AJ 1 (AB 117))
(cOp (AC 28) (At 3 BB)
(cDo (AY 3 (AB 28) (AB 118))
(cOp (AC 29) (AD (AB 119))
(cOp (AC 122) (AQ 25 [(AB 5)])
(cOp (AC 123) (AJ 0 (AB 122))
(cOp (AC 124) (AJ 1 (AB 122))
(cOp (AC 30) (At 3 BB)
(cDo (AY 3 (AB 30) (AB 123))
(cOp (AC 31) (AD (AB 124))
(Bx (cOp (AC 125) (Aa 3 (AB 20))
(cOp (AC 126) (Aa 3 (AB 22))
(cOp (AC 127) (An .free (AQ 22 [(AB 125), (AB 126)]))
(cG (AB 127) true (AC 129) (AD (AB 21))
(cG (AB 127) true (AC 130) (AD (AB 23))
(cG (AB 127) true (AC 131) (AL iEq .i64 (AB 129) (AB 130))
(cOp (AC 132) (AS (AB 127) (AB 131) (kV (.bool false)))
(cG (AB 132) true (AC 134) (AD (AB 24))
(cG (AB 132) true (AC 135) (AD (AB 26))
(cG (AB 132) true (AC 136) (An .free (AQ 26 [(AB 134), (AB 135)]))
(cOp (AC 137) (AS (AB 132) (AB 136) (kV (.bool false)))
(cG (AB 137) true (AC 139) (AD (AB 25))
(cG (AB 137) true (AC 140) (AD (AB 27))
(cG (AB 137) true (AC 141) (AL iEq .i64 (AB 139) (AB 140))
(cOp (AC 142) (AS (AB 137) (AB 141) (kV (.bool false)))
(cG (AB 142) true (AC 144) (Aa 3 (AB 28))
(cG (AB 142) true (AC 145) (Aa 3 (AB 30))
(cG (AB 142) true (AC 146) (An .free (AQ 22 [(AB 144), (AB 145)]))
(cOp (AC 147) (AS (AB 142) (AB 146) (kV (.bool false)))
(cG (AB 147) true (AC 149) (AD (AB 29))
(cG (AB 147) true (AC 150) (AD (AB 31))
(cG (AB 147) true (AC 151) (AL iEq .i64 (AB 149) (AB 150))
(cOp (AC 152) (AS (AB 147) (AB 151) (kV (.bool false)))
(cG (AB 152) true (AC 154) (Aa 3 (AB 13))
(cG (AB 152) true (AC 155) (An .weak (AQ 9 [(AB 154)]))
(EG (AB 7) (DZ (AB 7) []
(cG (AB 152) true (AC 156) (Aa 3 (AB 7))
(cG (AB 152) true (AC 157) (An .free (AQ 27 [(AB 156)]))
(cG (AB 152) true (AC 158) (oEq ty4.k false (AB 155) (AB 157))
(cOp (AC 159) (AS (AB 152) (AB 158) (kV (.bool false)))
(cG (AB 159) true (AC 161) (Aa 3 (AB 13))
(cG (AB 159) true (AC 162) (An .weak (AQ 13 [(AB 161)]))
(EG (AB 7) (DZ (AB 7) []
(cG (AB 159) true (AC 163) (Aa 3 (AB 7))
(cG (AB 159) true (AC 164) (An .free (AQ 27 [(AB 163)]))
(cG (AB 159) true (AC 165) (AD (AB 164))
(cG (AB 165) true (AC 166) (AF 2 (AB 7))
(cG (AB 165) true (AC 167) (AH (AB 166))
(cG (AB 165) true (AC 168) (Af (AB 167))
(cG (AB 165) true (AC 169) (AL iEq .i64 (AB 168) (kV (.int .i64 0)))
(cG (AB 159) true (AC 170) (AS (AB 165) (AB 169) (kV (.bool false)))
(cG (AB 159) true (AC 171) (oEq ty4.k false (AB 162) (AB 170))
(cOp (AC 172) (AS (AB 159) (AB 171) (kV (.bool false)))
(cG (AB 172) true (AC 174) (Aa 3 (AB 13))
(cG (AB 172) true (AC 175) (Aa 3 (AB 7))
(cG (AB 172) true (AC 176) (An .free (AQ 22 [(AB 174), (AB 175)]))
(cOp (AC 177) (AS (AB 172) (AB 176) (kV (.bool false)))
(cG (AB 177) true (AC 179) (An .free (AQ 14 []))
(cOp (AC 180) (AS (AB 177) (AB 179) (kV (.bool false)))
(cOp (AC 12) (AD (AB 180))
Ae))))))))))))))))))))))))))))))))))))))))))))))))))))))))))))))))))))))))))))))))))))))))))))))))))))))))))))))))))))))))))))))))))))))))))))))))))))))))
theorem XB {n : Nat} {args : List Value} {h : Hp} (hl : Nat.ble (Bk args) 320 = true) : call AG (Nat.succ n) 5 args h = Bs [.t (AB 12)] (d5 (call AG n) (Ak e0 0 args) h) := by
  have hb : AG.get 5 = some b5 := by kernel_rfl
  rw [BM hb]
  have hd : b5 = ⟨[.t (AB 12)], d5⟩ := by kernel_rfl
  rw [hd, BC hl]
def d19 : C :=
(cOp (AC 2) (AD (kV (.slice none 0 0)))
(cOp (AC 3) (AD (kV (.slice none 0 0)))
(cOp (AC 6) (Az 1 8 3 (AB 3) (AB 0))
(cOp (AC 2) (AD (AB 6))
Ae))))
theorem Qf {n : Nat} {args : List Value} {h : Hp} (hl : Nat.ble (Bk args) 320 = true) : call AG (Nat.succ n) 19 args h = Bs [.t (AB 2)] (d19 (call AG n) (Ak e0 0 args) h) := by
  have hb : AG.get 19 = some b19 := by kernel_rfl
  rw [BM hb]
  have hd : b19 = ⟨[.t (AB 2)], d19⟩ := by kernel_rfl
  rw [hd, BC hl]
def d24 : C :=
(cOp (AC 1) (Bu (AB 0))
(cOp (AC 2) (AD (kV (.slice none 0 0)))
(cOp (AC 3) (AD (kV (.int .i64 0)))
(cOp (AC 7) (Aa 3 (AB 1))
(cOp (AC 8) (AQ 27 [(AB 7)])
(cOp (AC 9) (B7 (AB 8))
(AP (AB 9)
(cOp (AC 2) (AD (kV (.slice none 0 0)))
(cOp (AC 3) (AD (kV (.int .i64 167)))
Ae))
(cOp (AC 10) (AF 0 (AB 1))
(cOp (AC 11) (AH (AB 10))
(cOp (AC 12) (BO .u64 (AB 11))
(cOp (AC 13) (AQ 42 [(AB 12)])
(cOp (AC 4) (AD (AB 13))
(cOp (AC 15) (AF 1 (AB 1))
(cOp (AC 16) (AH (AB 15))
(cOp (AC 17) (BO .u64 (AB 16))
(cOp (AC 18) (AQ 43 [(AB 4), (AB 17)])
(cOp (AC 4) (AD (AB 18))
(cOp (AC 20) (AF 2 (AB 1))
(cOp (AC 21) (AH (AB 20))
(cOp (AC 22) (Af (AB 21))
(cOp (AC 23) (BO .u64 (AB 22))
(cOp (AC 24) (AQ 43 [(AB 4), (AB 23)])
(cOp (AC 4) (AD (AB 24))
(cOp (AC 5) (AD (kV (.int .i64 0)))
(Ar (AX 0 (Ao (cOp (AC 26) (AF 2 (AB 1))
(cOp (AC 27) (AH (AB 26))
(cOp (AC 28) (Af (AB 27))
(cOp (AC 29) (AL iLt .i64 (AB 5) (AB 28))
(AP (AB 29)
(Ar (AX 1 (cOp (AC 32) (AF 2 (AB 1))
(cOp (AC 33) (AH (AB 32))
(cOp (AC 35) (A9 1 (AB 33) (AB 5))
(cOp (AC 36) (AH (AB 35))
(cOp (AC 6) (AD (AB 36))
(cOp (AC 38) (AL iGt .i64 (AB 5) (kV (.int .i64 0)))
(Ar (AP (AB 38)
(cOp (AC 40) (AF 2 (AB 1))
(cOp (AC 41) (AH (AB 40))
(cOp (AC 43) (CQ Int.sub .i64 (AB 5) (kV (.int .i64 1)))
(cOp (AC 44) (A9 1 (AB 41) (AB 43))
(cOp (AC 45) (AH (AB 44))
(cOp (AC 46) (CQ Int.sub .i64 (AB 6) (AB 45))
(cOp (AC 6) (AD (AB 46))
Ac)))))))
Ac)
(cOp (AC 49) (BO .u64 (AB 6))
(cOp (AC 50) (AQ 43 [(AB 4), (AB 49)])
(cOp (AC 4) (AD (AB 50))
Ac)))))))))))
(cOp (AC 31) (A4 .i64 (Ai .i64) (AB 5) (kV (.int .i64 1)))
(cOp (AC 5) (AD (AB 31))
Ac)))
(A7 0))))))))
(cOp (AC 2) (AD (AB 4))
(cOp (AC 3) (AD (kV (.int .i64 0)))
Ae)))))))))))))))))))))))))))
theorem Qh {n : Nat} {args : List Value} {h : Hp} (hl : Nat.ble (Bk args) 320 = true) : call AG (Nat.succ n) 24 args h = Bs [.t (AB 2), .t (AB 3)] (d24 (call AG n) (Ak e0 0 args) h) := by
  have hb : AG.get 24 = some b24 := by kernel_rfl
  rw [BM hb]
  have hd : b24 = ⟨[.t (AB 2), .t (AB 3)], d24⟩ := by kernel_rfl
  rw [hd, BC hl]
def d27 : C :=
(cOp (AC 1) (Bu (AB 0))
(cOp (AC 2) (AD (kV (.bool false)))
(cOp (AC 3) (AF 0 (AB 1))
(cOp (AC 4) (AH (AB 3))
(cOp (AC 5) (AL iGe .i64 (AB 4) (kV (.int .i64 0)))
(cG (AB 5) true (AC 7) (AF 0 (AB 1))
(cG (AB 5) true (AC 8) (AH (AB 7))
(cG (AB 5) true (AC 9) (AL iLt .i64 (AB 8) (kV (.int .i64 256)))
(cOp (AC 10) (AS (AB 5) (AB 9) (kV (.bool false)))
(cG (AB 10) true (AC 12) (AF 1 (AB 1))
(cG (AB 10) true (AC 13) (AH (AB 12))
(cG (AB 10) true (AC 14) (AL iGe .i64 (AB 13) (kV (.int .i64 0)))
(cOp (AC 15) (AS (AB 10) (AB 14) (kV (.bool false)))
(cG (AB 15) true (AC 17) (AF 1 (AB 1))
(cG (AB 15) true (AC 18) (AH (AB 17))
(cG (AB 15) true (AC 19) (AL iLt .i64 (AB 18) (kV (.int .i64 256)))
(cOp (AC 20) (AS (AB 15) (AB 19) (kV (.bool false)))
(cG (AB 20) true (AC 22) (AF 0 (AB 1))
(cG (AB 20) true (AC 23) (AH (AB 22))
(cG (AB 20) true (AC 24) (AF 1 (AB 1))
(cG (AB 20) true (AC 25) (AH (AB 24))
(cG (AB 20) true (AC 26) (AL iNe .i64 (AB 23) (AB 25))
(cOp (AC 27) (AS (AB 20) (AB 26) (kV (.bool false)))
(cG (AB 27) true (AC 29) (AF 2 (AB 1))
(cG (AB 27) true (AC 30) (AH (AB 29))
(cG (AB 27) true (AC 31) (Af (AB 30))
(cG (AB 27) true (AC 32) (AL iLe .i64 (AB 31) (kV (.int .i64 10000)))
(cOp (AC 33) (AS (AB 27) (AB 32) (kV (.bool false)))
(cG (AB 33) true (AC 35) (AF 2 (AB 1))
(cG (AB 33) true (AC 36) (AH (AB 35))
(cG (AB 33) true (AC 37) (AQ 40 [(AB 36)])
(cOp (AC 38) (AS (AB 33) (AB 37) (kV (.bool false)))
(cOp (AC 2) (AD (AB 38))
Ae)))))))))))))))))))))))))))))))))
theorem Ya {n : Nat} {args : List Value} {h : Hp} (hl : Nat.ble (Bk args) 320 = true) : call AG (Nat.succ n) 27 args h = Bs [.t (AB 2)] (d27 (call AG n) (Ak e0 0 args) h) := by
  have hb : AG.get 27 = some b27 := by kernel_rfl
  rw [BM hb]
  have hd : b27 = ⟨[.t (AB 2)], d27⟩ := by kernel_rfl
  rw [hd, BC hl]
def d43 : C :=
(cOp (AC 4) (AD (kV (.slice none 0 0)))
(cOp (AC 7) (AQ 42 [(AB 1)])
(cOp (AC 8) (AQ 50 [(AB 0), (AB 7)])
(cOp (AC 4) (AD (AB 8))
Ae))))
theorem Yk {n : Nat} {args : List Value} {h : Hp} (hl : Nat.ble (Bk args) 320 = true) : call AG (Nat.succ n) 43 args h = Bs [.t (AB 4)] (d43 (call AG n) (Ak e0 0 args) h) := by
  have hb : AG.get 43 = some b43 := by kernel_rfl
  rw [BM hb]
  have hd : b43 = ⟨[.t (AB 4)], d43⟩ := by kernel_rfl
  rw [hd, BC hl]
def d50 : C :=
(cOp (AC 4) (AD (kV (.slice none 0 0)))
(cOp (AC 6) (Cm (AB 0))
(cOp (AC 8) (Cm (AB 1))
(cOp (AC 9) (Kx (AB 6) (AB 8))
(cOp (AC 10) (D4 5 (AB 9))
(cOp (AC 4) (AD (AB 10))
Ae))))))
theorem Yn {n : Nat} {args : List Value} {h : Hp} (hl : Nat.ble (Bk args) 320 = true) : call AG (Nat.succ n) 50 args h = Bs [.t (AB 4)] (d50 (call AG n) (Ak e0 0 args) h) := by
  have hb : AG.get 50 = some b50 := by kernel_rfl
  rw [BM hb]
  have hd : b50 = ⟨[.t (AB 4)], d50⟩ := by kernel_rfl
  rw [hd, BC hl]
end
end Go.Proofs.Ytkafejncffinmaa
set_option linter.unusedVariables false
set_option linter.unusedSimpArgs false
namespace Go.Proofs.Ytkafejncffinmaa
noncomputable section
open Go
set_option maxRecDepth 100000
def vaB : C := (AX 1 (cOp (AC 5) (AL iLt .u64 (AB 0) (kV (.int .u64 128)))
(AP (AB 5)
(cOp (AC 8) (BO .u8 (AB 0))
(cOp (AC 9) (AU 1 (BE ty5.zero 1) [(0, 1, (AB 8))])
(cOp (AC 10) (Az 1 1 5 (AB 3) (AB 9))
(cOp (AC 2) (AD (AB 10))
Ae))))
(cOp (AC 13) (C8 .u64 (AB 0) (kV (.int .u64 128)))
(cOp (AC 14) (BO .u8 (AB 13))
(cOp (AC 15) (A4 .u8 (Ai .u8) (AB 14) (kV (.int .u8 128)))
(cOp (AC 16) (AU 1 (BE ty5.zero 1) [(0, 1, (AB 15))])
(cOp (AC 17) (Az 1 1 5 (AB 3) (AB 16))
(cOp (AC 3) (AD (AB 17))
(cOp (AC 19) (Kz .u64 (AB 0) (kV (.int .u64 128)))
(cOp (AC 0) (AD (AB 19))
Ac)))))))))))
def d42 : C := cOp (AC 2) (AD (kV (.slice none 0 0))) (cOp (AC 3) (AD (kV (.slice none 0 0))) (AX 0 (Ao vaB)))
theorem Yj {n : Nat} {args : List Value} {h : Hp} (hl : Nat.ble (Bk args) 320 = true) : call AG (Nat.succ n) 42 args h = Bs [.t (AB 2)] (d42 (call AG n) (Ak e0 0 args) h) := by
  have hb : AG.get 42 = some b42 := by kernel_rfl
  rw [BM hb]
  have hd : b42 = ⟨[.t (AB 2)], d42⟩ := by kernel_rfl
  rw [hd, BC hl]
theorem Y5 : d42 = cOp (AC 2) (AD (kV (.slice none 0 0))) (cOp (AC 3) (AD (kV (.slice none 0 0))) (AX 0 (Ao vaB))) := rfl
theorem W8 {F : CallF} {h : Hp} (W : h.Wf) {N : Nat} (hN : N < 18446744073709551616) {e : Env} (s0 : AB 0 e = .int .u64 (N : Int)) (s3 : AB 3 e = .slice none 0 0) :
    ∃ e' h' v, Ao vaB F e h = .ret e' h' ∧ AB 2 e' = v ∧ h.Ext h' ∧ h'.Own h.next 5 v ((BR N).map bv) := by
  have hten := Cd hN
  refine Bo (I := fun i e' h' => ∃ v' xs m, AB 3 e' = v' ∧ AB 0 e' = .int .u64 ((m : Nat) : Int) ∧ m < 18446744073709551616 ∧ BR N = xs ++ BR m ∧ i + (BR m).length = (BR N).length ∧ h.Ext h' ∧ h'.Own h.next 5 v' (xs.map bv))
    (Q := fun x => ∃ e' h' v, x = .ret e' h' ∧ AB 2 e' = v ∧ h.Ext h' ∧ h'.Own h.next 5 v ((BR N).map bv)) 20 (by omega) (fun i e' h' ⟨v', xs, m, t3, t0, hm, hx, hi, x1, o1⟩ => ?_)
    ⟨.slice none 0 0, [], N, s3, s0, hN, rfl, Nat.zero_add _, .refl W, .inl ⟨rfl, rfl⟩⟩
  have hlen := congrArg List.length hx
  rw [List.length_append] at hlen
  have W1 := x1.wf
  by_cases h1 : m < 128
  · right
    have c1 : iLt (m : Int) 128 = true := by rw [As]; simp; omega
    have v1 : C2 .u8 (.int .u64 (m : Int)) h' = .ok (.int .u8 (m : Int)) h' := by
      rw [B0, GI, Nat.mod_eq_of_lt (show m < 256 by omega)]
    have os : ∀ e, AB 8 e = .int .u8 (m : Int) → AU 1 (BE ty5.zero 1) [(0, 1, AB 8)] F e h' = .ok (.slice (some ⟨h'.next, 0, none⟩) 1 1) (h'.pushRow 0 [.int .u8 (m : Int)]) := fun e he => by rw [O8]; exact Cn W1 he rfl rfl
    obtain ⟨h2, v2, a2, x2, o2, _, _⟩ := Dt (eb := 1) (n := (m : Int)) (kd := .u8) x1 (Nat.le_refl _) x1.next o1 (by rw [List.length_map]; omega)
    have hrun : ∃ e2, vaB F e' h' = .ret e2 h2 ∧ AB 2 e2 = v2 := by
      unfold vaB
      simp only [sT, Nat.reduceLT, Nat.reduceEqDiff, if_true, if_false, reduceIte, AO, AN, t0, c1, B4, v1, os, Bv, t3, a2, BL]
      exact ⟨_, rfl, by simp [AE]⟩
    obtain ⟨e2, b1, b2⟩ := hrun
    rw [b1]
    refine ⟨rfl, e2, h2, v2, rfl, b2, x2, ?_⟩
    rw [hx, DX h1, List.map_append]; exact o2
  · left
    have c1 : iLt (m : Int) 128 = false := by rw [As]; simp; omega
    have r1 : MX .u64 (.int .u64 (m : Int)) (.int .u64 128) h' = .ok (.int .u64 ((m % 128 : Nat) : Int)) h' := by rw [HD (by omega)]; rfl
    have v1 : C2 .u8 (.int .u64 ((m % 128 : Nat) : Int)) h' = .ok (.int .u8 ((m % 128 : Nat) : Int)) h' := by
      rw [B0, GI, Nat.mod_eq_of_lt (show m % 128 < 256 by omega)]
    have a1 : Ci .u8 (.int .u8 ((m % 128 : Nat) : Int)) (.int .u8 128) h' = .ok (.int .u8 ((m % 128 + 128 : Nat) : Int)) h' := by
      rw [Bc, show ((m % 128 : Nat) : Int) + 128 = ((m % 128 + 128 : Nat) : Int) by omega, GI, Nat.mod_eq_of_lt (show m % 128 + 128 < 256 by omega)]
    have os : ∀ e, AB 15 e = .int .u8 ((m % 128 + 128 : Nat) : Int) → AU 1 (BE ty5.zero 1) [(0, 1, AB 15)] F e h' = .ok (.slice (some ⟨h'.next, 0, none⟩) 1 1) (h'.pushRow 0 [.int .u8 ((m % 128 + 128 : Nat) : Int)]) := fun e he => by rw [O8]; exact Cn W1 he rfl rfl
    have hpos := Hm (m / 128)
    rw [Ee (n := m) (by omega)] at hi hlen hx
    rw [List.length_cons] at hi hlen
    obtain ⟨h2, v2, a2, x2, o2, _, _⟩ := Dt (eb := 1) (n := ((m % 128 + 128 : Nat) : Int)) (kd := .u8) x1 (Nat.le_refl _) x1.next o1 (by rw [List.length_map]; omega)
    have d1 : RH .u64 (.int .u64 (m : Int)) (.int .u64 128) h2 = .ok (.int .u64 ((m / 128 : Nat) : Int)) h2 := by
      have : IntKind.u64.wrap ((m : Int).tdiv 128) = ((m / 128 : Nat) : Int) := B5 (n := m / 128) (by omega)
      rw [OJ (by omega), this]
    have hrun : ∃ e2, vaB F e' h' = .norm e2 h2 ∧ AB 3 e2 = v2 ∧ AB 0 e2 = .int .u64 ((m / 128 : Nat) : Int) := by
      unfold vaB
      simp only [sT, Nat.reduceLT, Nat.reduceEqDiff, if_true, if_false, reduceIte, AO, AN, t0, c1, Ep, r1, B4, v1, Bb, a1, os, Bv, t3, a2, On, d1, Ce]
      exact ⟨_, rfl, by simp [AE], by simp [AE]⟩
    obtain ⟨e2, b1, b2, b3⟩ := hrun
    refine ⟨by omega, e2, h2, b1, v2, xs ++ [m % 128 + 128], m / 128, b2, b3, by omega, ?_, by omega, x2, ?_⟩
    · rw [hx]; simp
    · rw [List.map_append]; exact o2
theorem KK {n : Nat} {h : Hp} (W : h.Wf) {N : Nat} (hN : N < 18446744073709551616) : ∃ h' v, call AG (n + 1) 42 [.int .u64 (N : Int)] h = .ok v h' ∧ h.Ext h' ∧ h'.Own h.next 5 v ((BR N).map bv) := by
  obtain ⟨e2, h', v, q1, q2, q3, q4⟩ := W8 (F := call AG n) W hN (e := Env.set 3 (.slice none 0 0) (Env.set 2 (.slice none 0 0) (Env.set 0 (.int .u64 (N : Int)) e0))) (by simp [AE]) (by simp [AE])
  refine ⟨h', v, ?_, q3, q4⟩
  rw [Yj rfl, Y5]
  simp only [AK, AM, Nat.succ_eq_add_one, Nat.zero_add, Nat.reduceAdd, BX, BZ, A5, Br, Nat.reduceLT, Aq]
  rw [q1]
  simp only [BL, AZ, Ap, q2]
theorem VP {F : CallF} {e : Env} {h : Hp} {x y : O} {a b : List Nat} (hx : x e = .string ⟨⟨a.map UInt8.ofNat⟩⟩) (hy : y e = .string ⟨⟨b.map UInt8.ofNat⟩⟩) (hl : a.length + b.length ≤ 2000000) : Kx x y F e h = .ok (.string ⟨⟨(a ++ b).map UInt8.ofNat⟩⟩) h := by
  unfold Kx
  rw [hx, hy]
  show (bif Nat.ble (Nat.add (Bk (a.map UInt8.ofNat)) (Bk (b.map UInt8.ofNat))) most then R.ok (.string ⟨⟨a.map UInt8.ofNat ++ b.map UInt8.ofNat⟩⟩) h else .no) = _
  rw [A0.2 (show Nat.add (Bk (a.map UInt8.ofNat)) (Bk (b.map UInt8.ofNat)) ≤ most from (by
    rw [Bh, Bh, List.length_map, List.length_map]
    show a.length + b.length ≤ 1099511627776
    omega)), List.map_append]; rfl
theorem Qa (l : List Nat) (hb : ∀ x ∈ l, x < 256) : B9 (l.map UInt8.ofNat) = l.map bv := by
  rw [EA, List.map_map]
  refine List.map_congr_left fun x hx => ?_
  show Value.int .u8 ((UInt8.ofNat x).toNat : Int) = .int .u8 (x : Int)
  rw [UInt8.toNat_ofNat', Nat.mod_eq_of_lt (hb x hx)]
theorem MD {F : CallF} {e : Env} {h : Hp} (W : h.Wf) {x : O} {a : List Nat} (hx : x e = .string ⟨⟨a.map UInt8.ofNat⟩⟩) (hb : ∀ x ∈ a, x < 256) (hl : a.length ≤ 2000000) (hp : 0 < a.length) :
    D4 5 x F e h = .ok (.slice (some ⟨h.next, 0, none⟩) a.length a.length) (h.pushRow 6 (a.map bv)) := by
  unfold D4
  rw [hx]
  show (forceN (Bk (a.map UInt8.ofNat)) fun n => bif Nat.ble n most then newRow h 6 (B9 (a.map UInt8.ofNat)) (ED n n) else .no) = _
  rw [Av, Bh, List.length_map, A0.2 (show a.length ≤ most from (by show _ ≤ 1099511627776; omega)), Qa a hb]
  show newRow h 6 (a.map bv) (ED a.length a.length) = _
  rw [FI W]; rfl
theorem Pc {n : Nat} {h : Hp} (W : h.Wf) {u v : Value} {a b : List Nat} (U : h.Vals u (a.map bv)) (V : h.Vals v (b.map bv)) (ha : ∀ x ∈ a, x < 256) (hb : ∀ x ∈ b, x < 256) (hl : a.length + b.length ≤ 2000000) (hp : 0 < b.length) :
    ∃ h' w, call AG (n + 1) 50 [u, v] h = .ok w h' ∧ h.Ext h' ∧ h'.Own h.next 5 w ((a ++ b).map bv) := by
  have hab : ∀ x ∈ a ++ b, x < 256 := fun x hx => (List.mem_append.1 hx).elim (ha x) (hb x)
  have hlen : (a ++ b).length = a.length + b.length := List.length_append
  have k1 : ∀ e : Env, AB 6 e = .string ⟨⟨a.map UInt8.ofNat⟩⟩ → AB 8 e = .string ⟨⟨b.map UInt8.ofNat⟩⟩ → Kx (AB 6) (AB 8) (call AG n) e h = .ok (.string ⟨⟨(a ++ b).map UInt8.ofNat⟩⟩) h := fun e h1 h2 => VP h1 h2 hl
  have k2 : ∀ e : Env, AB 9 e = .string ⟨⟨(a ++ b).map UInt8.ofNat⟩⟩ → D4 5 (AB 9) (call AG n) e h = .ok (.slice (some ⟨h.next, 0, none⟩) (a ++ b).length (a ++ b).length) (h.pushRow 6 ((a ++ b).map bv)) := fun e h1 => MD W h1 hab (by omega) (by omega)
  refine ⟨_, .slice (some ⟨h.next, 0, none⟩) (a ++ b).length (a ++ b).length, ?_, (Hp.Ext.refl W).pushRow 6 ((a ++ b).map bv), .inr ⟨h.next, by rw [List.length_map], Hp.Row.new W 6 _, Nat.le_refl _, W.big⟩⟩
  rw [Yn rfl]
  unfold d50
  simp only [AK, AM, Nat.succ_eq_add_one, Nat.zero_add, Nat.reduceAdd, sT, Nat.reduceLT, Nat.reduceEqDiff, if_true, if_false, reduceIte, GE, U.bytes.str, V.bytes.str, k1, k2, AZ, Ap]
theorem JP {n : Nat} {h : Hp} (W : h.Wf) {u : Value} {a : List Nat} (U : h.Vals u (a.map bv)) (ha : ∀ x ∈ a, x < 256) (hl : a.length ≤ 1000000) {N : Nat} (hN : N < 18446744073709551616) :
    ∃ h' w, call AG (n + 2) 43 [u, .int .u64 (N : Int)] h = .ok w h' ∧ h.Ext h' ∧ h'.Own h.next 5 w ((a ++ BR N).map bv) := by
  obtain ⟨h1, v, k1, x1, o1⟩ := KK (n := n) W hN
  have := Cd hN
  obtain ⟨h2, w, k2, x2, o2⟩ := Pc (n := n) x1.wf (U.ext W x1) o1.vals ha (DC N) (by omega) (Hm N)
  refine ⟨h2, w, ?_, x1.trans x2, o2.le x1.next⟩
  rw [Yk rfl]
  unfold d43
  simp only [AK, AM, Nat.succ_eq_add_one, Nat.zero_add, Nat.reduceAdd, sT, Nat.reduceLT, Nat.reduceEqDiff, if_true, if_false, reduceIte, Ah, AV, Ad, k1, k2, AZ, Ap]
end
end Go.Proofs.Ytkafejncffinmaa

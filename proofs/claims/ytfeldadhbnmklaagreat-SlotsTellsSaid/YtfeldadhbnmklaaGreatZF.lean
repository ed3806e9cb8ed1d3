/-
  THE CANONICAL MACHINE's FUNCTIONS of this seat. Printed by program (compc.py).
  'awake' answers true: the kernel has reckoned it; so it is one step.
  THE CANONICAL MACHINE's FUNCTIONS of this seat, 'awake' a step. Printed by program (compc.py, awk.py).
  The code of functions with slots by number, and what each is at a call. Printed by program (symc.py).
  bytes.Uint and bytes.GetUint: what they give, for any number, any bytes.
  Numbers of the document: Varint, joined, Uint, GetUint of cooperageref01: what these functions give.
  GetUint of the document (cooperageref01): what it gives, whatever bytes it is handed.
  Slots' headers in plain lists: sums by a table, what is sealed, what a header says; both ways of reading come to the same.
  bytes.Sum and the document's: what they give, by any table.
  What is sealed and unsealed, bytes' copies, bytes that are the same: the program's and the document's.
  bytes.Unseal: what was sealed; copies of bytes; a slot's numbers that may be.
  Which slots are right, how many sectors a place has, slots that are the same: the program's and the document's.
  The document's header and Head.
-/
import Derived.Test.YtfeldadhbnmklaaGreatZE
namespace Go.Proofs.YtfeldadhbnmklaaGreat
noncomputable section
open Go
theorem AV {a b : String} (h : (a == b) = false) : a ≠ b := by simpa using h
theorem o2 : A0 Tryz.prog ty 2 b2 := Or.inl ⟨Tryz.f2, al2, Tryz.func2, AV (by kernel_rfl), df⟩
theorem o3 : A0 Tryz.prog ty 3 b3 := Or.inl ⟨Tryz.f3, al3, Tryz.func3, AV (by kernel_rfl), dh⟩
theorem o4 : A0 Tryz.prog ty 4 b4 := Or.inl ⟨Tryz.f4, al4, Tryz.func4, AV (by kernel_rfl), dj⟩
theorem o5 : A0 Tryz.prog ty 5 b5 := Or.inl ⟨Tryz.f5, al5, Tryz.func5, AV (by kernel_rfl), dk⟩
theorem o6 : A0 Tryz.prog ty 6 b6 := Or.inl ⟨Tryz.f6, al6, Tryz.func6, AV (by kernel_rfl), dm⟩
theorem o7 : A0 Tryz.prog ty 7 b7 := Or.inl ⟨Tryz.f7, al7, Tryz.func7, AV (by kernel_rfl), dn⟩
theorem o8 : A0 Tryz.prog ty 8 b8 := Or.inl ⟨Tryz.f8, al8, Tryz.func8, AV (by kernel_rfl), dp⟩
theorem o9 : A0 Tryz.prog ty 9 b9 := Or.inl ⟨Tryz.f9, al9, Tryz.func9, AV (by kernel_rfl), dq⟩
theorem o10 : A0 Tryz.prog ty 10 b10 := Or.inl ⟨Tryz.f10, bX, Tryz.func10, AV (by kernel_rfl), YD⟩
theorem o11 : A0 Tryz.prog ty 11 b11 := Or.inl ⟨Tryz.f11, bY, Tryz.func11, AV (by kernel_rfl), YE⟩
theorem o12 : A0 Tryz.prog ty 12 b12 := Or.inl ⟨Tryz.f12, bZ, Tryz.func12, AV (by kernel_rfl), YF⟩
theorem o13 : A0 Tryz.prog ty 13 b13 := Or.inl ⟨Tryz.f13, ba, Tryz.func13, AV (by kernel_rfl), YG⟩
theorem o14 : A0 Tryz.prog ty 14 b14 := Or.inl ⟨Tryz.f14, bb, Tryz.func14, AV (by kernel_rfl), YH⟩
theorem o15 : A0 Tryz.prog ty 15 b15 := Or.inl ⟨Tryz.f15, bf, Tryz.func15, AV (by kernel_rfl), YI⟩
theorem o16 : A0 Tryz.prog ty 16 b16 := Or.inl ⟨Tryz.f16, bg, Tryz.func16, AV (by kernel_rfl), YJ⟩
theorem o17 : A0 Tryz.prog ty 17 b17 := Or.inl ⟨Tryz.f17, bh, Tryz.func17, AV (by kernel_rfl), YK⟩
theorem o18 : A0 Tryz.prog ty 18 b18 := Or.inl ⟨Tryz.f18, bi, Tryz.func18, AV (by kernel_rfl), YL⟩
theorem o19 : A0 Tryz.prog ty 19 b19 := Or.inl ⟨Tryz.f19, bj, Tryz.func19, AV (by kernel_rfl), YM⟩
theorem o20 : A0 Tryz.prog ty 20 b20 := Or.inl ⟨Tryz.f20, bk, Tryz.func20, AV (by kernel_rfl), YN⟩
theorem o21 : A0 Tryz.prog ty 21 b21 := Or.inl ⟨Tryz.f21, bm, Tryz.func21, AV (by kernel_rfl), YO⟩
theorem o22 : A0 Tryz.prog ty 22 b22 := Or.inl ⟨Tryz.f22, bn, Tryz.func22, AV (by kernel_rfl), YP⟩
theorem o23 : A0 Tryz.prog ty 23 b23 := Or.inl ⟨Tryz.f23, bo, Tryz.func23, AV (by kernel_rfl), YQ⟩
theorem o24 : A0 Tryz.prog ty 24 b24 := Or.inl ⟨Tryz.f24, bp, Tryz.func24, AV (by kernel_rfl), YR⟩
theorem o25 : A0 Tryz.prog ty 25 b25 := Or.inl ⟨Tryz.f25, bq, Tryz.func25, AV (by kernel_rfl), YS⟩
theorem o26 : A0 Tryz.prog ty 26 b26 := Or.inl ⟨Tryz.f26, bt, Tryz.func26, AV (by kernel_rfl), YT⟩
theorem o27 : A0 Tryz.prog ty 27 b27 := Or.inl ⟨Tryz.f27, bu, Tryz.func27, AV (by kernel_rfl), YU⟩
theorem o28 : A0 Tryz.prog ty 28 b28 := Or.inl ⟨Tryz.f28, bw, Tryz.func28, AV (by kernel_rfl), YV⟩
theorem o29 : A0 Tryz.prog ty 29 b29 := Or.inl ⟨Tryz.f29, bz, Tryz.func29, AV (by kernel_rfl), YW⟩
theorem o30 : A0 Tryz.prog ty 30 b30 := Or.inl ⟨Tryz.f30, cA, Tryz.func30, AV (by kernel_rfl), YX⟩
theorem o31 : A0 Tryz.prog ty 31 b31 := Or.inl ⟨Tryz.f31, cB, Tryz.func31, AV (by kernel_rfl), YY⟩
theorem o32 : A0 Tryz.prog ty 32 b32 := Or.inl ⟨Tryz.f32, cC, Tryz.func32, AV (by kernel_rfl), YZ⟩
theorem o33 : A0 Tryz.prog ty 33 b33 := Or.inl ⟨Tryz.f33, cD, Tryz.func33, AV (by kernel_rfl), Ya⟩
theorem o34 : A0 Tryz.prog ty 34 b34 := Or.inl ⟨Tryz.f34, cE, Tryz.func34, AV (by kernel_rfl), Yb⟩
theorem o35 : A0 Tryz.prog ty 35 b35 := Or.inl ⟨Tryz.f35, cF, Tryz.func35, AV (by kernel_rfl), Yc⟩
theorem o36 : A0 Tryz.prog ty 36 b36 := Or.inl ⟨Tryz.f36, cH, Tryz.func36, AV (by kernel_rfl), Yd⟩
theorem o37 : A0 Tryz.prog ty 37 b37 := Or.inl ⟨Tryz.f37, cI, Tryz.func37, AV (by kernel_rfl), Ye⟩
theorem o38 : A0 Tryz.prog ty 38 b38 := Or.inl ⟨Tryz.f38, cJ, Tryz.func38, AV (by kernel_rfl), Yf⟩
theorem o39 : A0 Tryz.prog ty 39 b39 := Or.inl ⟨Tryz.f39, cK, Tryz.func39, AV (by kernel_rfl), Yg⟩
theorem o40 : A0 Tryz.prog ty 40 b40 := Or.inl ⟨Tryz.f40, cL, Tryz.func40, AV (by kernel_rfl), Yh⟩
theorem o41 : A0 Tryz.prog ty 41 b41 := Or.inl ⟨Tryz.f41, cM, Tryz.func41, AV (by kernel_rfl), Yi⟩
theorem o42 : A0 Tryz.prog ty 42 b42 := Or.inl ⟨Tryz.f42, cP, Tryz.func42, AV (by kernel_rfl), Yj⟩
theorem o43 : A0 Tryz.prog ty 43 b43 := Or.inl ⟨Tryz.f43, cQ, Tryz.func43, AV (by kernel_rfl), Yk⟩
theorem o44 : A0 Tryz.prog ty 44 b44 := Or.inl ⟨Tryz.f44, cR, Tryz.func44, AV (by kernel_rfl), Yl⟩
theorem o45 : A0 Tryz.prog ty 45 b45 := Or.inl ⟨Tryz.f45, cS, Tryz.func45, AV (by kernel_rfl), Ym⟩
theorem o46 : A0 Tryz.prog ty 46 b46 := Or.inl ⟨Tryz.f46, cT, Tryz.func46, AV (by kernel_rfl), Yn⟩
theorem o47 : A0 Tryz.prog ty 47 b47 := Or.inl ⟨Tryz.f47, cU, Tryz.func47, AV (by kernel_rfl), Yo⟩
theorem o48 : A0 Tryz.prog ty 48 b48 := Or.inl ⟨Tryz.f48, cV, Tryz.func48, AV (by kernel_rfl), Yp⟩
theorem o49 : A0 Tryz.prog ty 49 b49 := Or.inl ⟨Tryz.f49, cW, Tryz.func49, AV (by kernel_rfl), Yq⟩
theorem o50 : A0 Tryz.prog ty 50 b50 := Or.inl ⟨Tryz.f50, cX, Tryz.func50, AV (by kernel_rfl), Yr⟩
theorem o51 : A0 Tryz.prog ty 51 b51 := Or.inl ⟨Tryz.f51, cY, Tryz.func51, AV (by kernel_rfl), Ys⟩
theorem o52 : A0 Tryz.prog ty 52 b52 := Or.inl ⟨Tryz.f52, cZ, Tryz.func52, AV (by kernel_rfl), Yt⟩
theorem o53 : A0 Tryz.prog ty 53 b53 := Or.inl ⟨Tryz.f53, cd, Tryz.func53, AV (by kernel_rfl), Yu⟩
theorem o54 : A0 Tryz.prog ty 54 b54 := Or.inl ⟨Tryz.f54, ce, Tryz.func54, AV (by kernel_rfl), Yv⟩
theorem o55 : A0 Tryz.prog ty 55 b55 := Or.inl ⟨Tryz.f55, cf, Tryz.func55, AV (by kernel_rfl), Yw⟩
theorem o56 : A0 Tryz.prog ty 56 b56 := Or.inl ⟨Tryz.f56, cg, Tryz.func56, AV (by kernel_rfl), Yx⟩
theorem o57 : A0 Tryz.prog ty 57 b57 := Or.inl ⟨Tryz.f57, ch, Tryz.func57, AV (by kernel_rfl), Yy⟩
theorem o58 : A0 Tryz.prog ty 58 b58 := Or.inl ⟨Tryz.f58, ci, Tryz.func58, AV (by kernel_rfl), Yz⟩
theorem o59 : A0 Tryz.prog ty 59 b59 := Or.inl ⟨Tryz.f59, cj, Tryz.func59, AV (by kernel_rfl), Y0⟩
theorem o60 : A0 Tryz.prog ty 60 b60 := Or.inl ⟨Tryz.f60, cl, Tryz.func60, AV (by kernel_rfl), Y1⟩
theorem o61 : A0 Tryz.prog ty 61 b61 := Or.inl ⟨Tryz.f61, cn, Tryz.func61, AV (by kernel_rfl), Y2⟩
theorem o62 : A0 Tryz.prog ty 62 b62 := Or.inl ⟨Tryz.f62, co, Tryz.func62, AV (by kernel_rfl), Y3⟩
theorem o63 : A0 Tryz.prog ty 63 b63 := Or.inl ⟨Tryz.f63, cp, Tryz.func63, AV (by kernel_rfl), Y4⟩
theorem o64 : A0 Tryz.prog ty 64 b64 := Or.inl ⟨Tryz.f64, cq, Tryz.func64, AV (by kernel_rfl), Y5⟩
theorem o65 : A0 Tryz.prog ty 65 b65 := Or.inl ⟨Tryz.f65, cr, Tryz.func65, AV (by kernel_rfl), Y6⟩
theorem o66 : A0 Tryz.prog ty 66 b66 := Or.inl ⟨Tryz.f66, cu, Tryz.func66, AV (by kernel_rfl), Y7⟩
theorem o67 : A0 Tryz.prog ty 67 b67 := Or.inl ⟨Tryz.f67, cw, Tryz.func67, AV (by kernel_rfl), Y8⟩
theorem o68 : A0 Tryz.prog ty 68 b68 := Or.inl ⟨Tryz.f68, cx, Tryz.func68, AV (by kernel_rfl), Y9⟩
theorem o69 : A0 Tryz.prog ty 69 b69 := Or.inl ⟨Tryz.f69, cy, Tryz.func69, AV (by kernel_rfl), ZA⟩
theorem o70 : A0 Tryz.prog ty 70 b70 := Or.inl ⟨Tryz.f70, cz, Tryz.func70, AV (by kernel_rfl), ZB⟩
theorem o71 : A0 Tryz.prog ty 71 b71 := Or.inl ⟨Tryz.f71, dA, Tryz.func71, AV (by kernel_rfl), ZC⟩
theorem o72 : A0 Tryz.prog ty 72 b72 := Or.inl ⟨Tryz.f72, dB, Tryz.func72, AV (by kernel_rfl), ZD⟩
theorem o73 : A0 Tryz.prog ty 73 b73 := Or.inl ⟨Tryz.f73, dC, Tryz.func73, AV (by kernel_rfl), ZE⟩
theorem o74 : A0 Tryz.prog ty 74 b74 := Or.inl ⟨Tryz.f74, dD, Tryz.func74, AV (by kernel_rfl), ZF⟩
theorem o75 : A0 Tryz.prog ty 75 b75 := Or.inl ⟨Tryz.f75, dE, Tryz.func75, AV (by kernel_rfl), ZG⟩
theorem o76 : A0 Tryz.prog ty 76 b76 := Or.inl ⟨Tryz.f76, dF, Tryz.func76, AV (by kernel_rfl), ZH⟩
theorem o77 : A0 Tryz.prog ty 77 b77 := Or.inl ⟨Tryz.f77, dG, Tryz.func77, AV (by kernel_rfl), ZI⟩
theorem o78 : A0 Tryz.prog ty 78 b78 := Or.inl ⟨Tryz.f78, dH, Tryz.func78, AV (by kernel_rfl), ZJ⟩
theorem o79 : A0 Tryz.prog ty 79 b79 := Or.inl ⟨Tryz.f79, dI, Tryz.func79, AV (by kernel_rfl), ZK⟩
theorem o80 : A0 Tryz.prog ty 80 b80 := Or.inl ⟨Tryz.f80, dJ, Tryz.func80, AV (by kernel_rfl), ZL⟩
theorem o81 : A0 Tryz.prog ty 81 b81 := Or.inl ⟨Tryz.f81, dK, Tryz.func81, AV (by kernel_rfl), ZM⟩
theorem o82 : A0 Tryz.prog ty 82 b82 := Or.inl ⟨Tryz.f82, dL, Tryz.func82, AV (by kernel_rfl), ZN⟩
theorem o83 : A0 Tryz.prog ty 83 b83 := Or.inl ⟨Tryz.f83, dM, Tryz.func83, AV (by kernel_rfl), ZO⟩
theorem o84 : A0 Tryz.prog ty 84 b84 := Or.inl ⟨Tryz.f84, dN, Tryz.func84, AV (by kernel_rfl), ZP⟩
theorem o85 : A0 Tryz.prog ty 85 b85 := Or.inl ⟨Tryz.f85, dO, Tryz.func85, AV (by kernel_rfl), ZQ⟩
theorem o86 : A0 Tryz.prog ty 86 b86 := Or.inl ⟨Tryz.f86, dP, Tryz.func86, AV (by kernel_rfl), ZR⟩
theorem o87 : A0 Tryz.prog ty 87 b87 := Or.inl ⟨Tryz.f87, dQ, Tryz.func87, AV (by kernel_rfl), ZS⟩
theorem o88 : A0 Tryz.prog ty 88 b88 := Or.inl ⟨Tryz.f88, dR, Tryz.func88, AV (by kernel_rfl), ZT⟩
theorem o89 : A0 Tryz.prog ty 89 b89 := Or.inl ⟨Tryz.f89, dS, Tryz.func89, AV (by kernel_rfl), ZU⟩
theorem o90 : A0 Tryz.prog ty 90 b90 := Or.inl ⟨Tryz.f90, dT, Tryz.func90, AV (by kernel_rfl), ZV⟩
theorem o91 : A0 Tryz.prog ty 91 b91 := Or.inl ⟨Tryz.f91, dU, Tryz.func91, AV (by kernel_rfl), ZW⟩
theorem o92 : A0 Tryz.prog ty 92 b92 := Or.inl ⟨Tryz.f92, dV, Tryz.func92, AV (by kernel_rfl), ZX⟩
theorem o93 : A0 Tryz.prog ty 93 b93 := Or.inl ⟨Tryz.f93, dW, Tryz.func93, AV (by kernel_rfl), ZY⟩
theorem o94 : A0 Tryz.prog ty 94 b94 := Or.inl ⟨Tryz.f94, dX, Tryz.func94, AV (by kernel_rfl), ZZ⟩
theorem o95 : A0 Tryz.prog ty 95 b95 := Or.inl ⟨Tryz.f95, dY, Tryz.func95, AV (by kernel_rfl), Za⟩
theorem o96 : A0 Tryz.prog ty 96 b96 := Or.inl ⟨Tryz.f96, dZ, Tryz.func96, AV (by kernel_rfl), Zb⟩
theorem o97 : A0 Tryz.prog ty 97 b97 := Or.inl ⟨Tryz.f97, da, Tryz.func97, AV (by kernel_rfl), Zc⟩
theorem o98 : A0 Tryz.prog ty 98 b98 := Or.inl ⟨Tryz.f98, db, Tryz.func98, AV (by kernel_rfl), Zd⟩
theorem o99 : A0 Tryz.prog ty 99 b99 := Or.inl ⟨Tryz.f99, de, Tryz.func99, AV (by kernel_rfl), Ze⟩
theorem eg : A0 Tryz.prog ty 100 UR := Or.inl ⟨Tryz.f100, XY, Tryz.func100, AV (by kernel_rfl), US⟩
theorem eh : A0 Tryz.prog ty 101 UT := Or.inl ⟨Tryz.f101, XZ, Tryz.func101, AV (by kernel_rfl), UU⟩
theorem eo : A0 Tryz.prog ty 102 UV := Or.inl ⟨Tryz.f102, Xa, Tryz.func102, AV (by kernel_rfl), UW⟩
theorem ep : A0 Tryz.prog ty 103 UX := Or.inl ⟨Tryz.f103, Xb, Tryz.func103, AV (by kernel_rfl), UY⟩
theorem er : A0 Tryz.prog ty 104 UZ := Or.inl ⟨Tryz.f104, Xc, Tryz.func104, AV (by kernel_rfl), Ua⟩
theorem et : A0 Tryz.prog ty 105 Ub := Or.inl ⟨Tryz.f105, Xd, Tryz.func105, AV (by kernel_rfl), Uc⟩
theorem eu : A0 Tryz.prog ty 106 Ud := Or.inl ⟨Tryz.f106, Xe, Tryz.func106, AV (by kernel_rfl), Ue⟩
theorem ew : A0 Tryz.prog ty 107 Uf := Or.inl ⟨Tryz.f107, Xf, Tryz.func107, AV (by kernel_rfl), Ug⟩
theorem ex : A0 Tryz.prog ty 108 Uh := Or.inl ⟨Tryz.f108, Xg, Tryz.func108, AV (by kernel_rfl), Ui⟩
theorem ey : A0 Tryz.prog ty 109 Uj := Or.inl ⟨Tryz.f109, Xh, Tryz.func109, AV (by kernel_rfl), Uk⟩
theorem ez : A0 Tryz.prog ty 110 Um := Or.inl ⟨Tryz.f110, Xi, Tryz.func110, AV (by kernel_rfl), Un⟩
theorem e9 : A0 Tryz.prog ty 111 Uo := Or.inl ⟨Tryz.f111, Xj, Tryz.func111, AV (by kernel_rfl), Up⟩
theorem fA : A0 Tryz.prog ty 112 Uq := Or.inl ⟨Tryz.f112, Xk, Tryz.func112, AV (by kernel_rfl), Ur⟩
theorem fB : A0 Tryz.prog ty 113 Us := Or.inl ⟨Tryz.f113, Xl, Tryz.func113, AV (by kernel_rfl), Ut⟩
theorem fC : A0 Tryz.prog ty 114 Uu := Or.inl ⟨Tryz.f114, Xm, Tryz.func114, AV (by kernel_rfl), Uv⟩
theorem fD : A0 Tryz.prog ty 115 Uw := Or.inl ⟨Tryz.f115, Xn, Tryz.func115, AV (by kernel_rfl), Ux⟩
theorem fE : A0 Tryz.prog ty 116 Uy := Or.inl ⟨Tryz.f116, Xo, Tryz.func116, AV (by kernel_rfl), Uz⟩
theorem fF : A0 Tryz.prog ty 117 U0 := Or.inl ⟨Tryz.f117, Xp, Tryz.func117, AV (by kernel_rfl), U3⟩
theorem fG : A0 Tryz.prog ty 118 U4 := Or.inl ⟨Tryz.f118, Xq, Tryz.func118, AV (by kernel_rfl), U5⟩
theorem fH : A0 Tryz.prog ty 119 U6 := Or.inl ⟨Tryz.f119, Xr, Tryz.func119, AV (by kernel_rfl), U7⟩
theorem fI : A0 Tryz.prog ty 120 U8 := Or.inl ⟨Tryz.f120, Xs, Tryz.func120, AV (by kernel_rfl), U9⟩
theorem Bn (i : Nat) : A0 Tryz.prog ty i Bi := Or.inr (.inl rfl)
set_option maxRecDepth 100000 in
def E4 : FT := (.nd Bi (.nd Bi (.nd b3 (.nd b7 (.nd b15 (.nd b31 (.nd b63 (.nd Bi .mt .mt) .mt) (.nd b95 .mt .mt)) (.nd b47 (.nd b79 .mt .mt) (.nd Uo .mt .mt))) (.nd b23 (.nd b39 (.nd b71 (.nd Bi .mt .mt) .mt) (.nd UX .mt .mt)) (.nd b55 (.nd b87 .mt .mt) (.nd U6 .mt .mt)))) (.nd b11 (.nd b19 (.nd b35 (.nd b67 (.nd Bi .mt .mt) .mt) (.nd b99 .mt .mt)) (.nd b51 (.nd b83 .mt .mt) (.nd Uw .mt .mt))) (.nd b27 (.nd b43 (.nd b75 .mt .mt) (.nd Uf .mt .mt)) (.nd b59 (.nd b91 .mt .mt) (.nd Bi .mt .mt))))) (.nd b5 (.nd b9 (.nd b17 (.nd b33 (.nd b65 (.nd Bi .mt .mt) .mt) (.nd b97 .mt .mt)) (.nd b49 (.nd b81 .mt .mt) (.nd Us .mt .mt))) (.nd b25 (.nd b41 (.nd b73 (.nd Bi .mt .mt) .mt) (.nd Ub .mt .mt)) (.nd b57 (.nd b89 .mt .mt) (.nd Bi .mt .mt)))) (.nd b13 (.nd b21 (.nd b37 (.nd b69 (.nd Bi .mt .mt) .mt) (.nd UT .mt .mt)) (.nd b53 (.nd b85 .mt .mt) (.nd U0 .mt .mt))) (.nd b29 (.nd b45 (.nd b77 .mt .mt) (.nd Uj .mt .mt)) (.nd b61 (.nd b93 .mt .mt) (.nd Bi .mt .mt)))))) (.nd b2 (.nd b4 (.nd b8 (.nd b16 (.nd b32 (.nd b64 (.nd Bi .mt .mt) .mt) (.nd b96 .mt .mt)) (.nd b48 (.nd b80 .mt .mt) (.nd Uq .mt .mt))) (.nd b24 (.nd b40 (.nd b72 (.nd Bi .mt .mt) .mt) (.nd UZ .mt .mt)) (.nd b56 (.nd b88 .mt .mt) (.nd U8 .mt .mt)))) (.nd b12 (.nd b20 (.nd b36 (.nd b68 (.nd Bi .mt .mt) .mt) (.nd UR .mt .mt)) (.nd b52 (.nd b84 .mt .mt) (.nd Uy .mt .mt))) (.nd b28 (.nd b44 (.nd b76 .mt .mt) (.nd Uh .mt .mt)) (.nd b60 (.nd b92 .mt .mt) (.nd Bi .mt .mt))))) (.nd b6 (.nd b10 (.nd b18 (.nd b34 (.nd b66 (.nd Bi .mt .mt) .mt) (.nd b98 .mt .mt)) (.nd b50 (.nd b82 .mt .mt) (.nd Uu .mt .mt))) (.nd b26 (.nd b42 (.nd b74 .mt .mt) (.nd Ud .mt .mt)) (.nd b58 (.nd b90 .mt .mt) (.nd Bi .mt .mt)))) (.nd b14 (.nd b22 (.nd b38 (.nd b70 (.nd Bi .mt .mt) .mt) (.nd UV .mt .mt)) (.nd b54 (.nd b86 .mt .mt) (.nd U4 .mt .mt))) (.nd b30 (.nd b46 (.nd b78 .mt .mt) (.nd Um .mt .mt)) (.nd b62 (.nd b94 .mt .mt) (.nd Bi .mt .mt)))))))
set_option maxRecDepth 100000 in
theorem Np : FT.All (A0 Tryz.prog ty) E4 id := ⟨Bn _, ⟨Bn _, ⟨o3, ⟨o7, ⟨o15, ⟨o31, ⟨o63, ⟨Bn _, trivial, trivial⟩, trivial⟩, ⟨o95, trivial, trivial⟩⟩, ⟨o47, ⟨o79, trivial, trivial⟩, ⟨e9, trivial, trivial⟩⟩⟩, ⟨o23, ⟨o39, ⟨o71, ⟨Bn _, trivial, trivial⟩, trivial⟩, ⟨ep, trivial, trivial⟩⟩, ⟨o55, ⟨o87, trivial, trivial⟩, ⟨fH, trivial, trivial⟩⟩⟩⟩, ⟨o11, ⟨o19, ⟨o35, ⟨o67, ⟨Bn _, trivial, trivial⟩, trivial⟩, ⟨o99, trivial, trivial⟩⟩, ⟨o51, ⟨o83, trivial, trivial⟩, ⟨fD, trivial, trivial⟩⟩⟩, ⟨o27, ⟨o43, ⟨o75, trivial, trivial⟩, ⟨ew, trivial, trivial⟩⟩, ⟨o59, ⟨o91, trivial, trivial⟩, ⟨Bn _, trivial, trivial⟩⟩⟩⟩⟩, ⟨o5, ⟨o9, ⟨o17, ⟨o33, ⟨o65, ⟨Bn _, trivial, trivial⟩, trivial⟩, ⟨o97, trivial, trivial⟩⟩, ⟨o49, ⟨o81, trivial, trivial⟩, ⟨fB, trivial, trivial⟩⟩⟩, ⟨o25, ⟨o41, ⟨o73, ⟨Bn _, trivial, trivial⟩, trivial⟩, ⟨et, trivial, trivial⟩⟩, ⟨o57, ⟨o89, trivial, trivial⟩, ⟨Bn _, trivial, trivial⟩⟩⟩⟩, ⟨o13, ⟨o21, ⟨o37, ⟨o69, ⟨Bn _, trivial, trivial⟩, trivial⟩, ⟨eh, trivial, trivial⟩⟩, ⟨o53, ⟨o85, trivial, trivial⟩, ⟨fF, trivial, trivial⟩⟩⟩, ⟨o29, ⟨o45, ⟨o77, trivial, trivial⟩, ⟨ey, trivial, trivial⟩⟩, ⟨o61, ⟨o93, trivial, trivial⟩, ⟨Bn _, trivial, trivial⟩⟩⟩⟩⟩⟩, ⟨o2, ⟨o4, ⟨o8, ⟨o16, ⟨o32, ⟨o64, ⟨Bn _, trivial, trivial⟩, trivial⟩, ⟨o96, trivial, trivial⟩⟩, ⟨o48, ⟨o80, trivial, trivial⟩, ⟨fA, trivial, trivial⟩⟩⟩, ⟨o24, ⟨o40, ⟨o72, ⟨Bn _, trivial, trivial⟩, trivial⟩, ⟨er, trivial, trivial⟩⟩, ⟨o56, ⟨o88, trivial, trivial⟩, ⟨fI, trivial, trivial⟩⟩⟩⟩, ⟨o12, ⟨o20, ⟨o36, ⟨o68, ⟨Bn _, trivial, trivial⟩, trivial⟩, ⟨eg, trivial, trivial⟩⟩, ⟨o52, ⟨o84, trivial, trivial⟩, ⟨fE, trivial, trivial⟩⟩⟩, ⟨o28, ⟨o44, ⟨o76, trivial, trivial⟩, ⟨ex, trivial, trivial⟩⟩, ⟨o60, ⟨o92, trivial, trivial⟩, ⟨Bn _, trivial, trivial⟩⟩⟩⟩⟩, ⟨o6, ⟨o10, ⟨o18, ⟨o34, ⟨o66, ⟨Bn _, trivial, trivial⟩, trivial⟩, ⟨o98, trivial, trivial⟩⟩, ⟨o50, ⟨o82, trivial, trivial⟩, ⟨fC, trivial, trivial⟩⟩⟩, ⟨o26, ⟨o42, ⟨o74, trivial, trivial⟩, ⟨eu, trivial, trivial⟩⟩, ⟨o58, ⟨o90, trivial, trivial⟩, ⟨Bn _, trivial, trivial⟩⟩⟩⟩, ⟨o14, ⟨o22, ⟨o38, ⟨o70, ⟨Bn _, trivial, trivial⟩, trivial⟩, ⟨eo, trivial, trivial⟩⟩, ⟨o54, ⟨o86, trivial, trivial⟩, ⟨fG, trivial, trivial⟩⟩⟩, ⟨o30, ⟨o46, ⟨o78, trivial, trivial⟩, ⟨ez, trivial, trivial⟩⟩, ⟨o62, ⟨o94, trivial, trivial⟩, ⟨Bn _, trivial, trivial⟩⟩⟩⟩⟩⟩⟩
theorem X7 : CL Tryz.prog ty := bP (by kernel_rfl) (by kernel_rfl)
theorem J3 (n : Nat) : CY Tryz.prog ty (call E4 n) := Gn X7 (by kernel_rfl) Np n
end
end Go.Proofs.YtfeldadhbnmklaaGreat
namespace Go.Proofs.YtfeldadhbnmklaaGreat
noncomputable section
open Go
set_option maxHeartbeats 0 in
theorem P4 : S8 (call E4 64 4 [] GM) = true := by kernel_rfl
theorem Nm : Ih Tryz.prog ty 4 HX := RC ⟨Tryz.f4, Tryz.func4, AV (by kernel_rfl), by kernel_rfl⟩ (TV J3 P4)
theorem oA : A0 Tryz.prog ty 4 HX := Or.inr (.inr Nm)
open Go.RowKit Go.WideShapes Go.ChangeShapes
set_option maxRecDepth 100000
def X5 (L : List Value) (args : List Value) (h : Hp) : R := match args with
  | [] => .ok (.agg ⟨L⟩) h
  | _ :: _ => .no
def J1 (L : List Value) : Body := ⟨[.x (fun _ => X5 L)], cNo⟩
def isW : Value → Bool
  | .int .u32 n => decide (0 ≤ n) && decide (n < 4294967296)
  | _ => false
def S7 : R → Bool
  | .ok (.agg ⟨l⟩) _ => l.all isW && Nat.beq l.length 256
  | _ => false
def ay : R → List Value
  | .ok (.agg ⟨l⟩) _ => l
  | _ => []
def Jl : List Value := ay (call E4 64 5 [] GM)
set_option maxHeartbeats 0 in
theorem XL : S7 (call E4 64 5 [] GM) = true := by kernel_rfl
theorem LD {v : Value} (h : isW v = true) : ∃ n : Nat, v = .int .u32 (n : Int) ∧ n < 4294967296 := by
  unfold isW at h
  split at h
  · rename_i n
    simp only [Bool.and_eq_true, decide_eq_true_eq] at h
    obtain ⟨m, rfl⟩ := Int.eq_ofNat_of_zero_le h.1
    exact ⟨m, rfl, by omega⟩
  · cases h
theorem Oo : ∃ h', call E4 64 5 [] GM = .ok (.agg ⟨Jl⟩) h' ∧ Jl.length = 256 ∧ ∀ v ∈ Jl, isW v = true := by
  have h := XL
  unfold Jl
  generalize call E4 64 5 [] GM = r at h
  unfold S7 at h
  split at h
  · rename_i l h'
    simp only [Bool.and_eq_true, List.all_eq_true] at h
    exact ⟨h', rfl, Nat.eq_of_beq_eq_true h.2, h.1⟩
  · cases h
theorem Md {φ : Phi} : ∀ {L L' : List Value}, RelL φ L L' → (∀ v ∈ L, isW v = true) → L' = L
  | _, _, .nil, _ => rfl
  | _, _, .cons (v := v) h t, hL => by
    rw [Md t fun x hx => hL x (List.mem_cons_of_mem _ hx)]
    obtain ⟨n, rfl, _⟩ := LD (hL v List.mem_cons_self)
    cases h; rfl
theorem Me (φ : Phi) : ∀ {L : List Value}, (∀ v ∈ L, isW v = true) → RelL φ L L
  | [], _ => .nil
  | v :: L, h => by
    obtain ⟨n, rfl, _⟩ := LD (h v List.mem_cons_self)
    exact .cons (.int _ _) (Me φ fun x hx => h x (List.mem_cons_of_mem _ hx))
theorem RB (w : World) : Calls Tryz.prog 5 #[] w fun e w' => e = .returned (.agg ⟨Jl⟩) ∧ Below w.heap.size w w' := by
  obtain ⟨h', hr, _, hw⟩ := Oo
  obtain ⟨_, hc⟩ := J3 _ 5 [] GM _ h' hr
  refine (hc bF w [] .nil (Ki ty w)).mono fun e w' ⟨v', ψ, he, hv, _, ev⟩ => ?_
  cases hv with
  | agg hl =>
    rw [Md hl hw] at he
    exact ⟨he, ⟨ev.os, ev.tape, ev.output, ev.size, fun k hk => ev.frame k hk fun i p hp => by cases hp⟩⟩
theorem QT {P : Program} {ty : TTy} {f : Nat} {L : List Value} (hL : ∀ v ∈ L, isW v = true) (hS : ∃ fn, P.funcs[f]? = some fn ∧ fn.name ≠ "runtime.NumGoroutine" ∧ fn.body.isNone = false) (hc : ∀ w : World, Calls P f #[] w fun e w' => e = .returned (.agg ⟨L⟩) ∧ Below w.heap.size w w') : Ih P ty f (J1 L) := fun F args h v h' _ hr => ⟨hS, fun φ w args' hrel H => by
  have hr : X5 L args h = .ok v h' := hr
  cases args with
  | cons a l => cases hr
  | nil =>
    cases hr
    cases hrel
    exact (hc w).mono fun e w' ⟨he, hb⟩ => ⟨_, φ, he, .agg (Me φ hL), (FI H hb).1, (FI H hb).2⟩⟩
theorem Tq : Ih Tryz.prog ty 5 (J1 Jl) := QT (Oo.choose_spec.2.2) ⟨Tryz.f5, Tryz.func5, AV (by kernel_rfl), by kernel_rfl⟩ RB
theorem oT : A0 Tryz.prog ty 5 (J1 Jl) := Or.inr (.inr Tq)
theorem P8 {bs : FT} {n f : Nat} {L : List Value} (hb : bs.get f = some (J1 L)) {h : Hp} : call bs (Nat.succ n) f [] h = .ok (.agg ⟨L⟩) h := by
  rw [BQ hb]; rfl
end
end Go.Proofs.YtfeldadhbnmklaaGreat
namespace Go.Proofs.YtfeldadhbnmklaaGreat
noncomputable section
open Go
set_option maxRecDepth 100000 in
def AH : FT := (.nd Bi (.nd Bi (.nd b3 (.nd b7 (.nd b15 (.nd b31 (.nd b63 (.nd Bi .mt .mt) .mt) (.nd b95 .mt .mt)) (.nd b47 (.nd b79 .mt .mt) (.nd Uo .mt .mt))) (.nd b23 (.nd b39 (.nd b71 (.nd Bi .mt .mt) .mt) (.nd UX .mt .mt)) (.nd b55 (.nd b87 .mt .mt) (.nd U6 .mt .mt)))) (.nd b11 (.nd b19 (.nd b35 (.nd b67 (.nd Bi .mt .mt) .mt) (.nd b99 .mt .mt)) (.nd b51 (.nd b83 .mt .mt) (.nd Uw .mt .mt))) (.nd b27 (.nd b43 (.nd b75 .mt .mt) (.nd Uf .mt .mt)) (.nd b59 (.nd b91 .mt .mt) (.nd Bi .mt .mt))))) (.nd (J1 Jl) (.nd b9 (.nd b17 (.nd b33 (.nd b65 (.nd Bi .mt .mt) .mt) (.nd b97 .mt .mt)) (.nd b49 (.nd b81 .mt .mt) (.nd Us .mt .mt))) (.nd b25 (.nd b41 (.nd b73 (.nd Bi .mt .mt) .mt) (.nd Ub .mt .mt)) (.nd b57 (.nd b89 .mt .mt) (.nd Bi .mt .mt)))) (.nd b13 (.nd b21 (.nd b37 (.nd b69 (.nd Bi .mt .mt) .mt) (.nd UT .mt .mt)) (.nd b53 (.nd b85 .mt .mt) (.nd U0 .mt .mt))) (.nd b29 (.nd b45 (.nd b77 .mt .mt) (.nd Uj .mt .mt)) (.nd b61 (.nd b93 .mt .mt) (.nd Bi .mt .mt)))))) (.nd b2 (.nd HX (.nd b8 (.nd b16 (.nd b32 (.nd b64 (.nd Bi .mt .mt) .mt) (.nd b96 .mt .mt)) (.nd b48 (.nd b80 .mt .mt) (.nd Uq .mt .mt))) (.nd b24 (.nd b40 (.nd b72 (.nd Bi .mt .mt) .mt) (.nd UZ .mt .mt)) (.nd b56 (.nd b88 .mt .mt) (.nd U8 .mt .mt)))) (.nd b12 (.nd b20 (.nd b36 (.nd b68 (.nd Bi .mt .mt) .mt) (.nd UR .mt .mt)) (.nd b52 (.nd b84 .mt .mt) (.nd Uy .mt .mt))) (.nd b28 (.nd b44 (.nd b76 .mt .mt) (.nd Uh .mt .mt)) (.nd b60 (.nd b92 .mt .mt) (.nd Bi .mt .mt))))) (.nd b6 (.nd b10 (.nd b18 (.nd b34 (.nd b66 (.nd Bi .mt .mt) .mt) (.nd b98 .mt .mt)) (.nd b50 (.nd b82 .mt .mt) (.nd Uu .mt .mt))) (.nd b26 (.nd b42 (.nd b74 .mt .mt) (.nd Ud .mt .mt)) (.nd b58 (.nd b90 .mt .mt) (.nd Bi .mt .mt)))) (.nd b14 (.nd b22 (.nd b38 (.nd b70 (.nd Bi .mt .mt) .mt) (.nd UV .mt .mt)) (.nd b54 (.nd b86 .mt .mt) (.nd U4 .mt .mt))) (.nd b30 (.nd b46 (.nd b78 .mt .mt) (.nd Um .mt .mt)) (.nd b62 (.nd b94 .mt .mt) (.nd Bi .mt .mt)))))))
set_option maxRecDepth 100000 in
theorem P6 : FT.All (A0 Tryz.prog ty) AH id := ⟨Bn _, ⟨Bn _, ⟨o3, ⟨o7, ⟨o15, ⟨o31, ⟨o63, ⟨Bn _, trivial, trivial⟩, trivial⟩, ⟨o95, trivial, trivial⟩⟩, ⟨o47, ⟨o79, trivial, trivial⟩, ⟨e9, trivial, trivial⟩⟩⟩, ⟨o23, ⟨o39, ⟨o71, ⟨Bn _, trivial, trivial⟩, trivial⟩, ⟨ep, trivial, trivial⟩⟩, ⟨o55, ⟨o87, trivial, trivial⟩, ⟨fH, trivial, trivial⟩⟩⟩⟩, ⟨o11, ⟨o19, ⟨o35, ⟨o67, ⟨Bn _, trivial, trivial⟩, trivial⟩, ⟨o99, trivial, trivial⟩⟩, ⟨o51, ⟨o83, trivial, trivial⟩, ⟨fD, trivial, trivial⟩⟩⟩, ⟨o27, ⟨o43, ⟨o75, trivial, trivial⟩, ⟨ew, trivial, trivial⟩⟩, ⟨o59, ⟨o91, trivial, trivial⟩, ⟨Bn _, trivial, trivial⟩⟩⟩⟩⟩, ⟨oT, ⟨o9, ⟨o17, ⟨o33, ⟨o65, ⟨Bn _, trivial, trivial⟩, trivial⟩, ⟨o97, trivial, trivial⟩⟩, ⟨o49, ⟨o81, trivial, trivial⟩, ⟨fB, trivial, trivial⟩⟩⟩, ⟨o25, ⟨o41, ⟨o73, ⟨Bn _, trivial, trivial⟩, trivial⟩, ⟨et, trivial, trivial⟩⟩, ⟨o57, ⟨o89, trivial, trivial⟩, ⟨Bn _, trivial, trivial⟩⟩⟩⟩, ⟨o13, ⟨o21, ⟨o37, ⟨o69, ⟨Bn _, trivial, trivial⟩, trivial⟩, ⟨eh, trivial, trivial⟩⟩, ⟨o53, ⟨o85, trivial, trivial⟩, ⟨fF, trivial, trivial⟩⟩⟩, ⟨o29, ⟨o45, ⟨o77, trivial, trivial⟩, ⟨ey, trivial, trivial⟩⟩, ⟨o61, ⟨o93, trivial, trivial⟩, ⟨Bn _, trivial, trivial⟩⟩⟩⟩⟩⟩, ⟨o2, ⟨oA, ⟨o8, ⟨o16, ⟨o32, ⟨o64, ⟨Bn _, trivial, trivial⟩, trivial⟩, ⟨o96, trivial, trivial⟩⟩, ⟨o48, ⟨o80, trivial, trivial⟩, ⟨fA, trivial, trivial⟩⟩⟩, ⟨o24, ⟨o40, ⟨o72, ⟨Bn _, trivial, trivial⟩, trivial⟩, ⟨er, trivial, trivial⟩⟩, ⟨o56, ⟨o88, trivial, trivial⟩, ⟨fI, trivial, trivial⟩⟩⟩⟩, ⟨o12, ⟨o20, ⟨o36, ⟨o68, ⟨Bn _, trivial, trivial⟩, trivial⟩, ⟨eg, trivial, trivial⟩⟩, ⟨o52, ⟨o84, trivial, trivial⟩, ⟨fE, trivial, trivial⟩⟩⟩, ⟨o28, ⟨o44, ⟨o76, trivial, trivial⟩, ⟨ex, trivial, trivial⟩⟩, ⟨o60, ⟨o92, trivial, trivial⟩, ⟨Bn _, trivial, trivial⟩⟩⟩⟩⟩, ⟨o6, ⟨o10, ⟨o18, ⟨o34, ⟨o66, ⟨Bn _, trivial, trivial⟩, trivial⟩, ⟨o98, trivial, trivial⟩⟩, ⟨o50, ⟨o82, trivial, trivial⟩, ⟨fC, trivial, trivial⟩⟩⟩, ⟨o26, ⟨o42, ⟨o74, trivial, trivial⟩, ⟨eu, trivial, trivial⟩⟩, ⟨o58, ⟨o90, trivial, trivial⟩, ⟨Bn _, trivial, trivial⟩⟩⟩⟩, ⟨o14, ⟨o22, ⟨o38, ⟨o70, ⟨Bn _, trivial, trivial⟩, trivial⟩, ⟨eo, trivial, trivial⟩⟩, ⟨o54, ⟨o86, trivial, trivial⟩, ⟨fG, trivial, trivial⟩⟩⟩, ⟨o30, ⟨o46, ⟨o78, trivial, trivial⟩, ⟨ez, trivial, trivial⟩⟩, ⟨o62, ⟨o94, trivial, trivial⟩, ⟨Bn _, trivial, trivial⟩⟩⟩⟩⟩⟩⟩
theorem Rn (n : Nat) : CY Tryz.prog ty (call AH n) := Gn X7 (by kernel_rfl) P6 n
theorem Ln : AH.get 4 = some HX := by kernel_rfl
theorem Ts : AH.get 5 = some (J1 Jl) := by kernel_rfl
end
end Go.Proofs.YtfeldadhbnmklaaGreat
namespace Go.Proofs.YtfeldadhbnmklaaGreat
noncomputable section
open Go
set_option maxRecDepth 100000
def d3 : C :=
(cOp (AD 4) (CG (AB 0))
(cOp (AD 8) (AC (kV (.bool false)))
(cOp (AD 24) (AE 4 (AB 4))
(cOp (AD 25) (AG (AB 24))
(cOp (AD 26) (Aw (AB 25))
(cOp (AD 27) (AM iGt .i64 (AB 26) (kV (.int .i64 300)))
(cG (AB 27) false (AD 29) (AC (AB 1))
(cG (AB 27) false (AD 30) (Aw (AB 29))
(cG (AB 27) false (AD 31) (AM iGt .i64 (AB 30) (kV (.int .i64 200)))
(cOp (AD 32) (AW (AB 27) (kV (.bool true)) (AB 31))
(AJ (AB 32)
(cOp (AD 33) (AL 4 [])
(cOp (AD 8) (AC (AB 33))
AU))
(cOp (AD 34) (AL 5 [])
(cOp (AD 9) (A9 256 Jq)
(cDo (AP 256 (AB 9) (AB 34))
(Al (AJ (AB 3)
(cOp (AD 36) (BA Ld.zero [])
(cDo (AP 256 (AB 9) (AB 36))
AO))
AO)
(cOp (AD 38) (Ac 5 (AB 4))
(cOp (AD 39) (AL 6 [(AB 9), (AB 38)])
(cOp (AD 40) (AN 0 (AB 39))
(cOp (AD 41) (AN 1 (AB 39))
(cOp (AD 10) (AC (AB 40))
(cOp (AD 11) (AC (AB 41))
(cOp (AD 43) (Ac 5 (AB 4))
(cOp (AD 44) (AL 7 [(AB 9), (AB 43)])
(cOp (AD 45) (AN 0 (AB 44))
(cOp (AD 46) (AN 1 (AB 44))
(cOp (AD 12) (AC (AB 45))
(cOp (AD 13) (AC (AB 46))
(cOp (AD 49) (AL 8 [(AB 10), (AB 12)])
(cOp (AD 50) (Bo (AB 49))
(cG (AB 50) false (AD 52) (AC (AB 11))
(cG (AB 50) false (AD 53) (AC (AB 13))
(cG (AB 50) false (AD 54) (AM iNe .i64 (AB 52) (AB 53))
(cOp (AD 55) (AW (AB 50) (kV (.bool true)) (AB 54))
(cG (AB 55) false (AD 57) (AC (AB 2))
(cG (AB 55) false (AD 58) (AL 9 [(AB 57)])
(cG (AB 55) false (AD 59) (AC (AB 2))
(cG (AB 55) false (AD 60) (II (AB 59) (kV (.int .i64 131072)))
(cG (AB 55) false (AD 61) (AL 10 [(AB 60)])
(cG (AB 55) false (AD 62) (AM iNe .i64 (AB 58) (AB 61))
(cOp (AD 63) (AW (AB 55) (kV (.bool true)) (AB 62))
(AJ (AB 63)
(cOp (AD 8) (AC (kV (.bool false)))
AU)
(cOp (AD 66) (AX 2 (A6 HL.zero 2) [(0, 1, (AB 1)), (1, 1, (AB 10))])
(cOp (AD 67) (Aw (AB 66))
(cOp (AD 68) (AC (kV (.int .i64 0)))
(Al (AK 0 (Aj (cOp (AD 69) (AM iLt .i64 (AB 68) (AB 67))
(AJ (AB 69)
(Al (AK 1 (cOp (AD 70) (AY 1 (AB 66) (AB 68))
(cOp (AD 71) (AG (AB 70))
(cOp (AD 15) (AC (AB 71))
(cOp (AD 74) (AL 11 [(AB 9), (AB 15)])
(cOp (AD 75) (AN 0 (AB 74))
(cOp (AD 76) (AN 1 (AB 74))
(cOp (AD 77) (AN 2 (AB 74))
(cOp (AD 78) (AN 3 (AB 74))
(cOp (AD 16) (A9 5 Bx)
(cDo (AP 5 (AB 16) (AB 75))
(cOp (AD 17) (AC (AB 76))
(cOp (AD 18) (AC (AB 77))
(cOp (AD 19) (AC (AB 78))
(cOp (AD 81) (AL 12 [(AB 9), (AB 15)])
(cOp (AD 82) (AN 0 (AB 81))
(cOp (AD 83) (AN 1 (AB 81))
(cOp (AD 84) (AN 2 (AB 81))
(cOp (AD 85) (AN 3 (AB 81))
(cOp (AD 20) (A9 5 Bx)
(cDo (AP 5 (AB 20) (AB 82))
(cOp (AD 21) (AC (AB 83))
(cOp (AD 22) (AC (AB 84))
(cOp (AD 23) (AC (AB 85))
(cOp (AD 86) (Ac 5 (AB 16))
(cOp (AD 87) (Ac 5 (AB 20))
(cOp (AD 88) (AL 13 [(AB 86), (AB 87)])
(cOp (AD 89) (Bo (AB 88))
(cG (AB 89) false (AD 91) (AC (AB 17))
(cG (AB 89) false (AD 92) (AC (AB 21))
(cG (AB 89) false (AD 93) (AM iNe .i64 (AB 91) (AB 92))
(cOp (AD 94) (AW (AB 89) (kV (.bool true)) (AB 93))
(cG (AB 94) false (AD 96) (AC (AB 18))
(cG (AB 94) false (AD 97) (AC (AB 22))
(cG (AB 94) false (AD 98) (AM iNe .u32 (AB 96) (AB 97))
(cOp (AD 99) (AW (AB 94) (kV (.bool true)) (AB 98))
(cG (AB 99) false (AD 101) (AC (AB 19))
(cG (AB 99) false (AD 102) (AC (AB 23))
(cG (AB 99) false (AD 103) (oEq ty4.k true (AB 101) (AB 102))
(cOp (AD 104) (AW (AB 99) (kV (.bool true)) (AB 103))
(AJ (AB 104)
(cOp (AD 8) (AC (kV (.bool false)))
AU)
AO)))))))))))))))))))))))))))))))))))))))))
(cOp (AD 105) (Ai .i64 (AQ .i64) (AB 68) (kV (.int .i64 1)))
(cOp (AD 68) (AC (AB 105))
AO)))
(At 0)))))
(cOp (AD 106) (AL 4 [])
(cOp (AD 8) (AC (AB 106))
AU)))))))))))))))))))))))))))))))))))))))))))))))
theorem Ri {n : Nat} {args : List Value} {h : Hp} (hl : Nat.ble (BR args) 320 = true) : call AH (Nat.succ n) 3 args h = Bs [.t (AB 8)] (d3 (call AH n) (Av e0 0 args) h) := by
  have hb : AH.get 3 = some b3 := by kernel_rfl
  rw [BQ hb]
  have hd : b3 = ⟨[.t (AB 8)], d3⟩ := by kernel_rfl
  rw [hd, BJ hl]
def d7 : C :=
(cOp (AD 3) (CG (AB 1))
(cOp (AD 4) (AC (kV (.slice none 0 0)))
(cOp (AD 5) (AC (kV (.int .i64 0)))
(cOp (AD 6) (Ac 5 (AB 3))
(cOp (AD 7) (AL 28 [(AB 6)])
(cOp (AD 8) (Bo (AB 7))
(AJ (AB 8)
(cOp (AD 4) (AC (kV (.slice none 0 0)))
(cOp (AD 5) (AC (kV (.int .i64 2)))
AU))
(Ar (Cn (AB 3) (B7 (AB 3) []
(cOp (AD 10) (Ac 5 (AB 3))
(cOp (AD 11) (AE 4 (AB 3))
(Cn (AB 11) (B7 (AB 11) []
(cOp (AD 12) (AG (AB 11))
(cOp (AD 13) (Aw (AB 12))
(cOp (AD 15) (AE 4 (AB 3))
(cOp (AD 16) (AG (AB 15))
(cOp (AD 17) (AS .weak (AL 30 [(AB 0), (AB 16)]))
(cOp (AD 18) (AS .free (AL 29 [(AB 0), (AB 10), (AB 13), (AB 17)]))
(cOp (AD 4) (AC (AB 18))
(cOp (AD 5) (AC (kV (.int .i64 0)))
AU))))))))))))))))))))))
theorem Xv {n : Nat} {args : List Value} {h : Hp} (hl : Nat.ble (BR args) 320 = true) : call AH (Nat.succ n) 7 args h = Bs [.t (AB 4), .t (AB 5)] (d7 (call AH n) (Av e0 0 args) h) := by
  have hb : AH.get 7 = some b7 := by kernel_rfl
  rw [BQ hb]
  have hd : b7 = ⟨[.t (AB 4), .t (AB 5)], d7⟩ := by kernel_rfl
  rw [hd, BJ hl]
def d8 : C :=
(cOp (AD 4) (AC (kV (.bool false)))
(cOp (AD 6) (Cb (AB 0))
(cOp (AD 8) (Cb (AB 1))
(cOp (AD 9) (GG bEq (AB 6) (AB 8))
(cOp (AD 4) (AC (AB 9))
AU)))))
theorem dr {n : Nat} {args : List Value} {h : Hp} (hl : Nat.ble (BR args) 320 = true) : call AH (Nat.succ n) 8 args h = Bs [.t (AB 4)] (d8 (call AH n) (Av e0 0 args) h) := by
  have hb : AH.get 8 = some b8 := by kernel_rfl
  rw [BQ hb]
  have hd : b8 = ⟨[.t (AB 4)], d8⟩ := by kernel_rfl
  rw [hd, BJ hl]
def d9 : C :=
(cOp (AD 2) (AC (kV (.int .i64 0)))
(cOp (AD 4) (AM iLt .i64 (AB 0) (kV (.int .i64 0)))
(cG (AB 4) false (AD 6) (AC (AB 0))
(cG (AB 4) false (AD 7) (AM iGt .i64 (AB 6) (kV (.int .i64 65536)))
(cOp (AD 8) (AW (AB 4) (kV (.bool true)) (AB 7))
(AJ (AB 8)
(cOp (AD 2) (AC (kV (.int .i64 0)))
AU)
(cOp (AD 10) (Ai .i64 (AQ .i64) (AB 0) (kV (.int .i64 64)))
(cOp (AD 11) (As Int.sub .i64 (AB 10) (kV (.int .i64 1)))
(cOp (AD 12) (Ch .i64 (AB 11) (kV (.int .i64 64)))
(cOp (AD 13) (Ai .i64 (AQ .i64) (kV (.int .i64 1)) (AB 12))
(cOp (AD 2) (AC (AB 13))
AU)))))))))))
theorem du {n : Nat} {args : List Value} {h : Hp} (hl : Nat.ble (BR args) 320 = true) : call AH (Nat.succ n) 9 args h = Bs [.t (AB 2)] (d9 (call AH n) (Av e0 0 args) h) := by
  have hb : AH.get 9 = some b9 := by kernel_rfl
  rw [BQ hb]
  have hd : b9 = ⟨[.t (AB 2)], d9⟩ := by kernel_rfl
  rw [hd, BJ hl]
def d13 : C :=
(cOp (AD 2) (CG (AB 0))
(cOp (AD 3) (CG (AB 1))
(cOp (AD 4) (AC (kV (.bool false)))
(cOp (AD 5) (AE 0 (AB 2))
(cOp (AD 6) (AG (AB 5))
(cOp (AD 7) (AE 0 (AB 3))
(cOp (AD 8) (AG (AB 7))
(cOp (AD 9) (AM iEq .i64 (AB 6) (AB 8))
(cG (AB 9) true (AD 11) (AE 1 (AB 2))
(cG (AB 9) true (AD 12) (AG (AB 11))
(cG (AB 9) true (AD 13) (AE 1 (AB 3))
(cG (AB 9) true (AD 14) (AG (AB 13))
(cG (AB 9) true (AD 15) (AM iEq .i64 (AB 12) (AB 14))
(cOp (AD 16) (AW (AB 9) (AB 15) (kV (.bool false)))
(cG (AB 16) true (AD 18) (AE 2 (AB 2))
(cG (AB 16) true (AD 19) (AG (AB 18))
(cG (AB 16) true (AD 20) (AE 2 (AB 3))
(cG (AB 16) true (AD 21) (AG (AB 20))
(cG (AB 16) true (AD 22) (AM iEq .i64 (AB 19) (AB 21))
(cOp (AD 23) (AW (AB 16) (AB 22) (kV (.bool false)))
(cG (AB 23) true (AD 25) (AE 3 (AB 2))
(cG (AB 23) true (AD 26) (AG (AB 25))
(cG (AB 23) true (AD 27) (AE 3 (AB 3))
(cG (AB 23) true (AD 28) (AG (AB 27))
(cG (AB 23) true (AD 29) (AM iEq .u8 (AB 26) (AB 28))
(cOp (AD 30) (AW (AB 23) (AB 29) (kV (.bool false)))
(cG (AB 30) true (AD 32) (AE 4 (AB 2))
(cG (AB 30) true (AD 33) (AG (AB 32))
(cG (AB 30) true (AD 34) (AE 4 (AB 3))
(cG (AB 30) true (AD 35) (AG (AB 34))
(cG (AB 30) true (AD 36) (AL 8 [(AB 33), (AB 35)])
(cOp (AD 37) (AW (AB 30) (AB 36) (kV (.bool false)))
(cOp (AD 4) (AC (AB 37))
AU)))))))))))))))))))))))))))))))))
theorem Zk {n : Nat} {args : List Value} {h : Hp} (hl : Nat.ble (BR args) 320 = true) : call AH (Nat.succ n) 13 args h = Bs [.t (AB 4)] (d13 (call AH n) (Av e0 0 args) h) := by
  have hb : AH.get 13 = some b13 := by kernel_rfl
  rw [BQ hb]
  have hd : b13 = ⟨[.t (AB 4)], d13⟩ := by kernel_rfl
  rw [hd, BJ hl]
def d24 : C :=
(cOp (AD 1) (CG (AB 0))
(cOp (AD 2) (AC (kV (.bool false)))
(cOp (AD 3) (AE 0 (AB 1))
(cOp (AD 4) (AG (AB 3))
(cOp (AD 5) (AM iGe .i64 (AB 4) (kV (.int .i64 0)))
(cG (AB 5) true (AD 7) (AE 0 (AB 1))
(cG (AB 5) true (AD 8) (AG (AB 7))
(cG (AB 5) true (AD 9) (AM iLe .i64 (AB 8) (kV (.int .i64 1099511627776)))
(cOp (AD 10) (AW (AB 5) (AB 9) (kV (.bool false)))
(cG (AB 10) true (AD 12) (AE 1 (AB 1))
(cG (AB 10) true (AD 13) (AG (AB 12))
(cG (AB 10) true (AD 14) (AM iGe .i64 (AB 13) (kV (.int .i64 0)))
(cOp (AD 15) (AW (AB 10) (AB 14) (kV (.bool false)))
(cG (AB 15) true (AD 17) (AE 1 (AB 1))
(cG (AB 15) true (AD 18) (AG (AB 17))
(cG (AB 15) true (AD 19) (AM iLt .i64 (AB 18) (kV (.int .i64 255)))
(cOp (AD 20) (AW (AB 15) (AB 19) (kV (.bool false)))
(cG (AB 20) true (AD 22) (AE 2 (AB 1))
(cG (AB 20) true (AD 23) (AG (AB 22))
(cG (AB 20) true (AD 24) (AM iGe .i64 (AB 23) (kV (.int .i64 1)))
(cOp (AD 25) (AW (AB 20) (AB 24) (kV (.bool false)))
(cG (AB 25) true (AD 27) (AE 2 (AB 1))
(cG (AB 25) true (AD 28) (AG (AB 27))
(cG (AB 25) true (AD 29) (AM iLe .i64 (AB 28) (kV (.int .i64 1099511627776)))
(cOp (AD 30) (AW (AB 25) (AB 29) (kV (.bool false)))
(cG (AB 30) true (AD 32) (AE 3 (AB 1))
(cG (AB 30) true (AD 33) (AG (AB 32))
(cG (AB 30) true (AD 34) (AM iEq .u8 (AB 33) (kV (.int .u8 1)))
(cG (AB 30) true (AD 35) (AC (AB 34))
(cG (AB 35) false (AD 36) (AE 3 (AB 1))
(cG (AB 35) false (AD 37) (AG (AB 36))
(cG (AB 35) false (AD 38) (AM iEq .u8 (AB 37) (kV (.int .u8 2)))
(cG (AB 30) true (AD 39) (AW (AB 35) (kV (.bool true)) (AB 38))
(cOp (AD 40) (AW (AB 30) (AB 39) (kV (.bool false)))
(cG (AB 40) true (AD 42) (AE 4 (AB 1))
(cG (AB 40) true (AD 43) (AG (AB 42))
(cG (AB 40) true (AD 44) (Aw (AB 43))
(cG (AB 40) true (AD 45) (AM iLe .i64 (AB 44) (kV (.int .i64 65536)))
(cOp (AD 46) (AW (AB 40) (AB 45) (kV (.bool false)))
(cOp (AD 2) (AC (AB 46))
AU))))))))))))))))))))))))))))))))))))))))
theorem Zl {n : Nat} {args : List Value} {h : Hp} (hl : Nat.ble (BR args) 320 = true) : call AH (Nat.succ n) 24 args h = Bs [.t (AB 2)] (d24 (call AH n) (Av e0 0 args) h) := by
  have hb : AH.get 24 = some b24 := by kernel_rfl
  rw [BQ hb]
  have hd : b24 = ⟨[.t (AB 2)], d24⟩ := by kernel_rfl
  rw [hd, BJ hl]
def d31 : C :=
(cOp (AD 4) (AC (kV (.slice none 0 0)))
(cOp (AD 5) (AC (kV (.int .i64 0)))
(cOp (AD 8) (Aw (AB 1))
(cOp (AD 9) (AM iLt .i64 (AB 8) (kV (.int .i64 4)))
(AJ (AB 9)
(cOp (AD 4) (AC (kV (.slice none 0 0)))
(cOp (AD 5) (AC (kV (.int .i64 11)))
AU))
(cOp (AD 12) (Aw (AB 1))
(cOp (AD 13) (As Int.sub .i64 (AB 12) (kV (.int .i64 4)))
(cOp (AD 14) (EM 5 1 (AB 1) none (some (AB 13)) none)
(cOp (AD 15) (AL 49 [(AB 14)])
(cOp (AD 6) (AC (AB 15))
(Ar (cOp (AD 18) (AS .weak (AL 27 [(AB 0), (AB 6)]))
(cOp (AD 19) (Cb (AB 18))
(Cn (AB 1) (B7 (AB 1) []
(cOp (AD 21) (Cb (AB 1))
(cOp (AD 22) (GG (fun a b => !bEq a b) (AB 19) (AB 21))
(AJ (AB 22)
(cOp (AD 4) (AC (kV (.slice none 0 0)))
(cOp (AD 5) (AC (kV (.int .i64 12)))
AU))
(cOp (AD 4) (AC (AB 6))
(cOp (AD 5) (AC (kV (.int .i64 0)))
AU))))))))))))))))))))
theorem Nt {n : Nat} {args : List Value} {h : Hp} (hl : Nat.ble (BR args) 320 = true) : call AH (Nat.succ n) 31 args h = Bs [.t (AB 4), .t (AB 5)] (d31 (call AH n) (Av e0 0 args) h) := by
  have hb : AH.get 31 = some b31 := by kernel_rfl
  rw [BQ hb]
  have hd : b31 = ⟨[.t (AB 4), .t (AB 5)], d31⟩ := by kernel_rfl
  rw [hd, BJ hl]
def d33 : C :=
(cOp (AD 2) (AC (kV (.bool false)))
(cOp (AD 4) (AM iNe .u8 (AB 0) (kV (.int .u8 0)))
(cOp (AD 2) (AC (AB 4))
AU)))
theorem Zs {n : Nat} {args : List Value} {h : Hp} (hl : Nat.ble (BR args) 320 = true) : call AH (Nat.succ n) 33 args h = Bs [.t (AB 2)] (d33 (call AH n) (Av e0 0 args) h) := by
  have hb : AH.get 33 = some b33 := by kernel_rfl
  rw [BQ hb]
  have hd : b33 = ⟨[.t (AB 2)], d33⟩ := by kernel_rfl
  rw [hd, BJ hl]
def d34 : C :=
(cOp (AD 4) (AC (kV (.bool false)))
(cOp (AD 7) (AL 65 [(AB 0), (AB 1)])
(cOp (AD 8) (AM iGe .i64 (AB 7) (kV (.int .i64 0)))
(cOp (AD 4) (AC (AB 8))
AU))))
theorem Rk {n : Nat} {args : List Value} {h : Hp} (hl : Nat.ble (BR args) 320 = true) : call AH (Nat.succ n) 34 args h = Bs [.t (AB 4)] (d34 (call AH n) (Av e0 0 args) h) := by
  have hb : AH.get 34 = some b34 := by kernel_rfl
  rw [BQ hb]
  have hd : b34 = ⟨[.t (AB 4)], d34⟩ := by kernel_rfl
  rw [hd, BJ hl]
def d49 : C :=
(cOp (AD 2) (AC (kV (.slice none 0 0)))
(cOp (AD 4) (oEq HL.k false (AB 0) (kV (.slice none 0 0)))
(AJ (AB 4)
(cOp (AD 2) (AC (kV (.slice none 0 0)))
AU)
(cOp (AD 5) (AX 0 (A6 ty5.zero 0) [])
(cOp (AD 7) (BB 1 1 5 (AB 5) (AB 0))
(cOp (AD 2) (AC (AB 7))
AU))))))
theorem Rl {n : Nat} {args : List Value} {h : Hp} (hl : Nat.ble (BR args) 320 = true) : call AH (Nat.succ n) 49 args h = Bs [.t (AB 2)] (d49 (call AH n) (Av e0 0 args) h) := by
  have hb : AH.get 49 = some b49 := by kernel_rfl
  rw [BQ hb]
  have hd : b49 = ⟨[.t (AB 2)], d49⟩ := by kernel_rfl
  rw [hd, BJ hl]
def d63 : C :=
(cOp (AD 4) (AC (kV (.slice none 0 0)))
(cOp (AD 7) (AL 62 [(AB 1)])
(cOp (AD 8) (AL 86 [(AB 0), (AB 7)])
(cOp (AD 4) (AC (AB 8))
AU))))
theorem Zv {n : Nat} {args : List Value} {h : Hp} (hl : Nat.ble (BR args) 320 = true) : call AH (Nat.succ n) 63 args h = Bs [.t (AB 4)] (d63 (call AH n) (Av e0 0 args) h) := by
  have hb : AH.get 63 = some b63 := by kernel_rfl
  rw [BQ hb]
  have hd : b63 = ⟨[.t (AB 4)], d63⟩ := by kernel_rfl
  rw [hd, BJ hl]
def d64 : C :=
(cOp (AD 4) (AC (kV (.slice none 0 0)))
(cOp (AD 8) (AL 30 [(AB 0), (AB 1)])
(cOp (AD 5) (AC (AB 8))
(cOp (AD 11) (Ch .u32 (AB 5) (kV (.int .u32 16777216)))
(cOp (AD 12) (An .u8 (AB 11))
(cOp (AD 14) (Ch .u32 (AB 5) (kV (.int .u32 65536)))
(cOp (AD 15) (An .u8 (AB 14))
(cOp (AD 17) (Ch .u32 (AB 5) (kV (.int .u32 256)))
(cOp (AD 18) (An .u8 (AB 17))
(cOp (AD 20) (An .u8 (AB 5))
(cOp (AD 21) (AX 4 (A6 ty5.zero 4) [(0, 1, (AB 12)), (1, 1, (AB 15)), (2, 1, (AB 18)), (3, 1, (AB 20))])
(cOp (AD 22) (AL 86 [(AB 1), (AB 21)])
(cOp (AD 4) (AC (AB 22))
AU)))))))))))))
theorem Zw {n : Nat} {args : List Value} {h : Hp} (hl : Nat.ble (BR args) 320 = true) : call AH (Nat.succ n) 64 args h = Bs [.t (AB 4)] (d64 (call AH n) (Av e0 0 args) h) := by
  have hb : AH.get 64 = some b64 := by kernel_rfl
  rw [BQ hb]
  have hd : b64 = ⟨[.t (AB 4)], d64⟩ := by kernel_rfl
  rw [hd, BJ hl]
def d86 : C :=
(cOp (AD 4) (AC (kV (.slice none 0 0)))
(cOp (AD 6) (Cb (AB 0))
(cOp (AD 8) (Cb (AB 1))
(cOp (AD 9) (LH (AB 6) (AB 8))
(cOp (AD 10) (Dg 5 (AB 9))
(cOp (AD 4) (AC (AB 10))
AU))))))
theorem Zx {n : Nat} {args : List Value} {h : Hp} (hl : Nat.ble (BR args) 320 = true) : call AH (Nat.succ n) 86 args h = Bs [.t (AB 4)] (d86 (call AH n) (Av e0 0 args) h) := by
  have hb : AH.get 86 = some b86 := by kernel_rfl
  rw [BQ hb]
  have hd : b86 = ⟨[.t (AB 4)], d86⟩ := by kernel_rfl
  rw [hd, BJ hl]
end
end Go.Proofs.YtfeldadhbnmklaaGreat
set_option linter.unusedVariables false
set_option linter.unusedSimpArgs false
namespace Go.Proofs.YtfeldadhbnmklaaGreat
noncomputable section
open Go
set_option maxRecDepth 100000
theorem Nh : A6 ty5.zero 1 = [.int .u8 0] := by kernel_rfl
def Jo : C := (cOp (AD 6) (AM iGt .u64 (AB 1) (kV (.int .u64 127)))
(AJ (AB 6)
(AK 1 (cOp (AD 9) (GF .u64 (AB 1) (kV (.int .u64 128)))
(cOp (AD 10) (Ai .u64 (AQ .u64) (AB 9) (kV (.int .u64 128)))
(cOp (AD 11) (An .u8 (AB 10))
(cOp (AD 12) (AX 1 (A6 ty5.zero 1) [(0, 1, (AB 11))])
(cOp (AD 13) (BB 1 1 5 (AB 0) (AB 12))
(cOp (AD 15) (Ch .u64 (AB 1) (kV (.int .u64 128)))
(cOp (AD 0) (AC (AB 13))
(cOp (AD 1) (AC (AB 15))
AO)))))))))
(At 0)))
def UB : C := (cOp (AD 18) (An .u8 (AB 1))
(cOp (AD 19) (AX 1 (A6 ty5.zero 1) [(0, 1, (AB 18))])
(cOp (AD 20) (BB 1 1 5 (AB 0) (AB 19))
(cOp (AD 4) (AC (AB 20))
AU))))
def d26 : C := cOp (AD 4) (AC (kV (.slice none 0 0))) (Al (AK 0 (Aj Jo)) UB)
theorem Zn {n : Nat} {args : List Value} {h : Hp} (hl : Nat.ble (BR args) 320 = true) : call AH (Nat.succ n) 26 args h = Bs [.t (AB 4)] (d26 (call AH n) (Av e0 0 args) h) := by
  have hb : AH.get 26 = some b26 := by kernel_rfl
  rw [BQ hb]
  have hd : b26 = ⟨[.t (AB 4)], d26⟩ := by kernel_rfl
  rw [hd, BJ hl]
theorem Z6 : d26 = cOp (AD 4) (AC (kV (.slice none 0 0))) (Al (AK 0 (Aj Jo)) UB) := rfl
theorem RE {F : CallF} {h0 h : Hp} {k : Nat} (x0 : h0.Ext h) (hk : h0.next ≤ k) (hk2 : k ≤ h.next) {v : Value} {l : List Nat} (o : h.Own k 5 v (l.map bv)) (hl : l.length ≤ 1000000) {N : Nat} (hN : N < 18446744073709551616) {e : Env} (s0 : AB 0 e = v) (s1 : AB 1 e = .int .u64 (N : Int)) :
    ∃ e' h' v' xs m, Aj Jo F e h = .exit 0 e' h' ∧ AB 0 e' = v' ∧ AB 1 e' = .int .u64 ((m : Nat) : Int) ∧ m < 128 ∧ l ++ BC N = xs ++ [m] ∧ h0.Ext h' ∧ h'.Own k 5 v' (xs.map bv) ∧ h.next ≤ h'.next ∧ (∀ b el L, ¬ GE v b → h.Row b el L → h'.Row b el L ∧ ¬ GE v' b) := by
  have hten := Ez hN
  refine CF (I := fun i e' h' => ∃ v' xs m, AB 0 e' = v' ∧ AB 1 e' = .int .u64 ((m : Nat) : Int) ∧ m < 18446744073709551616 ∧ l ++ BC N = xs ++ BC m ∧ i + (BC m).length = (BC N).length ∧ h0.Ext h' ∧ h'.Own k 5 v' (xs.map bv) ∧ h.next ≤ h'.next ∧ (∀ b el L, ¬ GE v b → h.Row b el L → h'.Row b el L ∧ ¬ GE v' b))
    (Q := fun x => ∃ e' h' v' xs m, x = .exit 0 e' h' ∧ AB 0 e' = v' ∧ AB 1 e' = .int .u64 ((m : Nat) : Int) ∧ m < 128 ∧ l ++ BC N = xs ++ [m] ∧ h0.Ext h' ∧ h'.Own k 5 v' (xs.map bv) ∧ h.next ≤ h'.next ∧ (∀ b el L, ¬ GE v b → h.Row b el L → h'.Row b el L ∧ ¬ GE v' b)) 20 (by omega) (fun i e' h' ⟨v', xs, m, t0, t1, hm, hx, hi, x1, o1, hn, fr⟩ => ?_)
    ⟨v, l, N, s0, s1, hN, rfl, Nat.zero_add _, x0, o, Nat.le_refl _, fun b el L hb r => ⟨r, hb⟩⟩
  have hlen := congrArg List.length hx
  rw [List.length_append, List.length_append] at hlen
  by_cases h1 : m < 128
  · right
    have c1 : iGt (m : Int) 127 = false := by rw [D3]; simp; omega
    have hrun : Jo F e' h' = .exit 0 (Env.set 6 (.bool false) e') h' := by
      unfold Jo
      simp only [sT, Nat.reduceLT, Nat.reduceEqDiff, if_true, if_false, reduceIte, Ae, Ad, t1, c1]
    rw [hrun]
    refine ⟨rfl, _, _, v', xs, m, rfl, by simp only [AF, Nat.reduceLT, Nat.reduceEqDiff, if_true, if_false, reduceIte]; exact t0, by simp only [AF, Nat.reduceLT, Nat.reduceEqDiff, if_true, if_false, reduceIte]; exact t1, h1, ?_, x1, o1, hn, fr⟩
    rw [hx, DM h1]
  · left
    have W := x1.wf
    have c1 : iGt (m : Int) 127 = true := by rw [D3]; simp; omega
    have r1 : Ob .u64 (.int .u64 (m : Int)) (.int .u64 128) h' = .ok (.int .u64 ((m % 128 : Nat) : Int)) h' := by rw [IZ (by omega)]; rfl
    have a1 : FV .u64 (.int .u64 ((m % 128 : Nat) : Int)) (.int .u64 128) h' = .ok (.int .u64 ((m % 128 + 128 : Nat) : Int)) h' := by
      have : IntKind.u64.wrap (((m % 128 : Nat) : Int) + 128) = ((m % 128 + 128 : Nat) : Int) := by
        rw [show ((m % 128 : Nat) : Int) + 128 = ((m % 128 + 128 : Nat) : Int) by omega]; exact Cg (by omega)
      rw [CZ, this]
    have v1 : CV .u8 (.int .u64 ((m % 128 + 128 : Nat) : Int)) h' = .ok (.int .u8 ((m % 128 + 128 : Nat) : Int)) h' := by
      rw [Bp, DO, Nat.mod_eq_of_lt (show m % 128 + 128 < 256 by omega)]
    have os : ∀ e, AB 11 e = .int .u8 ((m % 128 + 128 : Nat) : Int) → AX 1 (A6 ty5.zero 1) [(0, 1, AB 11)] F e h' = .ok (.slice (some ⟨h'.next, 0, none⟩) 1 1) (h'.pushRow 0 [.int .u8 ((m % 128 + 128 : Nat) : Int)]) := fun e he => by rw [Nh]; exact Dw W he rfl rfl
    have hpos := Hw (m / 128)
    rw [EF (n := m) (by omega)] at hi hlen hx
    rw [List.length_cons] at hi hlen
    obtain ⟨h2, v2, a2, x2, o2, hn2, fr2⟩ := F9 (eb := 1) (n := ((m % 128 + 128 : Nat) : Int)) (kd := .u8) x1 hk (Nat.le_trans hk2 hn) o1 (by rw [List.length_map]; omega)
    have d1 : Iy .u64 (.int .u64 (m : Int)) (.int .u64 128) h2 = .ok (.int .u64 ((m / 128 : Nat) : Int)) h2 := by
      have : IntKind.u64.wrap ((m : Int).tdiv 128) = ((m / 128 : Nat) : Int) := Cg (n := m / 128) (by omega)
      rw [Gr (by omega), this]
    have hrun : ∃ e2, Jo F e' h' = .norm e2 h2 ∧ AB 0 e2 = v2 ∧ AB 1 e2 = .int .u64 ((m / 128 : Nat) : Int) := by
      unfold Jo
      simp only [sT, Nat.reduceLT, Nat.reduceEqDiff, if_true, if_false, reduceIte, Ae, Ad, t1, c1, HB, r1, Bt, a1, Ba, v1, os, Cq, t0, a2, G7, d1]
      exact ⟨_, rfl, by simp [AF], by simp [AF]⟩
    obtain ⟨e2, b1, b2, b3⟩ := hrun
    refine ⟨by omega, e2, h2, b1, v2, xs ++ [m % 128 + 128], m / 128, b2, b3, by omega, ?_, by omega, x2, ?_, by omega, fun b el L hb r => ?_⟩
    · rw [hx]; simp
    · rw [List.map_append]; exact o2
    · obtain ⟨r1, r2⟩ := fr b el L hb r
      exact fr2 b el L r2 r1
theorem XP {n : Nat} {h0 h : Hp} {k : Nat} (x0 : h0.Ext h) (hk : h0.next ≤ k) (hk2 : k ≤ h.next) {v : Value} {l : List Nat} (o : h.Own k 5 v (l.map bv)) (hl : l.length ≤ 1000000) {N : Nat} (hN : N < 18446744073709551616) :
    ∃ h' v', call AH (n + 1) 26 [v, .int .u64 (N : Int)] h = .ok v' h' ∧ h0.Ext h' ∧ h'.Own k 5 v' ((l ++ BC N).map bv) ∧ h.next ≤ h'.next ∧ (∀ b el L, ¬ GE v b → h.Row b el L → h'.Row b el L ∧ ¬ GE v' b) := by
  obtain ⟨e1, h1, v1, xs, m, q1, s0, s1, hm, hx, x1, o1, hn, fr⟩ := RE (F := call AH n) x0 hk hk2 o hl hN (e := Env.set 4 (.slice none 0 0) (Env.set 1 (.int .u64 (N : Int)) (Env.set 0 v e0))) (by simp [AF]) (by simp [AF])
  have W := x1.wf
  have hten := Ez hN
  have hlen := congrArg List.length hx
  rw [List.length_append, List.length_append, List.length_singleton] at hlen
  have c1 : CV .u8 (.int .u64 (m : Int)) h1 = .ok (.int .u8 (m : Int)) h1 := by
    rw [Bp, DO, Nat.mod_eq_of_lt (show m < 256 by omega)]
  have os : ∀ e, AB 18 e = .int .u8 (m : Int) → AX 1 (A6 ty5.zero 1) [(0, 1, AB 18)] (call AH n) e h1 = .ok (.slice (some ⟨h1.next, 0, none⟩) 1 1) (h1.pushRow 0 [.int .u8 (m : Int)]) := fun e he => by rw [Nh]; exact Dw W he rfl rfl
  obtain ⟨h2, v2, a2, x2, o2, hn2, fr2⟩ := F9 (eb := 1) (n := (m : Int)) (kd := .u8) x1 hk (Nat.le_trans hk2 hn) o1 (by rw [List.length_map]; omega)
  refine ⟨h2, v2, ?_, x2, ?_, by omega, fun b el L hb r => ?_⟩
  · rw [Zn rfl, Z6]
    simp only [Aa, Ab, Nat.succ_eq_add_one, Nat.zero_add, Nat.reduceAdd, AF, Nat.reduceLT, Nat.reduceEqDiff, if_true, if_false, reduceIte, Ee, El, Cz, GK, Bj, BI]
    rw [q1]
    simp only [BN, Bd]
    unfold UB
    simp only [sT, Nat.reduceLT, Nat.reduceEqDiff, if_true, if_false, reduceIte, Ba, s1, c1, os, Cq, s0, a2, Ak, A1]
  · rw [hx, List.map_append]; exact o2
  · obtain ⟨r1, r2⟩ := fr b el L hb r
    exact fr2 b el L r2 r1
def P2 (l : List Nat) (p : Nat) (a b c : Int) : Prop := (∃ v j : Nat, Ds 0 0 (l.drop p) = some (v, j) ∧ a = (v : Int) ∧ b = ((p + j : Nat) : Int) ∧ c = 0) ∨ (Ds 0 0 (l.drop p) = none ∧ c ≠ 0)
def N5 : C := (cOp (AD 22) (Aw (AB 0))
(cOp (AD 23) (AM iLt .i64 (AB 8) (AB 22))
(AJ (AB 23)
(Al (AK 1 (cOp (AD 28) (AY 1 (AB 0) (AB 8))
(cOp (AD 29) (AG (AB 28))
(cOp (AD 32) (As Int.sub .i64 (AB 8) (AB 1))
(cOp (AD 9) (AC (AB 29))
(cOp (AD 10) (AC (AB 32))
(cOp (AD 34) (AM iGt .i64 (AB 10) (kV (.int .i64 0)))
(cG (AB 34) true (AD 36) (AC (AB 9))
(cG (AB 34) true (AD 37) (AM iEq .u8 (AB 36) (kV (.int .u8 0)))
(cOp (AD 38) (AW (AB 34) (AB 37) (kV (.bool false)))
(cG (AB 38) false (AD 40) (AC (AB 10))
(cG (AB 38) false (AD 41) (AM iGt .i64 (AB 40) (kV (.int .i64 8)))
(cG (AB 38) false (AD 42) (AC (AB 41))
(cG (AB 42) true (AD 43) (AC (AB 9))
(cG (AB 42) true (AD 44) (AM iGt .u8 (AB 43) (kV (.int .u8 1)))
(cG (AB 38) false (AD 45) (AW (AB 42) (AB 44) (kV (.bool false)))
(cOp (AD 46) (AW (AB 38) (kV (.bool true)) (AB 45))
(AJ (AB 46)
(cOp (AD 4) (AC (kV (.int .u64 0)))
(cOp (AD 5) (AC (kV (.int .i64 0)))
(cOp (AD 6) (AC (kV (.int .i64 10)))
AU)))
(cOp (AD 49) (GF .u8 (AB 9) (kV (.int .u8 128)))
(cOp (AD 50) (An .u64 (AB 49))
(cOp (AD 52) (As Int.mul .i64 (kV (.int .i64 7)) (AB 10))
(cOp (AD 53) (Ga .u64 (AB 50) (AB 52))
(cOp (AD 54) (Ai .u64 (AQ .u64) (AB 7) (AB 53))
(cOp (AD 7) (AC (AB 54))
(cOp (AD 56) (AM iLt .u8 (AB 9) (kV (.int .u8 128)))
(AJ (AB 56)
(cOp (AD 59) (Ai .i64 (AQ .i64) (AB 8) (kV (.int .i64 1)))
(cOp (AD 4) (AC (AB 7))
(cOp (AD 5) (AC (AB 59))
(cOp (AD 6) (AC (kV (.int .i64 0)))
AU))))
AO))))))))))))))))))))))))))
(cOp (AD 25) (Ai .i64 (AQ .i64) (AB 8) (kV (.int .i64 1)))
(cOp (AD 8) (AC (AB 25))
AO)))
(At 0))))
def K8 : C := (AJ (AB 46)
(cOp (AD 4) (AC (kV (.int .u64 0)))
(cOp (AD 5) (AC (kV (.int .i64 0)))
(cOp (AD 6) (AC (kV (.int .i64 10)))
AU)))
(cOp (AD 49) (GF .u8 (AB 9) (kV (.int .u8 128)))
(cOp (AD 50) (An .u64 (AB 49))
(cOp (AD 52) (As Int.mul .i64 (kV (.int .i64 7)) (AB 10))
(cOp (AD 53) (Ga .u64 (AB 50) (AB 52))
(cOp (AD 54) (Ai .u64 (AQ .u64) (AB 7) (AB 53))
(cOp (AD 7) (AC (AB 54))
(cOp (AD 56) (AM iLt .u8 (AB 9) (kV (.int .u8 128)))
(AJ (AB 56)
(cOp (AD 59) (Ai .i64 (AQ .i64) (AB 8) (kV (.int .i64 1)))
(cOp (AD 4) (AC (AB 7))
(cOp (AD 5) (AC (AB 59))
(cOp (AD 6) (AC (kV (.int .i64 0)))
AU))))
AO)))))))))
def aR (K : C) : C := (cOp (AD 34) (AM iGt .i64 (AB 10) (kV (.int .i64 0)))
(cG (AB 34) true (AD 36) (AC (AB 9))
(cG (AB 34) true (AD 37) (AM iEq .u8 (AB 36) (kV (.int .u8 0)))
(cOp (AD 38) (AW (AB 34) (AB 37) (kV (.bool false)))
(cG (AB 38) false (AD 40) (AC (AB 10))
(cG (AB 38) false (AD 41) (AM iGt .i64 (AB 40) (kV (.int .i64 8)))
(cG (AB 38) false (AD 42) (AC (AB 41))
(cG (AB 42) true (AD 43) (AC (AB 9))
(cG (AB 42) true (AD 44) (AM iGt .u8 (AB 43) (kV (.int .u8 1)))
(cG (AB 38) false (AD 45) (AW (AB 42) (AB 44) (kV (.bool false)))
(cOp (AD 46) (AW (AB 38) (kV (.bool true)) (AB 45))
K)))))))))))
theorem PF : N5 = cOp (AD 22) (Aw (AB 0)) (cOp (AD 23) (AM iLt .i64 (AB 8) (AB 22)) (AJ (AB 23) (Al (AK 1 (cOp (AD 28) (AY 1 (AB 0) (AB 8)) (cOp (AD 29) (AG (AB 28)) (cOp (AD 32) (As Int.sub .i64 (AB 8) (AB 1)) (cOp (AD 9) (AC (AB 29)) (cOp (AD 10) (AC (AB 32)) (aR K8))))))) (cOp (AD 25) (Ai .i64 (AQ .i64) (AB 8) (kV (.int .i64 1))) (cOp (AD 8) (AC (AB 25)) AO))) (At 0))) := rfl
theorem Vk {K : C} {F : CallF} {h : Hp} {e : Env} {c i : Nat} {b1 b2 b3 b4 : Bool} (s9 : AB 9 e = .int .u8 (c : Int)) (s10 : AB 10 e = .int .i64 (i : Int)) (i1 : iGt (i : Int) 0 = b1) (i2 : iEq (c : Int) 0 = b2) (i3 : iGt (i : Int) 8 = b3) (i4 : iGt (c : Int) 1 = b4) :
    ∃ e', aR K F e h = K F e' h ∧ AB 46 e' = .bool ((b1 && b2) || (b3 && b4)) ∧ AB 0 e' = AB 0 e ∧ AB 1 e' = AB 1 e ∧ AB 7 e' = AB 7 e ∧ AB 8 e' = AB 8 e ∧ AB 9 e' = AB 9 e ∧ AB 10 e' = AB 10 e := by
  unfold aR
  cases b1 <;> cases b2 <;> cases b3 <;> cases b4 <;>
  · simp only [sT, Nat.reduceLT, Nat.reduceEqDiff, if_true, if_false, reduceIte, gD, Ae, Ad, s9, s10, i1, i2, i3, i4]
    exact ⟨_, rfl, by simp only [AF, Nat.reduceLT, Nat.reduceEqDiff, if_true, if_false, reduceIte]; rfl, by simp [AF], by simp [AF], by simp [AF], by simp [AF], by simp only [AF, Nat.reduceLT, Nat.reduceEqDiff, if_true, if_false, reduceIte, s9], by simp only [AF, Nat.reduceLT, Nat.reduceEqDiff, if_true, if_false, reduceIte, s10]⟩
theorem Fo {i : Nat} (hi : i ≤ 9) : 2 ^ (7 * i) ≤ 9223372036854775808 := by
  have : 2 ^ (7 * i) ≤ 2 ^ 63 := Nat.pow_le_pow_right (by omega) (by omega)
  have e : (2 : Nat) ^ 63 = 9223372036854775808 := rfl
  omega
theorem SJ {F : CallF} {h : Hp} {u : Value} {l : List Nat} {p : Nat} (V : h.Vals u (l.map bv)) (hb : ∀ x ∈ l, x < 256) (hp : p ≤ l.length) (hl : l.length ≤ 1000000) {e : Env} (s0 : AB 0 e = u) (s1 : AB 1 e = .int .i64 (p : Int)) (s7 : AB 7 e = .int .u64 0) (s8 : AB 8 e = .int .i64 (p : Int)) :
    (∃ e', Aj N5 F e h = .exit 0 e' h ∧ Ds 0 0 (l.drop p) = none) ∨ (∃ e' a b c, Aj N5 F e h = .ret e' h ∧ AB 4 e' = .int .u64 a ∧ AB 5 e' = .int .i64 b ∧ AB 6 e' = .int .i64 c ∧ P2 l p a b c) := by
  have Vl : FS u h = .ok (.int .i64 (l.length : Int)) h := by have := V.len; rwa [List.length_map] at this
  refine CF (I := fun i e' h' => h' = h ∧ ∃ acc : Nat, AB 0 e' = u ∧ AB 1 e' = .int .i64 (p : Int) ∧ AB 7 e' = .int .u64 (acc : Int) ∧ AB 8 e' = .int .i64 ((p + i : Nat) : Int) ∧ acc < 2 ^ (7 * i) ∧ i ≤ 9 ∧ p + i ≤ l.length ∧ Ds 0 0 (l.drop p) = Ds i acc (l.drop (p + i)))
    (Q := fun x => (∃ e', x = .exit 0 e' h ∧ Ds 0 0 (l.drop p) = none) ∨ (∃ e' a b c, x = .ret e' h ∧ AB 4 e' = .int .u64 a ∧ AB 5 e' = .int .i64 b ∧ AB 6 e' = .int .i64 c ∧ P2 l p a b c)) 20 (by omega) (fun i e' h' ⟨hh, acc, t0, t1, t7, t8, hacc, hi9, hpi, hu⟩ => ?_)
    ⟨rfl, 0, s0, s1, s7, s8, by decide, by omega, hp, rfl⟩
  subst hh
  by_cases hlt : p + i < l.length
  · have hc : l.getD (p + i) 0 < 256 := hb _ (by rw [List.getD_eq_getElem?_getD, List.getElem?_eq_getElem hlt]; exact List.getElem_mem hlt)
    have hd : l.drop (p + i) = l.getD (p + i) 0 :: l.drop (p + i + 1) := by
      rw [List.drop_eq_getElem_cons hlt, List.getD_eq_getElem?_getD, List.getElem?_eq_getElem hlt]; rfl
    have hel : (l.map bv).getD (p + i) noRes = .int .u8 ((l.getD (p + i) 0 : Nat) : Int) := by
      rw [List.getD_eq_getElem?_getD, List.getElem?_map, List.getD_eq_getElem?_getD, List.getElem?_eq_getElem hlt]; rfl
    obtain ⟨a, g1, g2⟩ := V.at (i := p + i) (by rw [List.length_map]; exact hlt)
    rw [hel] at g2
    rw [hd] at hu
    generalize l.getD (p + i) 0 = c at hc g2 hu
    have c1 : iLt ((p + i : Nat) : Int) (l.length : Int) = true := by rw [CM]; simp; omega
    have a2 : GD Int.sub .i64 (.int .i64 ((p + i : Nat) : Int)) (.int .i64 (p : Int)) h' = .ok (.int .i64 (i : Int)) h' := by
      have : Int.sub ((p + i : Nat) : Int) (p : Int) = (i : Int) := by show ((p + i : Nat) : Int) - (p : Int) = i; omega
      rw [Ct, this, Bc (by omega)]
    have a3 : FV .i64 (.int .i64 ((p + i : Nat) : Int)) (.int .i64 1) h' = .ok (.int .i64 ((p + (i + 1) : Nat) : Int)) h' := by
      have : ((p + i : Nat) : Int) + 1 = ((p + (i + 1) : Nat) : Int) := by omega
      rw [CZ, this, Bc (by omega)]
    have pre : ∃ e2, N5 F e' h' = Qv (GQ 1 (K8 F e2 h')) (cOp (AD 25) (Ai .i64 (AQ .i64) (AB 8) (kV (.int .i64 1))) (cOp (AD 8) (AC (AB 25)) AO)) F ∧ AB 46 e2 = .bool ((decide (0 < i) && decide (c = 0)) || (decide (8 < i) && decide (1 < c))) ∧ AB 0 e2 = u ∧ AB 1 e2 = .int .i64 (p : Int) ∧ AB 7 e2 = .int .u64 (acc : Int) ∧ AB 8 e2 = .int .i64 ((p + i : Nat) : Int) ∧ AB 9 e2 = .int .u8 (c : Int) ∧ AB 10 e2 = .int .i64 (i : Int) := by
      obtain ⟨e2, q1, q2, q3, q4, q5, q6, q7, q8⟩ := Vk (K := K8) (F := F) (h := h') (e := Env.set 10 (.int .i64 (i : Int)) (Env.set 9 (.int .u8 (c : Int)) (Env.set 32 (.int .i64 (i : Int)) (Env.set 29 (.int .u8 (c : Int)) (Env.set 28 (.pointer (some a)) (Env.set 23 (.bool true) (Env.set 22 (.int .i64 (l.length : Int)) e'))))))) (c := c) (i := i) (b1 := decide (0 < i)) (b2 := decide (c = 0)) (b3 := decide (8 < i)) (b4 := decide (1 < c))
        (by simp [AF]) (by simp [AF]) (by rw [D3, decide_eq_decide]; omega) (by rw [Cp, Bool.eq_iff_iff, beq_iff_eq, decide_eq_true_eq]; omega) (by rw [D3, decide_eq_decide]; omega) (by rw [D3, decide_eq_decide]; omega)
      refine ⟨e2, ?_, q2, ?_, ?_, ?_, ?_, ?_, ?_⟩
      · rw [PF]
        simp only [Ee, Fa, Bj, BI, El, GR, Cz, GK, AF, Nat.reduceLT, Nat.reduceEqDiff, if_true, if_false, reduceIte, Az, t0, Vl, Ae, Ad, t8, c1, CO, g1, Au, g2, C3, t1, a2, q1]
      · rw [q3]; simp only [AF, Nat.reduceLT, Nat.reduceEqDiff, if_true, if_false, reduceIte]; exact t0
      · rw [q4]; simp only [AF, Nat.reduceLT, Nat.reduceEqDiff, if_true, if_false, reduceIte]; exact t1
      · rw [q5]; simp only [AF, Nat.reduceLT, Nat.reduceEqDiff, if_true, if_false, reduceIte]; exact t7
      · rw [q6]; simp only [AF, Nat.reduceLT, Nat.reduceEqDiff, if_true, if_false, reduceIte]; exact t8
      · rw [q7]; simp only [AF, Nat.reduceLT, Nat.reduceEqDiff, if_true, if_false, reduceIte]
      · rw [q8]; simp only [AF, Nat.reduceLT, Nat.reduceEqDiff, if_true, if_false, reduceIte]
    obtain ⟨e2, p1, p46, p0, pp1, p7, p8, p9, p10⟩ := pre
    rw [Ds] at hu
    by_cases hbad : (0 < i ∧ c = 0) ∨ (8 < i ∧ 1 < c)
    · right
      have hB : ((decide (0 < i) && decide (c = 0)) || (decide (8 < i) && decide (1 < c))) = true := by simpa using hbad
      rw [hB] at p46
      rw [if_pos hbad] at hu
      have hrun : ∃ e3, K8 F e2 h' = .ret e3 h' ∧ AB 4 e3 = .int .u64 0 ∧ AB 5 e3 = .int .i64 0 ∧ AB 6 e3 = .int .i64 10 := by
        unfold K8
        simp only [sT, Nat.reduceLT, Nat.reduceEqDiff, if_true, if_false, reduceIte, p46]
        exact ⟨_, rfl, by simp [AF], by simp [AF], by simp [AF]⟩
      obtain ⟨e3, r1, r4, r5, r6⟩ := hrun
      rw [p1, r1, Bf, DL]
      exact ⟨rfl, .inr ⟨e3, 0, 0, 10, rfl, r4, r5, r6, .inr ⟨hu, by omega⟩⟩⟩
    · have hB : ((decide (0 < i) && decide (c = 0)) || (decide (8 < i) && decide (1 < c))) = false := by
        rw [← Bool.not_eq_true]; simpa using hbad
      rw [hB] at p46
      rw [if_neg hbad] at hu
      have hle : acc + c % 128 * 2 ^ (7 * i) < 2 ^ (7 * (i + 1)) := by
        rw [HD]
        have h1 : c % 128 ≤ 127 := by omega
        have h2 := Nat.mul_le_mul_right (2 ^ (7 * i)) h1
        omega
      have htop : c % 128 * 2 ^ (7 * i) ≤ 9223372036854775808 ∧ acc < 9223372036854775808 := by
        have h3 := Fo hi9
        refine ⟨?_, by omega⟩
        rcases Nat.lt_or_ge i 9 with h4 | h4
        · have h5 : 2 ^ (7 * (i + 1)) ≤ 9223372036854775808 := Fo (by omega)
          omega
        · have h5 : c % 128 ≤ 1 := by omega
          have h6 := Nat.mul_le_mul_right (2 ^ (7 * i)) h5
          omega
      have m1 : Ob .u8 (.int .u8 (c : Int)) (.int .u8 128) h' = .ok (.int .u8 ((c % 128 : Nat) : Int)) h' := by rw [IZ (by omega)]; rfl
      have m2 : CV .u64 (.int .u8 ((c % 128 : Nat) : Int)) h' = .ok (.int .u64 ((c % 128 : Nat) : Int)) h' := by rw [Bp, Cg (by omega)]
      have m3 : GD Int.mul .i64 (.int .i64 7) (.int .i64 (i : Int)) h' = .ok (.int .i64 ((7 * i : Nat) : Int)) h' := by
        have : Int.mul 7 (i : Int) = ((7 * i : Nat) : Int) := by show (7 : Int) * (i : Int) = _; omega
        rw [Ct, this, Bc (by omega)]
      have m4 : W8 .u64 (.int .u64 ((c % 128 : Nat) : Int)) (.int .i64 ((7 * i : Nat) : Int)) h' = .ok (.int .u64 ((c % 128 * 2 ^ (7 * i) : Nat) : Int)) h' := by
        have : min (7 * i) IntKind.u64.bits = 7 * i := Nat.min_eq_left (by show 7 * i ≤ 64; omega)
        rw [W9, this, Cg (by omega)]
      have m5 : FV .u64 (.int .u64 (acc : Int)) (.int .u64 ((c % 128 * 2 ^ (7 * i) : Nat) : Int)) h' = .ok (.int .u64 ((acc + c % 128 * 2 ^ (7 * i) : Nat) : Int)) h' := by
        rw [CZ, ← Int.natCast_add, Cg (by omega)]
      by_cases hsm : c < 128
      · right
        rw [if_pos hsm] at hu
        have c2 : iLt (c : Int) 128 = true := by rw [CM]; simp; omega
        have hrun : ∃ e3, K8 F e2 h' = .ret e3 h' ∧ AB 4 e3 = .int .u64 ((acc + c % 128 * 2 ^ (7 * i) : Nat) : Int) ∧ AB 5 e3 = .int .i64 ((p + (i + 1) : Nat) : Int) ∧ AB 6 e3 = .int .i64 0 := by
          unfold K8
          simp only [sT, Nat.reduceLT, Nat.reduceEqDiff, if_true, if_false, reduceIte, p46, HB, p9, m1, Ba, m2, C3, p10, m3, Pn, m4, Bt, p7, m5, Ae, Ad, c2, p8, a3]
          exact ⟨_, rfl, by simp [AF], by simp [AF], by simp [AF]⟩
        obtain ⟨e3, r1, r4, r5, r6⟩ := hrun
        rw [p1, r1, Bf, DL]
        refine ⟨rfl, .inr ⟨e3, _, _, _, rfl, r4, r5, r6, .inl ⟨_, _, hu, ?_, rfl, rfl⟩⟩⟩
        rw [Nat.mod_eq_of_lt hsm]
      · left
        rw [if_neg hsm] at hu
        have hi8 : i ≤ 8 := by omega
        have c2 : iLt (c : Int) 128 = false := by rw [CM]; simp; omega
        have hrun : ∃ e3, K8 F e2 h' = .norm e3 h' ∧ AB 0 e3 = u ∧ AB 1 e3 = .int .i64 (p : Int) ∧ AB 7 e3 = .int .u64 ((acc + c % 128 * 2 ^ (7 * i) : Nat) : Int) ∧ AB 8 e3 = .int .i64 ((p + i : Nat) : Int) := by
          unfold K8
          simp only [sT, Nat.reduceLT, Nat.reduceEqDiff, if_true, if_false, reduceIte, p46, HB, p9, m1, Ba, m2, C3, p10, m3, Pn, m4, Bt, p7, m5, Ae, Ad, c2, p8, a3]
          exact ⟨_, rfl, by simp only [AF, Nat.reduceLT, Nat.reduceEqDiff, if_true, if_false, reduceIte]; exact p0, by simp only [AF, Nat.reduceLT, Nat.reduceEqDiff, if_true, if_false, reduceIte]; exact pp1, by simp [AF], by simp only [AF, Nat.reduceLT, Nat.reduceEqDiff, if_true, if_false, reduceIte]; exact p8⟩
        obtain ⟨e3, r1, r0, rr1, r7, r8⟩ := hrun
        have hrun2 : ∃ e4, N5 F e' h' = .norm e4 h' ∧ AB 0 e4 = u ∧ AB 1 e4 = .int .i64 (p : Int) ∧ AB 7 e4 = .int .u64 ((acc + c % 128 * 2 ^ (7 * i) : Nat) : Int) ∧ AB 8 e4 = .int .i64 ((p + (i + 1) : Nat) : Int) := by
          rw [p1, r1]
          simp only [Dd, Bd, Ee, El, Bt, r8, GK, a3, Cz, In, AF, Nat.reduceLT, Nat.reduceEqDiff, if_true, if_false, reduceIte]
          exact ⟨_, rfl, by simp only [AF, Nat.reduceLT, Nat.reduceEqDiff, if_true, if_false, reduceIte]; exact r0, by simp only [AF, Nat.reduceLT, Nat.reduceEqDiff, if_true, if_false, reduceIte]; exact rr1, by simp only [AF, Nat.reduceLT, Nat.reduceEqDiff, if_true, if_false, reduceIte]; exact r7, by simp [AF]⟩
        obtain ⟨e4, k1, k2, k3, k4, k5⟩ := hrun2
        exact ⟨by omega, e4, h', k1, rfl, _, k2, k3, k4, k5, hle, by omega, by omega, hu⟩
  · right
    have c1 : iLt ((p + i : Nat) : Int) (l.length : Int) = false := by rw [CM]; simp; omega
    have hrun : ∃ e2, N5 F e' h' = .exit 0 e2 h' := by
      rw [PF]
      simp only [sT, Nat.reduceLT, Nat.reduceEqDiff, if_true, if_false, reduceIte, Az, t0, Vl, Ae, Ad, t8, c1]
      exact ⟨_, rfl⟩
    obtain ⟨e2, r1⟩ := hrun
    rw [r1]
    refine ⟨rfl, .inl ⟨e2, rfl, ?_⟩⟩
    rw [hu, List.drop_of_length_le (by omega)]; rfl
def I7 : C := (cOp (AD 7) (AC (kV (.int .u64 0)))
(cOp (AD 8) (AC (AB 1))
(Al (AK 0 (Aj (cOp (AD 22) (Aw (AB 0))
(cOp (AD 23) (AM iLt .i64 (AB 8) (AB 22))
(AJ (AB 23)
(Al (AK 1 (cOp (AD 28) (AY 1 (AB 0) (AB 8))
(cOp (AD 29) (AG (AB 28))
(cOp (AD 32) (As Int.sub .i64 (AB 8) (AB 1))
(cOp (AD 9) (AC (AB 29))
(cOp (AD 10) (AC (AB 32))
(cOp (AD 34) (AM iGt .i64 (AB 10) (kV (.int .i64 0)))
(cG (AB 34) true (AD 36) (AC (AB 9))
(cG (AB 34) true (AD 37) (AM iEq .u8 (AB 36) (kV (.int .u8 0)))
(cOp (AD 38) (AW (AB 34) (AB 37) (kV (.bool false)))
(cG (AB 38) false (AD 40) (AC (AB 10))
(cG (AB 38) false (AD 41) (AM iGt .i64 (AB 40) (kV (.int .i64 8)))
(cG (AB 38) false (AD 42) (AC (AB 41))
(cG (AB 42) true (AD 43) (AC (AB 9))
(cG (AB 42) true (AD 44) (AM iGt .u8 (AB 43) (kV (.int .u8 1)))
(cG (AB 38) false (AD 45) (AW (AB 42) (AB 44) (kV (.bool false)))
(cOp (AD 46) (AW (AB 38) (kV (.bool true)) (AB 45))
(AJ (AB 46)
(cOp (AD 4) (AC (kV (.int .u64 0)))
(cOp (AD 5) (AC (kV (.int .i64 0)))
(cOp (AD 6) (AC (kV (.int .i64 10)))
AU)))
(cOp (AD 49) (GF .u8 (AB 9) (kV (.int .u8 128)))
(cOp (AD 50) (An .u64 (AB 49))
(cOp (AD 52) (As Int.mul .i64 (kV (.int .i64 7)) (AB 10))
(cOp (AD 53) (Ga .u64 (AB 50) (AB 52))
(cOp (AD 54) (Ai .u64 (AQ .u64) (AB 7) (AB 53))
(cOp (AD 7) (AC (AB 54))
(cOp (AD 56) (AM iLt .u8 (AB 9) (kV (.int .u8 128)))
(AJ (AB 56)
(cOp (AD 59) (Ai .i64 (AQ .i64) (AB 8) (kV (.int .i64 1)))
(cOp (AD 4) (AC (AB 7))
(cOp (AD 5) (AC (AB 59))
(cOp (AD 6) (AC (kV (.int .i64 0)))
AU))))
AO))))))))))))))))))))))))))
(cOp (AD 25) (Ai .i64 (AQ .i64) (AB 8) (kV (.int .i64 1)))
(cOp (AD 8) (AC (AB 25))
AO)))
(At 0))))))
(cOp (AD 4) (AC (kV (.int .u64 0)))
(cOp (AD 5) (AC (kV (.int .i64 0)))
(cOp (AD 6) (AC (kV (.int .i64 11)))
AU))))))
def eW : C := (cOp (AD 4) (AC (kV (.int .u64 0))) (cOp (AD 5) (AC (kV (.int .i64 0))) (cOp (AD 6) (AC (kV (.int .i64 11))) AU)))
theorem PI : I7 = cOp (AD 7) (AC (kV (.int .u64 0))) (cOp (AD 8) (AC (AB 1)) (Al (AK 0 (Aj N5)) eW)) := rfl
def VR : C := (cOp (AD 4) (AC (kV (.int .u64 0)))
(cOp (AD 5) (AC (kV (.int .i64 0)))
(cOp (AD 6) (AC (kV (.int .i64 0)))
(cOp (AD 12) (AM iLt .i64 (AB 1) (kV (.int .i64 0)))
(cG (AB 12) false (AD 14) (AC (AB 1))
(cG (AB 12) false (AD 15) (AC (AB 0))
(cG (AB 12) false (AD 16) (Aw (AB 15))
(cG (AB 12) false (AD 17) (AM iGt .i64 (AB 14) (AB 16))
(cOp (AD 18) (AW (AB 12) (kV (.bool true)) (AB 17))
(AJ (AB 18)
(cOp (AD 4) (AC (kV (.int .u64 0)))
(cOp (AD 5) (AC (kV (.int .i64 0)))
(cOp (AD 6) (AC (kV (.int .i64 2)))
AU)))
I7))))))))))
def d32 : C := VR
theorem Rj {n : Nat} {args : List Value} {h : Hp} (hl : Nat.ble (BR args) 320 = true) : call AH (Nat.succ n) 32 args h = Bs [.t (AB 4), .t (AB 5), .t (AB 6)] (d32 (call AH n) (Av e0 0 args) h) := by
  have hb : AH.get 32 = some b32 := by kernel_rfl
  rw [BQ hb]
  have hd : b32 = ⟨[.t (AB 4), .t (AB 5), .t (AB 6)], d32⟩ := by kernel_rfl
  rw [hd, BJ hl]
theorem Rx : d32 = VR := rfl
theorem aT {n : Nat} {h : Hp} {u : Value} {l : List Nat} {p : Nat} (V : h.Vals u (l.map bv)) (hb : ∀ x ∈ l, x < 256) (hp : p ≤ l.length) (hl : l.length ≤ 1000000) :
    ∃ a b c, call AH (n + 1) 32 [u, .int .i64 (p : Int)] h = .ok (.tuple ⟨[.int .u64 a, .int .i64 b, .int .i64 c]⟩) h ∧ P2 l p a b c := by
  have Vl : FS u h = .ok (.int .i64 (l.length : Int)) h := by have := V.len; rwa [List.length_map] at this
  have c0 : iLt (p : Int) 0 = false := by rw [CM]; simp
  have c1 : iGt (p : Int) (l.length : Int) = false := by rw [D3]; simp; omega
  have pre : ∃ e1, VR (call AH n) (Av e0 0 [u, .int .i64 (p : Int)]) h = I7 (call AH n) e1 h ∧ AB 0 e1 = u ∧ AB 1 e1 = .int .i64 (p : Int) := by
    unfold VR
    simp only [Aa, Ab, Nat.succ_eq_add_one, Nat.zero_add, Nat.reduceAdd, Ee, Fa, El, ES, Cz, GK, AF, Nat.reduceLT, Nat.reduceEqDiff, if_true, if_false, reduceIte, gD, Ae, Ad, c0, Az, Vl, c1]
    exact ⟨_, rfl, by simp [AF], by simp [AF]⟩
  obtain ⟨e1, p1, p2, p3⟩ := pre
  have H := SJ (F := call AH n) (e := Env.set 8 (.int .i64 (p : Int)) (Env.set 7 (.int .u64 0) e1)) V hb hp hl (by simp only [AF, Nat.reduceLT, Nat.reduceEqDiff, if_true, if_false, reduceIte]; exact p2) (by simp only [AF, Nat.reduceLT, Nat.reduceEqDiff, if_true, if_false, reduceIte]; exact p3) (by simp [AF]) (by simp [AF])
  rcases H with ⟨e2, q1, q2⟩ | ⟨e2, a, b, c, q1, q4, q5, q6, q7⟩
  · refine ⟨0, 0, 11, ?_, .inr ⟨q2, by omega⟩⟩
    rw [Rj rfl, Rx, p1, PI]
    simp only [Ee, El, Cz, GK, AF, Nat.reduceLT, Nat.reduceEqDiff, if_true, if_false, reduceIte, p3, Bj, BI]
    rw [q1]
    simp only [BN, Bd]
    unfold eW
    simp only [sT, Nat.reduceLT, Nat.reduceEqDiff, if_true, if_false, reduceIte, Ak, I4]
  · refine ⟨a, b, c, ?_, q7⟩
    rw [Rj rfl, Rx, p1, PI]
    simp only [Ee, El, Cz, GK, AF, Nat.reduceLT, Nat.reduceEqDiff, if_true, if_false, reduceIte, p3, Bj, BI]
    rw [q1]
    simp only [Bf, DL]
    simp only [Ak, I4, q4, q5, q6]
end
end Go.Proofs.YtfeldadhbnmklaaGreat
set_option linter.unusedVariables false
set_option linter.unusedSimpArgs false
namespace Go.Proofs.YtfeldadhbnmklaaGreat
noncomputable section
open Go
set_option maxRecDepth 100000
def vaB : C := (AK 1 (cOp (AD 5) (AM iLt .u64 (AB 0) (kV (.int .u64 128)))
(AJ (AB 5)
(cOp (AD 8) (An .u8 (AB 0))
(cOp (AD 9) (AX 1 (A6 ty5.zero 1) [(0, 1, (AB 8))])
(cOp (AD 10) (BB 1 1 5 (AB 3) (AB 9))
(cOp (AD 2) (AC (AB 10))
AU))))
(cOp (AD 13) (GF .u64 (AB 0) (kV (.int .u64 128)))
(cOp (AD 14) (An .u8 (AB 13))
(cOp (AD 15) (Ai .u8 (AQ .u8) (AB 14) (kV (.int .u8 128)))
(cOp (AD 16) (AX 1 (A6 ty5.zero 1) [(0, 1, (AB 15))])
(cOp (AD 17) (BB 1 1 5 (AB 3) (AB 16))
(cOp (AD 3) (AC (AB 17))
(cOp (AD 19) (Ch .u64 (AB 0) (kV (.int .u64 128)))
(cOp (AD 0) (AC (AB 19))
AO)))))))))))
def d62 : C := cOp (AD 2) (AC (kV (.slice none 0 0))) (cOp (AD 3) (AC (kV (.slice none 0 0))) (AK 0 (Aj vaB)))
theorem Zu {n : Nat} {args : List Value} {h : Hp} (hl : Nat.ble (BR args) 320 = true) : call AH (Nat.succ n) 62 args h = Bs [.t (AB 2)] (d62 (call AH n) (Av e0 0 args) h) := by
  have hb : AH.get 62 = some b62 := by kernel_rfl
  rw [BQ hb]
  have hd : b62 = ⟨[.t (AB 2)], d62⟩ := by kernel_rfl
  rw [hd, BJ hl]
theorem aC : d62 = cOp (AD 2) (AC (kV (.slice none 0 0))) (cOp (AD 3) (AC (kV (.slice none 0 0))) (AK 0 (Aj vaB))) := rfl
theorem XQ {F : CallF} {h : Hp} (W : h.Wf) {N : Nat} (hN : N < 18446744073709551616) {e : Env} (s0 : AB 0 e = .int .u64 (N : Int)) (s3 : AB 3 e = .slice none 0 0) :
    ∃ e' h' v, Aj vaB F e h = .ret e' h' ∧ AB 2 e' = v ∧ h.Ext h' ∧ h'.Own h.next 5 v ((BC N).map bv) := by
  have hten := Ez hN
  refine CF (I := fun i e' h' => ∃ v' xs m, AB 3 e' = v' ∧ AB 0 e' = .int .u64 ((m : Nat) : Int) ∧ m < 18446744073709551616 ∧ BC N = xs ++ BC m ∧ i + (BC m).length = (BC N).length ∧ h.Ext h' ∧ h'.Own h.next 5 v' (xs.map bv))
    (Q := fun x => ∃ e' h' v, x = .ret e' h' ∧ AB 2 e' = v ∧ h.Ext h' ∧ h'.Own h.next 5 v ((BC N).map bv)) 20 (by omega) (fun i e' h' ⟨v', xs, m, t3, t0, hm, hx, hi, x1, o1⟩ => ?_)
    ⟨.slice none 0 0, [], N, s3, s0, hN, rfl, Nat.zero_add _, .refl W, .inl ⟨rfl, rfl⟩⟩
  have hlen := congrArg List.length hx
  rw [List.length_append] at hlen
  have W1 := x1.wf
  by_cases h1 : m < 128
  · right
    have c1 : iLt (m : Int) 128 = true := by rw [CM]; simp; omega
    have v1 : CV .u8 (.int .u64 (m : Int)) h' = .ok (.int .u8 (m : Int)) h' := by
      rw [Bp, DO, Nat.mod_eq_of_lt (show m < 256 by omega)]
    have os : ∀ e, AB 8 e = .int .u8 (m : Int) → AX 1 (A6 ty5.zero 1) [(0, 1, AB 8)] F e h' = .ok (.slice (some ⟨h'.next, 0, none⟩) 1 1) (h'.pushRow 0 [.int .u8 (m : Int)]) := fun e he => by rw [Nh]; exact Dw W1 he rfl rfl
    obtain ⟨h2, v2, a2, x2, o2, _, _⟩ := F9 (eb := 1) (n := (m : Int)) (kd := .u8) x1 (Nat.le_refl _) x1.next o1 (by rw [List.length_map]; omega)
    have hrun : ∃ e2, vaB F e' h' = .ret e2 h2 ∧ AB 2 e2 = v2 := by
      unfold vaB
      simp only [sT, Nat.reduceLT, Nat.reduceEqDiff, if_true, if_false, reduceIte, Ae, Ad, t0, c1, Ba, v1, os, Cq, t3, a2, Bf]
      exact ⟨_, rfl, by simp [AF]⟩
    obtain ⟨e2, b1, b2⟩ := hrun
    rw [b1]
    refine ⟨rfl, e2, h2, v2, rfl, b2, x2, ?_⟩
    rw [hx, DM h1, List.map_append]; exact o2
  · left
    have c1 : iLt (m : Int) 128 = false := by rw [CM]; simp; omega
    have r1 : Ob .u64 (.int .u64 (m : Int)) (.int .u64 128) h' = .ok (.int .u64 ((m % 128 : Nat) : Int)) h' := by rw [IZ (by omega)]; rfl
    have v1 : CV .u8 (.int .u64 ((m % 128 : Nat) : Int)) h' = .ok (.int .u8 ((m % 128 : Nat) : Int)) h' := by
      rw [Bp, DO, Nat.mod_eq_of_lt (show m % 128 < 256 by omega)]
    have a1 : FV .u8 (.int .u8 ((m % 128 : Nat) : Int)) (.int .u8 128) h' = .ok (.int .u8 ((m % 128 + 128 : Nat) : Int)) h' := by
      rw [CZ, show ((m % 128 : Nat) : Int) + 128 = ((m % 128 + 128 : Nat) : Int) by omega, DO, Nat.mod_eq_of_lt (show m % 128 + 128 < 256 by omega)]
    have os : ∀ e, AB 15 e = .int .u8 ((m % 128 + 128 : Nat) : Int) → AX 1 (A6 ty5.zero 1) [(0, 1, AB 15)] F e h' = .ok (.slice (some ⟨h'.next, 0, none⟩) 1 1) (h'.pushRow 0 [.int .u8 ((m % 128 + 128 : Nat) : Int)]) := fun e he => by rw [Nh]; exact Dw W1 he rfl rfl
    have hpos := Hw (m / 128)
    rw [EF (n := m) (by omega)] at hi hlen hx
    rw [List.length_cons] at hi hlen
    obtain ⟨h2, v2, a2, x2, o2, _, _⟩ := F9 (eb := 1) (n := ((m % 128 + 128 : Nat) : Int)) (kd := .u8) x1 (Nat.le_refl _) x1.next o1 (by rw [List.length_map]; omega)
    have d1 : Iy .u64 (.int .u64 (m : Int)) (.int .u64 128) h2 = .ok (.int .u64 ((m / 128 : Nat) : Int)) h2 := by
      have : IntKind.u64.wrap ((m : Int).tdiv 128) = ((m / 128 : Nat) : Int) := Cg (n := m / 128) (by omega)
      rw [Gr (by omega), this]
    have hrun : ∃ e2, vaB F e' h' = .norm e2 h2 ∧ AB 3 e2 = v2 ∧ AB 0 e2 = .int .u64 ((m / 128 : Nat) : Int) := by
      unfold vaB
      simp only [sT, Nat.reduceLT, Nat.reduceEqDiff, if_true, if_false, reduceIte, Ae, Ad, t0, c1, HB, r1, Ba, v1, Bt, a1, os, Cq, t3, a2, G7, d1, Dd]
      exact ⟨_, rfl, by simp [AF], by simp [AF]⟩
    obtain ⟨e2, b1, b2, b3⟩ := hrun
    refine ⟨by omega, e2, h2, b1, v2, xs ++ [m % 128 + 128], m / 128, b2, b3, by omega, ?_, by omega, x2, ?_⟩
    · rw [hx]; simp
    · rw [List.map_append]; exact o2
theorem Kk {n : Nat} {h : Hp} (W : h.Wf) {N : Nat} (hN : N < 18446744073709551616) : ∃ h' v, call AH (n + 1) 62 [.int .u64 (N : Int)] h = .ok v h' ∧ h.Ext h' ∧ h'.Own h.next 5 v ((BC N).map bv) := by
  obtain ⟨e2, h', v, q1, q2, q3, q4⟩ := XQ (F := call AH n) W hN (e := Env.set 3 (.slice none 0 0) (Env.set 2 (.slice none 0 0) (Env.set 0 (.int .u64 (N : Int)) e0))) (by simp [AF]) (by simp [AF])
  refine ⟨h', v, ?_, q3, q4⟩
  rw [Zu rfl, aC]
  simp only [Aa, Ab, Nat.succ_eq_add_one, Nat.zero_add, Nat.reduceAdd, Ee, El, Cz, GK, Nat.reduceLT, BI]
  rw [q1]
  simp only [Bf, Ak, A1, q2]
theorem WJ {F : CallF} {e : Env} {h : Hp} {x y : O} {a b : List Nat} (hx : x e = .string ⟨⟨a.map UInt8.ofNat⟩⟩) (hy : y e = .string ⟨⟨b.map UInt8.ofNat⟩⟩) (hl : a.length + b.length ≤ 2000000) : LH x y F e h = .ok (.string ⟨⟨(a ++ b).map UInt8.ofNat⟩⟩) h := by
  unfold LH
  rw [hx, hy]
  show (bif Nat.ble (Nat.add (BR (a.map UInt8.ofNat)) (BR (b.map UInt8.ofNat))) most then R.ok (.string ⟨⟨a.map UInt8.ofNat ++ b.map UInt8.ofNat⟩⟩) h else .no) = _
  rw [Ap.2 (show Nat.add (BR (a.map UInt8.ofNat)) (BR (b.map UInt8.ofNat)) ≤ most from (by
    rw [BD, BD, List.length_map, List.length_map]
    show a.length + b.length ≤ 1099511627776
    omega)), List.map_append]; rfl
theorem Rc (l : List Nat) (hb : ∀ x ∈ l, x < 256) : Bk (l.map UInt8.ofNat) = l.map bv := by
  rw [Di, List.map_map]
  refine List.map_congr_left fun x hx => ?_
  show Value.int .u8 ((UInt8.ofNat x).toNat : Int) = .int .u8 (x : Int)
  rw [UInt8.toNat_ofNat', Nat.mod_eq_of_lt (hb x hx)]
theorem Mr {F : CallF} {e : Env} {h : Hp} (W : h.Wf) {x : O} {a : List Nat} (hx : x e = .string ⟨⟨a.map UInt8.ofNat⟩⟩) (hb : ∀ x ∈ a, x < 256) (hl : a.length ≤ 2000000) (hp : 0 < a.length) :
    Dg 5 x F e h = .ok (.slice (some ⟨h.next, 0, none⟩) a.length a.length) (h.pushRow 6 (a.map bv)) := by
  unfold Dg
  rw [hx]
  show (forceN (BR (a.map UInt8.ofNat)) fun n => bif Nat.ble n most then newRow h 6 (Bk (a.map UInt8.ofNat)) (Dl n n) else .no) = _
  rw [Ao, BD, List.length_map, Ap.2 (show a.length ≤ most from (by show _ ≤ 1099511627776; omega)), Rc a hb]
  show newRow h 6 (a.map bv) (Dl a.length a.length) = _
  rw [DA W]; rfl
theorem KR {n : Nat} {h : Hp} (W : h.Wf) {u v : Value} {a b : List Nat} (U : h.Vals u (a.map bv)) (V : h.Vals v (b.map bv)) (ha : ∀ x ∈ a, x < 256) (hb : ∀ x ∈ b, x < 256) (hl : a.length + b.length ≤ 2000000) (hp : 0 < b.length) :
    ∃ h' w, call AH (n + 1) 86 [u, v] h = .ok w h' ∧ h.Ext h' ∧ h'.Own h.next 5 w ((a ++ b).map bv) := by
  have hab : ∀ x ∈ a ++ b, x < 256 := fun x hx => (List.mem_append.1 hx).elim (ha x) (hb x)
  have hlen : (a ++ b).length = a.length + b.length := List.length_append
  have k1 : ∀ e : Env, AB 6 e = .string ⟨⟨a.map UInt8.ofNat⟩⟩ → AB 8 e = .string ⟨⟨b.map UInt8.ofNat⟩⟩ → LH (AB 6) (AB 8) (call AH n) e h = .ok (.string ⟨⟨(a ++ b).map UInt8.ofNat⟩⟩) h := fun e h1 h2 => WJ h1 h2 hl
  have k2 : ∀ e : Env, AB 9 e = .string ⟨⟨(a ++ b).map UInt8.ofNat⟩⟩ → Dg 5 (AB 9) (call AH n) e h = .ok (.slice (some ⟨h.next, 0, none⟩) (a ++ b).length (a ++ b).length) (h.pushRow 6 ((a ++ b).map bv)) := fun e h1 => Mr W h1 hab (by omega) (by omega)
  refine ⟨_, .slice (some ⟨h.next, 0, none⟩) (a ++ b).length (a ++ b).length, ?_, (Hp.Ext.refl W).pushRow 6 ((a ++ b).map bv), .inr ⟨h.next, by rw [List.length_map], Hp.Row.new W 6 _, Nat.le_refl _, W.big⟩⟩
  rw [Zx rfl]
  unfold d86
  simp only [Aa, Ab, Nat.succ_eq_add_one, Nat.zero_add, Nat.reduceAdd, sT, Nat.reduceLT, Nat.reduceEqDiff, if_true, if_false, reduceIte, F8, U.bytes.str, V.bytes.str, k1, k2, Ak, A1]
theorem Fu {n : Nat} {h : Hp} (W : h.Wf) {u : Value} {a : List Nat} (U : h.Vals u (a.map bv)) (ha : ∀ x ∈ a, x < 256) (hl : a.length ≤ 1000000) {N : Nat} (hN : N < 18446744073709551616) :
    ∃ h' w, call AH (n + 2) 63 [u, .int .u64 (N : Int)] h = .ok w h' ∧ h.Ext h' ∧ h'.Own h.next 5 w ((a ++ BC N).map bv) := by
  obtain ⟨h1, v, k1, x1, o1⟩ := Kk (n := n) W hN
  have := Ez hN
  obtain ⟨h2, w, k2, x2, o2⟩ := KR (n := n) x1.wf (U.ext W x1) o1.vals ha (HM N) (by omega) (Hw N)
  refine ⟨h2, w, ?_, x1.trans x2, o2.le x1.next⟩
  rw [Zv rfl]
  unfold d63
  simp only [Aa, Ab, Nat.succ_eq_add_one, Nat.zero_add, Nat.reduceAdd, sT, Nat.reduceLT, Nat.reduceEqDiff, if_true, if_false, reduceIte, Ay, Ah, Ax, k1, k2, Ak, A1]
end
end Go.Proofs.YtfeldadhbnmklaaGreat
set_option linter.unusedVariables false
set_option linter.unusedSimpArgs false
namespace Go.Proofs.YtfeldadhbnmklaaGreat
noncomputable section
open Go
set_option maxRecDepth 100000
def ga9 : C := (cOp (AD 34) (AM iGt .i64 (AB 9) (kV (.int .i64 1)))
(cG (AB 34) true (AD 36) (AC (AB 10))
(cG (AB 34) true (AD 37) (AM iEq .u8 (AB 36) (kV (.int .u8 0)))
(cOp (AD 38) (AW (AB 34) (AB 37) (kV (.bool false)))
(cG (AB 38) false (AD 40) (AC (AB 9))
(cG (AB 38) false (AD 41) (AM iEq .i64 (AB 40) (kV (.int .i64 10)))
(cG (AB 38) false (AD 42) (AC (AB 41))
(cG (AB 42) true (AD 43) (AC (AB 10))
(cG (AB 42) true (AD 44) (AM iGt .u8 (AB 43) (kV (.int .u8 1)))
(cG (AB 38) false (AD 45) (AW (AB 42) (AB 44) (kV (.bool false)))
(cOp (AD 46) (AW (AB 38) (kV (.bool true)) (AB 45))
(AJ (AB 46)
(cOp (AD 4) (AC (kV (.int .u64 0)))
(cOp (AD 5) (AC (kV (.int .i64 0)))
(cOp (AD 6) (AC (kV (.int .i64 10)))
AU)))
(cOp (AD 48) (AM iLt .u8 (AB 10) (kV (.int .u8 128)))
(AJ (AB 48)
(cOp (AD 52) (An .u64 (AB 10))
(cOp (AD 53) (As Int.mul .u64 (AB 8) (AB 52))
(cOp (AD 54) (Ai .u64 (AQ .u64) (AB 7) (AB 53))
(cOp (AD 57) (Ai .i64 (AQ .i64) (AB 1) (AB 9))
(cOp (AD 4) (AC (AB 54))
(cOp (AD 5) (AC (AB 57))
(cOp (AD 6) (AC (kV (.int .i64 0)))
AU)))))))
(cOp (AD 61) (As Int.sub .u8 (AB 10) (kV (.int .u8 128)))
(cOp (AD 62) (An .u64 (AB 61))
(cOp (AD 63) (As Int.mul .u64 (AB 8) (AB 62))
(cOp (AD 64) (Ai .u64 (AQ .u64) (AB 7) (AB 63))
(cOp (AD 7) (AC (AB 64))
(cOp (AD 66) (As Int.mul .u64 (AB 8) (kV (.int .u64 128)))
(cOp (AD 8) (AC (AB 66))
AO)))))))))))))))))))))
def gT9 : C := (AJ (AB 46)
(cOp (AD 4) (AC (kV (.int .u64 0)))
(cOp (AD 5) (AC (kV (.int .i64 0)))
(cOp (AD 6) (AC (kV (.int .i64 10)))
AU)))
(cOp (AD 48) (AM iLt .u8 (AB 10) (kV (.int .u8 128)))
(AJ (AB 48)
(cOp (AD 52) (An .u64 (AB 10))
(cOp (AD 53) (As Int.mul .u64 (AB 8) (AB 52))
(cOp (AD 54) (Ai .u64 (AQ .u64) (AB 7) (AB 53))
(cOp (AD 57) (Ai .i64 (AQ .i64) (AB 1) (AB 9))
(cOp (AD 4) (AC (AB 54))
(cOp (AD 5) (AC (AB 57))
(cOp (AD 6) (AC (kV (.int .i64 0)))
AU)))))))
(cOp (AD 61) (As Int.sub .u8 (AB 10) (kV (.int .u8 128)))
(cOp (AD 62) (An .u64 (AB 61))
(cOp (AD 63) (As Int.mul .u64 (AB 8) (AB 62))
(cOp (AD 64) (Ai .u64 (AQ .u64) (AB 7) (AB 63))
(cOp (AD 7) (AC (AB 64))
(cOp (AD 66) (As Int.mul .u64 (AB 8) (kV (.int .u64 128)))
(cOp (AD 8) (AC (AB 66))
AO))))))))))
def gG9 (K : C) : C := (cOp (AD 34) (AM iGt .i64 (AB 9) (kV (.int .i64 1)))
(cG (AB 34) true (AD 36) (AC (AB 10))
(cG (AB 34) true (AD 37) (AM iEq .u8 (AB 36) (kV (.int .u8 0)))
(cOp (AD 38) (AW (AB 34) (AB 37) (kV (.bool false)))
(cG (AB 38) false (AD 40) (AC (AB 9))
(cG (AB 38) false (AD 41) (AM iEq .i64 (AB 40) (kV (.int .i64 10)))
(cG (AB 38) false (AD 42) (AC (AB 41))
(cG (AB 42) true (AD 43) (AC (AB 10))
(cG (AB 42) true (AD 44) (AM iGt .u8 (AB 43) (kV (.int .u8 1)))
(cG (AB 38) false (AD 45) (AW (AB 42) (AB 44) (kV (.bool false)))
(cOp (AD 46) (AW (AB 38) (kV (.bool true)) (AB 45))
K)))))))))))
theorem aQ : ga9 = gG9 gT9 := rfl
def gB9 : C := (AK 1 (cOp (AD 21) (Ai .i64 (AQ .i64) (AB 1) (AB 9))
(cOp (AD 23) (Aw (AB 0))
(cOp (AD 24) (AM iEq .i64 (AB 21) (AB 23))
(AJ (AB 24)
(cOp (AD 4) (AC (kV (.int .u64 0)))
(cOp (AD 5) (AC (kV (.int .i64 0)))
(cOp (AD 6) (AC (kV (.int .i64 11)))
AU)))
(cOp (AD 28) (Ai .i64 (AQ .i64) (AB 1) (AB 9))
(cOp (AD 29) (AY 1 (AB 0) (AB 28))
(cOp (AD 30) (AG (AB 29))
(cOp (AD 10) (AC (AB 30))
(cOp (AD 32) (Ai .i64 (AQ .i64) (AB 9) (kV (.int .i64 1)))
(cOp (AD 9) (AC (AB 32))
ga9)))))))))))
def gR9 : C := (AK 0 (Aj (AK 1 (cOp (AD 21) (Ai .i64 (AQ .i64) (AB 1) (AB 9))
(cOp (AD 23) (Aw (AB 0))
(cOp (AD 24) (AM iEq .i64 (AB 21) (AB 23))
(AJ (AB 24)
(cOp (AD 4) (AC (kV (.int .u64 0)))
(cOp (AD 5) (AC (kV (.int .i64 0)))
(cOp (AD 6) (AC (kV (.int .i64 11)))
AU)))
(cOp (AD 28) (Ai .i64 (AQ .i64) (AB 1) (AB 9))
(cOp (AD 29) (AY 1 (AB 0) (AB 28))
(cOp (AD 30) (AG (AB 29))
(cOp (AD 10) (AC (AB 30))
(cOp (AD 32) (Ai .i64 (AQ .i64) (AB 9) (kV (.int .i64 1)))
(cOp (AD 9) (AC (AB 32))
(cOp (AD 34) (AM iGt .i64 (AB 9) (kV (.int .i64 1)))
(cG (AB 34) true (AD 36) (AC (AB 10))
(cG (AB 34) true (AD 37) (AM iEq .u8 (AB 36) (kV (.int .u8 0)))
(cOp (AD 38) (AW (AB 34) (AB 37) (kV (.bool false)))
(cG (AB 38) false (AD 40) (AC (AB 9))
(cG (AB 38) false (AD 41) (AM iEq .i64 (AB 40) (kV (.int .i64 10)))
(cG (AB 38) false (AD 42) (AC (AB 41))
(cG (AB 42) true (AD 43) (AC (AB 10))
(cG (AB 42) true (AD 44) (AM iGt .u8 (AB 43) (kV (.int .u8 1)))
(cG (AB 38) false (AD 45) (AW (AB 42) (AB 44) (kV (.bool false)))
(cOp (AD 46) (AW (AB 38) (kV (.bool true)) (AB 45))
(AJ (AB 46)
(cOp (AD 4) (AC (kV (.int .u64 0)))
(cOp (AD 5) (AC (kV (.int .i64 0)))
(cOp (AD 6) (AC (kV (.int .i64 10)))
AU)))
(cOp (AD 48) (AM iLt .u8 (AB 10) (kV (.int .u8 128)))
(AJ (AB 48)
(cOp (AD 52) (An .u64 (AB 10))
(cOp (AD 53) (As Int.mul .u64 (AB 8) (AB 52))
(cOp (AD 54) (Ai .u64 (AQ .u64) (AB 7) (AB 53))
(cOp (AD 57) (Ai .i64 (AQ .i64) (AB 1) (AB 9))
(cOp (AD 4) (AC (AB 54))
(cOp (AD 5) (AC (AB 57))
(cOp (AD 6) (AC (kV (.int .i64 0)))
AU)))))))
(cOp (AD 61) (As Int.sub .u8 (AB 10) (kV (.int .u8 128)))
(cOp (AD 62) (An .u64 (AB 61))
(cOp (AD 63) (As Int.mul .u64 (AB 8) (AB 62))
(cOp (AD 64) (Ai .u64 (AQ .u64) (AB 7) (AB 63))
(cOp (AD 7) (AC (AB 64))
(cOp (AD 66) (As Int.mul .u64 (AB 8) (kV (.int .u64 128)))
(cOp (AD 8) (AC (AB 66))
AO))))))))))))))))))))))))))))))))))
theorem aP : gR9 = AK 0 (Aj gB9) := rfl
def VS : C := (cOp (AD 4) (AC (kV (.int .u64 0)))
(cOp (AD 5) (AC (kV (.int .i64 0)))
(cOp (AD 6) (AC (kV (.int .i64 0)))
(cOp (AD 12) (AM iLt .i64 (AB 1) (kV (.int .i64 0)))
(cG (AB 12) false (AD 14) (AC (AB 1))
(cG (AB 12) false (AD 15) (AC (AB 0))
(cG (AB 12) false (AD 16) (Aw (AB 15))
(cG (AB 12) false (AD 17) (AM iGt .i64 (AB 14) (AB 16))
(cOp (AD 18) (AW (AB 12) (kV (.bool true)) (AB 17))
(AJ (AB 18)
(cOp (AD 4) (AC (kV (.int .u64 0)))
(cOp (AD 5) (AC (kV (.int .i64 0)))
(cOp (AD 6) (AC (kV (.int .i64 2)))
AU)))
(cOp (AD 7) (AC (kV (.int .u64 0)))
(cOp (AD 8) (AC (kV (.int .u64 1)))
(cOp (AD 9) (AC (kV (.int .i64 0)))
gR9)))))))))))))
def d35 : C := VS
theorem Zt {n : Nat} {args : List Value} {h : Hp} (hl : Nat.ble (BR args) 320 = true) : call AH (Nat.succ n) 35 args h = Bs [.t (AB 4), .t (AB 5), .t (AB 6)] (d35 (call AH n) (Av e0 0 args) h) := by
  have hb : AH.get 35 = some b35 := by kernel_rfl
  rw [BQ hb]
  have hd : b35 = ⟨[.t (AB 4), .t (AB 5), .t (AB 6)], d35⟩ := by kernel_rfl
  rw [hd, BJ hl]
theorem aB : d35 = VS := rfl
theorem aO {K : C} {F : CallF} {h : Hp} {e : Env} {c i : Nat} {b1 b2 b3 b4 : Bool} (s10 : AB 10 e = .int .u8 (c : Int)) (s9 : AB 9 e = .int .i64 (i : Int)) (i1 : iGt (i : Int) 1 = b1) (i2 : iEq (c : Int) 0 = b2) (i3 : iEq (i : Int) 10 = b3) (i4 : iGt (c : Int) 1 = b4) :
    ∃ e', gG9 K F e h = K F e' h ∧ AB 46 e' = .bool ((b1 && b2) || (b3 && b4)) ∧ AB 0 e' = AB 0 e ∧ AB 1 e' = AB 1 e ∧ AB 7 e' = AB 7 e ∧ AB 8 e' = AB 8 e ∧ AB 9 e' = AB 9 e ∧ AB 10 e' = AB 10 e := by
  unfold gG9
  cases b1 <;> cases b2 <;> cases b3 <;> cases b4 <;>
  · simp only [sT, Nat.reduceLT, Nat.reduceEqDiff, if_true, if_false, reduceIte, gD, Ae, Ad, s9, s10, i1, i2, i3, i4]
    exact ⟨_, rfl, by simp only [AF, Nat.reduceLT, Nat.reduceEqDiff, if_true, if_false, reduceIte]; rfl, by simp [AF], by simp [AF], by simp [AF], by simp [AF], by simp only [AF, Nat.reduceLT, Nat.reduceEqDiff, if_true, if_false, reduceIte, s9], by simp only [AF, Nat.reduceLT, Nat.reduceEqDiff, if_true, if_false, reduceIte, s10]⟩
theorem QK {F : CallF} {h : Hp} {u : Value} {l : List Nat} {p : Nat} (V : h.Vals u (l.map bv)) (hb : ∀ x ∈ l, x < 256) (hp : p ≤ l.length) (hl : l.length ≤ 1000000) {e : Env} (s0 : AB 0 e = u) (s1 : AB 1 e = .int .i64 (p : Int)) (s7 : AB 7 e = .int .u64 0) (s8 : AB 8 e = .int .u64 1) (s9 : AB 9 e = .int .i64 0) :
    ∃ e' a b c, Aj gB9 F e h = .ret e' h ∧ AB 4 e' = .int .u64 a ∧ AB 5 e' = .int .i64 b ∧ AB 6 e' = .int .i64 c ∧ P2 l p a b c := by
  have Vl : FS u h = .ok (.int .i64 (l.length : Int)) h := by have := V.len; rwa [List.length_map] at this
  refine CF (I := fun i e' h' => h' = h ∧ ∃ acc : Nat, AB 0 e' = u ∧ AB 1 e' = .int .i64 (p : Int) ∧ AB 7 e' = .int .u64 (acc : Int) ∧ AB 8 e' = .int .u64 ((2 ^ (7 * i) : Nat) : Int) ∧ AB 9 e' = .int .i64 (i : Int) ∧ acc < 2 ^ (7 * i) ∧ i ≤ 9 ∧ p + i ≤ l.length ∧ Ds 0 0 (l.drop p) = Ds i acc (l.drop (p + i)))
    (Q := fun x => ∃ e' a b c, x = .ret e' h ∧ AB 4 e' = .int .u64 a ∧ AB 5 e' = .int .i64 b ∧ AB 6 e' = .int .i64 c ∧ P2 l p a b c) 20 (by omega) (fun i e' h' ⟨hh, acc, t0, t1, t7, t8, t9, hacc, hi9, hpi, hu⟩ => ?_)
    ⟨rfl, 0, s0, s1, s7, s8, s9, by decide, by omega, hp, rfl⟩
  subst hh
  have a1 : FV .i64 (.int .i64 (p : Int)) (.int .i64 (i : Int)) h' = .ok (.int .i64 ((p + i : Nat) : Int)) h' := by
    have : (p : Int) + (i : Int) = ((p + i : Nat) : Int) := by omega
    rw [CZ, this, Bc (by omega)]
  by_cases hlt : p + i < l.length
  · have hc : l.getD (p + i) 0 < 256 := hb _ (by rw [List.getD_eq_getElem?_getD, List.getElem?_eq_getElem hlt]; exact List.getElem_mem hlt)
    have hd : l.drop (p + i) = l.getD (p + i) 0 :: l.drop (p + i + 1) := by
      rw [List.drop_eq_getElem_cons hlt, List.getD_eq_getElem?_getD, List.getElem?_eq_getElem hlt]; rfl
    have hel : (l.map bv).getD (p + i) noRes = .int .u8 ((l.getD (p + i) 0 : Nat) : Int) := by
      rw [List.getD_eq_getElem?_getD, List.getElem?_map, List.getD_eq_getElem?_getD, List.getElem?_eq_getElem hlt]; rfl
    obtain ⟨a, g1, g2⟩ := V.at (i := p + i) (by rw [List.length_map]; exact hlt)
    rw [hel] at g2
    rw [hd] at hu
    generalize l.getD (p + i) 0 = c at hc g2 hu
    have c1 : iEq ((p + i : Nat) : Int) (l.length : Int) = false := by rw [Cp]; simp; omega
    have a3 : FV .i64 (.int .i64 (i : Int)) (.int .i64 1) h' = .ok (.int .i64 ((i + 1 : Nat) : Int)) h' := by
      have : (i : Int) + 1 = ((i + 1 : Nat) : Int) := by omega
      rw [CZ, this, Bc (by omega)]
    have a4 : FV .i64 (.int .i64 (p : Int)) (.int .i64 ((i + 1 : Nat) : Int)) h' = .ok (.int .i64 ((p + (i + 1) : Nat) : Int)) h' := by
      have : (p : Int) + ((i + 1 : Nat) : Int) = ((p + (i + 1) : Nat) : Int) := by omega
      rw [CZ, this, Bc (by omega)]
    have pre : ∃ e1, gB9 F e' h' = GQ 1 (ga9 F e1 h') ∧ AB 0 e1 = u ∧ AB 1 e1 = .int .i64 (p : Int) ∧ AB 7 e1 = .int .u64 (acc : Int) ∧ AB 8 e1 = .int .u64 ((2 ^ (7 * i) : Nat) : Int) ∧ AB 9 e1 = .int .i64 ((i + 1 : Nat) : Int) ∧ AB 10 e1 = .int .u8 (c : Int) := by
      unfold gB9
      simp only [sT, Nat.reduceLT, Nat.reduceEqDiff, if_true, if_false, reduceIte, Bt, t1, t9, a1, Az, t0, Vl, Ae, Ad, c1, CO, g1, Au, g2, a3]
      exact ⟨_, rfl, by simp only [AF, Nat.reduceLT, Nat.reduceEqDiff, if_true, if_false, reduceIte]; exact t0, by simp only [AF, Nat.reduceLT, Nat.reduceEqDiff, if_true, if_false, reduceIte]; exact t1, by simp only [AF, Nat.reduceLT, Nat.reduceEqDiff, if_true, if_false, reduceIte]; exact t7, by simp only [AF, Nat.reduceLT, Nat.reduceEqDiff, if_true, if_false, reduceIte]; exact t8, by simp [AF], by simp [AF]⟩
    obtain ⟨e1, k0, k1, k2, k3, k4, k5, k6⟩ := pre
    obtain ⟨e2, q1, p46, p0, pp1, p7, p8, p9, p10⟩ := aO (K := gT9) (F := F) (h := h') (e := e1) (c := c) (i := i + 1) (b1 := decide (0 < i)) (b2 := decide (c = 0)) (b3 := decide (8 < i)) (b4 := decide (1 < c))
        k6 k5 (by rw [D3, decide_eq_decide]; omega) (by rw [Cp, Bool.eq_iff_iff, beq_iff_eq, decide_eq_true_eq]; omega) (by rw [Cp, Bool.eq_iff_iff, beq_iff_eq, decide_eq_true_eq]; omega) (by rw [D3, decide_eq_decide]; omega)
    rw [k1] at p0
    rw [k2] at pp1
    rw [k3] at p7
    rw [k4] at p8
    rw [k5] at p9
    rw [k6] at p10
    rw [Ds] at hu
    rw [k0, aQ, q1]
    by_cases hbad : (0 < i ∧ c = 0) ∨ (8 < i ∧ 1 < c)
    · right
      have hB : ((decide (0 < i) && decide (c = 0)) || (decide (8 < i) && decide (1 < c))) = true := by simpa using hbad
      rw [hB] at p46
      rw [if_pos hbad] at hu
      have hrun : ∃ e3, gT9 F e2 h' = .ret e3 h' ∧ AB 4 e3 = .int .u64 0 ∧ AB 5 e3 = .int .i64 0 ∧ AB 6 e3 = .int .i64 10 := by
        unfold gT9
        simp only [sT, Nat.reduceLT, Nat.reduceEqDiff, if_true, if_false, reduceIte, p46]
        exact ⟨_, rfl, by simp [AF], by simp [AF], by simp [AF]⟩
      obtain ⟨e3, r1, r4, r5, r6⟩ := hrun
      rw [r1, Bf]
      exact ⟨rfl, e3, 0, 0, 10, rfl, r4, r5, r6, .inr ⟨hu, by omega⟩⟩
    · have hB : ((decide (0 < i) && decide (c = 0)) || (decide (8 < i) && decide (1 < c))) = false := by
        rw [← Bool.not_eq_true]; simpa using hbad
      rw [hB] at p46
      rw [if_neg hbad] at hu
      have hpw := HD i
      have hle : acc + c % 128 * 2 ^ (7 * i) < 2 ^ (7 * (i + 1)) := by
        have h1 : c % 128 ≤ 127 := by omega
        have h2 := Nat.mul_le_mul_right (2 ^ (7 * i)) h1
        omega
      have htop : c % 128 * 2 ^ (7 * i) ≤ 9223372036854775808 ∧ acc < 9223372036854775808 := by
        have h3 := Fo hi9
        refine ⟨?_, by omega⟩
        rcases Nat.lt_or_ge i 9 with h4 | h4
        · have h5 : 2 ^ (7 * (i + 1)) ≤ 9223372036854775808 := Fo (by omega)
          omega
        · have h5 : c % 128 ≤ 1 := by omega
          have h6 := Nat.mul_le_mul_right (2 ^ (7 * i)) h5
          omega
      have m5 : FV .u64 (.int .u64 (acc : Int)) (.int .u64 ((c % 128 * 2 ^ (7 * i) : Nat) : Int)) h' = .ok (.int .u64 ((acc + c % 128 * 2 ^ (7 * i) : Nat) : Int)) h' := by
        rw [CZ, ← Int.natCast_add, Cg (by omega)]
      have m4 : GD Int.mul .u64 (.int .u64 ((2 ^ (7 * i) : Nat) : Int)) (.int .u64 ((c % 128 : Nat) : Int)) h' = .ok (.int .u64 ((c % 128 * 2 ^ (7 * i) : Nat) : Int)) h' := by
        have : Int.mul ((2 ^ (7 * i) : Nat) : Int) ((c % 128 : Nat) : Int) = ((c % 128 * 2 ^ (7 * i) : Nat) : Int) := by
          rw [Nat.mul_comm (c % 128)]; exact (Int.natCast_mul _ _).symm
        rw [Ct, this, Cg (by omega)]
      by_cases hsm : c < 128
      · right
        rw [if_pos hsm] at hu
        have hcm : c % 128 = c := Nat.mod_eq_of_lt hsm
        have c2 : iLt (c : Int) 128 = true := by rw [CM]; simp; omega
        have m2 : CV .u64 (.int .u8 (c : Int)) h' = .ok (.int .u64 ((c % 128 : Nat) : Int)) h' := by rw [Bp, Cg (by omega), hcm]
        have hrun : ∃ e3, gT9 F e2 h' = .ret e3 h' ∧ AB 4 e3 = .int .u64 ((acc + c % 128 * 2 ^ (7 * i) : Nat) : Int) ∧ AB 5 e3 = .int .i64 ((p + (i + 1) : Nat) : Int) ∧ AB 6 e3 = .int .i64 0 := by
          unfold gT9
          simp only [sT, Nat.reduceLT, Nat.reduceEqDiff, if_true, if_false, reduceIte, p46, p10, Ba, m2, C3, p8, m4, Bt, p7, m5, Ae, Ad, c2, p9, pp1, a4]
          exact ⟨_, rfl, by simp [AF], by simp [AF], by simp [AF]⟩
        obtain ⟨e3, r1, r4, r5, r6⟩ := hrun
        rw [r1, Bf]
        refine ⟨rfl, e3, _, _, _, rfl, r4, r5, r6, .inl ⟨_, _, hu, ?_, rfl, rfl⟩⟩
        rw [Nat.mod_eq_of_lt hsm]
      · left
        rw [if_neg hsm] at hu
        have hi8 : i ≤ 8 := by omega
        have c2 : iLt (c : Int) 128 = false := by rw [CM]; simp; omega
        have m1 : GD Int.sub .u8 (.int .u8 (c : Int)) (.int .u8 128) h' = .ok (.int .u8 ((c % 128 : Nat) : Int)) h' := by
          have : Int.sub (c : Int) 128 = ((c % 128 : Nat) : Int) := by show (c : Int) - 128 = _; omega
          rw [Ct, this, DO, Nat.mod_eq_of_lt (show c % 128 < 256 by omega)]
        have m2 : CV .u64 (.int .u8 ((c % 128 : Nat) : Int)) h' = .ok (.int .u64 ((c % 128 : Nat) : Int)) h' := by rw [Bp, Cg (by omega)]
        have h5 : 2 ^ (7 * (i + 1)) ≤ 9223372036854775808 := Fo (by omega)
        have m6 : GD Int.mul .u64 (.int .u64 ((2 ^ (7 * i) : Nat) : Int)) (.int .u64 128) h' = .ok (.int .u64 ((2 ^ (7 * (i + 1)) : Nat) : Int)) h' := by
          have : Int.mul ((2 ^ (7 * i) : Nat) : Int) 128 = ((2 ^ (7 * (i + 1)) : Nat) : Int) := by
            rw [hpw, Nat.mul_comm 128]; exact (Int.natCast_mul _ 128).symm
          rw [Ct, this, Cg (by omega)]
        have hrun : ∃ e3, gT9 F e2 h' = .norm e3 h' ∧ AB 0 e3 = u ∧ AB 1 e3 = .int .i64 (p : Int) ∧ AB 7 e3 = .int .u64 ((acc + c % 128 * 2 ^ (7 * i) : Nat) : Int) ∧ AB 8 e3 = .int .u64 ((2 ^ (7 * (i + 1)) : Nat) : Int) ∧ AB 9 e3 = .int .i64 ((i + 1 : Nat) : Int) := by
          unfold gT9
          simp only [sT, Nat.reduceLT, Nat.reduceEqDiff, if_true, if_false, reduceIte, p46, C3, p10, m1, Ba, m2, p8, m4, Bt, p7, m5, Ae, Ad, c2, m6]
          exact ⟨_, rfl, by simp only [AF, Nat.reduceLT, Nat.reduceEqDiff, if_true, if_false, reduceIte]; exact p0, by simp only [AF, Nat.reduceLT, Nat.reduceEqDiff, if_true, if_false, reduceIte]; exact pp1, by simp [AF], by simp [AF], by simp only [AF, Nat.reduceLT, Nat.reduceEqDiff, if_true, if_false, reduceIte]; exact p9⟩
        obtain ⟨e3, r1, r0, rr1, r7, r8, r9⟩ := hrun
        rw [r1, Dd]
        exact ⟨by omega, e3, h', rfl, rfl, _, r0, rr1, r7, r8, r9, hle, by omega, by omega, hu⟩
  · right
    have c1 : iEq ((p + i : Nat) : Int) (l.length : Int) = true := by rw [Cp]; simp; omega
    have hrun : ∃ e2, gB9 F e' h' = .ret e2 h' ∧ AB 4 e2 = .int .u64 0 ∧ AB 5 e2 = .int .i64 0 ∧ AB 6 e2 = .int .i64 11 := by
      unfold gB9
      simp only [sT, Nat.reduceLT, Nat.reduceEqDiff, if_true, if_false, reduceIte, Bt, t1, t9, a1, Az, t0, Vl, Ae, Ad, c1, Bf]
      exact ⟨_, rfl, by simp [AF], by simp [AF], by simp [AF]⟩
    obtain ⟨e2, r1, r4, r5, r6⟩ := hrun
    rw [r1]
    refine ⟨rfl, e2, 0, 0, 11, rfl, r4, r5, r6, .inr ⟨?_, by omega⟩⟩
    rw [hu, List.drop_of_length_le (by omega)]; rfl
theorem Vj {n : Nat} {h : Hp} {u : Value} {l : List Nat} {p : Nat} (V : h.Vals u (l.map bv)) (hb : ∀ x ∈ l, x < 256) (hp : p ≤ l.length) (hl : l.length ≤ 1000000) :
    ∃ a b c, call AH (n + 1) 35 [u, .int .i64 (p : Int)] h = .ok (.tuple ⟨[.int .u64 a, .int .i64 b, .int .i64 c]⟩) h ∧ P2 l p a b c := by
  have Vl : FS u h = .ok (.int .i64 (l.length : Int)) h := by have := V.len; rwa [List.length_map] at this
  have c0 : iLt (p : Int) 0 = false := by rw [CM]; simp
  have c1 : iGt (p : Int) (l.length : Int) = false := by rw [D3]; simp; omega
  have pre : ∃ e1, VS (call AH n) (Av e0 0 [u, .int .i64 (p : Int)]) h = gR9 (call AH n) e1 h ∧ AB 0 e1 = u ∧ AB 1 e1 = .int .i64 (p : Int) ∧ AB 7 e1 = .int .u64 0 ∧ AB 8 e1 = .int .u64 1 ∧ AB 9 e1 = .int .i64 0 := by
    unfold VS
    simp only [Aa, Ab, Nat.succ_eq_add_one, Nat.zero_add, Nat.reduceAdd, Ee, Fa, El, ES, Cz, GK, AF, Nat.reduceLT, Nat.reduceEqDiff, if_true, if_false, reduceIte, gD, Ae, Ad, c0, Az, Vl, c1]
    exact ⟨_, rfl, by simp [AF], by simp [AF], by simp [AF], by simp [AF], by simp [AF]⟩
  obtain ⟨e1, p1, p2, p3, p4, p5, p6⟩ := pre
  obtain ⟨e2, a, b, c, q1, q4, q5, q6, q7⟩ := QK (F := call AH n) V hb hp hl p2 p3 p4 p5 p6
  refine ⟨a, b, c, ?_, q7⟩
  rw [Zt rfl, aB, p1, aP]
  simp only [BI, q1, Bf, Ak, I4, q4, q5, q6]
end
end Go.Proofs.YtfeldadhbnmklaaGreat
set_option linter.unusedVariables false
set_option linter.unusedSimpArgs false
namespace Go.Proofs.YtfeldadhbnmklaaGreat
noncomputable section
open Go
def Gg (T : List Nat) : Nat → List Nat → Nat
  | s, [] => s
  | s, b :: l => Gg T (Nat.xor (T.getD (Nat.xor (s % 256) b) 0) (s / 256)) l
def Bz (T l : List Nat) : Nat := 4294967295 - Gg T 4294967295 l
def Cm (T : List Nat) : Prop := T.length = 256 ∧ ∀ i, T.getD i 0 < 4294967296
theorem P1 {a b : Nat} (ha : a < 256) (hb : b < 256) : Nat.xor a b < 256 := Nat.xor_lt_two_pow (n := 8) ha hb
theorem UH {a b : Nat} (ha : a < 4294967296) (hb : b < 4294967296) : Nat.xor a b < 4294967296 := Nat.xor_lt_two_pow (n := 32) ha hb
theorem Hv {T : List Nat} (hT : Cm T) {s : Nat} (hs : s < 4294967296) (b : Nat) : Nat.xor (T.getD (Nat.xor (s % 256) b) 0) (s / 256) < 4294967296 := UH (hT.2 _) (by omega)
theorem LW {T : List Nat} (hT : Cm T) : ∀ (l : List Nat) (s : Nat), s < 4294967296 → Gg T s l < 4294967296
  | [], s, hs => hs
  | b :: l, s, hs => LW hT l _ (Hv hT hs b)
theorem FP (T l : List Nat) : Bz T l < 4294967296 := by unfold Bz; omega
def ED (s : Nat) : List Nat := [s / 16777216 % 256, s / 65536 % 256, s / 256 % 256, s % 256]
def CP (T l : List Nat) : List Nat := l ++ ED (Bz T l)
theorem Ex (T l : List Nat) : (CP T l).length = l.length + 4 := by unfold CP; rw [List.length_append]; rfl
theorem Pv (s x : Nat) (h : x ∈ ED s) : x < 256 := by
  unfold ED at h
  simp only [List.mem_cons, List.mem_nil_iff, or_false] at h
  omega
theorem NG {T l : List Nat} (h : ∀ x ∈ l, x < 256) : ∀ x ∈ CP T l, x < 256 := fun x hx => by
  rcases List.mem_append.1 hx with h1 | h1
  · exact h x h1
  · exact Pv _ x h1
def BZ (ns : List Nat) : List Nat := ns.flatMap BC
theorem Ec (n : Nat) (ns : List Nat) : BZ (n :: ns) = BC n ++ BZ ns := rfl
theorem Ou (a b : List Nat) : BZ (a ++ b) = BZ a ++ BZ b := List.flatMap_append
theorem Hx {ns : List Nat} : ∀ x ∈ BZ ns, x < 256 := fun x hx => by
  obtain ⟨n, _, h⟩ := List.mem_flatMap.1 hx
  exact HM n x h
theorem Gh : ∀ {ns : List Nat}, (∀ v ∈ ns, v < 18446744073709551616) → (BZ ns).length ≤ 10 * ns.length
  | [], _ => Nat.le_refl _
  | n :: ns, h => by
    have h1 := Ez (h n List.mem_cons_self)
    have h2 := Gh fun v hv => h v (List.mem_cons_of_mem _ hv)
    rw [Ec, List.length_append, List.length_cons]
    omega
def JV (l : List Nat) : List Nat := l ++ List.replicate (60 - l.length) 0
theorem Fm {l : List Nat} (h : l.length ≤ 60) : (JV l).length = 60 := by unfold JV; rw [List.length_append, List.length_replicate]; omega
theorem LQ {l : List Nat} (h : ∀ x ∈ l, x < 256) : ∀ x ∈ JV l, x < 256 := fun x hx => by
  rcases List.mem_append.1 hx with h1 | h1
  · exact h x h1
  · rw [List.eq_of_mem_replicate h1]; decide
def Eh (ns : List Nat) : List Nat := JV (BZ ns)
def rdN : Nat → List Nat → Nat → Option (List Nat × Nat)
  | 0, _, p => some ([], p)
  | k + 1, l, p => match Ds 0 0 (l.drop p) with
    | none => none
    | some (v, j) => if v ≤ 1099511627776 then (match rdN k l (p + j) with
      | none => none
      | some (vs, q) => some (v :: vs, q)) else none
theorem LS : ∀ (ns : List Nat) (a r : List Nat), (∀ v ∈ ns, v ≤ 1099511627776) → rdN ns.length (a ++ (BZ ns ++ r)) a.length = some (ns, a.length + (BZ ns).length)
  | [], a, r, _ => rfl
  | v :: ns, a, r, h => by
    have hv := h v List.mem_cons_self
    rw [List.length_cons, rdN, List.drop_left, Ec, List.append_assoc, bS (by omega)]
    simp only
    have := LS ns (a ++ BC v) r fun x hx => h x (List.mem_cons_of_mem _ hx)
    rw [List.append_assoc, List.length_append] at this
    rw [if_pos hv, this]
    simp only [List.length_append, Nat.add_assoc]
theorem HE : ∀ (k : Nat) (l : List Nat) (p : Nat) (ns : List Nat) (q : Nat), (∀ x ∈ l, x < 256) → p ≤ l.length → rdN k l p = some (ns, q) → ns.length = k ∧ l.drop p = BZ ns ++ l.drop q ∧ q = p + (BZ ns).length ∧ q ≤ l.length ∧ ∀ v ∈ ns, v ≤ 1099511627776
  | 0, l, p, ns, q, hb, hp, h => by
    cases h
    exact ⟨rfl, rfl, rfl, hp, fun v hv => by cases hv⟩
  | k + 1, l, p, ns, q, hb, hp, h => by
    rw [rdN] at h
    cases hu : Ds 0 0 (l.drop p) with
    | none => rw [hu] at h; cases h
    | some vj =>
      obtain ⟨v, j⟩ := vj
      rw [hu] at h
      simp only at h
      by_cases hv : v ≤ 1099511627776
      · rw [if_pos hv] at h
        have hbd : ∀ x ∈ l.drop p, x < 256 := fun x hx => hb x (List.mem_of_mem_drop hx)
        have hj := Tz hbd hu
        rw [List.length_drop] at hj
        obtain ⟨g1, g2, g3⟩ := Ty hbd hu
        cases hr : rdN k l (p + j) with
        | none => rw [hr] at h; cases h
        | some y =>
          obtain ⟨vs, q'⟩ := y
          rw [hr] at h
          cases h
          obtain ⟨i1, i2, i3, i4, i5⟩ := HE k l (p + j) vs q hb (by omega) hr
          refine ⟨by rw [List.length_cons, i1], ?_, ?_, i4, fun x hx => ?_⟩
          · rw [g1, List.drop_drop, i2, Ec, List.append_assoc]
          · rw [i3, Ec, List.length_append]; omega
          · rcases List.mem_cons.1 hx with rfl | hx
            · exact hv
            · exact i5 x hx
      · rw [if_neg hv] at h; cases h
def CB (a b c : Int) (s n : Nat) : Bool := decide (0 ≤ a ∧ a ≤ 1099511627776 ∧ 0 ≤ b ∧ b < 255 ∧ 1 ≤ c ∧ c ≤ 1099511627776 ∧ (s = 1 ∨ s = 2) ∧ n ≤ 65536)
def at6 (ns : List Nat) (i : Nat) : Nat := ns.getD i 0
def Db (T l : List Nat) : Option (List Nat) := if l.length < 4 then none else if CP T (l.take (l.length - 4)) = l then some (l.take (l.length - 4)) else none
def LN (ns : List Nat) : Prop := CB (at6 ns 1) (at6 ns 2) (at6 ns 3) (min (at6 ns 0) 9) 0 = true ∧ at6 ns 4 ≤ 65536 ∧ at6 ns 5 ≤ 4294967295
def Mt (ns : List Nat) : Prop := at6 ns 0 ≤ 2 ∧ at6 ns 4 ≤ 65536 ∧ at6 ns 5 ≤ 4294967295 ∧ CB (at6 ns 1) (at6 ns 2) (at6 ns 3) (at6 ns 0) 0 = true
theorem bC {ns : List Nat} : LN ns ↔ Mt ns := by
  unfold LN Mt CB
  simp only [decide_eq_true_eq]
  generalize at6 ns 0 = s
  constructor
  · rintro ⟨⟨h1, h2, h3, h4, h5, h6, h7, h8⟩, h9, h10⟩
    exact ⟨by omega, h9, h10, h1, h2, h3, h4, h5, h6, by omega, h8⟩
  · rintro ⟨h0, h9, h10, h1, h2, h3, h4, h5, h6, h7, h8⟩
    exact ⟨⟨h1, h2, h3, h4, h5, h6, by omega, h8⟩, h9, h10⟩
def RI (T l ns : List Nat) : Prop := ∃ body q, Db T l = some body ∧ body.length = 60 ∧ rdN 6 body 0 = some (ns, q) ∧ LN ns ∧ ∀ x ∈ body.drop q, x = 0
def RH (T l ns : List Nat) : Prop := ∃ q, rdN 6 l 0 = some (ns, q) ∧ Mt ns ∧ CP T (Eh ns) = l
theorem HN {T l body : List Nat} (h : Db T l = some body) : CP T body = l ∧ body = l.take (l.length - 4) := by
  unfold Db at h
  split at h
  · cases h
  · split at h
    · rename_i h2
      cases h
      exact ⟨h2, rfl⟩
    · cases h
theorem Lf (T body : List Nat) : Db T (CP T body) = some body := by
  have h1 : (CP T body).take ((CP T body).length - 4) = body := by
    rw [Ex, Nat.add_sub_cancel]
    unfold CP
    exact List.take_left
  unfold Db
  rw [h1, if_neg (by rw [Ex]; omega), if_pos rfl]
theorem UL {l : List Nat} (h : ∀ x ∈ l, x = 0) : l = List.replicate l.length 0 := List.eq_replicate_iff.2 ⟨rfl, h⟩
theorem JW {T l ns : List Nat} (hb : ∀ x ∈ l, x < 256) : RI T l ns ↔ RH T l ns := by
  constructor
  · rintro ⟨body, q, h1, h2, h3, h4, h5⟩
    obtain ⟨k1, k2⟩ := HN h1
    have hbb : ∀ x ∈ body, x < 256 := fun x hx => hb x (by rw [k2] at hx; exact List.mem_of_mem_take hx)
    obtain ⟨g1, g2, g3, g4, g5⟩ := HE 6 body 0 ns q hbb (Nat.zero_le _) h3
    rw [List.drop_zero] at g2
    have hz := UL h5
    have hh : Eh ns = body := by
      unfold Eh JV
      rw [show 60 - (BZ ns).length = (body.drop q).length by rw [List.length_drop]; omega, ← hz, ← g2]
    refine ⟨(BZ ns).length, ?_, bC.1 h4, by rw [hh]; exact k1⟩
    have := LS ns [] (body.drop q ++ ED (Bz T body)) g5
    rw [g1] at this
    rw [← k1]
    unfold CP
    rw [List.nil_append, ← List.append_assoc, ← g2] at this
    simpa using this
  · rintro ⟨q, h1, h2, h3⟩
    obtain ⟨g1, g2, g3, g4, g5⟩ := HE 6 l 0 ns q hb (Nat.zero_le _) h1
    have hlen : (BZ ns).length ≤ 60 := by
      have := Gh (ns := ns) fun v hv => by have := g5 v hv; omega
      omega
    refine ⟨Eh ns, (BZ ns).length, by rw [← h3]; exact Lf T _, Fm hlen, ?_, bC.2 h2, fun x hx => ?_⟩
    · have := LS ns [] (List.replicate (60 - (BZ ns).length) 0) g5
      rw [g1] at this
      unfold Eh JV
      simpa using this
    · unfold Eh JV at hx
      rw [List.drop_left] at hx
      exact List.eq_of_mem_replicate hx
theorem TH {T l ns ms : List Nat} (h : RI T l ns) (h' : RI T l ms) : ns = ms := by
  obtain ⟨body, q, h1, _, h3, _⟩ := h
  obtain ⟨body', q', k1, _, k3, _⟩ := h'
  rw [h1] at k1; cases k1
  rw [h3] at k3; cases k3
  rfl
end
end Go.Proofs.YtfeldadhbnmklaaGreat
set_option linter.unusedVariables false
set_option linter.unusedSimpArgs false
namespace Go.Proofs.YtfeldadhbnmklaaGreat
noncomputable section
open Go
set_option maxRecDepth 100000
abbrev pt (b : Nat) : Value := .pointer (some ⟨b, 0, none⟩)
def wv (n : Nat) : Value := .int .u32 (n : Int)
theorem MZ {a : Addr} {h : Hp} : QS (.pointer (some a)) h = .ok (.pointer (some a)) h := rfl
theorem Pm {F : CallF} {e : Env} {h : Hp} {x : O} : BF x F e h = QS (x e) h := rfl
theorem hQ : Jm.k = .ptr 29 := by kernel_rfl
theorem TN {F : CallF} {e : Env} {h : Hp} {a : Addr} {g : O} (hg : g e = .pointer (some a)) : oEq Jm.k false g (kV (.pointer none)) F e h = .ok (.bool false) h := by
  show (match eqV Jm.k (g e) (.pointer none) with | some r => okB (false != r) h | none => .no) = _
  rw [hQ, hg]
  exact Hs
theorem Tp {h : Hp} {tb : Nat} {T : List Nat} (R : h.Row tb 0 (T.map wv)) (hT : Cm T) {k : IntKind} {x : Nat} (hx : x < 256) : Js 256 1 (pt tb) (.int k (x : Int)) h = .ok (.pointer (some ⟨tb, x, none⟩)) h ∧ G4 (.pointer (some ⟨tb, x, none⟩)) h = .ok (wv (T.getD x 0)) h := by
  refine ⟨?_, ?_⟩
  · have := PT (h := h) (n := 256) (es := 1) (b := tb) (off := 0) (i := x) (k := k) hx
    rwa [Nat.zero_add, Nat.mul_one] at this
  · have hx' : x < T.length := by rw [hT.1]; exact hx
    rw [A5, R.load1 (off := x) (by rw [List.length_map]; exact hx'), List.getD_eq_getElem?_getD, List.getElem?_map, List.getD_eq_getElem?_getD, List.getElem?_eq_getElem hx']; rfl
theorem Gk {h : Hp} {u : Value} {l : List Nat} (V : h.Vals u (l.map bv)) {i : Nat} (hi : i < l.length) : ∃ a, D4 1 u (.int .i64 (i : Int)) h = .ok (.pointer (some a)) h ∧ G4 (.pointer (some a)) h = .ok (.int .u8 ((l.getD i 0 : Nat) : Int)) h := by
  obtain ⟨a, g1, g2⟩ := V.at (i := i) (by rw [List.length_map]; exact hi)
  refine ⟨a, g1, ?_⟩
  rw [g2, List.getD_eq_getElem?_getD, List.getElem?_map, List.getD_eq_getElem?_getD, List.getElem?_eq_getElem hi]; rfl
theorem PG {l : List Nat} (hb : ∀ x ∈ l, x < 256) (i : Nat) : l.getD i 0 < 256 := by
  rw [List.getD_eq_getElem?_getD]
  cases h : l[i]? with
  | none => decide
  | some x => exact hb x (List.mem_of_getElem? h)
theorem Eq {l : List Nat} {i : Nat} (hi : i < l.length) : l.drop i = l.getD i 0 :: l.drop (i + 1) := by
  rw [List.drop_eq_getElem_cons hi, List.getD_eq_getElem?_getD, List.getElem?_eq_getElem hi]; rfl
theorem Hp.Vals.bl {h : Hp} {u : Value} {l : List Nat} (V : h.Vals u (l.map bv)) (g : Hp) : FS u g = .ok (.int .i64 (l.length : Int)) g := by
  obtain ⟨a, c, hu⟩ := V.shape
  rw [hu, List.length_map]; rfl
theorem qu {a b : Nat} (ha : a < 256) (hb : b < 256) {h : Hp} : RW Nat.xor .u8 (.int .u8 (a : Int)) (.int .u8 (b : Int)) h = .ok (.int .u8 ((Nat.xor a b : Nat) : Int)) h := O0 (by show a ≤ 255; omega) (by show b ≤ 255; omega)
theorem UG {a b : Nat} (ha : a < 4294967296) (hb : b < 4294967296) {h : Hp} : RW Nat.xor .u32 (.int .u32 (a : Int)) (.int .u32 (b : Int)) h = .ok (.int .u32 ((Nat.xor a b : Nat) : Int)) h := O0 (by show a ≤ 4294967295; omega) (by show b ≤ 4294967295; omega)
theorem EI {n : Nat} (h : n ≤ 4294967295) : IntKind.u32.wrap (n : Int) = n := Cc .u32 n h
theorem G1 {i : Nat} (hi : i ≤ 1000000000) {h : Hp} : FV .i64 (.int .i64 (i : Int)) (.int .i64 1) h = .ok (.int .i64 ((i + 1 : Nat) : Int)) h := by
  have : (i : Int) + 1 = ((i + 1 : Nat) : Int) := by omega
  rw [CZ, this, Bc (by omega)]
theorem IH {a b : Nat} (h : a < b) : iLt (a : Int) (b : Int) = true := by rw [CM]; simp; omega
theorem FU {a b : Nat} (h : b ≤ a) : iLt (a : Int) (b : Int) = false := by rw [CM]; simp; omega
def suB : C := (cOp (AD 12) (AM iLt .i64 (AB 11) (AB 10))
(AJ (AB 12)
(Al (AK 1 (cOp (AD 6) (AC (AB 11))
(Ar (cOp (AD 16) (An .u8 (AB 5))
(cOp (AD 19) (AY 1 (AB 1) (AB 6))
(cOp (AD 20) (AG (AB 19))
(cOp (AD 21) (DP Nat.xor .u8 (AB 16) (AB 20))
(cOp (AD 22) (BF (AB 0))
(cOp (AD 23) (A4 256 1 (AB 22) (AB 21))
(cOp (AD 24) (AG (AB 23))
(cOp (AD 26) (FE .u32 (AB 5) (kV (.int .u64 8)))
(cOp (AD 27) (DP Nat.xor .u32 (AB 24) (AB 26))
(cOp (AD 5) (AC (AB 27))
AO)))))))))))))
(cOp (AD 28) (Ai .i64 (AQ .i64) (AB 11) (kV (.int .i64 1)))
(cOp (AD 11) (AC (AB 28))
AO)))
(At 0)))
def suE : C := (cOp (AD 30) (As Int.sub .u32 (kV (.int .u32 4294967295)) (AB 5))
(cOp (AD 4) (AC (AB 30))
AU))
def suS : C := (Al (AK 0 (Aj (cOp (AD 12) (AM iLt .i64 (AB 11) (AB 10))
(AJ (AB 12)
(Al (AK 1 (cOp (AD 6) (AC (AB 11))
(Ar (cOp (AD 16) (An .u8 (AB 5))
(cOp (AD 19) (AY 1 (AB 1) (AB 6))
(cOp (AD 20) (AG (AB 19))
(cOp (AD 21) (DP Nat.xor .u8 (AB 16) (AB 20))
(cOp (AD 22) (BF (AB 0))
(cOp (AD 23) (A4 256 1 (AB 22) (AB 21))
(cOp (AD 24) (AG (AB 23))
(cOp (AD 26) (FE .u32 (AB 5) (kV (.int .u64 8)))
(cOp (AD 27) (DP Nat.xor .u32 (AB 24) (AB 26))
(cOp (AD 5) (AC (AB 27))
AO)))))))))))))
(cOp (AD 28) (Ai .i64 (AQ .i64) (AB 11) (kV (.int .i64 1)))
(cOp (AD 11) (AC (AB 28))
AO)))
(At 0)))))
(cOp (AD 30) (As Int.sub .u32 (kV (.int .u32 4294967295)) (AB 5))
(cOp (AD 4) (AC (AB 30))
AU)))
theorem bK : suS = Al (AK 0 (Aj suB)) suE := rfl
def VN : C := (cOp (AD 4) (AC (kV (.int .u32 0)))
(cOp (AD 8) (oEq Jm.k false (AB 0) (kV (.pointer none)))
(AJ (AB 8)
(cOp (AD 4) (AC (kV (.int .u32 0)))
AU)
(cOp (AD 5) (AC (kV (.int .u32 4294967295)))
(cOp (AD 10) (Aw (AB 1))
(cOp (AD 11) (AC (kV (.int .i64 0)))
suS))))))
def d25 : C := VN
theorem Zm {n : Nat} {args : List Value} {h : Hp} (hl : Nat.ble (BR args) 320 = true) : call AH (Nat.succ n) 25 args h = Bs [.t (AB 4)] (d25 (call AH n) (Av e0 0 args) h) := by
  have hb : AH.get 25 = some b25 := by kernel_rfl
  rw [BQ hb]
  have hd : b25 = ⟨[.t (AB 4)], d25⟩ := by kernel_rfl
  rw [hd, BJ hl]
theorem Z5 : d25 = VN := rfl
theorem XE {F : CallF} {h : Hp} {tb : Nat} {T : List Nat} (R : h.Row tb 0 (T.map wv)) (hT : Cm T) {u : Value} {l : List Nat} (V : h.Vals u (l.map bv)) (hb : ∀ x ∈ l, x < 256) (hl : l.length ≤ 900000) {e : Env} (s0 : AB 0 e = pt tb) (s1 : AB 1 e = u) (s5 : AB 5 e = .int .u32 ((4294967295 : Nat) : Int)) (s10 : AB 10 e = .int .i64 (l.length : Int)) (s11 : AB 11 e = .int .i64 ((0 : Nat) : Int)) :
    ∃ e' h', Aj suB F e h = .exit 0 e' h' ∧ (h' = h ∨ h' = h.marked) ∧ AB 5 e' = .int .u32 ((Gg T 4294967295 l : Nat) : Int) := by
  refine CF (I := fun i e' h' => (h' = h ∨ h' = h.marked) ∧ ∃ s : Nat, AB 0 e' = pt tb ∧ AB 1 e' = u ∧ AB 5 e' = .int .u32 (s : Int) ∧ AB 10 e' = .int .i64 (l.length : Int) ∧ AB 11 e' = .int .i64 (i : Int) ∧ i ≤ l.length ∧ s < 4294967296 ∧ Gg T 4294967295 l = Gg T s (l.drop i))
    (Q := fun x => ∃ e' h', x = .exit 0 e' h' ∧ (h' = h ∨ h' = h.marked) ∧ AB 5 e' = .int .u32 ((Gg T 4294967295 l : Nat) : Int)) l.length (by omega) (fun i e' h' ⟨hh, s, t0, t1, t5, t10, t11, hi, hs, hr⟩ => ?_) ⟨.inl rfl, 4294967295, s0, s1, s5, s10, s11, Nat.zero_le _, by decide, rfl⟩
  have hm : h'.marked = h.marked := by rcases hh with rfl | rfl <;> rfl
  by_cases hlt : i < l.length
  · left
    have V2 : h.marked.Vals u (l.map bv) := V.same rfl
    have R2 : h.marked.Row tb 0 (T.map wv) := R.same rfl
    obtain ⟨a, g1, g2⟩ := Gk V2 hlt
    have hc := PG hb i
    rw [Eq hlt] at hr
    generalize l.getD i 0 = c at g2 hc hr
    have c1 := IH hlt
    have v1 : CV .u8 (.int .u32 (s : Int)) h.marked = .ok (.int .u8 ((s % 256 : Nat) : Int)) h.marked := by rw [Bp, DO]
    have x1 := qu (h := h.marked) (show s % 256 < 256 by omega) hc
    have hx := P1 (show s % 256 < 256 by omega) hc
    obtain ⟨i1, l1⟩ := Tp R2 hT (k := .u8) hx
    have r1 : Tb .u32 (.int .u32 (s : Int)) (.int .u64 8) h.marked = .ok (.int .u32 ((s / 256 : Nat) : Int)) h.marked := Ps (j := .u32) (q := .u64) (m := s) (n := 8)
    have x2 := UG (h := h.marked) (hT.2 (Nat.xor (s % 256) c)) (show s / 256 < 4294967296 by omega)
    have l1 : G4 (.pointer (some ⟨tb, Nat.xor (s % 256) c, none⟩)) h.marked = .ok (.int .u32 ((T.getD (Nat.xor (s % 256) c) 0 : Nat) : Int)) h.marked := l1
    have hst := Hv hT hs c
    have a3 := G1 (i := i) (h := h.marked) (by omega)
    have hrun : ∃ e2, suB F e' h' = .norm e2 h.marked ∧ AB 0 e2 = pt tb ∧ AB 1 e2 = u ∧ AB 5 e2 = .int .u32 ((Nat.xor (T.getD (Nat.xor (s % 256) c) 0) (s / 256) : Nat) : Int) ∧ AB 10 e2 = .int .i64 (l.length : Int) ∧ AB 11 e2 = .int .i64 ((i + 1 : Nat) : Int) := by
      unfold suB
      simp only [sT, Nat.reduceLT, Nat.reduceEqDiff, if_true, if_false, reduceIte, Ae, Ad, t11, t10, c1, CU, hm, Ba, t5, v1, CO, t1, g1, Au, g2, Pj, x1, Pm, t0, MZ, CT, i1, l1, Po, r1, x2, Bt, a3]
      exact ⟨_, rfl, by simp only [AF, Nat.reduceLT, Nat.reduceEqDiff, if_true, if_false, reduceIte]; exact t0, by simp only [AF, Nat.reduceLT, Nat.reduceEqDiff, if_true, if_false, reduceIte]; exact t1, by simp [AF], by simp only [AF, Nat.reduceLT, Nat.reduceEqDiff, if_true, if_false, reduceIte]; exact t10, by simp [AF]⟩
    obtain ⟨e2, q1, q2, q3, q4, q5, q6⟩ := hrun
    exact ⟨hlt, e2, h.marked, q1, .inr rfl, _, q2, q3, q4, q5, q6, hlt, hst, hr⟩
  · right
    have c1 := FU (show l.length ≤ i by omega)
    have hrun : ∃ e2, suB F e' h' = .exit 0 e2 h' ∧ AB 5 e2 = .int .u32 (s : Int) := by
      unfold suB
      simp only [sT, Nat.reduceLT, Nat.reduceEqDiff, if_true, if_false, reduceIte, Ae, Ad, t11, t10, c1]
      exact ⟨_, rfl, by simp only [AF, Nat.reduceLT, Nat.reduceEqDiff, if_true, if_false, reduceIte]; exact t5⟩
    obtain ⟨e2, q1, q2⟩ := hrun
    rw [q1]
    refine ⟨rfl, e2, h', rfl, hh, ?_⟩
    rw [q2, hr, List.drop_of_length_le (by omega)]; rfl
theorem Tk {n : Nat} {h : Hp} {tb : Nat} {T : List Nat} (R : h.Row tb 0 (T.map wv)) (hT : Cm T) {u : Value} {l : List Nat} (V : h.Vals u (l.map bv)) (hb : ∀ x ∈ l, x < 256) (hl : l.length ≤ 900000) :
    ∃ h', call AH (n + 1) 25 [pt tb, u] h = .ok (.int .u32 ((Bz T l : Nat) : Int)) h' ∧ (h' = h ∨ h' = h.marked) := by
  have ne : ∀ e : Env, AB 0 e = pt tb → oEq Jm.k false (AB 0) (kV (.pointer none)) (call AH n) e h = .ok (.bool false) h := fun e he => TN he
  have Vl := V.bl h
  have pre : ∃ e1, VN (call AH n) (Av e0 0 [pt tb, u]) h = suS (call AH n) e1 h ∧ AB 0 e1 = pt tb ∧ AB 1 e1 = u ∧ AB 5 e1 = .int .u32 ((4294967295 : Nat) : Int) ∧ AB 10 e1 = .int .i64 (l.length : Int) ∧ AB 11 e1 = .int .i64 ((0 : Nat) : Int) := by
    unfold VN
    simp only [Aa, Ab, Nat.succ_eq_add_one, Nat.zero_add, Nat.reduceAdd, sT, Nat.reduceLT, Nat.reduceEqDiff, if_true, if_false, reduceIte, ne, Az, Vl]
    exact ⟨_, rfl, by simp [AF], by simp [AF], by simp only [AF, Nat.reduceLT, Nat.reduceEqDiff, if_true, if_false, reduceIte]; rfl, by simp [AF], by simp only [AF, Nat.reduceLT, Nat.reduceEqDiff, if_true, if_false, reduceIte]; rfl⟩
  obtain ⟨e1, p1, p2, p3, p4, p5, p6⟩ := pre
  obtain ⟨e2, h', q1, q2, q3⟩ := XE (F := call AH n) R hT V hb hl p2 p3 p4 p5 p6
  have a1 : GD Int.sub .u32 (.int .u32 4294967295) (.int .u32 ((Gg T 4294967295 l : Nat) : Int)) h' = .ok (.int .u32 ((Bz T l : Nat) : Int)) h' := by
    have hs := LW hT l 4294967295 (by decide)
    have : Int.sub 4294967295 ((Gg T 4294967295 l : Nat) : Int) = ((Bz T l : Nat) : Int) := by
      show (4294967295 : Int) - _ = _
      unfold Bz; omega
    rw [Ct, this, EI (by unfold Bz; omega)]
  refine ⟨h', ?_, q2⟩
  rw [Zm rfl, Z5, p1, bK]
  simp only [Bj, BI, q1, BN, Bd]
  unfold suE
  simp only [sT, Nat.reduceLT, Nat.reduceEqDiff, if_true, if_false, reduceIte, C3, q3, a1, Ak, A1]
def ruB : C := (cOp (AD 12) (Aw (AB 1))
(cOp (AD 13) (AM iLt .i64 (AB 6) (AB 12))
(AJ (AB 13)
(Al (AK 1 (cOp (AD 17) (GF .u32 (AB 5) (kV (.int .u32 256)))
(cOp (AD 20) (AY 1 (AB 1) (AB 6))
(cOp (AD 21) (AG (AB 20))
(cOp (AD 22) (An .u32 (AB 21))
(cOp (AD 23) (DP Nat.xor .u32 (AB 17) (AB 22))
(cOp (AD 7) (AC (AB 23))
(cOp (AD 25) (Ch .u32 (AB 5) (kV (.int .u32 256)))
(cOp (AD 28) (BF (AB 0))
(cOp (AD 29) (A4 256 1 (AB 28) (AB 7))
(cOp (AD 30) (AG (AB 29))
(cOp (AD 31) (DP Nat.xor .u32 (AB 25) (AB 30))
(cOp (AD 5) (AC (AB 31))
AO)))))))))))))
(cOp (AD 15) (Ai .i64 (AQ .i64) (AB 6) (kV (.int .i64 1)))
(cOp (AD 6) (AC (AB 15))
AO)))
(At 0))))
def ruE : C := (cOp (AD 33) (As Int.sub .u32 (kV (.int .u32 4294967295)) (AB 5))
(cOp (AD 4) (AC (AB 33))
AU))
def ruS : C := (Al (AK 0 (Aj (cOp (AD 12) (Aw (AB 1))
(cOp (AD 13) (AM iLt .i64 (AB 6) (AB 12))
(AJ (AB 13)
(Al (AK 1 (cOp (AD 17) (GF .u32 (AB 5) (kV (.int .u32 256)))
(cOp (AD 20) (AY 1 (AB 1) (AB 6))
(cOp (AD 21) (AG (AB 20))
(cOp (AD 22) (An .u32 (AB 21))
(cOp (AD 23) (DP Nat.xor .u32 (AB 17) (AB 22))
(cOp (AD 7) (AC (AB 23))
(cOp (AD 25) (Ch .u32 (AB 5) (kV (.int .u32 256)))
(cOp (AD 28) (BF (AB 0))
(cOp (AD 29) (A4 256 1 (AB 28) (AB 7))
(cOp (AD 30) (AG (AB 29))
(cOp (AD 31) (DP Nat.xor .u32 (AB 25) (AB 30))
(cOp (AD 5) (AC (AB 31))
AO)))))))))))))
(cOp (AD 15) (Ai .i64 (AQ .i64) (AB 6) (kV (.int .i64 1)))
(cOp (AD 6) (AC (AB 15))
AO)))
(At 0))))))
(cOp (AD 33) (As Int.sub .u32 (kV (.int .u32 4294967295)) (AB 5))
(cOp (AD 4) (AC (AB 33))
AU)))
theorem bH : ruS = Al (AK 0 (Aj ruB)) ruE := rfl
def VQ : C := (cOp (AD 4) (AC (kV (.int .u32 0)))
(cOp (AD 9) (oEq Jm.k false (AB 0) (kV (.pointer none)))
(AJ (AB 9)
(cOp (AD 4) (AC (kV (.int .u32 0)))
AU)
(cOp (AD 5) (AC (kV (.int .u32 4294967295)))
(cOp (AD 6) (AC (kV (.int .i64 0)))
ruS)))))
def d30 : C := VQ
theorem Zr {n : Nat} {args : List Value} {h : Hp} (hl : Nat.ble (BR args) 320 = true) : call AH (Nat.succ n) 30 args h = Bs [.t (AB 4)] (d30 (call AH n) (Av e0 0 args) h) := by
  have hb : AH.get 30 = some b30 := by kernel_rfl
  rw [BQ hb]
  have hd : b30 = ⟨[.t (AB 4)], d30⟩ := by kernel_rfl
  rw [hd, BJ hl]
theorem aA : d30 = VQ := rfl
theorem W5 {F : CallF} {h : Hp} {tb : Nat} {T : List Nat} (R : h.Row tb 0 (T.map wv)) (hT : Cm T) {u : Value} {l : List Nat} (V : h.Vals u (l.map bv)) (hb : ∀ x ∈ l, x < 256) (hl : l.length ≤ 900000) {e : Env} (s0 : AB 0 e = pt tb) (s1 : AB 1 e = u) (s5 : AB 5 e = .int .u32 ((4294967295 : Nat) : Int)) (s6 : AB 6 e = .int .i64 ((0 : Nat) : Int)) :
    ∃ e', Aj ruB F e h = .exit 0 e' h ∧ AB 5 e' = .int .u32 ((Gg T 4294967295 l : Nat) : Int) := by
  refine CF (I := fun i e' h' => h' = h ∧ ∃ s : Nat, AB 0 e' = pt tb ∧ AB 1 e' = u ∧ AB 5 e' = .int .u32 (s : Int) ∧ AB 6 e' = .int .i64 (i : Int) ∧ i ≤ l.length ∧ s < 4294967296 ∧ Gg T 4294967295 l = Gg T s (l.drop i))
    (Q := fun x => ∃ e', x = .exit 0 e' h ∧ AB 5 e' = .int .u32 ((Gg T 4294967295 l : Nat) : Int)) l.length (by omega) (fun i e' h' ⟨hh, s, t0, t1, t5, t6, hi, hs, hr⟩ => ?_) ⟨rfl, 4294967295, s0, s1, s5, s6, Nat.zero_le _, by decide, rfl⟩
  subst hh
  have Vl := V.bl h'
  by_cases hlt : i < l.length
  · left
    obtain ⟨a, g1, g2⟩ := Gk V hlt
    have hc := PG hb i
    rw [Eq hlt] at hr
    generalize l.getD i 0 = c at g2 hc hr
    have c1 := IH hlt
    have m1 : Ob .u32 (.int .u32 (s : Int)) (.int .u32 256) h' = .ok (.int .u32 ((s % 256 : Nat) : Int)) h' := by rw [IZ (by omega)]; rfl
    have v1 : CV .u32 (.int .u8 (c : Int)) h' = .ok (.int .u32 (c : Int)) h' := by rw [Bp, EI (by omega)]
    have x1 := UG (h := h') (show s % 256 < 4294967296 by omega) (show c < 4294967296 by omega)
    have hx := P1 (show s % 256 < 256 by omega) hc
    obtain ⟨i1, l1⟩ := Tp R hT (k := .u32) hx
    have d1 : Iy .u32 (.int .u32 (s : Int)) (.int .u32 256) h' = .ok (.int .u32 ((s / 256 : Nat) : Int)) h' := by
      have : IntKind.u32.wrap ((s : Int).tdiv 256) = ((s / 256 : Nat) : Int) := EI (n := s / 256) (by omega)
      rw [Gr (by omega), this]
    have x2 := UG (h := h') (show s / 256 < 4294967296 by omega) (hT.2 (Nat.xor (s % 256) c))
    have l1 : G4 (.pointer (some ⟨tb, Nat.xor (s % 256) c, none⟩)) h' = .ok (.int .u32 ((T.getD (Nat.xor (s % 256) c) 0 : Nat) : Int)) h' := l1
    have hst := Hv hT hs c
    have a3 := G1 (i := i) (h := h') (by omega)
    have hrun : ∃ e2, ruB F e' h' = .norm e2 h' ∧ AB 0 e2 = pt tb ∧ AB 1 e2 = u ∧ AB 5 e2 = .int .u32 ((Nat.xor (s / 256) (T.getD (Nat.xor (s % 256) c) 0) : Nat) : Int) ∧ AB 6 e2 = .int .i64 ((i + 1 : Nat) : Int) := by
      unfold ruB
      simp only [sT, Nat.reduceLT, Nat.reduceEqDiff, if_true, if_false, reduceIte, Az, Vl, Ae, Ad, t6, c1, HB, m1, Ba, t5, v1, CO, t1, g1, Au, g2, Pj, x1, G7, d1, Pm, t0, MZ, CT, i1, l1, x2, Bt, a3]
      exact ⟨_, rfl, by simp only [AF, Nat.reduceLT, Nat.reduceEqDiff, if_true, if_false, reduceIte]; exact t0, by simp only [AF, Nat.reduceLT, Nat.reduceEqDiff, if_true, if_false, reduceIte]; exact t1, by simp [AF], by simp [AF]⟩
    obtain ⟨e2, q1, q2, q3, q4, q5⟩ := hrun
    have hxc : Nat.xor (s / 256) (T.getD (Nat.xor (s % 256) c) 0) = Nat.xor (T.getD (Nat.xor (s % 256) c) 0) (s / 256) := Nat.xor_comm _ _
    rw [hxc] at q4
    exact ⟨hlt, e2, h', q1, rfl, _, q2, q3, q4, q5, hlt, hst, hr⟩
  · right
    have c1 := FU (show l.length ≤ i by omega)
    have hrun : ∃ e2, ruB F e' h' = .exit 0 e2 h' ∧ AB 5 e2 = .int .u32 (s : Int) := by
      unfold ruB
      simp only [sT, Nat.reduceLT, Nat.reduceEqDiff, if_true, if_false, reduceIte, Az, t1, Vl, Ae, Ad, t6, c1]
      exact ⟨_, rfl, by simp only [AF, Nat.reduceLT, Nat.reduceEqDiff, if_true, if_false, reduceIte]; exact t5⟩
    obtain ⟨e2, q1, q2⟩ := hrun
    rw [q1]
    refine ⟨rfl, e2, rfl, ?_⟩
    rw [q2, hr, List.drop_of_length_le (by omega)]; rfl
theorem Pq {n : Nat} {h : Hp} {tb : Nat} {T : List Nat} (R : h.Row tb 0 (T.map wv)) (hT : Cm T) {u : Value} {l : List Nat} (V : h.Vals u (l.map bv)) (hb : ∀ x ∈ l, x < 256) (hl : l.length ≤ 900000) :
    call AH (n + 1) 30 [pt tb, u] h = .ok (.int .u32 ((Bz T l : Nat) : Int)) h := by
  have ne : ∀ e : Env, AB 0 e = pt tb → oEq Jm.k false (AB 0) (kV (.pointer none)) (call AH n) e h = .ok (.bool false) h := fun e he => TN he
  have pre : ∃ e1, VQ (call AH n) (Av e0 0 [pt tb, u]) h = ruS (call AH n) e1 h ∧ AB 0 e1 = pt tb ∧ AB 1 e1 = u ∧ AB 5 e1 = .int .u32 ((4294967295 : Nat) : Int) ∧ AB 6 e1 = .int .i64 ((0 : Nat) : Int) := by
    unfold VQ
    simp only [Aa, Ab, Nat.succ_eq_add_one, Nat.zero_add, Nat.reduceAdd, sT, Nat.reduceLT, Nat.reduceEqDiff, if_true, if_false, reduceIte, ne]
    exact ⟨_, rfl, by simp [AF], by simp [AF], by simp only [AF, Nat.reduceLT, Nat.reduceEqDiff, if_true, if_false, reduceIte]; rfl, by simp only [AF, Nat.reduceLT, Nat.reduceEqDiff, if_true, if_false, reduceIte]; rfl⟩
  obtain ⟨e1, p1, p2, p3, p4, p5⟩ := pre
  obtain ⟨e2, q1, q3⟩ := W5 (F := call AH n) R hT V hb hl p2 p3 p4 p5
  have a1 : GD Int.sub .u32 (.int .u32 4294967295) (.int .u32 ((Gg T 4294967295 l : Nat) : Int)) h = .ok (.int .u32 ((Bz T l : Nat) : Int)) h := by
    have hs := LW hT l 4294967295 (by decide)
    have : Int.sub 4294967295 ((Gg T 4294967295 l : Nat) : Int) = ((Bz T l : Nat) : Int) := by
      show (4294967295 : Int) - _ = _
      unfold Bz; omega
    rw [Ct, this, EI (by unfold Bz; omega)]
  rw [Zr rfl, aA, p1, bH]
  simp only [Bj, BI, q1, BN, Bd]
  unfold ruE
  simp only [sT, Nat.reduceLT, Nat.reduceEqDiff, if_true, if_false, reduceIte, C3, q3, a1, Ak, A1]
end
end Go.Proofs.YtfeldadhbnmklaaGreat
set_option linter.unusedVariables false
set_option linter.unusedSimpArgs false
namespace Go.Proofs.YtfeldadhbnmklaaGreat
noncomputable section
open Go
set_option maxRecDepth 100000
def Mk (h : Hp) (k : Nat) (v : Value) (l : List Nat) : Prop := ∃ b el, v = .slice (some ⟨b, 0, none⟩) l.length l.length ∧ (el = 0 ∨ el = 6) ∧ h.Row b el (l.map bv) ∧ k ≤ b
theorem Mk.vals {h : Hp} {k : Nat} {v : Value} {l : List Nat} (m : Mk h k v l) : h.Vals v (l.map bv) := by
  obtain ⟨b, el, h1, h2, h3, h4⟩ := m
  exact .inr ⟨b, 0, l.length, el, _, by rw [List.length_map]; exact h1, h3, by simp, by rw [List.drop_zero, List.take_length]⟩
theorem Mk.ext {h h' : Hp} {k : Nat} {v : Value} {l : List Nat} (m : Mk h k v l) (W : h.Wf) (x : h.Ext h') : Mk h' k v l := by
  obtain ⟨b, el, h1, h2, h3, h4⟩ := m
  exact ⟨b, el, h1, h2, h3.ext W x, h4⟩
theorem Mk.same {h h' : Hp} {k : Nat} {v : Value} {l : List Nat} (m : Mk h k v l) (hb : h'.bl = h.bl) : Mk h' k v l := by
  obtain ⟨b, el, h1, h2, h3, h4⟩ := m
  exact ⟨b, el, h1, h2, h3.same hb, h4⟩
theorem Mk.le {h : Hp} {k k' : Nat} {v : Value} {l : List Nat} (m : Mk h k v l) (hk : k' ≤ k) : Mk h k' v l := by
  obtain ⟨b, el, h1, h2, h3, h4⟩ := m
  exact ⟨b, el, h1, h2, h3, by omega⟩
theorem Hp.Own.mk {h : Hp} {k : Nat} {v : Value} {l : List Nat} (o : h.Own k 5 v (l.map bv)) (hl : 0 < l.length) : Mk h k v l := by
  rcases o with ⟨_, h2⟩ | ⟨b, h1, h2, h3, h4⟩
  · have := congrArg List.length h2
    rw [List.length_map, List.length_nil] at this; omega
  · rw [List.length_map] at h1
    exact ⟨b, 6, h1, .inr rfl, h2, h3⟩
theorem LT : ∀ n : Nat, A6 ty5.zero n = (List.replicate n 0).map bv := fun n => by
  have hz : ty5.zero = [bv 0] := by kernel_rfl
  rw [hz]
  induction n with
  | zero => rfl
  | succ n ih => show [bv 0] ++ A6 [bv 0] n = _; rw [ih]; rfl
theorem Mx {A B : List Value} {x y : Value} : over (A ++ x :: B) A.length [y] = A ++ y :: B := by
  unfold over
  have e : A ++ x :: B = (A ++ [x]) ++ B := by simp
  rw [List.take_left, e, show A.length + [y].length = (A ++ [x]).length by simp, List.drop_left]
  simp
theorem OY {A B V : List Value} (h : A.length = V.length) : over (A ++ B) 0 V = V ++ B := by
  unfold over
  rw [Nat.zero_add, ← h, List.drop_left]; simp
theorem Q0 {s i : Nat} (hi : i < 4) : (ED s).drop (3 - i) = (s / 2 ^ min (8 * i) 32) % 256 :: (ED s).drop (4 - i) := by
  have : i = 0 ∨ i = 1 ∨ i = 2 ∨ i = 3 := by omega
  rcases this with rfl | rfl | rfl | rfl
  · show [s % 256] = s / 1 % 256 :: []
    rw [Nat.div_one]
  · rfl
  · rfl
  · rfl
theorem Lo {a b : List Nat} (ha : ∀ x ∈ a, x < 256) (hb : ∀ x ∈ b, x < 256) : bEq (a.map UInt8.ofNat) (b.map UInt8.ofNat) = decide (a = b) := by
  rw [GP, Bool.eq_iff_iff, beq_iff_eq, decide_eq_true_eq]
  refine ⟨fun h => ?_, fun h => by rw [h]⟩
  have h1 := congrArg (List.map UInt8.toNat) h
  rw [List.map_map, List.map_map] at h1
  have e : ∀ l : List Nat, (∀ x ∈ l, x < 256) → l.map (UInt8.toNat ∘ UInt8.ofNat) = l := fun l hl => by
    have : l.map (UInt8.toNat ∘ UInt8.ofNat) = l.map id := List.map_congr_left fun x hx => by
      show (UInt8.ofNat x).toNat = x
      rw [UInt8.toNat_ofNat', Nat.mod_eq_of_lt (hl x hx)]
    rw [this, List.map_id]
  rwa [e a ha, e b hb] at h1
theorem X6 {n : Nat} {h : Hp} {u v : Value} {a b : List Nat} (U : h.Vals u (a.map bv)) (V : h.Vals v (b.map bv)) (ha : ∀ x ∈ a, x < 256) (hb : ∀ x ∈ b, x < 256) : call AH (n + 1) 8 [u, v] h = .ok (.bool (decide (a = b))) h := by
  have hbe := Lo ha hb
  rw [dr rfl]
  unfold d8
  simp only [Aa, Ab, Nat.succ_eq_add_one, Nat.zero_add, Nat.reduceAdd, sT, Nat.reduceLT, Nat.reduceEqDiff, if_true, if_false, reduceIte, F8, U.bytes.str, V.bytes.str, LM, Kw, hbe, Ak, A1]
def smB : C := (cOp (AD 13) (Aw (AB 0))
(cOp (AD 14) (AM iLt .i64 (AB 5) (AB 13))
(AJ (AB 14)
(Al (AK 1 (Ar (cOp (AD 19) (AY 1 (AB 0) (AB 5))
(cOp (AD 20) (AG (AB 19))
(cOp (AD 23) (AY 1 (AB 1) (AB 5))
(cOp (AD 24) (AG (AB 23))
(cOp (AD 25) (AM iNe .u8 (AB 20) (AB 24))
(AJ (AB 25)
(cOp (AD 4) (AC (kV (.bool false)))
AU)
AO))))))))
(cOp (AD 16) (Ai .i64 (AQ .i64) (AB 5) (kV (.int .i64 1)))
(cOp (AD 5) (AC (AB 16))
AO)))
(At 0))))
def smS : C := (Al (AK 0 (Aj (cOp (AD 13) (Aw (AB 0))
(cOp (AD 14) (AM iLt .i64 (AB 5) (AB 13))
(AJ (AB 14)
(Al (AK 1 (Ar (cOp (AD 19) (AY 1 (AB 0) (AB 5))
(cOp (AD 20) (AG (AB 19))
(cOp (AD 23) (AY 1 (AB 1) (AB 5))
(cOp (AD 24) (AG (AB 23))
(cOp (AD 25) (AM iNe .u8 (AB 20) (AB 24))
(AJ (AB 25)
(cOp (AD 4) (AC (kV (.bool false)))
AU)
AO))))))))
(cOp (AD 16) (Ai .i64 (AQ .i64) (AB 5) (kV (.int .i64 1)))
(cOp (AD 5) (AC (AB 16))
AO)))
(At 0))))))
(cOp (AD 4) (AC (kV (.bool true)))
AU))
def smE : C := cOp (AD 4) (AC (kV (.bool true))) AU
theorem Tf : smS = Al (AK 0 (Aj smB)) smE := rfl
def Ry : C := (cOp (AD 4) (AC (kV (.bool false)))
(cOp (AD 7) (Aw (AB 0))
(cOp (AD 9) (Aw (AB 1))
(cOp (AD 10) (AM iNe .i64 (AB 7) (AB 9))
(AJ (AB 10)
(cOp (AD 4) (AC (kV (.bool false)))
AU)
(cOp (AD 5) (AC (kV (.int .i64 0)))
smS))))))
def d36 : C := Ry
theorem Nu {n : Nat} {args : List Value} {h : Hp} (hl : Nat.ble (BR args) 320 = true) : call AH (Nat.succ n) 36 args h = Bs [.t (AB 4)] (d36 (call AH n) (Av e0 0 args) h) := by
  have hb : AH.get 36 = some b36 := by kernel_rfl
  rw [BQ hb]
  have hd : b36 = ⟨[.t (AB 4)], d36⟩ := by kernel_rfl
  rw [hd, BJ hl]
theorem Nw : d36 = Ry := rfl
theorem XC {F : CallF} {h : Hp} {u v : Value} {a b : List Nat} (U : h.Vals u (a.map bv)) (V : h.Vals v (b.map bv)) (hab : a.length = b.length) (hl : a.length ≤ 900000) {e : Env} (s0 : AB 0 e = u) (s1 : AB 1 e = v) (s5 : AB 5 e = .int .i64 ((0 : Nat) : Int)) :
    (∃ e' h', Aj smB F e h = .exit 0 e' h' ∧ (h' = h ∨ h' = h.marked) ∧ a = b) ∨ (∃ e' h', Aj smB F e h = .ret e' h' ∧ (h' = h ∨ h' = h.marked) ∧ a ≠ b ∧ AB 4 e' = .bool false) := by
  refine CF (I := fun i e' h' => (h' = h ∨ h' = h.marked) ∧ AB 0 e' = u ∧ AB 1 e' = v ∧ AB 5 e' = .int .i64 (i : Int) ∧ i ≤ a.length ∧ (a = b ↔ a.drop i = b.drop i))
    (Q := fun x => (∃ e' h', x = .exit 0 e' h' ∧ (h' = h ∨ h' = h.marked) ∧ a = b) ∨ (∃ e' h', x = .ret e' h' ∧ (h' = h ∨ h' = h.marked) ∧ a ≠ b ∧ AB 4 e' = .bool false)) a.length (by omega) (fun i e' h' ⟨hh, t0, t1, t5, hi, hr⟩ => ?_) ⟨.inl rfl, s0, s1, s5, Nat.zero_le _, by simp⟩
  have hm : h'.marked = h.marked := by rcases hh with rfl | rfl <;> rfl
  have Ul := U.bl h'
  by_cases hlt : i < a.length
  · have U2 : h.marked.Vals u (a.map bv) := U.same rfl
    have V2 : h.marked.Vals v (b.map bv) := V.same rfl
    obtain ⟨p, g1, g2⟩ := Gk U2 hlt
    obtain ⟨q, g3, g4⟩ := Gk V2 (i := i) (by omega)
    rw [Eq hlt, Eq (l := b) (by omega)] at hr
    generalize a.getD i 0 = c at g2 hr
    generalize b.getD i 0 = d at g4 hr
    have c1 := IH hlt
    have a3 := G1 (i := i) (h := h.marked) (by omega)
    by_cases hcd : c = d
    · left
      subst hcd
      have c2 : iNe (c : Int) (c : Int) = false := by rw [GW]; simp
      have hrun : ∃ e2, smB F e' h' = .norm e2 h.marked ∧ AB 0 e2 = u ∧ AB 1 e2 = v ∧ AB 5 e2 = .int .i64 ((i + 1 : Nat) : Int) := by
        unfold smB
        simp only [sT, Nat.reduceLT, Nat.reduceEqDiff, if_true, if_false, reduceIte, Az, t0, Ul, Ae, Ad, t5, c1, CU, hm, CO, g1, Au, g2, t1, g3, g4, c2, Bt, a3]
        exact ⟨_, rfl, by simp only [AF, Nat.reduceLT, Nat.reduceEqDiff, if_true, if_false, reduceIte]; exact t0, by simp only [AF, Nat.reduceLT, Nat.reduceEqDiff, if_true, if_false, reduceIte]; exact t1, by simp [AF]⟩
      obtain ⟨e2, r1, r2, r3, r4⟩ := hrun
      refine ⟨hlt, e2, h.marked, r1, .inr rfl, r2, r3, r4, hlt, hr.trans ?_⟩
      simp
    · right
      have c2 : iNe (c : Int) (d : Int) = true := by rw [GW]; simp; omega
      have hrun : ∃ e2, smB F e' h' = .ret e2 h.marked ∧ AB 4 e2 = .bool false := by
        unfold smB
        simp only [sT, Nat.reduceLT, Nat.reduceEqDiff, if_true, if_false, reduceIte, Az, t0, Ul, Ae, Ad, t5, c1, CU, hm, CO, g1, Au, g2, t1, g3, g4, c2]
        exact ⟨_, rfl, by simp [AF]⟩
      obtain ⟨e2, r1, r2⟩ := hrun
      rw [r1]
      refine ⟨rfl, .inr ⟨e2, h.marked, rfl, .inr rfl, fun h => hcd ?_, r2⟩⟩
      have := hr.1 h
      injection this
  · right
    have c1 := FU (show a.length ≤ i by omega)
    have hrun : ∃ e2, smB F e' h' = .exit 0 e2 h' := by
      unfold smB
      simp only [sT, Nat.reduceLT, Nat.reduceEqDiff, if_true, if_false, reduceIte, Az, t0, Ul, Ae, Ad, t5, c1]
      exact ⟨_, rfl⟩
    obtain ⟨e2, r1⟩ := hrun
    rw [r1]
    refine ⟨rfl, .inl ⟨e2, h', rfl, hh, hr.2 ?_⟩⟩
    rw [List.drop_of_length_le (by omega), List.drop_of_length_le (by omega)]
theorem W7 {n : Nat} {h : Hp} {u v : Value} {a b : List Nat} (U : h.Vals u (a.map bv)) (V : h.Vals v (b.map bv)) (hl : a.length ≤ 900000) : ∃ h', call AH (n + 1) 36 [u, v] h = .ok (.bool (decide (a = b))) h' ∧ (h' = h ∨ h' = h.marked) := by
  have Ul := U.bl h
  have Vl := V.bl h
  by_cases hab : a.length = b.length
  · have c1 : iNe (a.length : Int) (b.length : Int) = false := by rw [GW, hab]; simp
    have pre : ∃ e1, Ry (call AH n) (Av e0 0 [u, v]) h = smS (call AH n) e1 h ∧ AB 0 e1 = u ∧ AB 1 e1 = v ∧ AB 5 e1 = .int .i64 ((0 : Nat) : Int) := by
      unfold Ry
      simp only [Aa, Ab, Nat.succ_eq_add_one, Nat.zero_add, Nat.reduceAdd, sT, Nat.reduceLT, Nat.reduceEqDiff, if_true, if_false, reduceIte, Az, Ul, Vl, Ae, Ad, c1]
      exact ⟨_, rfl, by simp [AF], by simp [AF], by simp only [AF, Nat.reduceLT, Nat.reduceEqDiff, if_true, if_false, reduceIte]; rfl⟩
    obtain ⟨e1, p1, p2, p3, p4⟩ := pre
    rcases XC (F := call AH n) U V hab hl p2 p3 p4 with ⟨e2, h', q1, q2, q3⟩ | ⟨e2, h', q1, q2, q3, q4⟩
    · refine ⟨h', ?_, q2⟩
      rw [Nu rfl, Nw, p1, Tf, decide_eq_true q3]
      simp only [Bj, BI, q1, BN, Bd]
      unfold smE
      simp only [sT, Nat.reduceLT, Nat.reduceEqDiff, if_true, if_false, reduceIte, Ak, A1]
    · refine ⟨h', ?_, q2⟩
      rw [Nu rfl, Nw, p1, Tf, decide_eq_false q3]
      simp only [Bj, BI, q1, Bf, DL, Ak, A1, q4]
  · have c1 : iNe (a.length : Int) (b.length : Int) = true := by rw [GW]; simp; omega
    refine ⟨h, ?_, .inl rfl⟩
    rw [Nu rfl, Nw, decide_eq_false (fun h => hab (by rw [h]))]
    unfold Ry
    simp only [Aa, Ab, Nat.succ_eq_add_one, Nat.zero_add, Nat.reduceAdd, sT, Nat.reduceLT, Nat.reduceEqDiff, if_true, if_false, reduceIte, Az, Ul, Vl, Ae, Ad, c1, Ak, A1]
def slB : C := (cOp (AD 16) (AM iLt .i64 (AB 15) (kV (.int .i64 4)))
(AJ (AB 16)
(Al (AK 1 (cOp (AD 7) (AC (AB 15))
(cOp (AD 20) (Aw (AB 1))
(cOp (AD 21) (Ai .i64 (AQ .i64) (AB 20) (kV (.int .i64 4)))
(cOp (AD 22) (As Int.sub .i64 (AB 21) (kV (.int .i64 1)))
(cOp (AD 24) (As Int.sub .i64 (AB 22) (AB 7))
(cOp (AD 27) (As Int.mul .i64 (kV (.int .i64 8)) (AB 7))
(cOp (AD 28) (FE .u32 (AB 6) (AB 27))
(cOp (AD 29) (An .u8 (AB 28))
(cOp (AD 30) (AY 1 (AB 5) (AB 24))
(cDo (AP 1 (AB 30) (AB 29))
AO)))))))))))
(cOp (AD 31) (Ai .i64 (AQ .i64) (AB 15) (kV (.int .i64 1)))
(cOp (AD 15) (AC (AB 31))
AO)))
(At 0)))
def slE : C := (cOp (AD 34) (G6 1 (AB 5) (AB 1))
(cOp (AD 4) (AC (AB 5))
AU))
def slS : C := (Al (AK 0 (Aj (cOp (AD 16) (AM iLt .i64 (AB 15) (kV (.int .i64 4)))
(AJ (AB 16)
(Al (AK 1 (cOp (AD 7) (AC (AB 15))
(cOp (AD 20) (Aw (AB 1))
(cOp (AD 21) (Ai .i64 (AQ .i64) (AB 20) (kV (.int .i64 4)))
(cOp (AD 22) (As Int.sub .i64 (AB 21) (kV (.int .i64 1)))
(cOp (AD 24) (As Int.sub .i64 (AB 22) (AB 7))
(cOp (AD 27) (As Int.mul .i64 (kV (.int .i64 8)) (AB 7))
(cOp (AD 28) (FE .u32 (AB 6) (AB 27))
(cOp (AD 29) (An .u8 (AB 28))
(cOp (AD 30) (AY 1 (AB 5) (AB 24))
(cDo (AP 1 (AB 30) (AB 29))
AO)))))))))))
(cOp (AD 31) (Ai .i64 (AQ .i64) (AB 15) (kV (.int .i64 1)))
(cOp (AD 15) (AC (AB 31))
AO)))
(At 0)))))
(cOp (AD 34) (G6 1 (AB 5) (AB 1))
(cOp (AD 4) (AC (AB 5))
AU)))
theorem bJ : slS = Al (AK 0 (Aj slB)) slE := rfl
def VO : C := (cOp (AD 4) (AC (kV (.slice none 0 0)))
(cOp (AD 9) (Aw (AB 1))
(cOp (AD 10) (Ai .i64 (AQ .i64) (AB 9) (kV (.int .i64 4)))
(cOp (AD 11) (GL 1 ty5.zero (AB 10) (AB 10))
(cOp (AD 5) (AC (AB 11))
(cOp (AD 14) (AL 25 [(AB 0), (AB 1)])
(cOp (AD 6) (AC (AB 14))
(cOp (AD 15) (AC (kV (.int .i64 0)))
slS))))))))
def d27 : C := VO
theorem Zo {n : Nat} {args : List Value} {h : Hp} (hl : Nat.ble (BR args) 320 = true) : call AH (Nat.succ n) 27 args h = Bs [.t (AB 4)] (d27 (call AH n) (Av e0 0 args) h) := by
  have hb : AH.get 27 = some b27 := by kernel_rfl
  rw [BQ hb]
  have hd : b27 = ⟨[.t (AB 4)], d27⟩ := by kernel_rfl
  rw [hd, BJ hl]
theorem Z7 : d27 = VO := rfl
theorem XA {F : CallF} {h h0 : Hp} (W0 : h0.Wf) (x : h0.Ext h) {r s N : Nat} (hr : h0.next ≤ r) {u : Value} {l : List Nat} (V : h0.Vals u (l.map bv)) (hN : N = l.length + 4) (hl : l.length ≤ 900000) (hs : s < 4294967296) (R : h.Row r 0 ((List.replicate N 0).map bv)) {e : Env}
    (s1 : AB 1 e = u) (s5 : AB 5 e = .slice (some ⟨r, 0, none⟩) N N) (s6 : AB 6 e = .int .u32 (s : Int)) (s15 : AB 15 e = .int .i64 ((0 : Nat) : Int)) :
    ∃ e' h', Aj slB F e h = .exit 0 e' h' ∧ h0.Ext h' ∧ h'.Row r 0 ((List.replicate l.length 0 ++ ED s).map bv) ∧ AB 1 e' = u ∧ AB 5 e' = .slice (some ⟨r, 0, none⟩) N N := by
  refine CF (I := fun i e' h' => h0.Ext h' ∧ h'.Row r 0 ((List.replicate (N - i) 0 ++ (ED s).drop (4 - i)).map bv) ∧ AB 1 e' = u ∧ AB 5 e' = .slice (some ⟨r, 0, none⟩) N N ∧ AB 6 e' = .int .u32 (s : Int) ∧ AB 15 e' = .int .i64 (i : Int) ∧ i ≤ 4)
    (Q := fun x => ∃ e' h', x = .exit 0 e' h' ∧ h0.Ext h' ∧ h'.Row r 0 ((List.replicate l.length 0 ++ ED s).map bv) ∧ AB 1 e' = u ∧ AB 5 e' = .slice (some ⟨r, 0, none⟩) N N) 4 (by omega) (fun i e' h' ⟨x', R', t1, t5, t6, t15, hi⟩ => ?_)
    ⟨x, by rw [Nat.sub_zero, List.drop_of_length_le (show (ED s).length ≤ 4 - 0 from Nat.le_refl _), List.append_nil]; exact R, s1, s5, s6, s15, by omega⟩
  by_cases hlt : i < 4
  · left
    have W := x'.wf
    have Vl := V.bl h'
    have c1 : iLt (i : Int) 4 = true := IH hlt
    have a1 : FV .i64 (.int .i64 (l.length : Int)) (.int .i64 4) h' = .ok (.int .i64 (N : Int)) h' := by
      rw [CZ, show (l.length : Int) + 4 = (N : Int) by omega, Bc (by omega)]
    have a2 : GD Int.sub .i64 (.int .i64 (N : Int)) (.int .i64 1) h' = .ok (.int .i64 ((N - 1 : Nat) : Int)) h' := by
      have : Int.sub (N : Int) 1 = ((N - 1 : Nat) : Int) := by show (N : Int) - 1 = _; omega
      rw [Ct, this, Bc (by omega)]
    have a3 : GD Int.sub .i64 (.int .i64 ((N - 1 : Nat) : Int)) (.int .i64 (i : Int)) h' = .ok (.int .i64 ((N - (i + 1) : Nat) : Int)) h' := by
      have : Int.sub ((N - 1 : Nat) : Int) (i : Int) = ((N - (i + 1) : Nat) : Int) := by show ((N - 1 : Nat) : Int) - (i : Int) = _; omega
      rw [Ct, this, Bc (by omega)]
    have a4 : GD Int.mul .i64 (.int .i64 8) (.int .i64 (i : Int)) h' = .ok (.int .i64 ((8 * i : Nat) : Int)) h' := by
      have : Int.mul 8 (i : Int) = ((8 * i : Nat) : Int) := by show (8 : Int) * (i : Int) = _; omega
      rw [Ct, this, Bc (by omega)]
    have r1 : Tb .u32 (.int .u32 (s : Int)) (.int .i64 ((8 * i : Nat) : Int)) h' = .ok (.int .u32 ((s / 2 ^ min (8 * i) 32 : Nat) : Int)) h' := Ps (j := .u32) (q := .i64) (m := s) (n := 8 * i)
    have v1 : CV .u8 (.int .u32 ((s / 2 ^ min (8 * i) 32 : Nat) : Int)) h' = .ok (.int .u8 ((s / 2 ^ min (8 * i) 32 % 256 : Nat) : Int)) h' := by rw [Bp, DO]
    have i1 : D4 1 (.slice (some ⟨r, 0, none⟩) N N) (.int .i64 ((N - (i + 1) : Nat) : Int)) h' = .ok (.pointer (some ⟨r, N - (i + 1), none⟩)) h' := by
      have := Et (h := h') (n := N) (c := N) (es := 1) (b := r) (off := 0) (i := N - (i + 1)) (k := .i64) (by omega)
      rwa [Nat.zero_add, Nat.mul_one] at this
    have hsuf := Q0 (s := s) hlt
    generalize s / 2 ^ min (8 * i) 32 % 256 = c at v1 hsuf
    have hlist : (List.replicate (N - i) 0 ++ (ED s).drop (4 - i)).map bv = (List.replicate (N - (i + 1)) 0).map bv ++ bv 0 :: ((ED s).drop (4 - i)).map bv := by
      rw [show N - i = (N - (i + 1)) + 1 by omega, List.replicate_succ', List.map_append, List.map_append, List.append_assoc]; rfl
    rw [hlist] at R'
    have hAl : ((List.replicate (N - (i + 1)) 0).map bv).length = N - (i + 1) := by simp
    have ho : N - (i + 1) + [Value.int .u8 (c : Int)].length ≤ ((List.replicate (N - (i + 1)) 0).map bv ++ bv 0 :: ((ED s).drop (4 - i)).map bv).length := by
      simp only [List.length_append, List.length_cons, List.length_nil, hAl]; omega
    have h256 : 256 ≤ r := by have := W0.big; omega
    have st := R'.storeR (n := 1) (off := N - (i + 1)) W h256 (v := .int .u8 (c : Int)) rfl ho rfl
    have wr := R'.wr_self W (off := N - (i + 1)) (vs := [.int .u8 (c : Int)]) ho
    have xw := R'.wr_ext x' hr (off := N - (i + 1)) (vs := [.int .u8 (c : Int)]) ho
    have a5 := G1 (i := i) (h := h'.wr r (N - (i + 1)) [.int .u8 (c : Int)]) (by omega)
    have hov : over ((List.replicate (N - (i + 1)) 0).map bv ++ bv 0 :: ((ED s).drop (4 - i)).map bv) (N - (i + 1)) [.int .u8 (c : Int)] = (List.replicate (N - (i + 1)) 0 ++ (ED s).drop (4 - (i + 1))).map bv := by
      have := Mx (A := (List.replicate (N - (i + 1)) 0).map bv) (B := ((ED s).drop (4 - i)).map bv) (x := bv 0) (y := bv c)
      rw [hAl] at this
      rw [show 4 - (i + 1) = 3 - i by omega, hsuf, List.map_append, List.map_cons]
      exact this
    rw [hov] at wr
    rw [Hc] at st
    have hrun : ∃ e2, slB F e' h' = .norm e2 (h'.wr r (N - (i + 1)) [.int .u8 (c : Int)]) ∧ AB 1 e2 = u ∧ AB 5 e2 = .slice (some ⟨r, 0, none⟩) N N ∧ AB 6 e2 = .int .u32 (s : Int) ∧ AB 15 e2 = .int .i64 ((i + 1 : Nat) : Int) := by
      unfold slB
      simp only [sT, Nat.reduceLT, Nat.reduceEqDiff, if_true, if_false, reduceIte, Ae, Ad, t15, c1, Az, t1, Vl, Bt, a1, C3, a2, a3, a4, Po, t6, r1, Ba, v1, CO, t5, i1, BL, st, a5]
      exact ⟨_, rfl, by simp only [AF, Nat.reduceLT, Nat.reduceEqDiff, if_true, if_false, reduceIte]; exact t1, by simp only [AF, Nat.reduceLT, Nat.reduceEqDiff, if_true, if_false, reduceIte]; exact t5, by simp only [AF, Nat.reduceLT, Nat.reduceEqDiff, if_true, if_false, reduceIte]; exact t6, by simp [AF]⟩
    obtain ⟨e2, q1, q2, q3, q4, q5⟩ := hrun
    exact ⟨hlt, e2, _, q1, xw, wr, q2, q3, q4, q5, hlt⟩
  · right
    have hi4 : i = 4 := by omega
    subst hi4
    have c1 := FU (show 4 ≤ 4 by omega)
    have hrun : ∃ e2, slB F e' h' = .exit 0 e2 h' ∧ AB 1 e2 = u ∧ AB 5 e2 = .slice (some ⟨r, 0, none⟩) N N := by
      unfold slB
      have c1 : iLt ((4 : Nat) : Int) 4 = false := c1
      simp only [sT, Nat.reduceLT, Nat.reduceEqDiff, if_true, if_false, reduceIte, Ae, Ad, t15, c1]
      exact ⟨_, rfl, by simp only [AF, Nat.reduceLT, Nat.reduceEqDiff, if_true, if_false, reduceIte]; exact t1, by simp only [AF, Nat.reduceLT, Nat.reduceEqDiff, if_true, if_false, reduceIte]; exact t5⟩
    obtain ⟨e2, q1, q2, q3⟩ := hrun
    rw [q1]
    refine ⟨rfl, e2, h', rfl, x', ?_, q2, q3⟩
    have e1 : N - 4 = l.length := by omega
    have e2 : 4 - 4 = 0 := rfl
    rw [e1, e2, List.drop_zero] at R'
    exact R'
theorem WW {F : CallF} {e : Env} {h : Hp} (W : h.Wf) {x y : O} {N : Nat} (hx : x e = .int .i64 (N : Int)) (hy : y e = .int .i64 (N : Int)) (hN : N ≤ 1000000) : GL 1 ty5.zero x y F e h = .ok (.slice (some ⟨h.next, 0, none⟩) N N) (h.pushRow 0 ((List.replicate N 0).map bv)) := by
  unfold GL
  rw [hx, hy, Dv]
  unfold Sa
  have e1 : Nat.ble N N = true := Ap.2 (Nat.le_refl N)
  have e2 : Nat.ble (Nat.mul (Nat.succ N) (Nat.succ 1)) most = true := Ap.2 (by
    show (N + 1) * 2 ≤ 1099511627776
    omega)
  simp only [e1, e2, cond_true]
  rw [DA W, LT]; rfl
theorem VJ {F : CallF} {e : Env} {h : Hp} (W : h.Wf) {x y : O} {r N : Nat} {u : Value} {l A B : List Nat} (hx : x e = .slice (some ⟨r, 0, none⟩) N N) (hy : y e = u) (V : h.Vals u (l.map bv)) (h256 : 256 ≤ r) (hA : A.length = l.length) (hN : N = (A ++ B).length) (R : h.Row r 0 ((A ++ B).map bv)) :
    G6 1 x y F e h = .ok (.int .i64 (l.length : Int)) (h.wr r 0 (l.map bv)) ∧ (h.wr r 0 (l.map bv)).Row r 0 ((l ++ B).map bv) := by
  have ho : 0 + (l.map bv).length ≤ ((A ++ B).map bv).length := by simp; omega
  have h1 : B6 (l.map bv) = true := HU l
  refine ⟨?_, ?_⟩
  · unfold G6 Ru
    rw [hx, hy]
    simp only [V.lenV, Ao, BU, List.length_map]
    rw [Nat.min_eq_left (show l.length ≤ N by rw [hN, List.length_append]; omega)]
    rw [V.src (n := l.length) (by rw [List.length_map])]
    rw [R.store W h256 ho h1]; rfl
  · have := R.wr_self W ho
    rw [List.map_append, OY (by simp [hA])] at this
    rw [List.map_append]; exact this
theorem Pr {n : Nat} {h : Hp} (W : h.Wf) {tb : Nat} {T : List Nat} (R : h.Row tb 0 (T.map wv)) (hT : Cm T) {u : Value} {l : List Nat} (V : h.Vals u (l.map bv)) (hb : ∀ x ∈ l, x < 256) (hl : l.length ≤ 900000) :
    ∃ h' v, call AH (n + 2) 27 [pt tb, u] h = .ok v h' ∧ h.Ext h' ∧ Mk h' h.next v (CP T l) := by
  have x1 := (Hp.Ext.refl W).pushRow 0 ((List.replicate (l.length + 4) 0).map bv)
  have R1 := Hp.Row.new W 0 ((List.replicate (l.length + 4) 0).map bv)
  have mk := fun (e : Env) (hx : AB 10 e = .int .i64 ((l.length + 4 : Nat) : Int)) => WW (F := call AH (n + 1)) (e := e) W (x := AB 10) (y := AB 10) hx hx (by omega)
  generalize h.pushRow 0 ((List.replicate (l.length + 4) 0).map bv) = h1 at x1 R1 mk
  obtain ⟨h2, k1, k2⟩ := Tk (n := n) (R.ext W x1) hT (V.ext W x1) hb hl
  have hbl : h2.bl = h1.bl := by rcases k2 with rfl | rfl <;> rfl
  have x2 : h.Ext h2 := by
    rcases k2 with rfl | rfl
    · exact x1
    · exact x1.marked
  have Vl := V.bl h
  have a1 : FV .i64 (.int .i64 (l.length : Int)) (.int .i64 4) h = .ok (.int .i64 ((l.length + 4 : Nat) : Int)) h := by
    rw [CZ, show (l.length : Int) + 4 = ((l.length + 4 : Nat) : Int) by omega, Bc (by omega)]
  have pre : ∃ e1, VO (call AH (n + 1)) (Av e0 0 [pt tb, u]) h = slS (call AH (n + 1)) e1 h2 ∧ AB 1 e1 = u ∧ AB 5 e1 = .slice (some ⟨h.next, 0, none⟩) (l.length + 4) (l.length + 4) ∧ AB 6 e1 = .int .u32 ((Bz T l : Nat) : Int) ∧ AB 15 e1 = .int .i64 ((0 : Nat) : Int) := by
    unfold VO
    simp only [Aa, Ab, Nat.succ_eq_add_one, Nat.zero_add, Nat.reduceAdd, sT, Nat.reduceLT, Nat.reduceEqDiff, if_true, if_false, reduceIte, Az, Vl, Bt, a1, mk, Ay, Ah, Ax, k1]
    exact ⟨_, rfl, by simp [AF], by simp [AF], by simp [AF], by simp only [AF, Nat.reduceLT, Nat.reduceEqDiff, if_true, if_false, reduceIte]; rfl⟩
  obtain ⟨e1, p1, p2, p3, p4, p5⟩ := pre
  obtain ⟨e2, h3, q1, x3, R3, q2, q3⟩ := XA (F := call AH (n + 1)) W x2 (Nat.le_refl _) V rfl hl (FP T l) (R1.same hbl) p2 p3 p4 p5
  have h256 := W.big
  obtain ⟨c1, c2⟩ := VJ (F := call AH (n + 1)) (e := e2) x3.wf (x := AB 5) (y := AB 1) q3 q2 (V.ext W x3) h256 (A := List.replicate l.length 0) (B := ED (Bz T l)) (by simp) (by rw [List.length_append, List.length_replicate]; rfl) R3
  have x4 := R3.wr_ext x3 (Nat.le_refl _) (off := 0) (vs := l.map bv) (by rw [List.length_map, List.length_map, List.length_append, List.length_replicate]; omega)
  refine ⟨_, .slice (some ⟨h.next, 0, none⟩) (l.length + 4) (l.length + 4), ?_, x4, ⟨h.next, 0, by rw [Ex], .inl rfl, c2, Nat.le_refl _⟩⟩
  rw [Zo rfl, Z7, p1, bJ]
  simp only [Bj, BI, q1, BN, Bd]
  unfold slE
  simp only [sT, Nat.reduceLT, Nat.reduceEqDiff, if_true, if_false, reduceIte, c1, q3, Ak, A1]
theorem bV : A6 ty5.zero 4 = [bv 0, bv 0, bv 0, bv 0] := by kernel_rfl
theorem N0 {F : CallF} {e : Env} {h : Hp} (W : h.Wf) {g1 g2 g3 g4 : O} {a b c d : Nat} (h1 : g1 e = bv a) (h2 : g2 e = bv b) (h3 : g3 e = bv c) (h4 : g4 e = bv d) :
    AX 4 (A6 ty5.zero 4) [(0, 1, g1), (1, 1, g2), (2, 1, g3), (3, 1, g4)] F e h = .ok (.slice (some ⟨h.next, 0, none⟩) 4 4) (h.pushRow 0 [bv a, bv b, bv c, bv d]) := by
  rw [Cr, bV, BV (hk := by rw [h1]; rfl), h1, BV (hk := by rw [h2]; rfl), h2, BV (hk := by rw [h3]; rfl), h3, BV (hk := by rw [h4]; rfl), h4]
  simp only [Rp, List.length_singleton, List.length_cons, List.length_nil, over, List.take, List.drop, List.append_eq, List.nil_append, List.cons_append, Nat.reduceAdd, Nat.reduceLeDiff, if_true, C7, reduceIte]
  rw [DA W]; rfl
theorem TT {n : Nat} {h : Hp} (W : h.Wf) {tb : Nat} {T : List Nat} (R : h.Row tb 0 (T.map wv)) (hT : Cm T) {u : Value} {l : List Nat} (V : h.Vals u (l.map bv)) (hb : ∀ x ∈ l, x < 256) (hl : l.length ≤ 900000) :
    ∃ h' v, call AH (n + 2) 64 [pt tb, u] h = .ok v h' ∧ h.Ext h' ∧ Mk h' h.next v (CP T l) := by
  have k1 := Pq (n := n) R hT V hb hl
  have hs := FP T l
  have hsuf : ED (Bz T l) = [Bz T l / 16777216 % 256, Bz T l / 65536 % 256, Bz T l / 256 % 256, Bz T l % 256] := rfl
  unfold CP
  generalize Bz T l = s at k1 hs hsuf ⊢
  have d1 : ∀ m : Nat, 0 < m → m < 4294967296 → Iy .u32 (.int .u32 (s : Int)) (.int .u32 (m : Int)) h = .ok (.int .u32 ((s / m : Nat) : Int)) h := fun m hm _ => by
    have : IntKind.u32.wrap ((s : Int).tdiv (m : Int)) = ((s / m : Nat) : Int) := EI (n := s / m) (by have := Nat.div_le_self s m; omega)
    rw [Gr (by omega), this]
  have d2 := d1 16777216 (by omega) (by omega)
  have d3 := d1 65536 (by omega) (by omega)
  have d4 := d1 256 (by omega) (by omega)
  have d2 : Iy .u32 (.int .u32 (s : Int)) (.int .u32 16777216) h = .ok (.int .u32 ((s / 16777216 : Nat) : Int)) h := d2
  have d3 : Iy .u32 (.int .u32 (s : Int)) (.int .u32 65536) h = .ok (.int .u32 ((s / 65536 : Nat) : Int)) h := d3
  have d4 : Iy .u32 (.int .u32 (s : Int)) (.int .u32 256) h = .ok (.int .u32 ((s / 256 : Nat) : Int)) h := d4
  have cv : ∀ m : Nat, CV .u8 (.int .u32 (m : Int)) h = .ok (bv (m % 256)) h := fun m => by rw [Bp, DO]; rfl
  have x1 := (Hp.Ext.refl W).pushRow 0 ((ED s).map bv)
  have R1 := Hp.Row.new W 0 ((ED s).map bv)
  have fs : ∀ e : Env, AB 12 e = bv (s / 16777216 % 256) → AB 15 e = bv (s / 65536 % 256) → AB 18 e = bv (s / 256 % 256) → AB 20 e = bv (s % 256) → AX 4 (A6 ty5.zero 4) [(0, 1, AB 12), (1, 1, AB 15), (2, 1, AB 18), (3, 1, AB 20)] (call AH (n + 1)) e h = .ok (.slice (some ⟨h.next, 0, none⟩) 4 4) (h.pushRow 0 ((ED s).map bv)) := fun e h1 h2 h3 h4 => N0 W h1 h2 h3 h4
  generalize h.pushRow 0 ((ED s).map bv) = h1 at x1 R1 fs
  have U1 : h1.Vals (.slice (some ⟨h.next, 0, none⟩) 4 4) ((ED s).map bv) := .inr ⟨h.next, 0, 4, 0, _, rfl, R1, by simp, by rw [List.drop_zero, List.take_length]⟩
  obtain ⟨h2, w, k2, x2, o2⟩ := KR (n := n) x1.wf (V.ext W x1) U1 hb (Pv s) (by show l.length + 4 ≤ _; omega) (by show 0 < 4; omega)
  refine ⟨h2, w, ?_, x1.trans x2, (o2.le x1.next).mk (by rw [List.length_append]; show 0 < l.length + 4; omega)⟩
  rw [Zw rfl]
  unfold d64
  simp only [Aa, Ab, Nat.succ_eq_add_one, Nat.zero_add, Nat.reduceAdd, sT, Nat.reduceLT, Nat.reduceEqDiff, if_true, if_false, reduceIte, Ay, Ah, Ax, k1, G7, d2, d3, d4, Ba, cv, fs, k2, Ak, A1]
end
end Go.Proofs.YtfeldadhbnmklaaGreat
set_option linter.unusedVariables false
set_option linter.unusedSimpArgs false
namespace Go.Proofs.YtfeldadhbnmklaaGreat
noncomputable section
open Go
set_option maxRecDepth 100000
theorem hP : HL.k = .slice 5 := by kernel_rfl
theorem av {F : CallF} {e : Env} {h : Hp} {a : Addr} {n c : Nat} {g : O} (hg : g e = .slice (some a) n c) : oEq HL.k false g (kV (.slice none 0 0)) F e h = .ok (.bool false) h := by
  show (match eqV HL.k (g e) (.slice none 0 0) with | some r => okB (false != r) h | none => .no) = _
  rw [hP, hg]
  exact Hs
theorem K3 {h0 h : Hp} {eb en k b : Nat} {u : Value} {ys : List Value} (x0 : h0.Ext h) (hk2 : k ≤ h.next) (r : h.Row b 0 []) (y : h.Vals u ys) (hy : 0 < ys.length) (ha : B6 ys = true) (hm : (ys.length + 1) * (eb + 1) ≤ 1099511627776) :
    ∃ h' v', Lk 1 eb en (.slice (some ⟨b, 0, none⟩) 0 0) u h = .ok v' h' ∧ h0.Ext h' ∧ h'.Own k en v' ys := by
  have W := x0.wf
  obtain ⟨cc, hcc, hl⟩ := r.rowOf
  obtain ⟨t, h2, h3⟩ := Dz ys cc [] 0 hl (.inr rfl)
  have h3 : t.Is ys := by simpa using h3
  refine ⟨h.push (.cells t ys.length (en + 1)), .slice (some ⟨h.next, 0, none⟩) ys.length ys.length, ?_, x0.push _, .inr ⟨h.next, rfl, ⟨t, by rw [W.push_get, if_pos rfl], h3⟩, hk2, W.big⟩⟩
  unfold Lk EO
  simp only [y.lenV, y.src rfl, Ao, Nat.add_eq, Nat.zero_add]
  have e1 : Nat.ble ys.length 0 = false := by
    cases e : Nat.ble ys.length 0
    · rfl
    · have := Ap.1 e; omega
  have e2 : Nat.ble (Nat.mul (Nat.succ ys.length) (Nat.succ eb)) most = true := Ap.2 hm
  rw [e1]
  simp only [e2, cond_true, ha]
  unfold Gz
  have hcc : rowOf h b = .ok cc 0 0 := hcc
  have e3 : Nat.beq 0 (Nat.mul 0 1) = true := rfl
  simp only [hcc, e3, h2]
  unfold EU
  simp only [hcc, BD, Nat.add_eq, Nat.zero_add]
  unfold CJ
  rw [Ao, DX W]; rfl
theorem Lx {F : CallF} {e : Env} {h : Hp} (W : h.Wf) : AX 0 (A6 ty5.zero 0) [] F e h = .ok (.slice (some ⟨h.next, 0, none⟩) 0 0) (h.pushRow 0 []) := by
  have : A6 ty5.zero 0 = [] := rfl
  rw [this, Cr, C7, DA W]; rfl
theorem Rt {n : Nat} {h : Hp} (W : h.Wf) {a : Addr} {c : Nat} {l : List Nat} (V : h.Vals (.slice (some a) l.length c) (l.map bv)) (hl : l.length ≤ 900000) : ∃ h' v, call AH (n + 1) 49 [.slice (some a) l.length c] h = .ok v h' ∧ h.Ext h' ∧ Mk h' h.next v l := by
  have y1 := (Hp.Ext.refl W).pushRow 0 []
  have R := Hp.Row.new W 0 []
  have es := fun (e : Env) => Lx (F := call AH n) (e := e) W
  have n1 : (h.pushRow 0 []).next = h.next + 1 := rfl
  generalize h.pushRow 0 [] = h1 at y1 R es n1
  have ne : ∀ e : Env, AB 0 e = .slice (some a) l.length c → oEq HL.k false (AB 0) (kV (.slice none 0 0)) (call AH n) e h = .ok (.bool false) h := fun e he => av he
  rcases Nat.eq_zero_or_pos l.length with hz | hz
  · have hl0 : l = [] := List.eq_nil_of_length_eq_zero hz
    subst hl0
    have h256 := W.big
    have ap : Lk 1 1 5 (.slice (some ⟨h.next, 0, none⟩) 0 0) (.slice (some a) 0 c) h1 = .ok (.slice (some ⟨h.next, 0, none⟩) 0 0) (h1.wr h.next 0 []) := Ll (l := []) y1.wf h256 R (V.ext W y1).bytes (Nat.le_refl _) (Nat.le_refl _)
    have R2 := R.wr_self y1.wf (off := 0) (vs := []) (Nat.le_refl _)
    have x2 := R.wr_ext y1 (Nat.le_refl _) (off := 0) (vs := []) (Nat.le_refl _)
    refine ⟨_, .slice (some ⟨h.next, 0, none⟩) 0 0, ?_, x2, ⟨h.next, 0, rfl, .inl rfl, R2, Nat.le_refl _⟩⟩
    rw [Rl rfl]
    unfold d49
    have ne : ∀ e : Env, AB 0 e = .slice (some a) 0 c → oEq HL.k false (AB 0) (kV (.slice none 0 0)) (call AH n) e h = .ok (.bool false) h := ne
    simp only [Aa, Ab, Nat.succ_eq_add_one, Nat.zero_add, Nat.reduceAdd, sT, Nat.reduceLT, Nat.reduceEqDiff, if_true, if_false, reduceIte, List.length_nil, ne, es, Cq, ap, Ak, A1]
  · obtain ⟨h2, v, a1, a2, a3⟩ := K3 (eb := 1) (en := 5) (k := h.next) y1 (by omega) R (V.ext W y1) (by rw [List.length_map]; exact hz) (HU l) (by rw [List.length_map]; omega)
    refine ⟨h2, v, ?_, a2, a3.mk hz⟩
    rw [Rl rfl]
    unfold d49
    simp only [Aa, Ab, Nat.succ_eq_add_one, Nat.zero_add, Nat.reduceAdd, sT, Nat.reduceLT, Nat.reduceEqDiff, if_true, if_false, reduceIte, ne, es, Cq, a1, Ak, A1]
theorem Rv {F : CallF} {e : Env} {h : Hp} {x y : O} {a : Addr} {el N C m : Nat} (hx : x e = .slice (some a) N C) (hy : y e = .int .i64 (m : Int)) (hm : m ≤ C) : EM el 1 x none (some y) none F e h = .ok (.slice (some a) m C) h := by
  show (match x e with | .slice a n c => E5 e n c none (some y) none (fun l hh m => He el 1 a false l hh m h) | _ => .no) = _
  rw [hx]
  show DE e (some y) N C (fun hh => DE e none 0 hh fun l => He el 1 (some a) false l hh C h) = _
  have hb : ∀ K : Nat → R, DE e (some y) N C K = K m := fun K => by
    show (match Cy (y e) with | .ok n => (bif Nat.ble n C then K n else .no) | .no => .no) = _
    rw [hy, Dv]
    simp only
    rw [Ap.2 hm]; rfl
  rw [hb]
  show CQ (some a) 1 0 m C h = _
  unfold CQ
  simp only [Ao]
  cases C with
  | zero => rfl
  | succ C => rfl
theorem TA {F : CallF} {e : Env} {h : Hp} {k : C} {o : Addr} {n c : Nat} (hb : o.block < h.mark) : Qo (.slice (some o) n c) k F e h = k F e h := by
  show (bif Nat.blt o.block h.mark then k F e h else .no) = _
  rw [A3.2 hb]; rfl
theorem Hp.Vals.blt {h : Hp} (W : h.Wf) {o : Addr} {n c : Nat} {xs : List Value} (V : h.Vals (.slice (some o) n c) xs) : o.block < h.next := by
  rcases V with ⟨h1, _⟩ | ⟨b, off, c', el, L, h1, h2, _⟩
  · cases h1
  · cases h1; exact h2.lt W
def Ig (u : Value) : Prop := ∀ o n c, u = .slice o n c → n ≤ c
theorem Mk.cap {h : Hp} {k : Nat} {v : Value} {l : List Nat} (m : Mk h k v l) : Ig v := fun o n c e => by
  obtain ⟨b, el, h1, _⟩ := m
  rw [h1] at e; cases e; exact Nat.le_refl _
def iE (T l : List Nat) (h h' : Hp) (r : R) : Prop := (∃ body v, Db T l = some body ∧ r = .ok (.tuple ⟨[v, .int .i64 0]⟩) h' ∧ Mk h' h.next v body) ∨ (Db T l = none ∧ ∃ c : Int, c ≠ 0 ∧ r = .ok (.tuple ⟨[.slice none 0 0, .int .i64 c]⟩) h')
theorem RF {n : Nat} {h : Hp} (W : h.Wf) {tb : Nat} {T : List Nat} (R : h.Row tb 0 (T.map wv)) (hT : Cm T) {u : Value} {l : List Nat} (V : h.Vals u (l.map bv)) (hC : Ig u) (hb : ∀ x ∈ l, x < 256) (hl : l.length ≤ 900000) :
    ∃ h', h.Ext h' ∧ iE T l h h' (call AH (n + 3) 31 [pt tb, u] h) := by
  have Vl := V.bl h
  by_cases h4 : l.length < 4
  · have c1 : iLt (l.length : Int) 4 = true := IH h4
    refine ⟨h, .refl W, .inr ⟨by unfold Db; rw [if_pos h4], 11, by omega, ?_⟩⟩
    rw [Nt rfl]
    unfold d31
    simp only [Aa, Ab, Nat.succ_eq_add_one, Nat.zero_add, Nat.reduceAdd, sT, Nat.reduceLT, Nat.reduceEqDiff, if_true, if_false, reduceIte, Az, Vl, Ae, Ad, c1, Ak, D1]
  · have c1 : iLt (l.length : Int) 4 = false := FU (a := l.length) (b := 4) (by omega)
    have a1 : GD Int.sub .i64 (.int .i64 (l.length : Int)) (.int .i64 4) h = .ok (.int .i64 ((l.length - 4 : Nat) : Int)) h := by
      have : Int.sub (l.length : Int) 4 = ((l.length - 4 : Nat) : Int) := by show (l.length : Int) - 4 = _; omega
      rw [Ct, this, Bc (by omega)]
    have hlm : (l.map bv).length = l.length := List.length_map ..
    obtain ⟨o, c, hu, V1⟩ := V.cut (n := l.length - 4) (by rw [hlm]; omega)
    rw [hlm] at hu
    have hlen : (l.take (l.length - 4)).length = l.length - 4 := by rw [List.length_take]; omega
    have V1 : h.Vals (.slice (some o) (l.take (l.length - 4)).length c) ((l.take (l.length - 4)).map bv) := by rw [hlen, List.map_take]; exact V1
    obtain ⟨h1, v, k1, x1, m1⟩ := Rt (n := n + 1) W V1 (by omega)
    rw [hlen] at k1
    have hbb : ∀ x ∈ l.take (l.length - 4), x < 256 := fun x hx => hb x (List.mem_of_mem_take hx)
    have xm := x1.marked
    have Wm := xm.wf
    have xq : h.Ext h1.marked.quiet := xm.quiet
    obtain ⟨h2, w, k2, x2, m2⟩ := Pr (n := n) xq.wf (R.ext W xq) hT ((m1.same (h' := h1.marked.quiet) rfl).vals) hbb (by omega)
    have q1 : ∀ (F : CallF) (e : Env), F = call AH (n + 2) → AB 0 e = pt tb → AB 6 e = v → AS .weak (AL 27 [AB 0, AB 6]) F e h1.marked = .ok w (h1.marked.back h2) := fun F e hF h0 h6 => by
      subst hF
      refine Fp ?_ x2 (Nat.le_refl _)
      rw [Ay, Ah, Ah, Ax, h0, h6]
      exact k2
    have x3 : h1.marked.Ext (h1.marked.back h2) := Hp.Ext.back x2
    have xb := xm.trans x3
    have m3 : Mk (h1.marked.back h2) h1.marked.quiet.next w (CP T (l.take (l.length - 4))) := m2.same rfl
    have m4 : Mk (h1.marked.back h2) h.next v (l.take (l.length - 4)) := (m1.same (h' := h1.marked) rfl).ext Wm x3
    have Ve := V.ext W xb
    have st1 := m3.vals.bytes.str
    have st2 := Ve.bytes.str
    have hbs := Lo (NG (T := T) hbb) hb
    have hmk : o.block < (h1.marked.back h2).mark := by
      have h5 : o.block < h.next := by rw [hu] at V; exact V.blt W
      have h6 := x1.next
      show o.block < h1.next
      omega
    have old : ∀ (k : C) (F : CallF) (e : Env), Qo u k F e (h1.marked.back h2) = k F e (h1.marked.back h2) := fun k F e => by rw [hu]; exact TA hmk
    have ct : ∀ (F : CallF) (e : Env), AB 1 e = u → AB 13 e = .int .i64 ((l.length - 4 : Nat) : Int) → EM 5 1 (AB 1) none (some (AB 13)) none F e h = .ok (.slice (some o) (l.length - 4) c) h := fun F e e1 e2 => by
      have := hC _ _ _ hu
      exact Rv (e1.trans hu) e2 (by omega)
    by_cases hs : CP T (l.take (l.length - 4)) = l
    · refine ⟨_, xb, .inl ⟨_, v, by unfold Db; rw [if_neg h4, if_pos hs], ?_, m4⟩⟩
      rw [decide_eq_true hs] at hbs
      rw [Nt rfl]
      unfold d31
      simp only [Aa, Ab, Nat.succ_eq_add_one, Nat.zero_add, Nat.reduceAdd, sT, Nat.reduceLT, Nat.reduceEqDiff, if_true, if_false, reduceIte, Az, Vl, Ae, Ad, c1, C3, a1, ct, Ay, Ah, Ax, k1, CU, q1, F8, st1, IO, old, Gl, st2, LM, Kw, hbs, Bool.not_true, Ak, D1]
    · refine ⟨_, xb, .inr ⟨by unfold Db; rw [if_neg h4, if_neg hs], 12, by omega, ?_⟩⟩
      rw [decide_eq_false hs] at hbs
      rw [Nt rfl]
      unfold d31
      simp only [Aa, Ab, Nat.succ_eq_add_one, Nat.zero_add, Nat.reduceAdd, sT, Nat.reduceLT, Nat.reduceEqDiff, if_true, if_false, reduceIte, Az, Vl, Ae, Ad, c1, C3, a1, ct, Ay, Ah, Ax, k1, CU, q1, F8, st1, IO, old, Gl, st2, LM, Kw, hbs, Bool.not_false, Ak, D1]
end
end Go.Proofs.YtfeldadhbnmklaaGreat
set_option linter.unusedVariables false
set_option linter.unusedSimpArgs false
namespace Go.Proofs.YtfeldadhbnmklaaGreat
noncomputable section
open Go
set_option maxRecDepth 100000
def BS (a b c : Int) (s : Nat) (u : Value) : Value := .agg ⟨[.int .i64 a, .int .i64 b, .int .i64 c, .int .u8 (s : Int), u]⟩
def Aq (a b c : Int) (s : Nat) (u : Value) : List Value := [.int .i64 a, .int .i64 b, .int .i64 c, .int .u8 (s : Int), u]
theorem EC {F : CallF} {h : Hp} (W : h.Wf) {a b c : Int} {s : Nat} {u : Value} {g : O} {e : Env} (he : g e = BS a b c s u) : CG g F e h = .ok (.pointer (some ⟨h.next, 0, none⟩)) (h.pushRow 0 (Aq a b c s u)) := by
  rw [WH, he, VF W]; rfl
theorem BG {h : Hp} {r : Nat} {a b c : Int} {s : Nat} {u : Value} (R : h.Row r 0 (Aq a b c s u)) : load1 ⟨r, 0, none⟩ h = .ok (.int .i64 a) h ∧ load1 ⟨r, 1, none⟩ h = .ok (.int .i64 b) h ∧ load1 ⟨r, 2, none⟩ h = .ok (.int .i64 c) h ∧ load1 ⟨r, 3, none⟩ h = .ok (.int .u8 (s : Int)) h ∧ load1 ⟨r, 4, none⟩ h = .ok u h ∧ loadN 5 ⟨r, 0, none⟩ h = .ok (BS a b c s u) h :=
  ⟨R.load1 (off := 0) (by show 0 < 5; omega), R.load1 (off := 1) (by show 1 < 5; omega), R.load1 (off := 2) (by show 2 < 5; omega), R.load1 (off := 3) (by show 3 < 5; omega), R.load1 (off := 4) (by show 4 < 5; omega), R.loadN (off := 0) (n := 5) (by show 0 + 5 ≤ 5; omega)⟩
theorem PM {a b : Int} (h : b ≤ a) : iGe a b = true := (SP a b).trans (decide_eq_true h)
theorem PL {a b : Int} (h : ¬ b ≤ a) : iGe a b = false := (SP a b).trans (decide_eq_false h)
theorem PO {a b : Int} (h : a ≤ b) : iLe a b = true := (N8 a b).trans (decide_eq_true h)
theorem PN {a b : Int} (h : ¬ a ≤ b) : iLe a b = false := (N8 a b).trans (decide_eq_false h)
theorem SR {a b : Int} (h : a < b) : iLt a b = true := (CM a b).trans (decide_eq_true h)
theorem SQ {a b : Int} (h : ¬ a < b) : iLt a b = false := (CM a b).trans (decide_eq_false h)
theorem Fh {a b : Int} (h : b < a) : iGt a b = true := (D3 a b).trans (decide_eq_true h)
theorem Fg {a b : Int} (h : ¬ b < a) : iGt a b = false := (D3 a b).trans (decide_eq_false h)
theorem KM {a b : Int} (h : a = b) : iEq a b = true := by rw [Cp]; simpa using h
theorem X3 {a b : Int} (h : ¬ a = b) : iEq a b = false := by rw [Cp]; simpa using h
theorem PP {a b : Int} (h : ¬ a = b) : iNe a b = true := by rw [GW]; simpa using h
theorem H6 {a b : Int} (h : a = b) : iNe a b = false := by rw [GW]; simpa using h
theorem Je {F : CallF} {h : Hp} (W : h.Wf) {a b c : Int} {s n : Nat} {u : Value} (hu : ∀ g, FS u g = .ok (.int .i64 (n : Int)) g) : Bs [.t (AB 2)] (d24 F (Av e0 0 [BS a b c s u]) h) = .ok (.bool (CB a b c s n)) (h.pushRow 0 (Aq a b c s u)) := by
  have R := Hp.Row.new W 0 (Aq a b c s u)
  have bx : ∀ e : Env, AB 0 e = BS a b c s u → CG (AB 0) F e h = .ok (.pointer (some ⟨h.next, 0, none⟩)) (h.pushRow 0 (Aq a b c s u)) := fun e he => EC W he
  generalize h.pushRow 0 (Aq a b c s u) = h1 at R bx
  obtain ⟨l0, l1, l2, l3, l4, _⟩ := BG R
  unfold d24
  by_cases k1 : 0 ≤ a
  · have c1 : iGe a 0 = true := PM k1
    by_cases k2 : a ≤ 1099511627776
    · have c2 : iLe a 1099511627776 = true := PO k2
      by_cases k3 : 0 ≤ b
      · have c3 : iGe b 0 = true := PM k3
        by_cases k4 : b < 255
        · have c4 : iLt b 255 = true := SR k4
          by_cases k5 : 1 ≤ c
          · have c5 : iGe c 1 = true := PM k5
            by_cases k6 : c ≤ 1099511627776
            · have c6 : iLe c 1099511627776 = true := PO k6
              by_cases k7 : (s : Int) = 1
              · have c7 : iEq (s : Int) 1 = true := KM k7
                by_cases k9 : (n : Int) ≤ 65536
                · have c9 : iLe (n : Int) 65536 = true := PO k9
                  rw [show CB a b c s n = true from decide_eq_true (by omega)]
                  simp only [Aa, Ab, Nat.succ_eq_add_one, Nat.zero_add, Nat.reduceAdd, sT, Nat.reduceLT, Nat.reduceEqDiff, if_true, if_false, reduceIte, gD, bx, A2, BO, Au, A5, l0, l1, l2, l3, l4, Ae, Ad, Az, hu, c1, c2, c3, c4, c5, c6, c7, c9, Ak, A1]
                · have c9 : iLe (n : Int) 65536 = false := PN k9
                  rw [show CB a b c s n = false from decide_eq_false (by omega)]
                  simp only [Aa, Ab, Nat.succ_eq_add_one, Nat.zero_add, Nat.reduceAdd, sT, Nat.reduceLT, Nat.reduceEqDiff, if_true, if_false, reduceIte, gD, bx, A2, BO, Au, A5, l0, l1, l2, l3, l4, Ae, Ad, Az, hu, c1, c2, c3, c4, c5, c6, c7, c9, Ak, A1]
              · have c7 : iEq (s : Int) 1 = false := X3 k7
                by_cases k8 : (s : Int) = 2
                · have c8 : iEq (s : Int) 2 = true := KM k8
                  by_cases k9 : (n : Int) ≤ 65536
                  · have c9 : iLe (n : Int) 65536 = true := PO k9
                    rw [show CB a b c s n = true from decide_eq_true (by omega)]
                    simp only [Aa, Ab, Nat.succ_eq_add_one, Nat.zero_add, Nat.reduceAdd, sT, Nat.reduceLT, Nat.reduceEqDiff, if_true, if_false, reduceIte, gD, bx, A2, BO, Au, A5, l0, l1, l2, l3, l4, Ae, Ad, Az, hu, c1, c2, c3, c4, c5, c6, c7, c8, c9, Ak, A1]
                  · have c9 : iLe (n : Int) 65536 = false := PN k9
                    rw [show CB a b c s n = false from decide_eq_false (by omega)]
                    simp only [Aa, Ab, Nat.succ_eq_add_one, Nat.zero_add, Nat.reduceAdd, sT, Nat.reduceLT, Nat.reduceEqDiff, if_true, if_false, reduceIte, gD, bx, A2, BO, Au, A5, l0, l1, l2, l3, l4, Ae, Ad, Az, hu, c1, c2, c3, c4, c5, c6, c7, c8, c9, Ak, A1]
                · have c8 : iEq (s : Int) 2 = false := X3 k8
                  rw [show CB a b c s n = false from decide_eq_false (by omega)]
                  simp only [Aa, Ab, Nat.succ_eq_add_one, Nat.zero_add, Nat.reduceAdd, sT, Nat.reduceLT, Nat.reduceEqDiff, if_true, if_false, reduceIte, gD, bx, A2, BO, Au, A5, l0, l1, l2, l3, l4, Ae, Ad, Az, hu, c1, c2, c3, c4, c5, c6, c7, c8, Ak, A1]
            · have c6 : iLe c 1099511627776 = false := PN k6
              rw [show CB a b c s n = false from decide_eq_false (by omega)]
              simp only [Aa, Ab, Nat.succ_eq_add_one, Nat.zero_add, Nat.reduceAdd, sT, Nat.reduceLT, Nat.reduceEqDiff, if_true, if_false, reduceIte, gD, bx, A2, BO, Au, A5, l0, l1, l2, l3, l4, Ae, Ad, Az, hu, c1, c2, c3, c4, c5, c6, Ak, A1]
          · have c5 : iGe c 1 = false := PL k5
            rw [show CB a b c s n = false from decide_eq_false (by omega)]
            simp only [Aa, Ab, Nat.succ_eq_add_one, Nat.zero_add, Nat.reduceAdd, sT, Nat.reduceLT, Nat.reduceEqDiff, if_true, if_false, reduceIte, gD, bx, A2, BO, Au, A5, l0, l1, l2, l3, l4, Ae, Ad, Az, hu, c1, c2, c3, c4, c5, Ak, A1]
        · have c4 : iLt b 255 = false := SQ k4
          rw [show CB a b c s n = false from decide_eq_false (by omega)]
          simp only [Aa, Ab, Nat.succ_eq_add_one, Nat.zero_add, Nat.reduceAdd, sT, Nat.reduceLT, Nat.reduceEqDiff, if_true, if_false, reduceIte, gD, bx, A2, BO, Au, A5, l0, l1, l2, l3, l4, Ae, Ad, Az, hu, c1, c2, c3, c4, Ak, A1]
      · have c3 : iGe b 0 = false := PL k3
        rw [show CB a b c s n = false from decide_eq_false (by omega)]
        simp only [Aa, Ab, Nat.succ_eq_add_one, Nat.zero_add, Nat.reduceAdd, sT, Nat.reduceLT, Nat.reduceEqDiff, if_true, if_false, reduceIte, gD, bx, A2, BO, Au, A5, l0, l1, l2, l3, l4, Ae, Ad, Az, hu, c1, c2, c3, Ak, A1]
    · have c2 : iLe a 1099511627776 = false := PN k2
      rw [show CB a b c s n = false from decide_eq_false (by omega)]
      simp only [Aa, Ab, Nat.succ_eq_add_one, Nat.zero_add, Nat.reduceAdd, sT, Nat.reduceLT, Nat.reduceEqDiff, if_true, if_false, reduceIte, gD, bx, A2, BO, Au, A5, l0, l1, l2, l3, l4, Ae, Ad, Az, hu, c1, c2, Ak, A1]
  · have c1 : iGe a 0 = false := PL k1
    rw [show CB a b c s n = false from decide_eq_false (by omega)]
    simp only [Aa, Ab, Nat.succ_eq_add_one, Nat.zero_add, Nat.reduceAdd, sT, Nat.reduceLT, Nat.reduceEqDiff, if_true, if_false, reduceIte, gD, bx, A2, BO, Au, A5, l0, l1, l2, l3, l4, Ae, Ad, Az, hu, c1, Ak, A1]
theorem NF {n : Nat} {h : Hp} (W : h.Wf) {a b c : Int} {s m : Nat} {u : Value} (hu : ∀ g, FS u g = .ok (.int .i64 (m : Int)) g) : call AH (n + 1) 24 [BS a b c s u] h = .ok (.bool (CB a b c s m)) (h.pushRow 0 (Aq a b c s u)) := by
  rw [Zl rfl]; exact Je W hu
def d28 : C := d24
theorem Zp {n : Nat} {args : List Value} {h : Hp} (hl : Nat.ble (BR args) 320 = true) : call AH (Nat.succ n) 28 args h = Bs [.t (AB 2)] (d28 (call AH n) (Av e0 0 args) h) := by
  have hb : AH.get 28 = some b28 := by kernel_rfl
  rw [BQ hb]
  have hd : b28 = ⟨[.t (AB 2)], d28⟩ := by kernel_rfl
  rw [hd, BJ hl]
theorem Z8 : d28 = d24 := rfl
theorem Kg {n : Nat} {h : Hp} (W : h.Wf) {a b c : Int} {s m : Nat} {u : Value} (hu : ∀ g, FS u g = .ok (.int .i64 (m : Int)) g) : call AH (n + 1) 28 [BS a b c s u] h = .ok (.bool (CB a b c s m)) (h.pushRow 0 (Aq a b c s u)) := by
  rw [Zp rfl, Z8]; exact Je W hu
def EY (z : Int) : Nat := if z < 0 ∨ 65536 < z then 0 else 1 + (z.toNat + 63) / 64
theorem Qy (z : Int) : EY (min z 131072) = EY z := by
  unfold EY
  rcases Int.le_total z 131072 with h | h
  · rw [Int.min_eq_left h]
  · rw [Int.min_eq_right h, if_pos (by omega), if_pos (by omega)]
theorem Sd {F : CallF} {e : Env} {h : Hp} {x y : O} {k j : IntKind} {a b : Int} (hx : x e = .int k a) (hy : y e = .int j b) : II x y F e h = .ok (.int k (min a b)) h := by
  show GZ true (x e) (y e) h = _
  rw [hx, hy]
  show (bif iLt b a then R.ok (.int k b) h else .ok (.int k a) h) = _
  rw [CM]
  rcases Int.lt_or_le b a with hlt | hle
  · rw [decide_eq_true hlt, Int.min_eq_right (by omega)]; rfl
  · rw [decide_eq_false (by omega), Int.min_eq_left hle]; rfl
theorem XB {n : Nat} {h : Hp} {z : Int} : call AH (n + 1) 9 [.int .i64 z] h = .ok (.int .i64 (EY z : Nat)) h := by
  rw [du rfl]
  unfold d9
  by_cases k1 : z < 0
  · have c1 : iLt z 0 = true := SR k1
    rw [show EY z = 0 from if_pos (by omega)]
    simp only [Aa, Ab, Nat.succ_eq_add_one, Nat.zero_add, Nat.reduceAdd, sT, Nat.reduceLT, Nat.reduceEqDiff, if_true, if_false, reduceIte, gD, Ae, Ad, c1, Ak, A1]; rfl
  · have c1 : iLt z 0 = false := SQ k1
    by_cases k2 : 65536 < z
    · have c2 : iGt z 65536 = true := Fh k2
      rw [show EY z = 0 from if_pos (by omega)]
      simp only [Aa, Ab, Nat.succ_eq_add_one, Nat.zero_add, Nat.reduceAdd, sT, Nat.reduceLT, Nat.reduceEqDiff, if_true, if_false, reduceIte, gD, Ae, Ad, c1, c2, Ak, A1]; rfl
    · have c2 : iGt z 65536 = false := Fg k2
      obtain ⟨m, rfl⟩ := Int.eq_ofNat_of_zero_le (show 0 ≤ z by omega)
      have a1 : FV .i64 (.int .i64 (m : Int)) (.int .i64 64) h = .ok (.int .i64 ((m + 64 : Nat) : Int)) h := by
        rw [CZ, show (m : Int) + 64 = ((m + 64 : Nat) : Int) by omega, Bc (by omega)]
      have a2 : GD Int.sub .i64 (.int .i64 ((m + 64 : Nat) : Int)) (.int .i64 1) h = .ok (.int .i64 ((m + 63 : Nat) : Int)) h := by
        have : Int.sub ((m + 64 : Nat) : Int) 1 = ((m + 63 : Nat) : Int) := by show ((m + 64 : Nat) : Int) - 1 = _; omega
        rw [Ct, this, Bc (by omega)]
      have a3 : Iy .i64 (.int .i64 ((m + 63 : Nat) : Int)) (.int .i64 64) h = .ok (.int .i64 (((m + 63) / 64 : Nat) : Int)) h := by
        have : IntKind.i64.wrap (((m + 63 : Nat) : Int).tdiv 64) = (((m + 63) / 64 : Nat) : Int) := Bc (n := (m + 63) / 64) (by omega)
        rw [Gr (by omega), this]
      have a4 : FV .i64 (.int .i64 1) (.int .i64 (((m + 63) / 64 : Nat) : Int)) h = .ok (.int .i64 ((EY (m : Int) : Nat) : Int)) h := by
        rw [show EY (m : Int) = 1 + ((m : Int).toNat + 63) / 64 from if_neg (by omega), Int.toNat_natCast, CZ, show (1 : Int) + (((m + 63) / 64 : Nat) : Int) = ((1 + (m + 63) / 64 : Nat) : Int) by omega, Bc (by omega)]
      simp only [Aa, Ab, Nat.succ_eq_add_one, Nat.zero_add, Nat.reduceAdd, sT, Nat.reduceLT, Nat.reduceEqDiff, if_true, if_false, reduceIte, gD, Ae, Ad, c1, c2, Bt, a1, C3, a2, G7, a3, a4, Ak, A1]
def rtB : C := (cOp (AD 13) (AM iLt .i64 (AB 4) (AB 0))
(AJ (AB 13)
(Al (AK 1 (cOp (AD 17) (Ai .i64 (AQ .i64) (AB 3) (kV (.int .i64 1)))
(cOp (AD 3) (AC (AB 17))
AO)))
(cOp (AD 15) (Ai .i64 (AQ .i64) (AB 4) (kV (.int .i64 64)))
(cOp (AD 4) (AC (AB 15))
AO)))
(At 0)))
def rtS : C := (Al (AK 0 (Aj (cOp (AD 13) (AM iLt .i64 (AB 4) (AB 0))
(AJ (AB 13)
(Al (AK 1 (cOp (AD 17) (Ai .i64 (AQ .i64) (AB 3) (kV (.int .i64 1)))
(cOp (AD 3) (AC (AB 17))
AO)))
(cOp (AD 15) (Ai .i64 (AQ .i64) (AB 4) (kV (.int .i64 64)))
(cOp (AD 4) (AC (AB 15))
AO)))
(At 0)))))
(cOp (AD 2) (AC (AB 3))
AU))
def rtE : C := cOp (AD 2) (AC (AB 3)) AU
theorem bG : rtS = Al (AK 0 (Aj rtB)) rtE := rfl
def P9 : C := (cOp (AD 2) (AC (kV (.int .i64 0)))
(cOp (AD 6) (AM iLt .i64 (AB 0) (kV (.int .i64 0)))
(cG (AB 6) false (AD 8) (AC (AB 0))
(cG (AB 6) false (AD 9) (AM iGt .i64 (AB 8) (kV (.int .i64 65536)))
(cOp (AD 10) (AW (AB 6) (kV (.bool true)) (AB 9))
(AJ (AB 10)
(cOp (AD 2) (AC (kV (.int .i64 0)))
AU)
(cOp (AD 3) (AC (kV (.int .i64 1)))
(cOp (AD 4) (AC (kV (.int .i64 0)))
rtS))))))))
def d10 : C := P9
theorem Zj {n : Nat} {args : List Value} {h : Hp} (hl : Nat.ble (BR args) 320 = true) : call AH (Nat.succ n) 10 args h = Bs [.t (AB 2)] (d10 (call AH n) (Av e0 0 args) h) := by
  have hb : AH.get 10 = some b10 := by kernel_rfl
  rw [BQ hb]
  have hd : b10 = ⟨[.t (AB 2)], d10⟩ := by kernel_rfl
  rw [hd, BJ hl]
theorem Z4 : d10 = P9 := rfl
theorem W4 {F : CallF} {h : Hp} {m : Nat} (hm : m ≤ 65536) {e : Env} (s0 : AB 0 e = .int .i64 (m : Int)) (s3 : AB 3 e = .int .i64 ((1 : Nat) : Int)) (s4 : AB 4 e = .int .i64 ((0 : Nat) : Int)) :
    ∃ e', Aj rtB F e h = .exit 0 e' h ∧ AB 3 e' = .int .i64 ((1 + (m + 63) / 64 : Nat) : Int) := by
  refine CF (I := fun i e' h' => h' = h ∧ AB 0 e' = .int .i64 (m : Int) ∧ AB 3 e' = .int .i64 ((1 + i : Nat) : Int) ∧ AB 4 e' = .int .i64 ((64 * i : Nat) : Int) ∧ i ≤ (m + 63) / 64)
    (Q := fun x => ∃ e', x = .exit 0 e' h ∧ AB 3 e' = .int .i64 ((1 + (m + 63) / 64 : Nat) : Int)) ((m + 63) / 64) (by omega) (fun i e' h' ⟨hh, t0, t3, t4, hi⟩ => ?_) ⟨rfl, s0, s3, s4, Nat.zero_le _⟩
  subst hh
  by_cases hlt : 64 * i < m
  · left
    have c1 := IH hlt
    have a1 : FV .i64 (.int .i64 ((1 + i : Nat) : Int)) (.int .i64 1) h' = .ok (.int .i64 ((1 + (i + 1) : Nat) : Int)) h' := by
      rw [CZ, show ((1 + i : Nat) : Int) + 1 = ((1 + (i + 1) : Nat) : Int) by omega, Bc (by omega)]
    have a2 : FV .i64 (.int .i64 ((64 * i : Nat) : Int)) (.int .i64 64) h' = .ok (.int .i64 ((64 * (i + 1) : Nat) : Int)) h' := by
      rw [CZ, show ((64 * i : Nat) : Int) + 64 = ((64 * (i + 1) : Nat) : Int) by omega, Bc (by omega)]
    have hrun : ∃ e2, rtB F e' h' = .norm e2 h' ∧ AB 0 e2 = .int .i64 (m : Int) ∧ AB 3 e2 = .int .i64 ((1 + (i + 1) : Nat) : Int) ∧ AB 4 e2 = .int .i64 ((64 * (i + 1) : Nat) : Int) := by
      unfold rtB
      simp only [sT, Nat.reduceLT, Nat.reduceEqDiff, if_true, if_false, reduceIte, Ae, Ad, t4, t0, c1, Bt, t3, a1, a2]
      exact ⟨_, rfl, by simp only [AF, Nat.reduceLT, Nat.reduceEqDiff, if_true, if_false, reduceIte]; exact t0, by simp [AF], by simp [AF]⟩
    obtain ⟨e2, q1, q2, q3, q4⟩ := hrun
    exact ⟨by omega, e2, h', q1, rfl, q2, q3, q4, by omega⟩
  · right
    have c1 := FU (show m ≤ 64 * i by omega)
    have hrun : ∃ e2, rtB F e' h' = .exit 0 e2 h' ∧ AB 3 e2 = .int .i64 ((1 + i : Nat) : Int) := by
      unfold rtB
      simp only [sT, Nat.reduceLT, Nat.reduceEqDiff, if_true, if_false, reduceIte, Ae, Ad, t4, t0, c1]
      exact ⟨_, rfl, by simp only [AF, Nat.reduceLT, Nat.reduceEqDiff, if_true, if_false, reduceIte]; exact t3⟩
    obtain ⟨e2, q1, q2⟩ := hrun
    rw [q1]
    refine ⟨rfl, e2, rfl, ?_⟩
    rw [q2, show 1 + i = 1 + (m + 63) / 64 by omega]
theorem TU {n : Nat} {h : Hp} {z : Int} : call AH (n + 1) 10 [.int .i64 z] h = .ok (.int .i64 (EY z : Nat)) h := by
  rw [Zj rfl, Z4]
  by_cases k1 : z < 0
  · have c1 : iLt z 0 = true := SR k1
    rw [show EY z = 0 from if_pos (by omega)]
    unfold P9
    simp only [Aa, Ab, Nat.succ_eq_add_one, Nat.zero_add, Nat.reduceAdd, sT, Nat.reduceLT, Nat.reduceEqDiff, if_true, if_false, reduceIte, gD, Ae, Ad, c1, Ak, A1]; rfl
  · have c1 : iLt z 0 = false := SQ k1
    by_cases k2 : 65536 < z
    · have c2 : iGt z 65536 = true := Fh k2
      rw [show EY z = 0 from if_pos (by omega)]
      unfold P9
      simp only [Aa, Ab, Nat.succ_eq_add_one, Nat.zero_add, Nat.reduceAdd, sT, Nat.reduceLT, Nat.reduceEqDiff, if_true, if_false, reduceIte, gD, Ae, Ad, c1, c2, Ak, A1]; rfl
    · have c2 : iGt z 65536 = false := Fg k2
      obtain ⟨m, rfl⟩ := Int.eq_ofNat_of_zero_le (show 0 ≤ z by omega)
      have pre : ∃ e1, P9 (call AH n) (Av e0 0 [.int .i64 (m : Int)]) h = rtS (call AH n) e1 h ∧ AB 0 e1 = .int .i64 (m : Int) ∧ AB 3 e1 = .int .i64 ((1 : Nat) : Int) ∧ AB 4 e1 = .int .i64 ((0 : Nat) : Int) := by
        unfold P9
        simp only [Aa, Ab, Nat.succ_eq_add_one, Nat.zero_add, Nat.reduceAdd, sT, Nat.reduceLT, Nat.reduceEqDiff, if_true, if_false, reduceIte, gD, Ae, Ad, c1, c2]
        exact ⟨_, rfl, by simp [AF], by simp only [AF, Nat.reduceLT, Nat.reduceEqDiff, if_true, if_false, reduceIte]; rfl, by simp only [AF, Nat.reduceLT, Nat.reduceEqDiff, if_true, if_false, reduceIte]; rfl⟩
      obtain ⟨e1, p1, p2, p3, p4⟩ := pre
      obtain ⟨e2, q1, q2⟩ := W4 (F := call AH n) (h := h) (show m ≤ 65536 by omega) p2 p3 p4
      rw [p1, bG, show EY (m : Int) = 1 + ((m : Int).toNat + 63) / 64 from if_neg (by omega), Int.toNat_natCast]
      simp only [Bj, BI, q1, BN, Bd]
      unfold rtE
      simp only [sT, Nat.reduceLT, Nat.reduceEqDiff, if_true, if_false, reduceIte, q2, Ak, A1]
theorem JN {h : Hp} : h.Vals (.slice none 0 0) (([] : List Nat).map bv) := .inl ⟨rfl, rfl⟩
theorem Th {n : Nat} {h : Hp} (W : h.Wf) {a b c : Int} {s : Nat} : ∃ h', call AH (n + 2) 13 [BS a b c s (.slice none 0 0), BS a b c s (.slice none 0 0)] h = .ok (.bool true) h' ∧ h.Ext h' := by
  have x1 := (Hp.Ext.refl W).pushRow 0 (Aq a b c s (.slice none 0 0))
  have R1 := Hp.Row.new W 0 (Aq a b c s (.slice none 0 0))
  have b1 : ∀ e : Env, AB 0 e = BS a b c s (.slice none 0 0) → CG (AB 0) (call AH (n + 1)) e h = .ok (.pointer (some ⟨h.next, 0, none⟩)) (h.pushRow 0 (Aq a b c s (.slice none 0 0))) := fun e he => EC W he
  generalize h.pushRow 0 (Aq a b c s (.slice none 0 0)) = h1 at x1 R1 b1
  have y2 := (Hp.Ext.refl x1.wf).pushRow 0 (Aq a b c s (.slice none 0 0))
  have R2 := Hp.Row.new x1.wf 0 (Aq a b c s (.slice none 0 0))
  have b2 : ∀ e : Env, AB 1 e = BS a b c s (.slice none 0 0) → CG (AB 1) (call AH (n + 1)) e h1 = .ok (.pointer (some ⟨h1.next, 0, none⟩)) (h1.pushRow 0 (Aq a b c s (.slice none 0 0))) := fun e he => EC x1.wf he
  generalize h1.pushRow 0 (Aq a b c s (.slice none 0 0)) = h2 at y2 R2 b2
  obtain ⟨l0, l1, l2, l3, l4, _⟩ := BG (R1.ext x1.wf y2)
  obtain ⟨m0, m1, m2, m3, m4, _⟩ := BG R2
  have k1 : call AH (n + 1) 8 [.slice none 0 0, .slice none 0 0] h2 = .ok (.bool true) h2 := X6 (n := n) (a := []) (b := []) JN JN (fun x hx => by cases hx) (fun x hx => by cases hx)
  have c1 : iEq a a = true := KM rfl
  have c2 : iEq b b = true := KM rfl
  have c3 : iEq c c = true := KM rfl
  have c4 : iEq (s : Int) (s : Int) = true := KM rfl
  refine ⟨h2, ?_, x1.trans y2⟩
  rw [Zk rfl]
  unfold d13
  simp only [Aa, Ab, Nat.succ_eq_add_one, Nat.zero_add, Nat.reduceAdd, sT, Nat.reduceLT, Nat.reduceEqDiff, if_true, if_false, reduceIte, gD, b1, b2, A2, BO, Au, A5, l0, l1, l2, l3, l4, m0, m1, m2, m3, m4, Ae, Ad, c1, c2, c3, c4, Ay, Ah, Ax, k1, Ak, A1]
end
end Go.Proofs.YtfeldadhbnmklaaGreat
set_option linter.unusedVariables false
set_option linter.unusedSimpArgs false
namespace Go.Proofs.YtfeldadhbnmklaaGreat
noncomputable section
open Go
set_option maxRecDepth 100000
def CW (a b c s m t : Nat) : List Nat := [s, a, b, c, m, t]
theorem Sh {a b c s m t : Nat} (ha : a ≤ 1099511627776) (hb : b < 255) (hc : c ≤ 1099511627776) (hs : s < 256) (hm : m ≤ 65536) (ht : t < 4294967296) : ∀ v ∈ CW a b c s m t, v < 18446744073709551616 := fun v hv => by
  unfold CW at hv
  simp only [List.mem_cons, List.mem_nil_iff, or_false] at hv
  omega
theorem Ew {a b c s m t : Nat} (ha : a ≤ 1099511627776) (hb : b < 255) (hc : c ≤ 1099511627776) (hs : s < 256) (hm : m ≤ 65536) (ht : t < 4294967296) : (BZ (CW a b c s m t)).length ≤ 40 := by
  have h1 := DC 1 s (by show s < 16384; omega)
  have h2 := DC 5 a (by show a < 4398046511104; omega)
  have h3 := DC 1 b (by show b < 16384; omega)
  have h4 := DC 5 c (by show c < 4398046511104; omega)
  have h5 := DC 2 m (by show m < 2097152; omega)
  have h6 := DC 4 t (by show t < 34359738368; omega)
  show (BC s ++ (BC a ++ (BC b ++ (BC c ++ (BC m ++ (BC t ++ [])))))).length ≤ 40
  simp only [List.length_append, List.length_nil]
  omega
theorem Nb (a b c s m t : Nat) : ((((BC s ++ BC a) ++ BC b) ++ BC c) ++ BC m) ++ BC t = BZ (CW a b c s m t) := by
  show _ = BC s ++ (BC a ++ (BC b ++ (BC c ++ (BC m ++ (BC t ++ [])))))
  simp only [List.append_assoc, List.append_nil]
theorem Dj {k : IntKind} {n : Nat} (hn : n ≤ 18446744073709551615) {h : Hp} : CV .u64 (.int k (n : Int)) h = .ok (.int .u64 (n : Int)) h := by rw [Bp, Cg hn]
def hdB : C := (cOp (AD 38) (Aw (AB 9))
(cOp (AD 39) (AM iLt .i64 (AB 38) (kV (.int .i64 60)))
(AJ (AB 39)
(AK 1 (cOp (AD 41) (AX 1 (A6 ty5.zero 1) [(0, 1, (kV (.int .u8 0)))])
(cOp (AD 42) (BB 1 1 5 (AB 9) (AB 41))
(cOp (AD 9) (AC (AB 42))
AO))))
(At 0))))
def hdE : C := (cOp (AD 45) (AL 64 [(AB 0), (AB 9)])
(cOp (AD 8) (AC (AB 45))
AU))
def hdS : C := (Al (AK 0 (Aj (cOp (AD 38) (Aw (AB 9))
(cOp (AD 39) (AM iLt .i64 (AB 38) (kV (.int .i64 60)))
(AJ (AB 39)
(AK 1 (cOp (AD 41) (AX 1 (A6 ty5.zero 1) [(0, 1, (kV (.int .u8 0)))])
(cOp (AD 42) (BB 1 1 5 (AB 9) (AB 41))
(cOp (AD 9) (AC (AB 42))
AO))))
(At 0))))))
(cOp (AD 45) (AL 64 [(AB 0), (AB 9)])
(cOp (AD 8) (AC (AB 45))
AU)))
theorem aU : hdS = Al (AK 0 (Aj hdB)) hdE := rfl
def VP : C := (cOp (AD 5) (CG (AB 1))
(cOp (AD 8) (AC (kV (.slice none 0 0)))
(cOp (AD 10) (AE 3 (AB 5))
(cOp (AD 11) (AG (AB 10))
(cOp (AD 12) (An .u64 (AB 11))
(cOp (AD 13) (AL 62 [(AB 12)])
(cOp (AD 9) (AC (AB 13))
(cOp (AD 15) (AE 0 (AB 5))
(cOp (AD 16) (AG (AB 15))
(cOp (AD 17) (An .u64 (AB 16))
(cOp (AD 18) (AL 63 [(AB 9), (AB 17)])
(cOp (AD 9) (AC (AB 18))
(cOp (AD 20) (AE 1 (AB 5))
(cOp (AD 21) (AG (AB 20))
(cOp (AD 22) (An .u64 (AB 21))
(cOp (AD 23) (AL 63 [(AB 9), (AB 22)])
(cOp (AD 9) (AC (AB 23))
(cOp (AD 25) (AE 2 (AB 5))
(cOp (AD 26) (AG (AB 25))
(cOp (AD 27) (An .u64 (AB 26))
(cOp (AD 28) (AL 63 [(AB 9), (AB 27)])
(cOp (AD 9) (AC (AB 28))
(cOp (AD 31) (An .u64 (AB 2))
(cOp (AD 32) (AL 63 [(AB 9), (AB 31)])
(cOp (AD 9) (AC (AB 32))
(cOp (AD 35) (An .u64 (AB 3))
(cOp (AD 36) (AL 63 [(AB 9), (AB 35)])
(cOp (AD 9) (AC (AB 36))
hdS))))))))))))))))))))))))))))
def d29 : C := VP
theorem Zq {n : Nat} {args : List Value} {h : Hp} (hl : Nat.ble (BR args) 320 = true) : call AH (Nat.succ n) 29 args h = Bs [.t (AB 8)] (d29 (call AH n) (Av e0 0 args) h) := by
  have hb : AH.get 29 = some b29 := by kernel_rfl
  rw [BQ hb]
  have hd : b29 = ⟨[.t (AB 8)], d29⟩ := by kernel_rfl
  rw [hd, BJ hl]
theorem Z9 : d29 = VP := rfl
theorem Vo {F : CallF} {h0 h : Hp} {k : Nat} (x0 : h0.Ext h) (hk : h0.next ≤ k) (hk2 : k ≤ h.next) {v p : Value} {X : List Nat} (o : h.Own k 5 v (X.map bv)) (hX : X.length ≤ 60) {e : Env} (s0 : AB 0 e = p) (s9 : AB 9 e = v) :
    ∃ e' h' v', Aj hdB F e h = .exit 0 e' h' ∧ h0.Ext h' ∧ h'.Own k 5 v' ((JV X).map bv) ∧ AB 0 e' = p ∧ AB 9 e' = v' ∧ h.next ≤ h'.next := by
  refine CF (I := fun i e' h' => ∃ v', h0.Ext h' ∧ h'.Own k 5 v' ((X ++ List.replicate i 0).map bv) ∧ AB 0 e' = p ∧ AB 9 e' = v' ∧ h.next ≤ h'.next ∧ X.length + i ≤ 60)
    (Q := fun x => ∃ e' h' v', x = .exit 0 e' h' ∧ h0.Ext h' ∧ h'.Own k 5 v' ((JV X).map bv) ∧ AB 0 e' = p ∧ AB 9 e' = v' ∧ h.next ≤ h'.next) 60 (by omega) (fun i e' h' ⟨v', x', o', t0, t9, hn, hi⟩ => ?_)
    ⟨v, x0, by simpa using o, s0, s9, Nat.le_refl _, by omega⟩
  have W := x'.wf
  have hlen : (X ++ List.replicate i 0).length = X.length + i := by rw [List.length_append, List.length_replicate]
  have Vl := o'.vals.bl h'
  rw [hlen] at Vl
  by_cases hlt : X.length + i < 60
  · left
    have c1 : iLt ((X.length + i : Nat) : Int) 60 = true := IH (b := 60) hlt
    have os : AX 1 (A6 ty5.zero 1) [(0, 1, kV (.int .u8 0))] F (Env.set 39 (.bool true) (Env.set 38 (.int .i64 ((X.length + i : Nat) : Int)) e')) h' = .ok (.slice (some ⟨h'.next, 0, none⟩) 1 1) (h'.pushRow 0 [.int .u8 0]) := by rw [Nh]; exact Dw W rfl rfl rfl
    obtain ⟨h2, v2, a2, x2, o2, hn2, fr2⟩ := F9 (eb := 1) (n := 0) (kd := .u8) x' hk (Nat.le_trans hk2 hn) o' (by rw [List.length_map, hlen]; omega)
    have hrun : ∃ e2, hdB F e' h' = .norm e2 h2 ∧ AB 0 e2 = p ∧ AB 9 e2 = v2 := by
      unfold hdB
      simp only [sT, Nat.reduceLT, Nat.reduceEqDiff, if_true, if_false, reduceIte, Az, t9, Vl, Ae, Ad, c1, os, Cq, a2]
      exact ⟨_, rfl, by simp only [AF, Nat.reduceLT, Nat.reduceEqDiff, if_true, if_false, reduceIte]; exact t0, by simp [AF]⟩
    obtain ⟨e2, q1, q2, q3⟩ := hrun
    refine ⟨by omega, e2, h2, q1, v2, x2, ?_, q2, q3, by omega, by omega⟩
    have : (X ++ List.replicate (i + 1) 0).map bv = (X ++ List.replicate i 0).map bv ++ [.int .u8 0] := by
      rw [List.replicate_succ', ← List.append_assoc, List.map_append]; rfl
    rw [this]; exact o2
  · right
    have c1 : iLt ((X.length + i : Nat) : Int) 60 = false := FU (b := 60) (by omega)
    have hrun : ∃ e2, hdB F e' h' = .exit 0 e2 h' ∧ AB 0 e2 = p ∧ AB 9 e2 = v' := by
      unfold hdB
      simp only [sT, Nat.reduceLT, Nat.reduceEqDiff, if_true, if_false, reduceIte, Az, t9, Vl, Ae, Ad, c1]
      exact ⟨_, rfl, by simp only [AF, Nat.reduceLT, Nat.reduceEqDiff, if_true, if_false, reduceIte]; exact t0, by simp only [AF, Nat.reduceLT, Nat.reduceEqDiff, if_true, if_false, reduceIte]; exact t9⟩
    obtain ⟨e2, q1, q2, q3⟩ := hrun
    rw [q1]
    refine ⟨rfl, e2, h', v', rfl, x', ?_, q2, q3, hn⟩
    unfold JV
    rw [show 60 - X.length = i by omega]; exact o'
theorem KL {n : Nat} {h : Hp} (W : h.Wf) {tb : Nat} {T : List Nat} (R : h.Row tb 0 (T.map wv)) (hT : Cm T) {a b c s m t : Nat} {u : Value} (ha : a ≤ 1099511627776) (hb : b < 255) (hc : c ≤ 1099511627776) (hs : s < 256) (hm : m ≤ 65536) (ht : t < 4294967296) :
    ∃ h' v, call AH (n + 3) 29 [pt tb, BS a b c s u, .int .i64 (m : Int), .int .u32 (t : Int)] h = .ok v h' ∧ h.Ext h' ∧ Mk h' h.next v (CP T (Eh (CW a b c s m t))) := by
  have x1 := (Hp.Ext.refl W).pushRow 0 (Aq a b c s u)
  have R1 := Hp.Row.new W 0 (Aq a b c s u)
  have bx : ∀ e : Env, AB 1 e = BS a b c s u → CG (AB 1) (call AH (n + 2)) e h = .ok (.pointer (some ⟨h.next, 0, none⟩)) (h.pushRow 0 (Aq a b c s u)) := fun e he => EC W he
  generalize h.pushRow 0 (Aq a b c s u) = h1 at x1 R1 bx
  have hl6 := Ew ha hb hc hs hm ht
  rw [← Nb] at hl6
  simp only [List.length_append] at hl6
  have lts : ∀ x ∈ BC s, x < 256 := fun x hx => HM _ x hx
  have lta : ∀ {A : List Nat} (N : Nat), (∀ x ∈ A, x < 256) → ∀ x ∈ A ++ BC N, x < 256 := fun N hA x hx => (List.mem_append.1 hx).elim (hA x) (HM N x)
  obtain ⟨h2, v2, k2, y2, o2⟩ := Kk (n := n + 1) x1.wf (N := s) (by omega)
  have x2 := x1.trans y2
  obtain ⟨h3, v3, k3, y3, o3⟩ := Fu (n := n) x2.wf o2.vals lts (by omega) (N := a) (by omega)
  have x3 := x2.trans y3
  obtain ⟨h4, v4, k4, y4, o4⟩ := Fu (n := n) x3.wf o3.vals (lta a lts) (by rw [List.length_append]; omega) (N := b) (by omega)
  have x4 := x3.trans y4
  obtain ⟨h5, v5, k5, y5, o5⟩ := Fu (n := n) x4.wf o4.vals (lta b (lta a lts)) (by rw [List.length_append, List.length_append]; omega) (N := c) (by omega)
  have x5 := x4.trans y5
  obtain ⟨h6, v6, k6, y6, o6⟩ := Fu (n := n) x5.wf o5.vals (lta c (lta b (lta a lts))) (by rw [List.length_append, List.length_append, List.length_append]; omega) (N := m) (by omega)
  have x6 := x5.trans y6
  obtain ⟨h7, v7, k7, y7, o7⟩ := Fu (n := n) x6.wf o6.vals (lta m (lta c (lta b (lta a lts)))) (by rw [List.length_append, List.length_append, List.length_append, List.length_append]; omega) (N := t) (by omega)
  have x7 := x6.trans y7
  obtain ⟨l0, l1, l2, l3, l4, _⟩ := BG R1
  obtain ⟨p0, _, _, _, _, _⟩ := BG (R1.ext x1.wf y2)
  obtain ⟨_, p1, _, _, _, _⟩ := BG (R1.ext x1.wf (y2.trans y3))
  obtain ⟨_, _, p2, _, _, _⟩ := BG (R1.ext x1.wf (y2.trans (y3.trans y4)))
  rw [Nb] at o7
  have hl7 := Ew ha hb hc hs hm ht
  have cs := Dj (k := .u8) (n := s) (by omega) (h := h1)
  have ca := Dj (k := .i64) (n := a) (by omega) (h := h2)
  have cb := Dj (k := .i64) (n := b) (by omega) (h := h3)
  have cc := Dj (k := .i64) (n := c) (by omega) (h := h4)
  have cm := Dj (k := .i64) (n := m) (by omega) (h := h5)
  have ct := Dj (k := .u32) (n := t) (by omega) (h := h6)
  have pre : ∃ e1, VP (call AH (n + 2)) (Av e0 0 [pt tb, BS a b c s u, .int .i64 (m : Int), .int .u32 (t : Int)]) h = hdS (call AH (n + 2)) e1 h7 ∧ AB 0 e1 = pt tb ∧ AB 9 e1 = v7 := by
    unfold VP
    simp only [Aa, Ab, Nat.succ_eq_add_one, Nat.zero_add, Nat.reduceAdd, sT, Nat.reduceLT, Nat.reduceEqDiff, if_true, if_false, reduceIte, bx, A2, BO, Au, A5, l3, Ba, cs, Ay, Ah, Ax, k2, p0, ca, k3, p1, cb, k4, p2, cc, k5, cm, k6, ct, k7]
    exact ⟨_, rfl, by simp [AF], by simp [AF]⟩
  obtain ⟨e1, q1, q2, q3⟩ := pre
  obtain ⟨e2, h8, v8, r1, x8, o8, r2, r3, hn⟩ := Vo (F := call AH (n + 2)) x7 (k := h6.next) x6.next y7.next o7 (by omega) q2 q3
  have hpl := Fm (l := BZ (CW a b c s m t)) (by omega)
  obtain ⟨h9, w, k9, y9, m9⟩ := TT (n := n) x8.wf (R.ext W x8) hT o8.vals (LQ Hx) (by omega)
  refine ⟨h9, w, ?_, x8.trans y9, m9.le x8.next⟩
  rw [Zq rfl, Z9, q1, aU]
  simp only [Bj, BI, r1, BN, Bd]
  unfold hdE
  simp only [sT, Nat.reduceLT, Nat.reduceEqDiff, if_true, if_false, reduceIte, Ay, Ah, Ax, r2, r3, k9, Ak, A1]
def UM (T : List Nat) (a b c : Int) (s : Nat) (l : List Nat) (h h' : Hp) (r : R) : Prop := (CB a b c s l.length = true ∧ ∃ v, r = .ok (.tuple ⟨[v, .int .i64 0]⟩) h' ∧ Mk h' h.next v (CP T (Eh (CW a.toNat b.toNat c.toNat s l.length (Bz T l))))) ∨ (CB a b c s l.length = false ∧ r = .ok (.tuple ⟨[.slice none 0 0, .int .i64 2]⟩) h')
theorem TR {n : Nat} {h : Hp} (W : h.Wf) {tb : Nat} {T : List Nat} (R : h.Row tb 0 (T.map wv)) (hT : Cm T) {a b c : Int} {s : Nat} {u : Value} {l : List Nat} (V : h.Vals u (l.map bv)) (hb : ∀ x ∈ l, x < 256) (hs : s < 256) (hl : l.length ≤ 900000) :
    ∃ h', h.Ext h' ∧ UM T a b c s l h h' (call AH (n + 4) 7 [pt tb, BS a b c s u] h) := by
  have x1 := (Hp.Ext.refl W).pushRow 0 (Aq a b c s u)
  have R1 := Hp.Row.new W 0 (Aq a b c s u)
  have bx : ∀ e : Env, AB 1 e = BS a b c s u → CG (AB 1) (call AH (n + 3)) e h = .ok (.pointer (some ⟨h.next, 0, none⟩)) (h.pushRow 0 (Aq a b c s u)) := fun e he => EC W he
  have n1 : (h.pushRow 0 (Aq a b c s u)).next = h.next + 1 := rfl
  generalize h.pushRow 0 (Aq a b c s u) = h1 at x1 R1 bx n1
  obtain ⟨_, _, _, _, _, ln⟩ := BG R1
  have k1 := Kg (n := n + 2) x1.wf (a := a) (b := b) (c := c) (s := s) (u := u) V.bl
  have y2 := (Hp.Ext.refl x1.wf).pushRow 0 (Aq a b c s u)
  have n2 : (h1.pushRow 0 (Aq a b c s u)).next = h1.next + 1 := rfl
  generalize h1.pushRow 0 (Aq a b c s u) = h2 at y2 k1 n2
  have x2 := x1.trans y2
  cases hr : CB a b c s l.length with
  | false =>
    rw [hr] at k1
    refine ⟨h2, x2, .inr ⟨hr, ?_⟩⟩
    rw [Xv rfl]
    unfold d7
    simp only [Aa, Ab, Nat.succ_eq_add_one, Nat.zero_add, Nat.reduceAdd, sT, Nat.reduceLT, Nat.reduceEqDiff, if_true, if_false, reduceIte, bx, B4, B3, ln, Ay, Ah, Ax, k1, Cl, Ck, Bool.not_false, Ak, D1]
  | true =>
    rw [hr] at k1
    obtain ⟨ha1, ha2, hb1, hb2, hc1, hc2, hs2, hm⟩ := of_decide_eq_true hr
    have xm := x2.marked
    have R2 : h2.marked.Row h.next 0 (Aq a b c s u) := (R1.ext x1.wf y2).same rfl
    obtain ⟨_, _, _, _, m4, mn⟩ := BG R2
    have hmk : h.next < h2.marked.mark := by show h.next < h2.next; omega
    have old : ∀ (off : Nat) (k : C) (F : CallF) (e : Env), Qo (.pointer (some ⟨h.next, off, none⟩)) k F e h2.marked = k F e h2.marked := fun off k F e => Mu hmk
    have Vl := V.bl h2.marked
    have kq := Pq (n := n + 2) (h := h2.marked.quiet) (R.ext W xm.quiet) hT (V.ext W xm.quiet) hb hl
    have yq := Hp.Ext.refl xm.quiet.wf
    have q1 : ∀ e : Env, AB 0 e = pt tb → AB 16 e = u → AS .weak (AL 30 [AB 0, AB 16]) (call AH (n + 3)) e h2.marked = .ok (.int .u32 ((Bz T l : Nat) : Int)) (h2.marked.back h2.marked.quiet) := fun e h0 h6 => by
      refine Fp ?_ yq (Nat.le_refl _)
      rw [Ay, Ah, Ah, Ax, h0, h6]
      exact kq
    have yb : h2.marked.Ext (h2.marked.back h2.marked.quiet) := Hp.Ext.back yq
    have nb : (h2.marked.back h2.marked.quiet).next = h2.next := rfl
    generalize h2.marked.back h2.marked.quiet = h3 at q1 yb nb
    have x3 := xm.trans yb
    have x3q := x3.quiet
    obtain ⟨h4, v, k4, y4, m4'⟩ := KL (n := n) x3q.wf (R.ext W x3q) hT (a := a.toNat) (b := b.toNat) (c := c.toNat) (s := s) (m := l.length) (t := Bz T l) (u := u) (by omega) (by omega) (by omega) hs hm (FP T l)
    rw [show ((a.toNat : Nat) : Int) = a by omega, show ((b.toNat : Nat) : Int) = b by omega, show ((c.toNat : Nat) : Int) = c by omega] at k4
    have q2 : ∀ e : Env, AB 0 e = pt tb → AB 10 e = BS a b c s u → AB 13 e = .int .i64 (l.length : Int) → AB 17 e = .int .u32 ((Bz T l : Nat) : Int) → AS .free (AL 29 [AB 0, AB 10, AB 13, AB 17]) (call AH (n + 3)) e h3 = .ok v (h3.back h4) := fun e e1 e2 e3 e4 => by
      refine EA ?_
      rw [Ay, Ah, Ah, Ah, Ah, Ax, e1, e2, e3, e4]
      exact k4
    have y5 : h3.Ext (h3.back h4) := Hp.Ext.back y4
    refine ⟨h3.back h4, x3.trans y5, .inl ⟨hr, v, ?_, (m4'.same (h' := h3.back h4) rfl).le (by show h.next ≤ h3.next; exact x3.next)⟩⟩
    rw [Xv rfl]
    unfold d7
    simp only [Aa, Ab, Nat.succ_eq_add_one, Nat.zero_add, Nat.reduceAdd, sT, Nat.reduceLT, Nat.reduceEqDiff, if_true, if_false, reduceIte, bx, B4, B3, ln, Ay, Ah, Ax, k1, Cl, Ck, Bool.not_true, CU, IO, old, Gl, mn, A2, BO, Au, A5, m4, Az, Vl, q1, q2, Ak, D1]
end
end Go.Proofs.YtfeldadhbnmklaaGreat

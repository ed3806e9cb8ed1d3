/-
  Part ZJ of what Lawnl stands on: printed by program, names and spaces cut.
-/
import Derived.Test.YtbjadbhkogcfeaaGreatZI
open Go.Value renaming int→AI
open Go.IntKind renaming i64→AT
open Nat renaming reduceEqDiff→BY,reduceLT→By,reduceAdd→IS,le_refl→IT,zero_add→OF,succ→xM,ble→xU,zero_le→yC,mul→yK,le_trans→yO,add_eq→zC,xor→zk,mul_one→AAN,mod_eq_of_lt→AAU,min_eq_left→ABe,mul_le_mul_right→ACf,xor_lt_two_pow→ACq
open Go renaming Value→IN
open List renaming length_append→No,length_map→sh,getElem?_eq_getElem→xL,getD_eq_getElem?_getD→xN,length_cons→xP,mem_cons_of_mem→xS,mem_cons_self→xT,replicate→xV,mem_cons→xe,append_assoc→xp,mem_append→yH,length_nil→yM,map_append→yR,length_drop→yd,drop_zero→yf,getElem?_map→yk,drop_of_length_le→yw,drop_eq_getElem_cons→zD,length_replicate→zF,mem_of_mem_take→zI,eq_of_mem_replicate→AAt,length→AAw,drop_left→AA6,take_left→ACQ,map_map→ACt
open Go.Proofs.Tryz renaming prog→xR,func16→ADc,func8→ADn,f16→AD4
open Bool renaming and_eq_true→xk,eq_iff_iff→zH
open Or renaming inl→xz
open Int renaming sub→yQ,mul→ABw
open UInt8 renaming ofNat→AAH,toNat→ACU
open Go.IntKind renaming u64→ACK
namespace Go.Proofs.YtbjadbhkogcfeaaGreat
noncomputable section
open Go
theorem AZ{a b:String}(h:(a == b)=false):a≠b:=by simpa using h
theorem o3:BR xR ty 3 b3:=xz ⟨Tryz.f3,al3,Tryz.func3,AZ (by kernel_rfl),ua⟩
theorem o8:BR xR ty 8 b8:=xz ⟨Tryz.f8,al8,ADn,AZ (by kernel_rfl),ub⟩
theorem o9:BR xR ty 9 b9:=xz ⟨Tryz.f9,al9,Tryz.func9,AZ (by kernel_rfl),uc⟩
theorem o10:BR xR ty 10 b10:=xz ⟨Tryz.f10,sk,Tryz.func10,AZ (by kernel_rfl),mM⟩
theorem o11:BR xR ty 11 b11:=xz ⟨Tryz.f11,so,Tryz.func11,AZ (by kernel_rfl),mN⟩
theorem o12:BR xR ty 12 b12:=xz ⟨Tryz.f12,ss,Tryz.func12,AZ (by kernel_rfl),mO⟩
theorem o13:BR xR ty 13 b13:=xz ⟨Tryz.f13,su,Tryz.func13,AZ (by kernel_rfl),mP⟩
theorem o14:BR xR ty 14 b14:=xz ⟨Tryz.f14,sv,Tryz.func14,AZ (by kernel_rfl),mQ⟩
theorem o15:BR xR ty 15 b15:=xz ⟨Tryz.f15,sx,Tryz.func15,AZ (by kernel_rfl),mR⟩
theorem o16:BR xR ty 16 b16:=xz ⟨AD4,sy,ADc,AZ (by kernel_rfl),mS⟩
theorem o18:BR xR ty 18 b18:=xz ⟨Tryz.f18,tA,Tryz.func18,AZ (by kernel_rfl),mT⟩
theorem o19:BR xR ty 19 b19:=xz ⟨Tryz.f19,tB,Tryz.func19,AZ (by kernel_rfl),mU⟩
theorem o21:BR xR ty 21 b21:=xz ⟨Tryz.f21,tC,Tryz.func21,AZ (by kernel_rfl),mV⟩
theorem o22:BR xR ty 22 b22:=xz ⟨Tryz.f22,tD,Tryz.func22,AZ (by kernel_rfl),mW⟩
theorem o29:BR xR ty 29 b29:=xz ⟨Tryz.f29,tE,Tryz.func29,AZ (by kernel_rfl),mX⟩
theorem o30:BR xR ty 30 b30:=xz ⟨Tryz.f30,tF,Tryz.func30,AZ (by kernel_rfl),mY⟩
theorem o31:BR xR ty 31 b31:=xz ⟨Tryz.f31,tG,Tryz.func31,AZ (by kernel_rfl),mZ⟩
theorem o32:BR xR ty 32 b32:=xz ⟨Tryz.f32,tH,Tryz.func32,AZ (by kernel_rfl),ma⟩
theorem o33:BR xR ty 33 b33:=xz ⟨Tryz.f33,tI,Tryz.func33,AZ (by kernel_rfl),mc⟩
theorem o34:BR xR ty 34 b34:=xz ⟨Tryz.f34,tJ,Tryz.func34,AZ (by kernel_rfl),me⟩
theorem o35:BR xR ty 35 b35:=xz ⟨Tryz.f35,tK,Tryz.func35,AZ (by kernel_rfl),mf⟩
theorem o36:BR xR ty 36 b36:=xz ⟨Tryz.f36,tL,Tryz.func36,AZ (by kernel_rfl),mg⟩
theorem o37:BR xR ty 37 b37:=xz ⟨Tryz.f37,tM,Tryz.func37,AZ (by kernel_rfl),mh⟩
theorem o38:BR xR ty 38 b38:=xz ⟨Tryz.f38,tN,Tryz.func38,AZ (by kernel_rfl),mi⟩
theorem o39:BR xR ty 39 b39:=xz ⟨Tryz.f39,tO,Tryz.func39,AZ (by kernel_rfl),mj⟩
theorem o40:BR xR ty 40 b40:=xz ⟨Tryz.f40,tP,Tryz.func40,AZ (by kernel_rfl),ml⟩
theorem o41:BR xR ty 41 b41:=xz ⟨Tryz.f41,tQ,Tryz.func41,AZ (by kernel_rfl),mo⟩
theorem o42:BR xR ty 42 b42:=xz ⟨Tryz.f42,tR,Tryz.func42,AZ (by kernel_rfl),mq⟩
theorem o43:BR xR ty 43 b43:=xz ⟨Tryz.f43,tS,Tryz.func43,AZ (by kernel_rfl),mr⟩
theorem o44:BR xR ty 44 b44:=xz ⟨Tryz.f44,tT,Tryz.func44,AZ (by kernel_rfl),mu⟩
theorem o45:BR xR ty 45 b45:=xz ⟨Tryz.f45,tU,Tryz.func45,AZ (by kernel_rfl),mw⟩
theorem o47:BR xR ty 47 b47:=xz ⟨Tryz.f47,tV,Tryz.func47,AZ (by kernel_rfl),my⟩
theorem o48:BR xR ty 48 b48:=xz ⟨Tryz.f48,tW,Tryz.func48,AZ (by kernel_rfl),mz⟩
theorem o53:BR xR ty 53 b53:=xz ⟨Tryz.f53,tX,Tryz.func53,AZ (by kernel_rfl),nB⟩
theorem o55:BR xR ty 55 b55:=xz ⟨Tryz.f55,tY,Tryz.func55,AZ (by kernel_rfl),nC⟩
theorem o56:BR xR ty 56 b56:=xz ⟨Tryz.f56,tZ,Tryz.func56,AZ (by kernel_rfl),nE⟩
theorem o57:BR xR ty 57 b57:=xz ⟨Tryz.f57,tc,Tryz.func57,AZ (by kernel_rfl),nF⟩
theorem o58:BR xR ty 58 b58:=xz ⟨Tryz.f58,td,Tryz.func58,AZ (by kernel_rfl),nG⟩
theorem o59:BR xR ty 59 b59:=xz ⟨Tryz.f59,te,Tryz.func59,AZ (by kernel_rfl),nH⟩
theorem o60:BR xR ty 60 b60:=xz ⟨Tryz.f60,tf,Tryz.func60,AZ (by kernel_rfl),nI⟩
theorem o61:BR xR ty 61 b61:=xz ⟨Tryz.f61,tg,Tryz.func61,AZ (by kernel_rfl),nJ⟩
theorem o62:BR xR ty 62 b62:=xz ⟨Tryz.f62,th,Tryz.func62,AZ (by kernel_rfl),nL⟩
theorem o63:BR xR ty 63 b63:=xz ⟨Tryz.f63,tk,Tryz.func63,AZ (by kernel_rfl),nM⟩
theorem o64:BR xR ty 64 b64:=xz ⟨Tryz.f64,tm,Tryz.func64,AZ (by kernel_rfl),nN⟩
theorem o65:BR xR ty 65 b65:=xz ⟨Tryz.f65,tu,Tryz.func65,AZ (by kernel_rfl),nO⟩
theorem o66:BR xR ty 66 b66:=xz ⟨Tryz.f66,tw,Tryz.func66,AZ (by kernel_rfl),nP⟩
theorem o67:BR xR ty 67 b67:=xz ⟨Tryz.f67,uA,Tryz.func67,AZ (by kernel_rfl),nQ⟩
theorem o68:BR xR ty 68 b68:=xz ⟨Tryz.f68,uB,Tryz.func68,AZ (by kernel_rfl),nR⟩
theorem o71:BR xR ty 71 b71:=xz ⟨Tryz.f71,uC,Tryz.func71,AZ (by kernel_rfl),nS⟩
theorem o72:BR xR ty 72 b72:=xz ⟨Tryz.f72,uD,Tryz.func72,AZ (by kernel_rfl),nT⟩
theorem o73:BR xR ty 73 b73:=xz ⟨Tryz.f73,uE,Tryz.func73,AZ (by kernel_rfl),nU⟩
theorem o74:BR xR ty 74 b74:=xz ⟨Tryz.f74,uF,Tryz.func74,AZ (by kernel_rfl),nV⟩
theorem o75:BR xR ty 75 b75:=xz ⟨Tryz.f75,uG,Tryz.func75,AZ (by kernel_rfl),nW⟩
theorem o76:BR xR ty 76 b76:=xz ⟨Tryz.f76,uH,Tryz.func76,AZ (by kernel_rfl),nX⟩
theorem o77:BR xR ty 77 b77:=xz ⟨Tryz.f77,uI,Tryz.func77,AZ (by kernel_rfl),nY⟩
theorem o78:BR xR ty 78 b78:=xz ⟨Tryz.f78,uJ,Tryz.func78,AZ (by kernel_rfl),nZ⟩
theorem o79:BR xR ty 79 b79:=xz ⟨Tryz.f79,uK,Tryz.func79,AZ (by kernel_rfl),na⟩
theorem o80:BR xR ty 80 b80:=xz ⟨Tryz.f80,uL,Tryz.func80,AZ (by kernel_rfl),nc⟩
theorem o81:BR xR ty 81 b81:=xz ⟨Tryz.f81,uM,Tryz.func81,AZ (by kernel_rfl),nf⟩
theorem o82:BR xR ty 82 b82:=xz ⟨Tryz.f82,uN,Tryz.func82,AZ (by kernel_rfl),ng⟩
theorem o84:BR xR ty 84 b84:=xz ⟨Tryz.f84,uO,Tryz.func84,AZ (by kernel_rfl),nh⟩
theorem o87:BR xR ty 87 b87:=xz ⟨Tryz.f87,uP,Tryz.func87,AZ (by kernel_rfl),nk⟩
theorem o89:BR xR ty 89 b89:=xz ⟨Tryz.f89,uQ,Tryz.func89,AZ (by kernel_rfl),nl⟩
theorem o92:BR xR ty 92 b92:=xz ⟨Tryz.f92,uR,Tryz.func92,AZ (by kernel_rfl),nr⟩
theorem o93:BR xR ty 93 b93:=xz ⟨Tryz.f93,uS,Tryz.func93,AZ (by kernel_rfl),nt⟩
theorem o94:BR xR ty 94 b94:=xz ⟨Tryz.f94,uT,Tryz.func94,AZ (by kernel_rfl),nu⟩
theorem o95:BR xR ty 95 b95:=xz ⟨Tryz.f95,uU,Tryz.func95,AZ (by kernel_rfl),nw⟩
theorem o96:BR xR ty 96 b96:=xz ⟨Tryz.f96,uV,Tryz.func96,AZ (by kernel_rfl),ny⟩
theorem o97:BR xR ty 97 b97:=xz ⟨Tryz.f97,uW,Tryz.func97,AZ (by kernel_rfl),nz⟩
theorem o98:BR xR ty 98 b98:=xz ⟨Tryz.f98,uX,Tryz.func98,AZ (by kernel_rfl),oB⟩
theorem o99:BR xR ty 99 b99:=xz ⟨Tryz.f99,uY,Tryz.func99,AZ (by kernel_rfl),oC⟩
theorem vK:BR xR ty 100 Wa:=xz ⟨Tryz.f100,kU,Tryz.func100,AZ (by kernel_rfl),dC⟩
theorem vL:BR xR ty 101 Wb:=xz ⟨Tryz.f101,kW,Tryz.func101,AZ (by kernel_rfl),dD⟩
theorem vM:BR xR ty 102 Wc:=xz ⟨Tryz.f102,kX,Tryz.func102,AZ (by kernel_rfl),dE⟩
theorem vN:BR xR ty 103 Wd:=xz ⟨Tryz.f103,kY,Tryz.func103,AZ (by kernel_rfl),dF⟩
theorem vO:BR xR ty 104 We:=xz ⟨Tryz.f104,kZ,Tryz.func104,AZ (by kernel_rfl),dG⟩
theorem vP:BR xR ty 105 Wi:=xz ⟨Tryz.f105,kh,Tryz.func105,AZ (by kernel_rfl),dH⟩
theorem vQ:BR xR ty 107 Wj:=xz ⟨Tryz.f107,kj,Tryz.func107,AZ (by kernel_rfl),dJ⟩
theorem vR:BR xR ty 109 Wk:=xz ⟨Tryz.f109,kl,Tryz.func109,AZ (by kernel_rfl),dK⟩
theorem vS:BR xR ty 110 Wl:=xz ⟨Tryz.f110,km,Tryz.func110,AZ (by kernel_rfl),dL⟩
theorem vT:BR xR ty 111 Wn:=xz ⟨Tryz.f111,kr,Tryz.func111,AZ (by kernel_rfl),dM⟩
theorem vU:BR xR ty 112 Wo:=xz ⟨Tryz.f112,kv,Tryz.func112,AZ (by kernel_rfl),dN⟩
theorem vV:BR xR ty 113 Wp:=xz ⟨Tryz.f113,lB,Tryz.func113,AZ (by kernel_rfl),dO⟩
theorem vW:BR xR ty 114 Wq:=xz ⟨Tryz.f114,lC,Tryz.func114,AZ (by kernel_rfl),dP⟩
theorem vX:BR xR ty 115 Wr:=xz ⟨Tryz.f115,lD,Tryz.func115,AZ (by kernel_rfl),dQ⟩
theorem vY:BR xR ty 116 Ws:=xz ⟨Tryz.f116,lE,Tryz.func116,AZ (by kernel_rfl),dR⟩
theorem vZ:BR xR ty 117 Wt:=xz ⟨Tryz.f117,lF,Tryz.func117,AZ (by kernel_rfl),dS⟩
theorem va:BR xR ty 118 Wu:=xz ⟨Tryz.f118,lG,Tryz.func118,AZ (by kernel_rfl),dT⟩
theorem vb:BR xR ty 119 Wv:=xz ⟨Tryz.f119,lH,Tryz.func119,AZ (by kernel_rfl),dU⟩
theorem vd:BR xR ty 120 Ww:=xz ⟨Tryz.f120,lI,Tryz.func120,AZ (by kernel_rfl),dV⟩
theorem ve:BR xR ty 121 Wx:=xz ⟨Tryz.f121,lJ,Tryz.func121,AZ (by kernel_rfl),dW⟩
theorem vf:BR xR ty 122 Wy:=xz ⟨Tryz.f122,lK,Tryz.func122,AZ (by kernel_rfl),dX⟩
theorem vg:BR xR ty 123 Wz:=xz ⟨Tryz.f123,lM,Tryz.func123,AZ (by kernel_rfl),dY⟩
theorem vk:BR xR ty 124 W9:=xz ⟨Tryz.f124,lN,Tryz.func124,AZ (by kernel_rfl),dZ⟩
theorem vm:BR xR ty 127 XA:=xz ⟨Tryz.f127,lO,Tryz.func127,AZ (by kernel_rfl),da⟩
theorem vo:BR xR ty 128 XB:=xz ⟨Tryz.f128,lQ,Tryz.func128,AZ (by kernel_rfl),db⟩
theorem vp:BR xR ty 129 XC:=xz ⟨Tryz.f129,lR,Tryz.func129,AZ (by kernel_rfl),de⟩
theorem vq:BR xR ty 130 XD:=xz ⟨Tryz.f130,lS,Tryz.func130,AZ (by kernel_rfl),df⟩
theorem vr:BR xR ty 132 XE:=xz ⟨Tryz.f132,lT,Tryz.func132,AZ (by kernel_rfl),dh⟩
theorem vt:BR xR ty 133 XF:=xz ⟨Tryz.f133,lU,Tryz.func133,AZ (by kernel_rfl),dj⟩
theorem vu:BR xR ty 134 XG:=xz ⟨Tryz.f134,lV,Tryz.func134,AZ (by kernel_rfl),dm⟩
theorem vw:BR xR ty 135 XH:=xz ⟨Tryz.f135,lW,Tryz.func135,AZ (by kernel_rfl),dp⟩
theorem vx:BR xR ty 136 XI:=xz ⟨Tryz.f136,lX,Tryz.func136,AZ (by kernel_rfl),dq⟩
theorem vy:BR xR ty 145 XJ:=xz ⟨Tryz.f145,lY,Tryz.func145,AZ (by kernel_rfl),dr⟩
theorem vz:BR xR ty 146 XK:=xz ⟨Tryz.f146,lZ,Tryz.func146,AZ (by kernel_rfl),du⟩
theorem wA:BR xR ty 147 XL:=xz ⟨Tryz.f147,la,Tryz.func147,AZ (by kernel_rfl),dw⟩
theorem wB:BR xR ty 148 XM:=xz ⟨Tryz.f148,lc,Tryz.func148,AZ (by kernel_rfl),dy⟩
theorem wC:BR xR ty 149 XN:=xz ⟨Tryz.f149,lg,Tryz.func149,AZ (by kernel_rfl),dz⟩
theorem wD:BR xR ty 155 XO:=xz ⟨Tryz.f155,li,Tryz.func155,AZ (by kernel_rfl),d6⟩
theorem Ap(i:Nat):BR xR ty i An:=Or.inr (.inl rfl)
set_option maxRecDepth 100000 in
def Gf:FT:=(.nd An (.nd An (.nd b3 (.nd An (.nd b15 (.nd b31 (.nd b63 (.nd XA .mt .mt) .mt) (.nd b95 (.nd An .mt .mt) .mt)) (.nd b47 (.nd b79 (.nd An .mt .mt) .mt) (.nd Wn (.nd An .mt .mt) .mt))) (.nd An (.nd b39 (.nd b71 (.nd XH .mt .mt) .mt) (.nd Wd (.nd An .mt .mt) .mt)) (.nd b55 (.nd b87 (.nd An .mt .mt) .mt) (.nd Wv (.nd An .mt .mt) .mt)))) (.nd b11 (.nd b19 (.nd b35 (.nd b67 (.nd An .mt .mt) .mt) (.nd b99 (.nd An .mt .mt) .mt)) (.nd An (.nd An (.nd XL .mt .mt) .mt) (.nd Wr (.nd An .mt .mt) .mt))) (.nd An (.nd b43 (.nd b75 (.nd An .mt .mt) .mt) (.nd Wj (.nd An .mt .mt) .mt)) (.nd b59 (.nd An (.nd XO .mt .mt) .mt) (.nd Wz .mt .mt))))) (.nd An (.nd b9 (.nd An (.nd b33 (.nd b65 (.nd XC .mt .mt) .mt) (.nd b97 (.nd An .mt .mt) .mt)) (.nd An (.nd b81 (.nd XJ .mt .mt) .mt) (.nd Wp (.nd An .mt .mt) .mt))) (.nd An (.nd b41 (.nd b73 (.nd An .mt .mt) .mt) (.nd Wi (.nd An .mt .mt) .mt)) (.nd b57 (.nd b89 (.nd An .mt .mt) .mt) (.nd Wx .mt .mt)))) (.nd b13 (.nd b21 (.nd b37 (.nd An (.nd XF .mt .mt) .mt) (.nd Wb (.nd An .mt .mt) .mt)) (.nd b53 (.nd An (.nd XN .mt .mt) .mt) (.nd Wt (.nd An .mt .mt) .mt))) (.nd b29 (.nd b45 (.nd b77 (.nd An .mt .mt) .mt) (.nd Wk (.nd An .mt .mt) .mt)) (.nd b61 (.nd b93 (.nd An .mt .mt) .mt) (.nd An .mt .mt)))))) (.nd An (.nd An (.nd b8 (.nd b16 (.nd b32 (.nd b64 (.nd XB .mt .mt) .mt) (.nd b96 (.nd An .mt .mt) .mt)) (.nd b48 (.nd b80 (.nd An .mt .mt) .mt) (.nd Wo (.nd An .mt .mt) .mt))) (.nd An (.nd b40 (.nd b72 (.nd XI .mt .mt) .mt) (.nd We (.nd An .mt .mt) .mt)) (.nd b56 (.nd An (.nd An .mt .mt) .mt) (.nd Ww (.nd An .mt .mt) .mt)))) (.nd b12 (.nd An (.nd b36 (.nd b68 (.nd XE .mt .mt) .mt) (.nd Wa (.nd An .mt .mt) .mt)) (.nd An (.nd b84 (.nd XM .mt .mt) .mt) (.nd Ws (.nd An .mt .mt) .mt))) (.nd An (.nd b44 (.nd b76 (.nd An .mt .mt) .mt) (.nd An (.nd An .mt .mt) .mt)) (.nd b60 (.nd b92 (.nd An .mt .mt) .mt) (.nd W9 .mt .mt))))) (.nd An (.nd b10 (.nd b18 (.nd b34 (.nd b66 (.nd XD .mt .mt) .mt) (.nd b98 (.nd An .mt .mt) .mt)) (.nd An (.nd b82 (.nd XK .mt .mt) .mt) (.nd Wq (.nd An .mt .mt) .mt))) (.nd An (.nd b42 (.nd b74 (.nd An .mt .mt) .mt) (.nd An (.nd An .mt .mt) .mt)) (.nd b58 (.nd An (.nd An .mt .mt) .mt) (.nd Wy .mt .mt)))) (.nd b14 (.nd b22 (.nd b38 (.nd An (.nd XG .mt .mt) .mt) (.nd Wc (.nd An .mt .mt) .mt)) (.nd An (.nd An (.nd An .mt .mt) .mt) (.nd Wu (.nd An .mt .mt) .mt))) (.nd b30 (.nd An (.nd b78 (.nd An .mt .mt) .mt) (.nd Wl (.nd An .mt .mt) .mt)) (.nd b62 (.nd b94 (.nd An .mt .mt) .mt) (.nd An .mt .mt)))))))
set_option maxRecDepth 100000 in
theorem SY:FT.All (BR xR ty) Gf id:=⟨Ap _,⟨Ap _,⟨o3,⟨Ap _,⟨o15,⟨o31,⟨o63,⟨vm,trivial,trivial⟩,trivial⟩,⟨o95,⟨Ap _,trivial,trivial⟩,trivial⟩⟩,⟨o47,⟨o79,⟨Ap _,trivial,trivial⟩,trivial⟩,⟨vT,⟨Ap _,trivial,trivial⟩,trivial⟩⟩⟩,⟨Ap _,⟨o39,⟨o71,⟨vw,trivial,trivial⟩,trivial⟩,⟨vN,⟨Ap _,trivial,trivial⟩,trivial⟩⟩,⟨o55,⟨o87,⟨Ap _,trivial,trivial⟩,trivial⟩,⟨vb,⟨Ap _,trivial,trivial⟩,trivial⟩⟩⟩⟩,⟨o11,⟨o19,⟨o35,⟨o67,⟨Ap _,trivial,trivial⟩,trivial⟩,⟨o99,⟨Ap _,trivial,trivial⟩,trivial⟩⟩,⟨Ap _,⟨Ap _,⟨wA,trivial,trivial⟩,trivial⟩,⟨vX,⟨Ap _,trivial,trivial⟩,trivial⟩⟩⟩,⟨Ap _,⟨o43,⟨o75,⟨Ap _,trivial,trivial⟩,trivial⟩,⟨vQ,⟨Ap _,trivial,trivial⟩,trivial⟩⟩,⟨o59,⟨Ap _,⟨wD,trivial,trivial⟩,trivial⟩,⟨vg,trivial,trivial⟩⟩⟩⟩⟩,⟨Ap _,⟨o9,⟨Ap _,⟨o33,⟨o65,⟨vp,trivial,trivial⟩,trivial⟩,⟨o97,⟨Ap _,trivial,trivial⟩,trivial⟩⟩,⟨Ap _,⟨o81,⟨vy,trivial,trivial⟩,trivial⟩,⟨vV,⟨Ap _,trivial,trivial⟩,trivial⟩⟩⟩,⟨Ap _,⟨o41,⟨o73,⟨Ap _,trivial,trivial⟩,trivial⟩,⟨vP,⟨Ap _,trivial,trivial⟩,trivial⟩⟩,⟨o57,⟨o89,⟨Ap _,trivial,trivial⟩,trivial⟩,⟨ve,trivial,trivial⟩⟩⟩⟩,⟨o13,⟨o21,⟨o37,⟨Ap _,⟨vt,trivial,trivial⟩,trivial⟩,⟨vL,⟨Ap _,trivial,trivial⟩,trivial⟩⟩,⟨o53,⟨Ap _,⟨wC,trivial,trivial⟩,trivial⟩,⟨vZ,⟨Ap _,trivial,trivial⟩,trivial⟩⟩⟩,⟨o29,⟨o45,⟨o77,⟨Ap _,trivial,trivial⟩,trivial⟩,⟨vR,⟨Ap _,trivial,trivial⟩,trivial⟩⟩,⟨o61,⟨o93,⟨Ap _,trivial,trivial⟩,trivial⟩,⟨Ap _,trivial,trivial⟩⟩⟩⟩⟩⟩,⟨Ap _,⟨Ap _,⟨o8,⟨o16,⟨o32,⟨o64,⟨vo,trivial,trivial⟩,trivial⟩,⟨o96,⟨Ap _,trivial,trivial⟩,trivial⟩⟩,⟨o48,⟨o80,⟨Ap _,trivial,trivial⟩,trivial⟩,⟨vU,⟨Ap _,trivial,trivial⟩,trivial⟩⟩⟩,⟨Ap _,⟨o40,⟨o72,⟨vx,trivial,trivial⟩,trivial⟩,⟨vO,⟨Ap _,trivial,trivial⟩,trivial⟩⟩,⟨o56,⟨Ap _,⟨Ap _,trivial,trivial⟩,trivial⟩,⟨vd,⟨Ap _,trivial,trivial⟩,trivial⟩⟩⟩⟩,⟨o12,⟨Ap _,⟨o36,⟨o68,⟨vr,trivial,trivial⟩,trivial⟩,⟨vK,⟨Ap _,trivial,trivial⟩,trivial⟩⟩,⟨Ap _,⟨o84,⟨wB,trivial,trivial⟩,trivial⟩,⟨vY,⟨Ap _,trivial,trivial⟩,trivial⟩⟩⟩,⟨Ap _,⟨o44,⟨o76,⟨Ap _,trivial,trivial⟩,trivial⟩,⟨Ap _,⟨Ap _,trivial,trivial⟩,trivial⟩⟩,⟨o60,⟨o92,⟨Ap _,trivial,trivial⟩,trivial⟩,⟨vk,trivial,trivial⟩⟩⟩⟩⟩,⟨Ap _,⟨o10,⟨o18,⟨o34,⟨o66,⟨vq,trivial,trivial⟩,trivial⟩,⟨o98,⟨Ap _,trivial,trivial⟩,trivial⟩⟩,⟨Ap _,⟨o82,⟨vz,trivial,trivial⟩,trivial⟩,⟨vW,⟨Ap _,trivial,trivial⟩,trivial⟩⟩⟩,⟨Ap _,⟨o42,⟨o74,⟨Ap _,trivial,trivial⟩,trivial⟩,⟨Ap _,⟨Ap _,trivial,trivial⟩,trivial⟩⟩,⟨o58,⟨Ap _,⟨Ap _,trivial,trivial⟩,trivial⟩,⟨vf,trivial,trivial⟩⟩⟩⟩,⟨o14,⟨o22,⟨o38,⟨Ap _,⟨vu,trivial,trivial⟩,trivial⟩,⟨vM,⟨Ap _,trivial,trivial⟩,trivial⟩⟩,⟨Ap _,⟨Ap _,⟨Ap _,trivial,trivial⟩,trivial⟩,⟨va,⟨Ap _,trivial,trivial⟩,trivial⟩⟩⟩,⟨o30,⟨Ap _,⟨o78,⟨Ap _,trivial,trivial⟩,trivial⟩,⟨vS,⟨Ap _,trivial,trivial⟩,trivial⟩⟩,⟨o62,⟨o94,⟨Ap _,trivial,trivial⟩,trivial⟩,⟨Ap _,trivial,trivial⟩⟩⟩⟩⟩⟩⟩
theorem lz:Cx xR ty:=sK (by kernel_rfl) (by kernel_rfl)
theorem Na(n:Nat):DJ xR ty (call Gf n):=I9 lz (by kernel_rfl) SY n
end
noncomputable section
open Go
set_option maxHeartbeats 0 in
theorem WZ:bD (call Gf 64 16 [] IW)=true:=by kernel_rfl
theorem SV:Lp xR ty 16 J5:=YU ⟨AD4,ADc,AZ (by kernel_rfl),by kernel_rfl⟩ (bp Na WZ)
theorem oA:BR xR ty 16 J5:=Or.inr (.inr SV)
open Go.RowKit Go.WideShapes Go.ChangeShapes
set_option maxRecDepth 100000
def ly(L:List IN)(args:List IN)(h:Hp):R:=match args with
 |[]=>.ok (.agg ⟨L⟩) h
 |_::_=>.no
def NY(L:List IN):Body:=⟨[.x (fun _=>ly L)],cNo⟩
def isW:IN->Bool
 |.int .u32 n=>decide (0<=n) && decide (n<4294967296)
 |_=>false
def bC:R->Bool
 |.ok (.agg ⟨l⟩) _=>l.all isW && Nat.beq l.length 256
 |_=>false
def rc:R->List IN
 |.ok (.agg ⟨l⟩) _=>l
 |_=>[]
def ND:List IN:=rc (call Gf 64 8 [] IW)
set_option maxHeartbeats 0 in
theorem kA:bC (call Gf 64 8 [] IW)=true:=by kernel_rfl
theorem Oy{v:IN}(h:isW v=true):∃ n:Nat,v=.int .u32 (n:Int)/\n<4294967296:=by
 unfold isW at h;split at h
 ·rename_i n
  simp only[xk,decide_eq_true_eq]at h;obtain⟨m,rfl⟩:=Int.eq_ofNat_of_zero_le h.1;exact⟨m,rfl,by omega⟩
 ·cases h
theorem Tl:∃ h',call Gf 64 8 [] IW=.ok (.agg ⟨ND⟩) h'/\ND.length=256/\∀ v∈ND,isW v=true:=by
 have h:=kA;unfold ND;generalize call Gf 64 8 [] IW=r at h;unfold bC at h;split at h
 ·rename_i l h'
  simp only[xk,List.all_eq_true]at h;exact⟨h',rfl,Nat.eq_of_beq_eq_true h.2,h.1⟩
 ·cases h
theorem Qu{φ:Phi}:∀ {L L':List IN},AEX φ L L'->(∀ v∈L,isW v=true)->L'=L
 |_,_,.nil,_=>rfl
 |_,_,.cons (v:=v) h t,hL=>by
  rw[Qu t fun x hx=>hL x (xS _ hx)];obtain⟨n,rfl,_⟩:=Oy (hL v xT);cases h;rfl
theorem Qv(φ:Phi):∀ {L:List IN},(∀ v∈L,isW v=true)->AEX φ L L
 |[],_=>.nil
 |v::L,h=>by
  obtain⟨n,rfl,_⟩:=Oy (h v xT);exact .cons (.int _ _) (Qv φ fun x hx=>h x (xS _ hx))
theorem YT(w:World):Calls xR 8 #[] w fun e w'=>e=.returned (.agg ⟨ND⟩)/\Below w.heap.size w w':=by
 obtain⟨h',hr,_,hw⟩:=Tl;obtain⟨_,hc⟩:=Na _ 8 [] IW _ h' hr;refine(hc rt w [] .nil (OM ty w)).mono fun e w' ⟨v',ψ,he,hv,_,ev⟩=>?_
 cases hv with
 |agg hl=>
  rw[Qu hl hw]at he;exact⟨he,⟨ev.os,ev.tape,ev.output,ev.size,fun k hk=>ev.frame k hk fun i p hp=>by cases hp⟩⟩
theorem Xs{P:Program}{ty:TTy}{f:Nat}{L:List IN}(hL:∀ v∈L,isW v=true)(hS:∃ fn,P.funcs[f]? =some fn/\fn.name≠"runtime.NumGoroutine" /\fn.body.isNone=false)(hc:∀ w:World,Calls P f #[] w fun e w'=>e=.returned (.agg ⟨L⟩)/\Below w.heap.size w w'):Lp P ty f (NY L):=fun F args h v h' _ hr=>⟨hS,fun φ w args' AEj H=>by
 have hr:ly L args h=.ok v h':=hr;cases args with
 |cons a l=>cases hr
 |nil=>
  cases hr;cases AEj;exact(hc w).mono fun e w' ⟨he,hb⟩=>⟨_,φ,he,.agg (Qv φ hL),(Gt H hb).1,(Gt H hb).2⟩⟩
theorem cM:Lp xR ty 8 (NY ND):=Xs (Tl.choose_spec.2.2) ⟨Tryz.f8,ADn,AZ (by kernel_rfl),by kernel_rfl⟩ YT
theorem oT:BR xR ty 8 (NY ND):=Or.inr (.inr cM)
theorem XT{bs:FT}{n f:Nat}{L:List IN}(hb:bs.get f=some (NY L)){h:Hp}:call bs (xM n) f [] h=.ok (.agg ⟨L⟩) h:=by
 rw[Ab hb];rfl
end
noncomputable section
open Go
set_option maxRecDepth 100000 in
def AC:FT:=(.nd An (.nd An (.nd b3 (.nd An (.nd b15 (.nd b31 (.nd b63 (.nd XA .mt .mt) .mt) (.nd b95 (.nd An .mt .mt) .mt)) (.nd b47 (.nd b79 (.nd An .mt .mt) .mt) (.nd Wn (.nd An .mt .mt) .mt))) (.nd An (.nd b39 (.nd b71 (.nd XH .mt .mt) .mt) (.nd Wd (.nd An .mt .mt) .mt)) (.nd b55 (.nd b87 (.nd An .mt .mt) .mt) (.nd Wv (.nd An .mt .mt) .mt)))) (.nd b11 (.nd b19 (.nd b35 (.nd b67 (.nd An .mt .mt) .mt) (.nd b99 (.nd An .mt .mt) .mt)) (.nd An (.nd An (.nd XL .mt .mt) .mt) (.nd Wr (.nd An .mt .mt) .mt))) (.nd An (.nd b43 (.nd b75 (.nd An .mt .mt) .mt) (.nd Wj (.nd An .mt .mt) .mt)) (.nd b59 (.nd An (.nd XO .mt .mt) .mt) (.nd Wz .mt .mt))))) (.nd An (.nd b9 (.nd An (.nd b33 (.nd b65 (.nd XC .mt .mt) .mt) (.nd b97 (.nd An .mt .mt) .mt)) (.nd An (.nd b81 (.nd XJ .mt .mt) .mt) (.nd Wp (.nd An .mt .mt) .mt))) (.nd An (.nd b41 (.nd b73 (.nd An .mt .mt) .mt) (.nd Wi (.nd An .mt .mt) .mt)) (.nd b57 (.nd b89 (.nd An .mt .mt) .mt) (.nd Wx .mt .mt)))) (.nd b13 (.nd b21 (.nd b37 (.nd An (.nd XF .mt .mt) .mt) (.nd Wb (.nd An .mt .mt) .mt)) (.nd b53 (.nd An (.nd XN .mt .mt) .mt) (.nd Wt (.nd An .mt .mt) .mt))) (.nd b29 (.nd b45 (.nd b77 (.nd An .mt .mt) .mt) (.nd Wk (.nd An .mt .mt) .mt)) (.nd b61 (.nd b93 (.nd An .mt .mt) .mt) (.nd An .mt .mt)))))) (.nd An (.nd An (.nd (NY ND) (.nd J5 (.nd b32 (.nd b64 (.nd XB .mt .mt) .mt) (.nd b96 (.nd An .mt .mt) .mt)) (.nd b48 (.nd b80 (.nd An .mt .mt) .mt) (.nd Wo (.nd An .mt .mt) .mt))) (.nd An (.nd b40 (.nd b72 (.nd XI .mt .mt) .mt) (.nd We (.nd An .mt .mt) .mt)) (.nd b56 (.nd An (.nd An .mt .mt) .mt) (.nd Ww (.nd An .mt .mt) .mt)))) (.nd b12 (.nd An (.nd b36 (.nd b68 (.nd XE .mt .mt) .mt) (.nd Wa (.nd An .mt .mt) .mt)) (.nd An (.nd b84 (.nd XM .mt .mt) .mt) (.nd Ws (.nd An .mt .mt) .mt))) (.nd An (.nd b44 (.nd b76 (.nd An .mt .mt) .mt) (.nd An (.nd An .mt .mt) .mt)) (.nd b60 (.nd b92 (.nd An .mt .mt) .mt) (.nd W9 .mt .mt))))) (.nd An (.nd b10 (.nd b18 (.nd b34 (.nd b66 (.nd XD .mt .mt) .mt) (.nd b98 (.nd An .mt .mt) .mt)) (.nd An (.nd b82 (.nd XK .mt .mt) .mt) (.nd Wq (.nd An .mt .mt) .mt))) (.nd An (.nd b42 (.nd b74 (.nd An .mt .mt) .mt) (.nd An (.nd An .mt .mt) .mt)) (.nd b58 (.nd An (.nd An .mt .mt) .mt) (.nd Wy .mt .mt)))) (.nd b14 (.nd b22 (.nd b38 (.nd An (.nd XG .mt .mt) .mt) (.nd Wc (.nd An .mt .mt) .mt)) (.nd An (.nd An (.nd An .mt .mt) .mt) (.nd Wu (.nd An .mt .mt) .mt))) (.nd b30 (.nd An (.nd b78 (.nd An .mt .mt) .mt) (.nd Wl (.nd An .mt .mt) .mt)) (.nd b62 (.nd b94 (.nd An .mt .mt) .mt) (.nd An .mt .mt)))))))
set_option maxRecDepth 100000 in
theorem XR:FT.All (BR xR ty) AC id:=⟨Ap _,⟨Ap _,⟨o3,⟨Ap _,⟨o15,⟨o31,⟨o63,⟨vm,trivial,trivial⟩,trivial⟩,⟨o95,⟨Ap _,trivial,trivial⟩,trivial⟩⟩,⟨o47,⟨o79,⟨Ap _,trivial,trivial⟩,trivial⟩,⟨vT,⟨Ap _,trivial,trivial⟩,trivial⟩⟩⟩,⟨Ap _,⟨o39,⟨o71,⟨vw,trivial,trivial⟩,trivial⟩,⟨vN,⟨Ap _,trivial,trivial⟩,trivial⟩⟩,⟨o55,⟨o87,⟨Ap _,trivial,trivial⟩,trivial⟩,⟨vb,⟨Ap _,trivial,trivial⟩,trivial⟩⟩⟩⟩,⟨o11,⟨o19,⟨o35,⟨o67,⟨Ap _,trivial,trivial⟩,trivial⟩,⟨o99,⟨Ap _,trivial,trivial⟩,trivial⟩⟩,⟨Ap _,⟨Ap _,⟨wA,trivial,trivial⟩,trivial⟩,⟨vX,⟨Ap _,trivial,trivial⟩,trivial⟩⟩⟩,⟨Ap _,⟨o43,⟨o75,⟨Ap _,trivial,trivial⟩,trivial⟩,⟨vQ,⟨Ap _,trivial,trivial⟩,trivial⟩⟩,⟨o59,⟨Ap _,⟨wD,trivial,trivial⟩,trivial⟩,⟨vg,trivial,trivial⟩⟩⟩⟩⟩,⟨Ap _,⟨o9,⟨Ap _,⟨o33,⟨o65,⟨vp,trivial,trivial⟩,trivial⟩,⟨o97,⟨Ap _,trivial,trivial⟩,trivial⟩⟩,⟨Ap _,⟨o81,⟨vy,trivial,trivial⟩,trivial⟩,⟨vV,⟨Ap _,trivial,trivial⟩,trivial⟩⟩⟩,⟨Ap _,⟨o41,⟨o73,⟨Ap _,trivial,trivial⟩,trivial⟩,⟨vP,⟨Ap _,trivial,trivial⟩,trivial⟩⟩,⟨o57,⟨o89,⟨Ap _,trivial,trivial⟩,trivial⟩,⟨ve,trivial,trivial⟩⟩⟩⟩,⟨o13,⟨o21,⟨o37,⟨Ap _,⟨vt,trivial,trivial⟩,trivial⟩,⟨vL,⟨Ap _,trivial,trivial⟩,trivial⟩⟩,⟨o53,⟨Ap _,⟨wC,trivial,trivial⟩,trivial⟩,⟨vZ,⟨Ap _,trivial,trivial⟩,trivial⟩⟩⟩,⟨o29,⟨o45,⟨o77,⟨Ap _,trivial,trivial⟩,trivial⟩,⟨vR,⟨Ap _,trivial,trivial⟩,trivial⟩⟩,⟨o61,⟨o93,⟨Ap _,trivial,trivial⟩,trivial⟩,⟨Ap _,trivial,trivial⟩⟩⟩⟩⟩⟩,⟨Ap _,⟨Ap _,⟨oT,⟨oA,⟨o32,⟨o64,⟨vo,trivial,trivial⟩,trivial⟩,⟨o96,⟨Ap _,trivial,trivial⟩,trivial⟩⟩,⟨o48,⟨o80,⟨Ap _,trivial,trivial⟩,trivial⟩,⟨vU,⟨Ap _,trivial,trivial⟩,trivial⟩⟩⟩,⟨Ap _,⟨o40,⟨o72,⟨vx,trivial,trivial⟩,trivial⟩,⟨vO,⟨Ap _,trivial,trivial⟩,trivial⟩⟩,⟨o56,⟨Ap _,⟨Ap _,trivial,trivial⟩,trivial⟩,⟨vd,⟨Ap _,trivial,trivial⟩,trivial⟩⟩⟩⟩,⟨o12,⟨Ap _,⟨o36,⟨o68,⟨vr,trivial,trivial⟩,trivial⟩,⟨vK,⟨Ap _,trivial,trivial⟩,trivial⟩⟩,⟨Ap _,⟨o84,⟨wB,trivial,trivial⟩,trivial⟩,⟨vY,⟨Ap _,trivial,trivial⟩,trivial⟩⟩⟩,⟨Ap _,⟨o44,⟨o76,⟨Ap _,trivial,trivial⟩,trivial⟩,⟨Ap _,⟨Ap _,trivial,trivial⟩,trivial⟩⟩,⟨o60,⟨o92,⟨Ap _,trivial,trivial⟩,trivial⟩,⟨vk,trivial,trivial⟩⟩⟩⟩⟩,⟨Ap _,⟨o10,⟨o18,⟨o34,⟨o66,⟨vq,trivial,trivial⟩,trivial⟩,⟨o98,⟨Ap _,trivial,trivial⟩,trivial⟩⟩,⟨Ap _,⟨o82,⟨vz,trivial,trivial⟩,trivial⟩,⟨vW,⟨Ap _,trivial,trivial⟩,trivial⟩⟩⟩,⟨Ap _,⟨o42,⟨o74,⟨Ap _,trivial,trivial⟩,trivial⟩,⟨Ap _,⟨Ap _,trivial,trivial⟩,trivial⟩⟩,⟨o58,⟨Ap _,⟨Ap _,trivial,trivial⟩,trivial⟩,⟨vf,trivial,trivial⟩⟩⟩⟩,⟨o14,⟨o22,⟨o38,⟨Ap _,⟨vu,trivial,trivial⟩,trivial⟩,⟨vM,⟨Ap _,trivial,trivial⟩,trivial⟩⟩,⟨Ap _,⟨Ap _,⟨Ap _,trivial,trivial⟩,trivial⟩,⟨va,⟨Ap _,trivial,trivial⟩,trivial⟩⟩⟩,⟨o30,⟨Ap _,⟨o78,⟨Ap _,trivial,trivial⟩,trivial⟩,⟨vS,⟨Ap _,trivial,trivial⟩,trivial⟩⟩,⟨o62,⟨o94,⟨Ap _,trivial,trivial⟩,trivial⟩,⟨Ap _,trivial,trivial⟩⟩⟩⟩⟩⟩⟩
theorem Y6(n:Nat):DJ xR ty (call AC n):=I9 lz (by kernel_rfl) XR n
theorem Ym:AC.get 16=some J5:=by kernel_rfl
theorem cP:AC.get 8=some (NY ND):=by kernel_rfl
end
noncomputable section
open Go
set_option maxRecDepth 100000
theorem oP{n:Nat}{args:List IN}{h:Hp}(hl:xU (BB args) 160=true):call AC (xM n) 15 args h=A3 [.t (J 4)] (d15 (call AC n) (AS e0 0 args) h):=by
 have hb:AC.get 15=some b15:=by kernel_rfl
 rw[Ab hb];have hd:b15=⟨[.t (J 4)],d15⟩:=by kernel_rfl
 rw[hd,AW hl]
theorem oQ{n:Nat}{args:List IN}{h:Hp}(hl:xU (BB args) 160=true):call AC (xM n) 18 args h=A3 [.t (J 4)] (d18 (call AC n) (AS e0 0 args) h):=by
 have hb:AC.get 18=some b18:=by kernel_rfl
 rw[Ab hb];have hd:b18=⟨[.t (J 4)],d18⟩:=by kernel_rfl
 rw[hd,AW hl]
theorem oR{n:Nat}{args:List IN}{h:Hp}(hl:xU (BB args) 160=true):call AC (xM n) 19 args h=A3 [.t (J 2)] (d19 (call AC n) (AS e0 0 args) h):=by
 have hb:AC.get 19=some b19:=by kernel_rfl
 rw[Ab hb];have hd:b19=⟨[.t (J 2)],d19⟩:=by kernel_rfl
 rw[hd,AW hl]
theorem oU{n:Nat}{args:List IN}{h:Hp}(hl:xU (BB args) 160=true):call AC (xM n) 22 args h=A3 [.t (J 4)] (d22 (call AC n) (AS e0 0 args) h):=by
 have hb:AC.get 22=some b22:=by kernel_rfl
 rw[Ab hb];have hd:b22=⟨[.t (J 4)],d22⟩:=by kernel_rfl
 rw[hd,AW hl]
theorem oV{n:Nat}{args:List IN}{h:Hp}(hl:xU (BB args) 160=true):call AC (xM n) 30 args h=A3 [.t (J 2),.t (J 3)] (d30 (call AC n) (AS e0 0 args) h):=by
 have hb:AC.get 30=some b30:=by kernel_rfl
 rw[Ab hb];have hd:b30=⟨[.t (J 2),.t (J 3)],d30⟩:=by kernel_rfl
 rw[hd,AW hl]
theorem oh{n:Nat}{args:List IN}{h:Hp}(hl:xU (BB args) 160=true):call AC (xM n) 40 args h=A3 [.t (J 2)] (d40 (call AC n) (AS e0 0 args) h):=by
 have hb:AC.get 40=some b40:=by kernel_rfl
 rw[Ab hb];have hd:b40=⟨[.t (J 2)],d40⟩:=by kernel_rfl
 rw[hd,AW hl]
theorem oo{n:Nat}{args:List IN}{h:Hp}(hl:xU (BB args) 160=true):call AC (xM n) 41 args h=A3 [.t (J 4)] (d41 (call AC n) (AS e0 0 args) h):=by
 have hb:AC.get 41=some b41:=by kernel_rfl
 rw[Ab hb];have hd:b41=⟨[.t (J 4)],d41⟩:=by kernel_rfl
 rw[hd,AW hl]
theorem oq{n:Nat}{args:List IN}{h:Hp}(hl:xU (BB args) 160=true):call AC (xM n) 45 args h=A3 [.t (J 2)] (d45 (call AC n) (AS e0 0 args) h):=by
 have hb:AC.get 45=some b45:=by kernel_rfl
 rw[Ab hb];have hd:b45=⟨[.t (J 2)],d45⟩:=by kernel_rfl
 rw[hd,AW hl]
theorem ot{n:Nat}{args:List IN}{h:Hp}(hl:xU (BB args) 160=true):call AC (xM n) 47 args h=A3 [.t (J 6),.t (J 7)] (d47 (call AC n) (AS e0 0 args) h):=by
 have hb:AC.get 47=some b47:=by kernel_rfl
 rw[Ab hb];have hd:b47=⟨[.t (J 6),.t (J 7)],d47⟩:=by kernel_rfl
 rw[hd,AW hl]
theorem ox{n:Nat}{args:List IN}{h:Hp}(hl:xU (BB args) 160=true):call AC (xM n) 48 args h=A3 [.t (J 4)] (d48 (call AC n) (AS e0 0 args) h):=by
 have hb:AC.get 48=some b48:=by kernel_rfl
 rw[Ab hb];have hd:b48=⟨[.t (J 4)],d48⟩:=by kernel_rfl
 rw[hd,AW hl]
theorem oy{n:Nat}{args:List IN}{h:Hp}(hl:xU (BB args) 160=true):call AC (xM n) 53 args h=A3 [.t (J 2)] (d53 (call AC n) (AS e0 0 args) h):=by
 have hb:AC.get 53=some b53:=by kernel_rfl
 rw[Ab hb];have hd:b53=⟨[.t (J 2)],d53⟩:=by kernel_rfl
 rw[hd,AW hl]
theorem pA{n:Nat}{args:List IN}{h:Hp}(hl:xU (BB args) 160=true):call AC (xM n) 57 args h=A3 [.t (J 2)] (d57 (call AC n) (AS e0 0 args) h):=by
 have hb:AC.get 57=some b57:=by kernel_rfl
 rw[Ab hb];have hd:b57=⟨[.t (J 2)],d57⟩:=by kernel_rfl
 rw[hd,AW hl]
theorem Ia{n:Nat}{args:List IN}{h:Hp}(hl:xU (BB args) 160=true):call AC (xM n) 58 args h=A3 [.t (J 10)] (d58 (call AC n) (AS e0 0 args) h):=by
 have hb:AC.get 58=some b58:=by kernel_rfl
 rw[Ab hb];have hd:b58=⟨[.t (J 10)],d58⟩:=by kernel_rfl
 rw[hd,AW hl]
theorem Lz{n:Nat}{args:List IN}{h:Hp}(hl:xU (BB args) 160=true):call AC (xM n) 59 args h=A3 [.t (J 8)] (d59 (call AC n) (AS e0 0 args) h):=by
 have hb:AC.get 59=some b59:=by kernel_rfl
 rw[Ab hb];have hd:b59=⟨[.t (J 8)],d59⟩:=by kernel_rfl
 rw[hd,AW hl]
theorem Sf{n:Nat}{args:List IN}{h:Hp}(hl:xU (BB args) 160=true):call AC (xM n) 60 args h=A3 [.t (J 8)] (d60 (call AC n) (AS e0 0 args) h):=by
 have hb:AC.get 60=some b60:=by kernel_rfl
 rw[Ab hb];have hd:b60=⟨[.t (J 8)],d60⟩:=by kernel_rfl
 rw[hd,AW hl]
theorem pD{n:Nat}{args:List IN}{h:Hp}(hl:xU (BB args) 160=true):call AC (xM n) 63 args h=A3 [.cN (J 8) 5,.t (J 9)] (d63 (call AC n) (AS e0 0 args) h):=by
 have hb:AC.get 63=some b63:=by kernel_rfl
 rw[Ab hb];have hd:b63=⟨[.cN (J 8) 5,.t (J 9)],d63⟩:=by kernel_rfl
 rw[hd,AW hl]
theorem Y1{n:Nat}{args:List IN}{h:Hp}(hl:xU (BB args) 160=true):call AC (xM n) 64 args h=A3 [.t (J 8)] (d64 (call AC n) (AS e0 0 args) h):=by
 have hb:AC.get 64=some b64:=by kernel_rfl
 rw[Ab hb];have hd:b64=⟨[.t (J 8)],d64⟩:=by kernel_rfl
 rw[hd,AW hl]
theorem pG{n:Nat}{args:List IN}{h:Hp}(hl:xU (BB args) 160=true):call AC (xM n) 67 args h=A3 [.t (J 8)] (d67 (call AC n) (AS e0 0 args) h):=by
 have hb:AC.get 67=some b67:=by kernel_rfl
 rw[Ab hb];have hd:b67=⟨[.t (J 8)],d67⟩:=by kernel_rfl
 rw[hd,AW hl]
theorem pH{n:Nat}{args:List IN}{h:Hp}(hl:xU (BB args) 160=true):call AC (xM n) 68 args h=A3 [.cN (J 2) 5] (d68 (call AC n) (AS e0 0 args) h):=by
 have hb:AC.get 68=some b68:=by kernel_rfl
 rw[Ab hb];have hd:b68=⟨[.cN (J 2) 5],d68⟩:=by kernel_rfl
 rw[hd,AW hl]
theorem pI{n:Nat}{args:List IN}{h:Hp}(hl:xU (BB args) 160=true):call AC (xM n) 71 args h=A3 [.t (J 2)] (d71 (call AC n) (AS e0 0 args) h):=by
 have hb:AC.get 71=some b71:=by kernel_rfl
 rw[Ab hb];have hd:b71=⟨[.t (J 2)],d71⟩:=by kernel_rfl
 rw[hd,AW hl]
theorem pJ{n:Nat}{args:List IN}{h:Hp}(hl:xU (BB args) 160=true):call AC (xM n) 72 args h=A3 [.t (J 2)] (d72 (call AC n) (AS e0 0 args) h):=by
 have hb:AC.get 72=some b72:=by kernel_rfl
 rw[Ab hb];have hd:b72=⟨[.t (J 2)],d72⟩:=by kernel_rfl
 rw[hd,AW hl]
theorem pK{n:Nat}{args:List IN}{h:Hp}(hl:xU (BB args) 160=true):call AC (xM n) 73 args h=A3 [.cN (J 4) 6,.t (J 5),.t (J 6),.t (J 7)] (d73 (call AC n) (AS e0 0 args) h):=by
 have hb:AC.get 73=some b73:=by kernel_rfl
 rw[Ab hb];have hd:b73=⟨[.cN (J 4) 6,.t (J 5),.t (J 6),.t (J 7)],d73⟩:=by kernel_rfl
 rw[hd,AW hl]
theorem Y2{n:Nat}{args:List IN}{h:Hp}(hl:xU (BB args) 160=true):call AC (xM n) 74 args h=A3 [] (d74 (call AC n) (AS e0 0 args) h):=by
 have hb:AC.get 74=some b74:=by kernel_rfl
 rw[Ab hb];have hd:b74=⟨[],d74⟩:=by kernel_rfl
 rw[hd,AW hl]
theorem pL{n:Nat}{args:List IN}{h:Hp}(hl:xU (BB args) 160=true):call AC (xM n) 75 args h=A3 [.t (J 4)] (d75 (call AC n) (AS e0 0 args) h):=by
 have hb:AC.get 75=some b75:=by kernel_rfl
 rw[Ab hb];have hd:b75=⟨[.t (J 4)],d75⟩:=by kernel_rfl
 rw[hd,AW hl]
theorem pM{n:Nat}{args:List IN}{h:Hp}(hl:xU (BB args) 160=true):call AC (xM n) 76 args h=A3 [.t (J 2)] (d76 (call AC n) (AS e0 0 args) h):=by
 have hb:AC.get 76=some b76:=by kernel_rfl
 rw[Ab hb];have hd:b76=⟨[.t (J 2)],d76⟩:=by kernel_rfl
 rw[hd,AW hl]
theorem pN{n:Nat}{args:List IN}{h:Hp}(hl:xU (BB args) 160=true):call AC (xM n) 77 args h=A3 [.t (J 3)] (d77 (call AC n) (AS e0 0 args) h):=by
 have hb:AC.get 77=some b77:=by kernel_rfl
 rw[Ab hb];have hd:b77=⟨[.t (J 3)],d77⟩:=by kernel_rfl
 rw[hd,AW hl]
theorem pO{n:Nat}{args:List IN}{h:Hp}(hl:xU (BB args) 160=true):call AC (xM n) 78 args h=A3 [.t (J 4)] (d78 (call AC n) (AS e0 0 args) h):=by
 have hb:AC.get 78=some b78:=by kernel_rfl
 rw[Ab hb];have hd:b78=⟨[.t (J 4)],d78⟩:=by kernel_rfl
 rw[hd,AW hl]
theorem pP{n:Nat}{args:List IN}{h:Hp}(hl:xU (BB args) 160=true):call AC (xM n) 79 args h=A3 [.t (J 3)] (d79 (call AC n) (AS e0 0 args) h):=by
 have hb:AC.get 79=some b79:=by kernel_rfl
 rw[Ab hb];have hd:b79=⟨[.t (J 3)],d79⟩:=by kernel_rfl
 rw[hd,AW hl]
theorem pQ{n:Nat}{args:List IN}{h:Hp}(hl:xU (BB args) 160=true):call AC (xM n) 80 args h=A3 [.t (J 4)] (d80 (call AC n) (AS e0 0 args) h):=by
 have hb:AC.get 80=some b80:=by kernel_rfl
 rw[Ab hb];have hd:b80=⟨[.t (J 4)],d80⟩:=by kernel_rfl
 rw[hd,AW hl]
theorem Y3{n:Nat}{args:List IN}{h:Hp}(hl:xU (BB args) 160=true):call AC (xM n) 81 args h=A3 [.t (J 4)] (d81 (call AC n) (AS e0 0 args) h):=by
 have hb:AC.get 81=some b81:=by kernel_rfl
 rw[Ab hb];have hd:b81=⟨[.t (J 4)],d81⟩:=by kernel_rfl
 rw[hd,AW hl]
theorem Sh{n:Nat}{args:List IN}{h:Hp}(hl:xU (BB args) 160=true):call AC (xM n) 82 args h=A3 [.t (J 4),.t (J 5)] (d82 (call AC n) (AS e0 0 args) h):=by
 have hb:AC.get 82=some b82:=by kernel_rfl
 rw[Ab hb];have hd:b82=⟨[.t (J 4),.t (J 5)],d82⟩:=by kernel_rfl
 rw[hd,AW hl]
theorem Y4{n:Nat}{args:List IN}{h:Hp}(hl:xU (BB args) 160=true):call AC (xM n) 84 args h=A3 [.t (J 4),.t (J 5),.t (J 6)] (d84 (call AC n) (AS e0 0 args) h):=by
 have hb:AC.get 84=some b84:=by kernel_rfl
 rw[Ab hb];have hd:b84=⟨[.t (J 4),.t (J 5),.t (J 6)],d84⟩:=by kernel_rfl
 rw[hd,AW hl]
theorem pR{n:Nat}{args:List IN}{h:Hp}(hl:xU (BB args) 160=true):call AC (xM n) 87 args h=A3 [.t (J 4)] (d87 (call AC n) (AS e0 0 args) h):=by
 have hb:AC.get 87=some b87:=by kernel_rfl
 rw[Ab hb];have hd:b87=⟨[.t (J 4)],d87⟩:=by kernel_rfl
 rw[hd,AW hl]
theorem pT{n:Nat}{args:List IN}{h:Hp}(hl:xU (BB args) 160=true):call AC (xM n) 92 args h=A3 [.t (J 2)] (d92 (call AC n) (AS e0 0 args) h):=by
 have hb:AC.get 92=some b92:=by kernel_rfl
 rw[Ab hb];have hd:b92=⟨[.t (J 2)],d92⟩:=by kernel_rfl
 rw[hd,AW hl]
theorem Ib{n:Nat}{args:List IN}{h:Hp}(hl:xU (BB args) 160=true):call AC (xM n) 93 args h=A3 [.t (J 2)] (d93 (call AC n) (AS e0 0 args) h):=by
 have hb:AC.get 93=some b93:=by kernel_rfl
 rw[Ab hb];have hd:b93=⟨[.t (J 2)],d93⟩:=by kernel_rfl
 rw[hd,AW hl]
theorem pU{n:Nat}{args:List IN}{h:Hp}(hl:xU (BB args) 160=true):call AC (xM n) 94 args h=A3 [.t (J 2)] (d94 (call AC n) (AS e0 0 args) h):=by
 have hb:AC.get 94=some b94:=by kernel_rfl
 rw[Ab hb];have hd:b94=⟨[.t (J 2)],d94⟩:=by kernel_rfl
 rw[hd,AW hl]
theorem pV{n:Nat}{args:List IN}{h:Hp}(hl:xU (BB args) 160=true):call AC (xM n) 95 args h=A3 [.t (J 8)] (d95 (call AC n) (AS e0 0 args) h):=by
 have hb:AC.get 95=some b95:=by kernel_rfl
 rw[Ab hb];have hd:b95=⟨[.t (J 8)],d95⟩:=by kernel_rfl
 rw[hd,AW hl]
theorem Si{n:Nat}{args:List IN}{h:Hp}(hl:xU (BB args) 160=true):call AC (xM n) 96 args h=A3 [.t (J 4)] (d96 (call AC n) (AS e0 0 args) h):=by
 have hb:AC.get 96=some b96:=by kernel_rfl
 rw[Ab hb];have hd:b96=⟨[.t (J 4)],d96⟩:=by kernel_rfl
 rw[hd,AW hl]
theorem pW{n:Nat}{args:List IN}{h:Hp}(hl:xU (BB args) 160=true):call AC (xM n) 97 args h=A3 [.t (J 8)] (d97 (call AC n) (AS e0 0 args) h):=by
 have hb:AC.get 97=some b97:=by kernel_rfl
 rw[Ab hb];have hd:b97=⟨[.t (J 8)],d97⟩:=by kernel_rfl
 rw[hd,AW hl]
theorem Y5{n:Nat}{args:List IN}{h:Hp}(hl:xU (BB args) 160=true):call AC (xM n) 98 args h=A3 [.t (J 4),.t (J 5)] (d98 (call AC n) (AS e0 0 args) h):=by
 have hb:AC.get 98=some b98:=by kernel_rfl
 rw[Ab hb];have hd:b98=⟨[.t (J 4),.t (J 5)],d98⟩:=by kernel_rfl
 rw[hd,AW hl]
theorem pX{n:Nat}{args:List IN}{h:Hp}(hl:xU (BB args) 160=true):call AC (xM n) 99 args h=A3 [.t (J 6)] (d99 (call AC n) (AS e0 0 args) h):=by
 have hb:AC.get 99=some b99:=by kernel_rfl
 rw[Ab hb];have hd:b99=⟨[.t (J 6)],d99⟩:=by kernel_rfl
 rw[hd,AW hl]
theorem eG{n:Nat}{args:List IN}{h:Hp}(hl:xU (BB args) 160=true):call AC (xM n) 100 args h=A3 [.t (J 4)] (fL (call AC n) (AS e0 0 args) h):=by
 have hb:AC.get 100=some Wa:=by kernel_rfl
 rw[Ab hb];have hd:Wa=⟨[.t (J 4)],fL⟩:=by kernel_rfl
 rw[hd,AW hl]
theorem eH{n:Nat}{args:List IN}{h:Hp}(hl:xU (BB args) 160=true):call AC (xM n) 101 args h=A3 [.t (J 4)] (fM (call AC n) (AS e0 0 args) h):=by
 have hb:AC.get 101=some Wb:=by kernel_rfl
 rw[Ab hb];have hd:Wb=⟨[.t (J 4)],fM⟩:=by kernel_rfl
 rw[hd,AW hl]
theorem Hz{n:Nat}{args:List IN}{h:Hp}(hl:xU (BB args) 160=true):call AC (xM n) 102 args h=A3 [.t (J 2)] (Ob (call AC n) (AS e0 0 args) h):=by
 have hb:AC.get 102=some Wc:=by kernel_rfl
 rw[Ab hb];have hd:Wc=⟨[.t (J 2)],Ob⟩:=by kernel_rfl
 rw[hd,AW hl]
theorem OZ{n:Nat}{args:List IN}{h:Hp}(hl:xU (BB args) 160=true):call AC (xM n) 103 args h=A3 [.t (J 2)] (XW (call AC n) (AS e0 0 args) h):=by
 have hb:AC.get 103=some Wd:=by kernel_rfl
 rw[Ab hb];have hd:Wd=⟨[.t (J 2)],XW⟩:=by kernel_rfl
 rw[hd,AW hl]
theorem eI{n:Nat}{args:List IN}{h:Hp}(hl:xU (BB args) 160=true):call AC (xM n) 104 args h=A3 [.t (J 4)] (fO (call AC n) (AS e0 0 args) h):=by
 have hb:AC.get 104=some We:=by kernel_rfl
 rw[Ab hb];have hd:We=⟨[.t (J 4)],fO⟩:=by kernel_rfl
 rw[hd,AW hl]
theorem eJ{n:Nat}{args:List IN}{h:Hp}(hl:xU (BB args) 160=true):call AC (xM n) 105 args h=A3 [.t (J 4)] (fP (call AC n) (AS e0 0 args) h):=by
 have hb:AC.get 105=some Wi:=by kernel_rfl
 rw[Ab hb];have hd:Wi=⟨[.t (J 4)],fP⟩:=by kernel_rfl
 rw[hd,AW hl]
theorem eL{n:Nat}{args:List IN}{h:Hp}(hl:xU (BB args) 160=true):call AC (xM n) 109 args h=A3 [.t (J 4),.t (J 5)] (fR (call AC n) (AS e0 0 args) h):=by
 have hb:AC.get 109=some Wk:=by kernel_rfl
 rw[Ab hb];have hd:Wk=⟨[.t (J 4),.t (J 5)],fR⟩:=by kernel_rfl
 rw[hd,AW hl]
theorem LU{n:Nat}{args:List IN}{h:Hp}(hl:xU (BB args) 160=true):call AC (xM n) 110 args h=A3 [.t (J 4)] (Sp (call AC n) (AS e0 0 args) h):=by
 have hb:AC.get 110=some Wl:=by kernel_rfl
 rw[Ab hb];have hd:Wl=⟨[.t (J 4)],Sp⟩:=by kernel_rfl
 rw[hd,AW hl]
theorem eM{n:Nat}{args:List IN}{h:Hp}(hl:xU (BB args) 160=true):call AC (xM n) 111 args h=A3 [.t (J 2)] (fT (call AC n) (AS e0 0 args) h):=by
 have hb:AC.get 111=some Wn:=by kernel_rfl
 rw[Ab hb];have hd:Wn=⟨[.t (J 2)],fT⟩:=by kernel_rfl
 rw[hd,AW hl]
theorem I8{n:Nat}{args:List IN}{h:Hp}(hl:xU (BB args) 160=true):call AC (xM n) 112 args h=A3 [.cN (J 4) 5,.t (J 5),.t (J 6),.t (J 7)] (fU (call AC n) (AS e0 0 args) h):=by
 have hb:AC.get 112=some Wo:=by kernel_rfl
 rw[Ab hb];have hd:Wo=⟨[.cN (J 4) 5,.t (J 5),.t (J 6),.t (J 7)],fU⟩:=by kernel_rfl
 rw[hd,AW hl]
theorem UO{n:Nat}{args:List IN}{h:Hp}(hl:xU (BB args) 160=true):call AC (xM n) 113 args h=A3 [.t (J 6),.t (J 7)] (fV (call AC n) (AS e0 0 args) h):=by
 have hb:AC.get 113=some Wp:=by kernel_rfl
 rw[Ab hb];have hd:Wp=⟨[.t (J 6),.t (J 7)],fV⟩:=by kernel_rfl
 rw[hd,AW hl]
theorem UP{n:Nat}{args:List IN}{h:Hp}(hl:xU (BB args) 160=true):call AC (xM n) 114 args h=A3 [] (fX (call AC n) (AS e0 0 args) h):=by
 have hb:AC.get 114=some Wq:=by kernel_rfl
 rw[Ab hb];have hd:Wq=⟨[],fX⟩:=by kernel_rfl
 rw[hd,AW hl]
theorem eN{n:Nat}{args:List IN}{h:Hp}(hl:xU (BB args) 160=true):call AC (xM n) 115 args h=A3 [.t (J 2)] (fY (call AC n) (AS e0 0 args) h):=by
 have hb:AC.get 115=some Wr:=by kernel_rfl
 rw[Ab hb];have hd:Wr=⟨[.t (J 2)],fY⟩:=by kernel_rfl
 rw[hd,AW hl]
theorem UQ{n:Nat}{args:List IN}{h:Hp}(hl:xU (BB args) 160=true):call AC (xM n) 116 args h=A3 [.t (J 2)] (fZ (call AC n) (AS e0 0 args) h):=by
 have hb:AC.get 116=some Ws:=by kernel_rfl
 rw[Ab hb];have hd:Ws=⟨[.t (J 2)],fZ⟩:=by kernel_rfl
 rw[hd,AW hl]
theorem eO{n:Nat}{args:List IN}{h:Hp}(hl:xU (BB args) 160=true):call AC (xM n) 117 args h=A3 [.t (J 4)] (fa (call AC n) (AS e0 0 args) h):=by
 have hb:AC.get 117=some Wt:=by kernel_rfl
 rw[Ab hb];have hd:Wt=⟨[.t (J 4)],fa⟩:=by kernel_rfl
 rw[hd,AW hl]
theorem eP{n:Nat}{args:List IN}{h:Hp}(hl:xU (BB args) 160=true):call AC (xM n) 118 args h=A3 [.t (J 3)] (fb (call AC n) (AS e0 0 args) h):=by
 have hb:AC.get 118=some Wu:=by kernel_rfl
 rw[Ab hb];have hd:Wu=⟨[.t (J 3)],fb⟩:=by kernel_rfl
 rw[hd,AW hl]
theorem eQ{n:Nat}{args:List IN}{h:Hp}(hl:xU (BB args) 160=true):call AC (xM n) 119 args h=A3 [.t (J 3)] (fd (call AC n) (AS e0 0 args) h):=by
 have hb:AC.get 119=some Wv:=by kernel_rfl
 rw[Ab hb];have hd:Wv=⟨[.t (J 3)],fd⟩:=by kernel_rfl
 rw[hd,AW hl]
theorem UR{n:Nat}{args:List IN}{h:Hp}(hl:xU (BB args) 160=true):call AC (xM n) 120 args h=A3 [.t (J 4)] (ff (call AC n) (AS e0 0 args) h):=by
 have hb:AC.get 120=some Ww:=by kernel_rfl
 rw[Ab hb];have hd:Ww=⟨[.t (J 4)],ff⟩:=by kernel_rfl
 rw[hd,AW hl]
theorem eS{n:Nat}{args:List IN}{h:Hp}(hl:xU (BB args) 160=true):call AC (xM n) 121 args h=A3 [.t (J 4)] (fh (call AC n) (AS e0 0 args) h):=by
 have hb:AC.get 121=some Wx:=by kernel_rfl
 rw[Ab hb];have hd:Wx=⟨[.t (J 4)],fh⟩:=by kernel_rfl
 rw[hd,AW hl]
theorem eT{n:Nat}{args:List IN}{h:Hp}(hl:xU (BB args) 160=true):call AC (xM n) 122 args h=A3 [.t (J 2)] (fl (call AC n) (AS e0 0 args) h):=by
 have hb:AC.get 122=some Wy:=by kernel_rfl
 rw[Ab hb];have hd:Wy=⟨[.t (J 2)],fl⟩:=by kernel_rfl
 rw[hd,AW hl]
theorem eU{n:Nat}{args:List IN}{h:Hp}(hl:xU (BB args) 160=true):call AC (xM n) 123 args h=A3 [.t (J 6)] (fp (call AC n) (AS e0 0 args) h):=by
 have hb:AC.get 123=some Wz:=by kernel_rfl
 rw[Ab hb];have hd:Wz=⟨[.t (J 6)],fp⟩:=by kernel_rfl
 rw[hd,AW hl]
theorem eV{n:Nat}{args:List IN}{h:Hp}(hl:xU (BB args) 160=true):call AC (xM n) 124 args h=A3 [.t (J 2)] (fq (call AC n) (AS e0 0 args) h):=by
 have hb:AC.get 124=some W9:=by kernel_rfl
 rw[Ab hb];have hd:W9=⟨[.t (J 2)],fq⟩:=by kernel_rfl
 rw[hd,AW hl]
theorem eW{n:Nat}{args:List IN}{h:Hp}(hl:xU (BB args) 160=true):call AC (xM n) 127 args h=A3 [.t (J 5)] (fw (call AC n) (AS e0 0 args) h):=by
 have hb:AC.get 127=some XA:=by kernel_rfl
 rw[Ab hb];have hd:XA=⟨[.t (J 5)],fw⟩:=by kernel_rfl
 rw[hd,AW hl]
theorem eX{n:Nat}{args:List IN}{h:Hp}(hl:xU (BB args) 160=true):call AC (xM n) 128 args h=A3 [.t (J 6)] (fy (call AC n) (AS e0 0 args) h):=by
 have hb:AC.get 128=some XB:=by kernel_rfl
 rw[Ab hb];have hd:XB=⟨[.t (J 6)],fy⟩:=by kernel_rfl
 rw[hd,AW hl]
theorem eY{n:Nat}{args:List IN}{h:Hp}(hl:xU (BB args) 160=true):call AC (xM n) 129 args h=A3 [.t (J 3)] (f0 (call AC n) (AS e0 0 args) h):=by
 have hb:AC.get 129=some XC:=by kernel_rfl
 rw[Ab hb];have hd:XC=⟨[.t (J 3)],f0⟩:=by kernel_rfl
 rw[hd,AW hl]
theorem eZ{n:Nat}{args:List IN}{h:Hp}(hl:xU (BB args) 160=true):call AC (xM n) 130 args h=A3 [.t (J 6)] (gA (call AC n) (AS e0 0 args) h):=by
 have hb:AC.get 130=some XD:=by kernel_rfl
 rw[Ab hb];have hd:XD=⟨[.t (J 6)],gA⟩:=by kernel_rfl
 rw[hd,AW hl]
theorem ee{n:Nat}{args:List IN}{h:Hp}(hl:xU (BB args) 160=true):call AC (xM n) 133 args h=A3 [.t (J 4)] (gE (call AC n) (AS e0 0 args) h):=by
 have hb:AC.get 133=some XF:=by kernel_rfl
 rw[Ab hb];have hd:XF=⟨[.t (J 4)],gE⟩:=by kernel_rfl
 rw[hd,AW hl]
theorem LV{n:Nat}{args:List IN}{h:Hp}(hl:xU (BB args) 160=true):call AC (xM n) 134 args h=A3 [.t (J 4)] (gF (call AC n) (AS e0 0 args) h):=by
 have hb:AC.get 134=some XG:=by kernel_rfl
 rw[Ab hb];have hd:XG=⟨[.t (J 4)],gF⟩:=by kernel_rfl
 rw[hd,AW hl]
theorem ef{n:Nat}{args:List IN}{h:Hp}(hl:xU (BB args) 160=true):call AC (xM n) 135 args h=A3 [.t (J 2)] (gG (call AC n) (AS e0 0 args) h):=by
 have hb:AC.get 135=some XH:=by kernel_rfl
 rw[Ab hb];have hd:XH=⟨[.t (J 2)],gG⟩:=by kernel_rfl
 rw[hd,AW hl]
theorem US{n:Nat}{args:List IN}{h:Hp}(hl:xU (BB args) 160=true):call AC (xM n) 136 args h=A3 [] (gH (call AC n) (AS e0 0 args) h):=by
 have hb:AC.get 136=some XI:=by kernel_rfl
 rw[Ab hb];have hd:XI=⟨[],gH⟩:=by kernel_rfl
 rw[hd,AW hl]
theorem eh{n:Nat}{args:List IN}{h:Hp}(hl:xU (BB args) 160=true):call AC (xM n) 145 args h=A3 [.t (J 2)] (gI (call AC n) (AS e0 0 args) h):=by
 have hb:AC.get 145=some XJ:=by kernel_rfl
 rw[Ab hb];have hd:XJ=⟨[.t (J 2)],gI⟩:=by kernel_rfl
 rw[hd,AW hl]
theorem UT{n:Nat}{args:List IN}{h:Hp}(hl:xU (BB args) 160=true):call AC (xM n) 146 args h=A3 [.t (J 2)] (ZJ (call AC n) (AS e0 0 args) h):=by
 have hb:AC.get 146=some XK:=by kernel_rfl
 rw[Ab hb];have hd:XK=⟨[.t (J 2)],ZJ⟩:=by kernel_rfl
 rw[hd,AW hl]
theorem eo{n:Nat}{args:List IN}{h:Hp}(hl:xU (BB args) 160=true):call AC (xM n) 147 args h=A3 [.t (J 2)] (gJ (call AC n) (AS e0 0 args) h):=by
 have hb:AC.get 147=some XL:=by kernel_rfl
 rw[Ab hb];have hd:XL=⟨[.t (J 2)],gJ⟩:=by kernel_rfl
 rw[hd,AW hl]
theorem et{n:Nat}{args:List IN}{h:Hp}(hl:xU (BB args) 160=true):call AC (xM n) 148 args h=A3 [.t (J 4)] (gK (call AC n) (AS e0 0 args) h):=by
 have hb:AC.get 148=some XM:=by kernel_rfl
 rw[Ab hb];have hd:XM=⟨[.t (J 4)],gK⟩:=by kernel_rfl
 rw[hd,AW hl]
end
set_option linter.unusedVariables false
set_option linter.unusedSimpArgs false
noncomputable section
open Go
set_option maxRecDepth 100000
theorem mC:Ba ty5.zero 1=[.int .u8 0]:=by kernel_rfl
theorem qJ:d87=G 4 (AQ (kV (.slice none 0 0))) (BH (Ac 0 (A6 NH)) ce):=rfl
theorem YX{F:AEB}{h0 h:Hp}{k:Nat}(x0:h0.Ext h)(hk:h0.next<=k)(hk2:k<=h.next){v:IN}{l:List Nat}(o:h.Own k 5 v (l.map bv))(hl:l.length<=1000000){N:Nat}(hN:N<18446744073709551616){e:Env}(s0:J 0 e=v)(s1:J 1 e=.int .u64 (N:Int)):
  ∃ e' h' v' xs m,A6 NH F e h=.exit 0 e' h'/\J 0 e'=v'/\J 1 e'=.int .u64 ((m:Nat):Int)/\m<128/\l++CB N=xs++[m]/\h0.Ext h'/\h'.Own k 5 v' (xs.map bv)/\h.next<=h'.next/\(∀ b el L,¬ AEe v b->h.Row b el L->h'.Row b el L/\¬ AEe v' b):=by
 have AJk:=Km hN;refine Be (I:=fun i e' h'=>∃ v' xs m,J 0 e'=v'/\J 1 e'=.int .u64 ((m:Nat):Int)/\m<18446744073709551616/\l++CB N=xs++CB m/\i+(CB m).length=(CB N).length/\h0.Ext h'/\h'.Own k 5 v' (xs.map bv)/\h.next<=h'.next/\(∀ b el L,¬ AEe v b->h.Row b el L->h'.Row b el L/\¬ AEe v' b))
  (Q:=fun x=>∃ e' h' v' xs m,x=.exit 0 e' h'/\J 0 e'=v'/\J 1 e'=.int .u64 ((m:Nat):Int)/\m<128/\l++CB N=xs++[m]/\h0.Ext h'/\h'.Own k 5 v' (xs.map bv)/\h.next<=h'.next/\(∀ b el L,¬ AEe v b->h.Row b el L->h'.Row b el L/\¬ AEe v' b)) 20 (by omega) (fun i e' h' ⟨v',xs,m,t0,t1,hm,hx,hi,x1,o1,hn,fr⟩=>?_)
  ⟨v,l,N,s0,s1,hN,rfl,OF _,x0,o,IT _,fun b el L hb r=>⟨r,hb⟩⟩
 have hlen:=congrArg AAw hx;rw[No,No]at hlen;by_cases h1:m<128
 ·right
  have c1:iGt (m:Int) 127=false:=by rw[Gj];simp;omega
  have hrun:NH F e' h'=.exit 0 (Env.set 6 (.bool false) e') h':=by
   unfold NH;simp only[sT,By,BY,reduceIte,AK,AJ,t1,c1]
  rw[hrun];refine⟨rfl,_,_,v',xs,m,rfl,by simp[AG,t0],by simp[AG,t1],h1,?_,x1,o1,hn,fr⟩;rw[hx,E8 h1]
 ·left
  have W:=x1.wf;have c1:iGt (m:Int) 127=true:=by rw[Gj];simp;omega
  have r1:YI .u64 (.int .u64 (m:Int)) (.int .u64 128) h'=.ok (.int .u64 ((m % 128:Nat):Int)) h':=by rw[PP (by omega)];rfl
  have a1:FE .u64 (.int .u64 ((m % 128:Nat):Int)) (.int .u64 128) h'=.ok (.int .u64 ((m % 128+128:Nat):Int)) h':=by
   have:ACK.wrap (((m % 128:Nat):Int)+128)=((m % 128+128:Nat):Int):=by
    rw[show((m % 128:Nat):Int)+128=((m % 128+128:Nat):Int)by omega];exact EY (by omega)
   rw[D0,this]
  have v1:Dr .u8 (.int .u64 ((m % 128+128:Nat):Int)) h'=.ok (.int .u8 ((m % 128+128:Nat):Int)) h':=by
   rw[C5,IK,AAU (show m % 128+128<256 by omega)]
  have os:∀ e,J 11 e=.int .u8 ((m % 128+128:Nat):Int)->As 1 (Ba ty5.zero 1) [(0,1,J 11)] F e h'=.ok (.slice (some ⟨h'.next,0,none⟩) 1 1) (h'.AEA 0 [.int .u8 ((m % 128+128:Nat):Int)]):=fun e he=>by rw[mC];exact IF W he rfl rfl
  have hpos:=YW (m/128);rw[Gd (n:=m) (by omega)]at hi hlen hx;rw[xP]at hi hlen;obtain⟨h2,v2,a2,x2,o2,hn2,fr2⟩:=Ji (eb:=1) (n:=((m % 128+128:Nat):Int)) (kd:=.u8) x1 hk (yO hk2 hn) o1 (by rw[sh];omega);have d1:Ss .u64 (.int .u64 (m:Int)) (.int .u64 128) h2=.ok (.int .u64 ((m/128:Nat):Int)) h2:=by
   have:ACK.wrap ((m:Int).tdiv 128)=((m/128:Nat):Int):=EY (n:=m/128) (by omega);rw[LX (by omega),this]
  have hrun:∃ e2,NH F e' h'=.norm e2 h2/\J 0 e2=v2/\J 1 e2=.int .u64 ((m/128:Nat):Int):=by
   unfold NH;simp only[sT,By,BY,reduceIte,AK,AJ,t1,c1,Jf,r1,BP,a1,Ca,v1,os,BL,t0,a2,Je,d1];exact⟨_,rfl,by simp[AG]⟩
  obtain⟨e2,b1,b2,b3⟩:=hrun;refine⟨by omega,e2,h2,b1,v2,xs++[m % 128+128],m/128,b2,b3,by omega,?_,by omega,x2,?_,by omega,fun b el L hb r=>?_⟩
  ·rw[hx];simp
  ·rw[yR];exact o2
  ·obtain⟨r1,r2⟩:=fr b el L hb r
   exact fr2 b el L r2 r1
theorem kH{n:Nat}{h0 h:Hp}{k:Nat}(x0:h0.Ext h)(hk:h0.next<=k)(hk2:k<=h.next){v:IN}{l:List Nat}(o:h.Own k 5 v (l.map bv))(hl:l.length<=1000000){N:Nat}(hN:N<18446744073709551616):
  ∃ h' v',call AC (n+1) 87 [v,.int .u64 (N:Int)] h=.ok v' h'/\h0.Ext h'/\h'.Own k 5 v' ((l++CB N).map bv)/\h.next<=h'.next/\(∀ b el L,¬ AEe v b->h.Row b el L->h'.Row b el L/\¬ AEe v' b):=by
 obtain⟨e1,h1,v1,xs,m,q1,s0,s1,hm,hx,x1,o1,hn,fr⟩:=YX (F:=call AC n) x0 hk hk2 o hl hN (e:=Env.set 4 (.slice none 0 0) (Env.set 1 (.int .u64 (N:Int)) (Env.set 0 v e0))) (by simp[AG]) (by simp[AG]);have W:=x1.wf;have AJk:=Km hN;have hlen:=congrArg AAw hx;rw[No,No,List.length_singleton]at hlen;have c1:Dr .u8 (.int .u64 (m:Int)) h1=.ok (.int .u8 (m:Int)) h1:=by
  rw[C5,IK,AAU (show m<256 by omega)]
 have os:∀ e,J 18 e=.int .u8 (m:Int)->As 1 (Ba ty5.zero 1) [(0,1,J 18)] (call AC n) e h1=.ok (.slice (some ⟨h1.next,0,none⟩) 1 1) (h1.AEA 0 [.int .u8 (m:Int)]):=fun e he=>by rw[mC];exact IF W he rfl rfl
 obtain⟨h2,v2,a2,x2,o2,hn2,fr2⟩:=Ji (eb:=1) (n:=(m:Int)) (kd:=.u8) x1 hk (yO hk2 hn) o1 (by rw[sh];omega);refine⟨h2,v2,?_,x2,?_,by omega,fun b el L hb r=>?_⟩
 ·rw[pR rfl,qJ]
  simp only[iN,IS,AG,By,BY,reduceIte,Gg,Gq,Dx,Gp,HZ,BJ,Az];rw[q1];simp only[A9,BD];unfold ce;simp only[sT,By,BY,reduceIte,Ca,s1,c1,os,BL,s0,a2,lV0]
 ·rw[hx,yR];exact o2
 ·obtain⟨r1,r2⟩:=fr b el L hb r
  exact fr2 b el L r2 r1
def mD(l:List Nat)(p:Nat)(a b c:Int):Prop:=(∃ v j:Nat,Fs 0 0 (l.drop p)=some (v,j)/\a=(v:Int)/\b=((p+j:Nat):Int)/\c=0)\/(Fs 0 0 (l.drop p)=none/\c≠0)
def Ol:C:=(Bm 46
(G 4 (AQ (kV (.int .u64 0)))
(G 5 (AQ (kV (AI AT 0)))
(G 6 (AQ (kV (AI AT 10)))
Aq)))
(G 49 (PF .u8 (J 9) (kV (.int .u8 128)))
(G 50 (C6 .u64 (J 49))
(G 52 (C1 ABw .i64 (kV (AI AT 7)) (J 10))
(G 53 (NS .u64 (J 50) (J 52))
(G 54 (CI .u64 (BG .u64) (J 7) (J 53))
(G 7 (Am 54)
(G 56 (Ah iLt .u8 (J 9) (kV (.int .u8 128)))
(Bm 56
(G 59 (CI .i64 (BG .i64) (J 8) (kV (AI AT 1)))
(G 4 (Am 7)
(G 5 (Am 59)
(G 6 (AQ (kV (AI AT 0)))
Aq))))
Aw)))))))))
def qj(K:C):C:=(G 34 (Ah iGt .i64 (J 10) (kV (AI AT 0)))
(Al 34 true 36 (Am 9)
(Al 34 true 37 (Ah iEq .u8 (J 36) (kV (.int .u8 0)))
(G 38 (A5 (J 34) (J 37) (kV (.bool false)))
(Al 38 false 40 (Am 10)
(Al 38 false 41 (Ah iGt .i64 (J 40) (kV (AI AT 8)))
(Al 38 false 42 (Am 41)
(Al 42 true 43 (Am 9)
(Al 42 true 44 (Ah iGt .u8 (J 43) (kV (.int .u8 1)))
(Al 38 false 45 (A5 (J 42) (J 44) (kV (.bool false)))
(G 46 (A5 (J 38) (kV (.bool true)) (J 45))
K)))))))))))
theorem VD:QQ=G 22 (Bg (J 0)) (G 23 (Ah iLt .i64 (J 8) (J 22)) (Bm 23 (BH (Ac 1 (G 28 (CF 1 (J 0) (J 8)) (G 29 (AO (J 28)) (G 32 (C1 yQ .i64 (J 8) (J 1)) (G 9 (Am 29) (G 10 (Am 32) (qj Ol))))))) (G 25 (CI .i64 (BG .i64) (J 8) (kV (AI AT 1))) (G 8 (Am 25) Aw))) (CD 0))):=rfl
theorem gu{K:C}{F:AEB}{h:Hp}{e:Env}{c i:Nat}{b1 b2 b3 b4:Bool}(s9:J 9 e=.int .u8 (c:Int))(s10:J 10 e=AI AT (i:Int))(i1:iGt (i:Int) 0=b1)(i2:iEq (c:Int) 0=b2)(i3:iGt (i:Int) 8=b3)(i4:iGt (c:Int) 1=b4):
  ∃ e',qj K F e h=K F e' h/\J 46 e'=.bool ((b1 && b2) || (b3 && b4))/\J 0 e'=J 0 e/\J 1 e'=J 1 e/\J 7 e'=J 7 e/\J 8 e'=J 8 e/\J 9 e'=J 9 e/\J 10 e'=J 10 e:=by
 unfold qj;cases b1<;>cases b2<;>cases b3<;>cases b4<;>
 ·simp only[sT,By,BY,reduceIte,gD,AK,AJ,s9,s10,i1,i2,i3,i4]
  exact⟨_,rfl,by simp[AG],by simp[AG],by simp[AG],by simp[AG],by simp[AG],by simp only[AG,By,BY,reduceIte,s9],by simp only[AG,By,BY,reduceIte,s10]⟩
theorem RK{i:Nat}(hi:i<=9):2 ^ (7*i)<=9223372036854775808:=by
 have:2 ^ (7*i)<=2 ^ 63:=Nat.pow_le_pow_right (by omega) (by omega);have e:(2:Nat) ^ 63=9223372036854775808:=rfl;omega
theorem Zq{F:AEB}{h:Hp}{u:IN}{l:List Nat}{p:Nat}(V:h.AEY u (l.map bv))(hb:∀ x∈l,x<256)(hp:p<=l.length)(hl:l.length<=1000000){e:Env}(s0:J 0 e=u)(s1:J 1 e=AI AT (p:Int))(s7:J 7 e=.int .u64 0)(s8:J 8 e=AI AT (p:Int)):
  (∃ e',A6 QQ F e h=.exit 0 e' h/\Fs 0 0 (l.drop p)=none)\/(∃ e' a b c,A6 QQ F e h=.ret e' h/\J 4 e'=.int .u64 a/\J 5 e'=AI AT b/\J 6 e'=AI AT c/\mD l p a b c):=by
 have Vl:AEv u h=.ok (AI AT (l.length:Int)) h:=by have:=V.len;rwa [sh]at this
 refine Be (I:=fun i e' h'=>h'=h/\∃ acc:Nat,J 0 e'=u/\J 1 e'=AI AT (p:Int)/\J 7 e'=.int .u64 (acc:Int)/\J 8 e'=AI AT ((p+i:Nat):Int)/\acc<2 ^ (7*i)/\i<=9/\p+i<=l.length/\Fs 0 0 (l.drop p)=Fs i acc (l.drop (p+i)))
  (Q:=fun x=>(∃ e',x=.exit 0 e' h/\Fs 0 0 (l.drop p)=none)\/(∃ e' a b c,x=.ret e' h/\J 4 e'=.int .u64 a/\J 5 e'=AI AT b/\J 6 e'=AI AT c/\mD l p a b c)) 20 (by omega) (fun i e' h' ⟨hh,acc,t0,t1,t7,t8,hacc,hi9,hpi,hu⟩=>?_)
  ⟨rfl,0,s0,s1,s7,s8,by decide,by omega,hp,rfl⟩
 subst hh;by_cases hlt:p+i<l.length
 ·have hc:l.getD (p+i) 0<256:=hb _ (by rw[xN,xL hlt];exact List.getElem_mem hlt)
  have hd:l.drop (p+i)=l.getD (p+i) 0::l.drop (p+i+1):=by
   rw[zD hlt,xN,xL hlt];rfl
  have hel:(l.map bv).getD (p+i) AEE=.int .u8 ((l.getD (p+i) 0:Nat):Int):=by
   rw[xN,yk,xN,xL hlt];rfl
  obtain⟨a,g1,g2⟩:=V.at (i:=p+i) (by rw[sh];exact hlt);rw[hel]at g2;rw[hd]at hu;generalize l.getD (p+i) 0=c at hc g2 hu;have c1:iLt ((p+i:Nat):Int) (l.length:Int)=true:=by rw[DB];simp;omega
  have a2:GG yQ .i64 (AI AT ((p+i:Nat):Int)) (AI AT (p:Int)) h'=.ok (AI AT (i:Int)) h':=by
   have:yQ ((p+i:Nat):Int) (p:Int)=(i:Int):=by show((p+i:Nat):Int) - (p:Int)=i;omega
   rw[Ck,this,Bj (by omega)]
  have a3:FE .i64 (AI AT ((p+i:Nat):Int)) (AI AT 1) h'=.ok (AI AT ((p+(i+1):Nat):Int)) h':=by
   have:((p+i:Nat):Int)+1=((p+(i+1):Nat):Int):=by omega
   rw[D0,this,Bj (by omega)]
  have pre:∃ e2,QQ F e' h'=YM (J7 1 (Ol F e2 h')) (G 25 (CI .i64 (BG .i64) (J 8) (kV (AI AT 1))) (G 8 (Am 25) Aw)) F/\J 46 e2=.bool ((decide (0<i) && decide (c=0)) || (decide (8<i) && decide (1<c)))/\J 0 e2=u/\J 1 e2=AI AT (p:Int)/\J 7 e2=.int .u64 (acc:Int)/\J 8 e2=AI AT ((p+i:Nat):Int)/\J 9 e2=.int .u8 (c:Int)/\J 10 e2=AI AT (i:Int):=by
   obtain⟨e2,q1,q2,q3,q4,q5,q6,q7,q8⟩:=gu (K:=Ol) (F:=F) (h:=h') (e:=Env.set 10 (AI AT (i:Int)) (Env.set 9 (.int .u8 (c:Int)) (Env.set 32 (AI AT (i:Int)) (Env.set 29 (.int .u8 (c:Int)) (Env.set 28 (.pointer (some a)) (Env.set 23 (.bool true) (Env.set 22 (AI AT (l.length:Int)) e'))))))) (c:=c) (i:=i) (b1:=decide (0<i)) (b2:=decide (c=0)) (b3:=decide (8<i)) (b4:=decide (1<c))
    (by simp[AG]) (by simp[AG]) (by rw[Gj,decide_eq_decide];omega) (by rw[DZ,zH,beq_iff_eq,decide_eq_true_eq];omega) (by rw[Gj,decide_eq_decide];omega) (by rw[Gj,decide_eq_decide];omega)
   refine⟨e2,?_,q2,?_,?_,?_,?_,?_,?_⟩
   ·rw[VD]
    simp only[Gg,HJ,OX,BJ,Az,Gq,Ie,Dx,Gp,HZ,AG,By,BY,reduceIte,Ae,t0,Vl,AK,AJ,t8,c1,A8,g1,AM,g2,B5,t1,a2,q1]
   ·rw[q3];simp only[AG,By,BY,reduceIte];exact t0
   ·rw[q4];simp only[AG,By,BY,reduceIte];exact t1
   ·rw[q5];simp only[AG,By,BY,reduceIte];exact t7
   ·rw[q6];simp only[AG,By,BY,reduceIte];exact t8
   ·rw[q7];simp only[AG,By,BY,reduceIte]
   ·rw[q8];simp only[AG,By,BY,reduceIte]
  obtain⟨e2,p1,p46,p0,pp1,p7,p8,p9,p10⟩:=pre;rw[Fs]at hu;by_cases AGH:(0<i/\c=0)\/(8<i/\1<c)
  ·right
   have hB:((decide (0<i) && decide (c=0)) || (decide (8<i) && decide (1<c)))=true:=by simpa using AGH
   rw[hB]at p46;rw[if_pos AGH]at hu;have hrun:∃ e3,Ol F e2 h'=.ret e3 h'/\J 4 e3=.int .u64 0/\J 5 e3=AI AT 0/\J 6 e3=AI AT 10:=by
    unfold Ol;simp only[sT,By,BY,reduceIte,p46];exact⟨_,rfl,by simp[AG]⟩
   obtain⟨e3,r1,r4,r5,r6⟩:=hrun;rw[p1,r1,CJ,C7];exact⟨rfl,.inr ⟨e3,0,0,10,rfl,r4,r5,r6,.inr ⟨hu,by omega⟩⟩⟩
  ·have hB:((decide (0<i) && decide (c=0)) || (decide (8<i) && decide (1<c)))=false:=by
    rw[<- Bool.not_eq_true];simpa using AGH
   rw[hB]at p46;rw[if_neg AGH]at hu;have hle:acc+c % 128*2 ^ (7*i)<2 ^ (7*(i+1)):=by
    rw[Mz];have h1:c % 128<=127:=by omega
    have h2:=ACf (2 ^ (7*i)) h1;omega
   have AKf:c % 128*2 ^ (7*i)<=9223372036854775808/\acc<9223372036854775808:=by
    have h3:=RK hi9;refine⟨?_,by omega⟩;rcases Nat.lt_or_ge i 9 with h4|h4
    ·have h5:2 ^ (7*(i+1))<=9223372036854775808:=RK (by omega)
     omega
    ·have h5:c % 128<=1:=by omega
     have h6:=ACf (2 ^ (7*i)) h5;omega
   have m1:YI .u8 (.int .u8 (c:Int)) (.int .u8 128) h'=.ok (.int .u8 ((c % 128:Nat):Int)) h':=by rw[PP (by omega)];rfl
   have m2:Dr .u64 (.int .u8 ((c % 128:Nat):Int)) h'=.ok (.int .u64 ((c % 128:Nat):Int)) h':=by rw[C5,EY (by omega)]
   have m3:GG ABw .i64 (AI AT 7) (AI AT (i:Int)) h'=.ok (AI AT ((7*i:Nat):Int)) h':=by
    have:ABw 7 (i:Int)=((7*i:Nat):Int):=by show(7:Int)*(i:Int)=_;omega
    rw[Ck,this,Bj (by omega)]
   have m4:jt .u64 (.int .u64 ((c % 128:Nat):Int)) (AI AT ((7*i:Nat):Int)) h'=.ok (.int .u64 ((c % 128*2 ^ (7*i):Nat):Int)) h':=by
    have:min (7*i) ACK.bits=7*i:=ABe (by show 7*i<=64;omega);rw[ju,this,EY (by omega)]
   have m5:FE .u64 (.int .u64 (acc:Int)) (.int .u64 ((c % 128*2 ^ (7*i):Nat):Int)) h'=.ok (.int .u64 ((acc+c % 128*2 ^ (7*i):Nat):Int)) h':=by
    rw[D0,<- Int.natCast_add,EY (by omega)]
   by_cases hsm:c<128
   ·right
    rw[if_pos hsm]at hu;have c2:iLt (c:Int) 128=true:=by rw[DB];simp;omega
    have hrun:∃ e3,Ol F e2 h'=.ret e3 h'/\J 4 e3=.int .u64 ((acc+c % 128*2 ^ (7*i):Nat):Int)/\J 5 e3=AI AT ((p+(i+1):Nat):Int)/\J 6 e3=AI AT 0:=by
     unfold Ol;simp only[sT,By,BY,reduceIte,p46,Jf,p9,m1,Ca,m2,B5,p10,m3,Vq,m4,BP,p7,m5,AK,AJ,c2,p8,a3];exact⟨_,rfl,by simp[AG]⟩
    obtain⟨e3,r1,r4,r5,r6⟩:=hrun;rw[p1,r1,CJ,C7];refine⟨rfl,.inr ⟨e3,_,_,_,rfl,r4,r5,r6,.inl ⟨_,_,hu,?_,rfl,rfl⟩⟩⟩;rw[AAU hsm]
   ·left
    rw[if_neg hsm]at hu;have hi8:i<=8:=by omega
    have c2:iLt (c:Int) 128=false:=by rw[DB];simp;omega
    have hrun:∃ e3,Ol F e2 h'=.norm e3 h'/\J 0 e3=u/\J 1 e3=AI AT (p:Int)/\J 7 e3=.int .u64 ((acc+c % 128*2 ^ (7*i):Nat):Int)/\J 8 e3=AI AT ((p+i:Nat):Int):=by
     unfold Ol;simp only[sT,By,BY,reduceIte,p46,Jf,p9,m1,Ca,m2,B5,p10,m3,Vq,m4,BP,p7,m5,AK,AJ,c2,p8,a3];exact⟨_,rfl,by simp[AG,p0,pp1,p8]⟩
    obtain⟨e3,r1,r0,rr1,r7,r8⟩:=hrun;have AGd:∃ e4,QQ F e' h'=.norm e4 h'/\J 0 e4=u/\J 1 e4=AI AT (p:Int)/\J 7 e4=.int .u64 ((acc+c % 128*2 ^ (7*i):Nat):Int)/\J 8 e4=AI AT ((p+(i+1):Nat):Int):=by
     rw[p1,r1];simp only[C4,BD,Gg,Gq,BP,r8,HZ,a3,Dx,Gp,Ly,AG,By,BY,reduceIte];exact⟨_,rfl,by simp[AG,r0,rr1,r7]⟩
    obtain⟨e4,k1,k2,k3,k4,k5⟩:=AGd;exact⟨by omega,e4,h',k1,rfl,_,k2,k3,k4,k5,hle,by omega,by omega,hu⟩
 ·right
  have c1:iLt ((p+i:Nat):Int) (l.length:Int)=false:=by rw[DB];simp;omega
  have hrun:∃ e2,QQ F e' h'=.exit 0 e2 h':=by
   rw[VD];simp only[sT,By,BY,reduceIte,Ae,t0,Vl,AK,AJ,t8,c1];exact⟨_,rfl⟩
  obtain⟨e2,r1⟩:=hrun;rw[r1];refine⟨rfl,.inl ⟨e2,rfl,?_⟩⟩;rw[hu,yw (by omega)];rfl
theorem VG:MQ=G 7 (AQ (kV (.int .u64 0))) (G 8 (Am 1) (BH (Ac 0 (A6 QQ)) qh)):=rfl
theorem ZO:d84=gW:=rfl
theorem ql{n:Nat}{h:Hp}{u:IN}{l:List Nat}{p:Nat}(V:h.AEY u (l.map bv))(hb:∀ x∈l,x<256)(hp:p<=l.length)(hl:l.length<=1000000):
  ∃ a b c,call AC (n+1) 84 [u,AI AT (p:Int)] h=.ok (.tuple ⟨[.int .u64 a,AI AT b,AI AT c]⟩) h/\mD l p a b c:=by
 have Vl:AEv u h=.ok (AI AT (l.length:Int)) h:=by have:=V.len;rwa [sh]at this
 have c0:iLt (p:Int) 0=false:=by rw[DB];simp
 have c1:iGt (p:Int) (l.length:Int)=false:=by rw[Gj];simp;omega
 have pre:∃ e1,gW (call AC n) (AS e0 0 [u,AI AT (p:Int)]) h=MQ (call AC n) e1 h/\J 0 e1=u/\J 1 e1=AI AT (p:Int):=by
  unfold gW;simp only[iN,IS,Gg,HJ,OX,Gq,HL,Dx,Gp,HZ,AG,By,BY,reduceIte,gD,AK,AJ,c0,Ae,Vl,c1];exact⟨_,rfl,by simp[AG]⟩
 obtain⟨e1,p1,p2,p3⟩:=pre;have H:=Zq (F:=call AC n) (e:=Env.set 8 (AI AT (p:Int)) (Env.set 7 (.int .u64 0) e1)) V hb hp hl (by simp[AG,p2]) (by simp[AG,p3]) (by simp[AG]) (by simp[AG]);rcases H with ⟨e2,q1,q2⟩|⟨e2,a,b,c,q1,q4,q5,q6,q7⟩
 ·refine⟨0,0,11,?_,.inr ⟨q2,by omega⟩⟩
  rw[Y4 rfl,ZO,p1,VG];simp only[Gg,Gq,Dx,Gp,HZ,AG,By,BY,reduceIte,p3,BJ,Az];rw[q1];simp only[A9,BD];unfold qh;simp only[sT,By,BY,reduceIte,BE,MM]
 ·refine⟨a,b,c,?_,q7⟩
  rw[Y4 rfl,ZO,p1,VG];simp only[Gg,Gq,Dx,Gp,HZ,AG,By,BY,reduceIte,p3,BJ,Az];rw[q1];simp only[CJ,C7];simp only[BE,MM,q4,q5,q6]
end
noncomputable section
open Go
def PV(T:List Nat):Nat->List Nat->Nat
 |s,[]=>s
 |s,b::l=>PV T (zk (T.getD (zk (s % 256) b) 0) (s/256)) l
def CC(T l:List Nat):Nat:=4294967295 - PV T 4294967295 l
def AE5(T:List Nat):Prop:=T.length=256/\∀ i,T.getD i 0<4294967296
theorem kJ{a b:Nat}(ha:a<256)(hb:b<256):zk a b<256:=ACq (n:=8) ha hb
theorem cj{a b:Nat}(ha:a<4294967296)(hb:b<4294967296):zk a b<4294967296:=ACq (n:=32) ha hb
theorem OO{T:List Nat}(hT:AE5 T){s:Nat}(hs:s<4294967296)(b:Nat):zk (T.getD (zk (s % 256) b) 0) (s/256)<4294967296:=cj (hT.2 _) (by omega)
theorem WJ{T:List Nat}(hT:AE5 T):∀ (l:List Nat) (s:Nat),s<4294967296->PV T s l<4294967296
 |[],s,hs=>hs
 |b::l,s,hs=>WJ hT l _ (OO hT hs b)
theorem IJ(T l:List Nat):CC T l<4294967296:=by unfold CC;omega
def G0(s:Nat):List Nat:=[s/16777216 % 256,s/65536 % 256,s/256 % 256,s % 256]
def Ec(T l:List Nat):List Nat:=l++G0 (CC T l)
theorem IG(T l:List Nat):(Ec T l).length=l.length+4:=by unfold Ec;rw[No];rfl
theorem j7(s x:Nat)(h:x∈G0 s):x<256:=by
 unfold G0 at h;simp only[xe,List.mem_nil_iff,or_false]at h;omega
theorem Rh{T l:List Nat}(h:∀ x∈l,x<256):∀ x∈Ec T l,x<256:=fun x hx=>by
 rcases yH.1 hx with h1|h1
 ·exact h x h1
 ·exact j7 _ x h1
def Bz(ns:List Nat):List Nat:=ns.flatMap CB
theorem E9(n:Nat)(ns:List Nat):Bz (n::ns)=CB n++Bz ns:=rfl
theorem Tp(a b:List Nat):Bz (a++b)=Bz a++Bz b:=List.flatMap_append
theorem OQ{ns:List Nat}:∀ x∈Bz ns,x<256:=fun x hx=>by
 obtain⟨n,_,h⟩:=List.mem_flatMap.1 hx;exact cd n x h
theorem Iz:∀ {ns:List Nat},(∀ v∈ns,v<18446744073709551616)->(Bz ns).length<=10*ns.length
 |[],_=>IT _
 |n::ns,h=>by
  have h1:=Km (h n xT);have h2:=Iz fun v hv=>h v (xS _ hv)
  rw[E9,No,xP];omega
def PL(l:List Nat):List Nat:=l++xV (60 - l.length) 0
theorem Mu{l:List Nat}(h:l.length<=60):(PL l).length=60:=by unfold PL;rw[No,zF];omega
theorem Vy{l:List Nat}(h:∀ x∈l,x<256):∀ x∈PL l,x<256:=fun x hx=>by
 rcases yH.1 hx with h1|h1
 ·exact h x h1
 ·rw[AAt h1];decide
def LJ(ns:List Nat):List Nat:=PL (Bz ns)
def rdN:Nat->List Nat->Nat->Option (List Nat×Nat)
 |0,_,p=>some ([],p)
 |k+1,l,p=>match Fs 0 0 (l.drop p)with
  |none=>none
  |some (v,j)=>if v<=1099511627776 then(match rdN k l (p+j)with
   |none=>none
   |some (vs,q)=>some (v::vs,q))else none
theorem Lh:∀ (ns:List Nat) (a r:List Nat),(∀ v∈ns,v<=1099511627776)->rdN ns.length (a++(Bz ns++r)) a.length=some (ns,a.length+(Bz ns).length)
 |[],a,r,_=>rfl
 |v::ns,a,r,h=>by
  have hv:=h v xT;rw[xP,rdN,AA6,E9,xp,sN (by omega)];simp only;have:=Lh ns (a++CB v) r fun x hx=>h x (xS _ hx)
  rw[xp,No]at this;rw[if_pos hv,this];simp only[No,Nat.add_assoc]
theorem Lg:∀ (k:Nat) (l:List Nat) (p:Nat) (ns:List Nat) (q:Nat),(∀ x∈l,x<256)->p<=l.length->rdN k l p=some (ns,q)->ns.length=k/\l.drop p=Bz ns++l.drop q/\q=p+(Bz ns).length/\q<=l.length/\∀ v∈ns,v<=1099511627776
 |0,l,p,ns,q,hb,hp,h=>by
  cases h;exact⟨rfl,rfl,rfl,hp,fun v hv=>by cases hv⟩
 |k+1,l,p,ns,q,hb,hp,h=>by
  rw[rdN]at h;cases hu:Fs 0 0 (l.drop p)with
  |none=>rw[hu]at h;cases h
  |some vj=>
   obtain⟨v,j⟩:=vj;rw[hu]at h;simp only at h;by_cases hv:v<=1099511627776
   ·rw[if_pos hv]at h
    have hbd:∀ x∈l.drop p,x<256:=fun x hx=>hb x (List.mem_of_mem_drop hx)
    have hj:=mB hbd hu;rw[yd]at hj;obtain⟨g1,g2,g3⟩:=cY hbd hu;cases hr:rdN k l (p+j)with
    |none=>rw[hr]at h;cases h
    |some y=>
     obtain⟨vs,q'⟩:=y;rw[hr]at h;cases h;obtain⟨i1,i2,i3,i4,i5⟩:=Lg k l (p+j) vs q hb (by omega) hr;refine⟨by rw[xP,i1],?_,?_,i4,fun x hx=>?_⟩
     ·rw[g1,List.drop_drop,i2,E9,xp]
     ·rw[i3,E9,No];omega
     ·rcases xe.1 hx with rfl|hx
      ·exact hv
      ·exact i5 x hx
   ·rw[if_neg hv]at h;cases h
def AET(a b c:Int)(s n:Nat):Bool:=decide (0<=a/\a<=1099511627776/\0<=b/\b<255/\1<=c/\c<=1099511627776/\(s=1\/s=2)/\n<=65536)
def at6(ns:List Nat)(i:Nat):Nat:=ns.getD i 0
def Ex(T l:List Nat):Option (List Nat):=if l.length<4 then none else if Ec T (l.take (l.length - 4))=l then some (l.take (l.length - 4))else none
def PH(ns:List Nat):Prop:=AET (at6 ns 1) (at6 ns 2) (at6 ns 3) (min (at6 ns 0) 9) 0=true/\at6 ns 4<=65536/\at6 ns 5<=4294967295
def jT(ns:List Nat):Prop:=at6 ns 0<=2/\at6 ns 4<=65536/\at6 ns 5<=4294967295/\AET (at6 ns 1) (at6 ns 2) (at6 ns 3) (at6 ns 0) 0=true
theorem jU{ns:List Nat}:PH ns↔jT ns:=by
 unfold PH jT AET;simp only[decide_eq_true_eq];generalize at6 ns 0=s;constructor
 ·rintro⟨⟨h1,h2,h3,h4,h5,h6,h7,h8⟩,h9,h10⟩
  exact⟨by omega,h9,h10,h1,h2,h3,h4,h5,h6,by omega,h8⟩
 ·rintro⟨h0,h9,h10,h1,h2,h3,h4,h5,h6,h7,h8⟩
  exact⟨⟨h1,h2,h3,h4,h5,h6,by omega,h8⟩,h9,h10⟩
def LF(T l ns:List Nat):Prop:=∃ body q,Ex T l=some body/\body.length=60/\rdN 6 body 0=some (ns,q)/\PH ns/\∀ x∈body.drop q,x=0
def wb(T l ns:List Nat):Prop:=∃ q,rdN 6 l 0=some (ns,q)/\jT ns/\Ec T (LJ ns)=l
theorem Jw{T l body:List Nat}(h:Ex T l=some body):Ec T body=l/\body=l.take (l.length - 4):=by
 unfold Ex at h;split at h
 ·cases h
 ·split at h
  ·rename_i h2
   cases h;exact⟨h2,rfl⟩
  ·cases h
theorem PZ(T body:List Nat):Ex T (Ec T body)=some body:=by
 have h1:(Ec T body).take ((Ec T body).length - 4)=body:=by
  rw[IG,Nat.add_sub_cancel];unfold Ec;exact ACQ
 unfold Ex;rw[h1,if_neg (by rw[IG];omega),if_pos rfl]
theorem cr{l:List Nat}(h:∀ x∈l,x=0):l=xV l.length 0:=List.eq_replicate_iff.2 ⟨rfl,h⟩
theorem RG{T l ns:List Nat}(hb:∀ x∈l,x<256):LF T l ns↔wb T l ns:=by
 constructor
 ·rintro⟨body,q,h1,h2,h3,h4,h5⟩
  obtain⟨k1,k2⟩:=Jw h1;have hbb:∀ x∈body,x<256:=fun x hx=>hb x (by rw[k2]at hx;exact zI hx)
  obtain⟨g1,g2,g3,g4,g5⟩:=Lg 6 body 0 ns q hbb (yC _) h3;rw[yf]at g2;have hz:=cr h5;have hh:LJ ns=body:=by
   unfold LJ PL;rw[show 60 - (Bz ns).length=(body.drop q).length by rw[yd];omega,<- hz,<- g2]
  refine⟨(Bz ns).length,?_,jU.1 h4,by rw[hh];exact k1⟩;have:=Lh ns [] (body.drop q++G0 (CC T body)) g5;rw[g1]at this;rw[<- k1];unfold Ec;rw[List.nil_append,<- xp,<- g2]at this
  simpa using this
 ·rintro⟨q,h1,h2,h3⟩
  obtain⟨g1,g2,g3,g4,g5⟩:=Lg 6 l 0 ns q hb (yC _) h1;have hlen:(Bz ns).length<=60:=by
   have:=Iz (ns:=ns) fun v hv=>by have:=g5 v hv;omega
   omega
  refine⟨LJ ns,(Bz ns).length,by rw[<- h3];exact PZ T _,Mu hlen,?_,jU.2 h2,fun x hx=>?_⟩
  ·have:=Lh ns [] (xV (60 - (Bz ns).length) 0) g5
   rw[g1]at this;unfold LJ PL
   simpa using this
  ·unfold LJ PL at hx
   rw[AA6]at hx;exact AAt hx
end
noncomputable section
open Go
set_option maxRecDepth 100000
abbrev pt(b:Nat):IN:=.pointer (some ⟨b,0,none⟩)
def wv(n:Nat):IN:=.int .u32 (n:Int)
theorem Af{a:Addr}{h:Hp}:Xr (.pointer (some a)) h=.ok (.pointer (some a)) h:=rfl
theorem Av{F:AEB}{e:Env}{h:Hp}{x:O}:Bi x F e h=Xr (x e) h:=rfl
theorem mA:SI.k=.ptr 25:=by kernel_rfl
theorem ru{F:AEB}{e:Env}{h:Hp}{a:Addr}{g:O}(hg:g e=.pointer (some a)):oEq SI.k false g (kV (.pointer none)) F e h=.ok (.bool false) h:=by
 show(match eqV SI.k (g e) (.pointer none)with|some r=>okB (false != r) h|none=>.no)=_;rw[mA,hg];exact FC
theorem sJ{h:Hp}{tb:Nat}{T:List Nat}(R:h.Row tb 0 (T.map wv))(hT:AE5 T){k:IntKind}{x:Nat}(hx:x<256):NM 256 1 (pt tb) (.int k (x:Int)) h=.ok (.pointer (some ⟨tb,x,none⟩)) h/\He (.pointer (some ⟨tb,x,none⟩)) h=.ok (wv (T.getD x 0)) h:=by
 refine⟨?_,?_⟩
 ·have:=VO (h:=h) (n:=256) (es:=1) (b:=tb) (off:=0) (i:=x) (k:=k) hx
  rwa [OF,AAN]at this
 ·have hx':x<T.length:=by rw[hT.1];exact hx
  rw[AP,R.AEF (off:=x) (by rw[sh];exact hx'),xN,yk,xN,xL hx'];rfl
theorem I5{h:Hp}{u:IN}{l:List Nat}(V:h.AEY u (l.map bv)){i:Nat}(hi:i<l.length):∃ a,AE6 1 u (AI AT (i:Int)) h=.ok (.pointer (some a)) h/\He (.pointer (some a)) h=.ok (.int .u8 ((l.getD i 0:Nat):Int)) h:=by
 obtain⟨a,g1,g2⟩:=V.at (i:=i) (by rw[sh];exact hi);refine⟨a,g1,?_⟩;rw[g2,xN,yk,xN,xL hi];rfl
theorem gq{l:List Nat}(hb:∀ x∈l,x<256)(i:Nat):l.getD i 0<256:=by
 rw[xN];cases h:l[i]? with
 |none=>decide
 |some x=>exact hb x (List.mem_of_getElem? h)
theorem GN{l:List Nat}{i:Nat}(hi:i<l.length):l.drop i=l.getD i 0::l.drop (i+1):=by
 rw[zD hi,xN,xL hi];rfl
theorem Hp.AEY.bl{h:Hp}{u:IN}{l:List Nat}(V:h.AEY u (l.map bv))(g:Hp):AEv u g=.ok (AI AT (l.length:Int)) g:=by
 obtain⟨a,c,hu⟩:=V.shape;rw[hu,sh];rfl
theorem xK{a b:Nat}(ha:a<256)(hb:b<256){h:Hp}:Yr zk .u8 (.int .u8 (a:Int)) (.int .u8 (b:Int)) h=.ok (.int .u8 ((zk a b:Nat):Int)) h:=UJ (by show a<=255;omega) (by show b<=255;omega)
theorem wU{a b:Nat}(ha:a<4294967296)(hb:b<4294967296){h:Hp}:Yr zk .u32 (.int .u32 (a:Int)) (.int .u32 (b:Int)) h=.ok (.int .u32 ((zk a b:Nat):Int)) h:=UJ (by show a<=4294967295;omega) (by show b<=4294967295;omega)
theorem SP{n:Nat}(h:n<=4294967295):IntKind.u32.wrap (n:Int)=n:=DN .u32 n h
theorem CN{i:Nat}(hi:i<=1000000000){h:Hp}:FE .i64 (AI AT (i:Int)) (AI AT 1) h=.ok (AI AT ((i+1:Nat):Int)) h:=by
 have:(i:Int)+1=((i+1:Nat):Int):=by omega
 rw[D0,this,Bj (by omega)]
theorem Ep{a b:Nat}(h:a<b):iLt (a:Int) (b:Int)=true:=by rw[DB];simp;omega
theorem DE{a b:Nat}(h:b<=a):iLt (a:Int) (b:Int)=false:=by rw[DB];simp;omega
theorem sI:suS=BH (Ac 0 (A6 suB)) suE:=rfl
theorem qE:d48=gS:=rfl
theorem j0{F:AEB}{h:Hp}{tb:Nat}{T:List Nat}(R:h.Row tb 0 (T.map wv))(hT:AE5 T){u:IN}{l:List Nat}(V:h.AEY u (l.map bv))(hb:∀ x∈l,x<256)(hl:l.length<=900000){e:Env}(s0:J 0 e=pt tb)(s1:J 1 e=u)(s5:J 5 e=.int .u32 ((4294967295:Nat):Int))(s10:J 10 e=AI AT (l.length:Int))(s11:J 11 e=AI AT ((0:Nat):Int)):
  ∃ e' h',A6 suB F e h=.exit 0 e' h'/\(h'=h\/h'=h.marked)/\J 5 e'=.int .u32 ((PV T 4294967295 l:Nat):Int):=by
 refine Be (I:=fun i e' h'=>(h'=h\/h'=h.marked)/\∃ s:Nat,J 0 e'=pt tb/\J 1 e'=u/\J 5 e'=.int .u32 (s:Int)/\J 10 e'=AI AT (l.length:Int)/\J 11 e'=AI AT (i:Int)/\i<=l.length/\s<4294967296/\PV T 4294967295 l=PV T s (l.drop i))
  (Q:=fun x=>∃ e' h',x=.exit 0 e' h'/\(h'=h\/h'=h.marked)/\J 5 e'=.int .u32 ((PV T 4294967295 l:Nat):Int)) l.length (by omega) (fun i e' h' ⟨hh,s,t0,t1,t5,t10,t11,hi,hs,hr⟩=>?_) ⟨.inl rfl,4294967295,s0,s1,s5,s10,s11,yC _,by decide,rfl⟩
 have hm:h'.marked=h.marked:=by rcases hh with rfl|rfl<;>rfl
 by_cases hlt:i<l.length
 ·left
  have V2:h.marked.AEY u (l.map bv):=V.same rfl;have R2:h.marked.Row tb 0 (T.map wv):=R.same rfl;obtain⟨a,g1,g2⟩:=I5 V2 hlt;have hc:=gq hb i;rw[GN hlt]at hr;generalize l.getD i 0=c at g2 hc hr;have c1:=Ep hlt;have v1:Dr .u8 (.int .u32 (s:Int)) h.marked=.ok (.int .u8 ((s % 256:Nat):Int)) h.marked:=by rw[C5,IK]
  have x1:=xK (h:=h.marked) (show s % 256<256 by omega) hc;have hx:=kJ (show s % 256<256 by omega) hc;obtain⟨i1,l1⟩:=sJ R2 hT (k:=.u8) hx;have r1:cB .u32 (.int .u32 (s:Int)) (.int .u64 8) h.marked=.ok (.int .u32 ((s/256:Nat):Int)) h.marked:=V8 (j:=.u32) (q:=.u64) (m:=s) (n:=8);have x2:=wU (h:=h.marked) (hT.2 (zk (s % 256) c)) (show s/256<4294967296 by omega);have l1:He (.pointer (some ⟨tb,zk (s % 256) c,none⟩)) h.marked=.ok (.int .u32 ((T.getD (zk (s % 256) c) 0:Nat):Int)) h.marked:=l1;have hst:=OO hT hs c;have a3:=CN (i:=i) (h:=h.marked) (by omega);have hrun:∃ e2,suB F e' h'=.norm e2 h.marked/\J 0 e2=pt tb/\J 1 e2=u/\J 5 e2=.int .u32 ((zk (T.getD (zk (s % 256) c) 0) (s/256):Nat):Int)/\J 10 e2=AI AT (l.length:Int)/\J 11 e2=AI AT ((i+1:Nat):Int):=by
   unfold suB;simp only[sT,By,BY,reduceIte,AK,AJ,t11,t10,c1,Ay,hm,Ca,t5,v1,A8,t1,g1,AM,g2,ii,x1,Av,t0,Af,DM,i1,l1,Vr,r1,x2,BP,a3];exact⟨_,rfl,by simp[AG,t0,t1,t10]⟩
  obtain⟨e2,q1,q2,q3,q4,q5,q6⟩:=hrun;exact⟨hlt,e2,h.marked,q1,.inr rfl,_,q2,q3,q4,q5,q6,hlt,hst,hr⟩
 ·right
  have c1:=DE (show l.length<=i by omega);have hrun:∃ e2,suB F e' h'=.exit 0 e2 h'/\J 5 e2=.int .u32 (s:Int):=by
   unfold suB;simp only[sT,By,BY,reduceIte,AK,AJ,t11,t10,c1];exact⟨_,rfl,by simp[AG,t5]⟩
  obtain⟨e2,q1,q2⟩:=hrun;rw[q1];refine⟨rfl,e2,h',rfl,hh,?_⟩;rw[q2,hr,yw (by omega)];rfl
theorem Tk{n:Nat}{h:Hp}{tb:Nat}{T:List Nat}(R:h.Row tb 0 (T.map wv))(hT:AE5 T){u:IN}{l:List Nat}(V:h.AEY u (l.map bv))(hb:∀ x∈l,x<256)(hl:l.length<=900000):
  ∃ h',call AC (n+1) 48 [pt tb,u] h=.ok (.int .u32 ((CC T l:Nat):Int)) h'/\(h'=h\/h'=h.marked):=by
 have ne:∀ e:Env,J 0 e=pt tb->oEq SI.k false (J 0) (kV (.pointer none)) (call AC n) e h=.ok (.bool false) h:=fun e he=>ru he
 have Vl:=V.bl h;have pre:∃ e1,gS (call AC n) (AS e0 0 [pt tb,u]) h=suS (call AC n) e1 h/\J 0 e1=pt tb/\J 1 e1=u/\J 5 e1=.int .u32 ((4294967295:Nat):Int)/\J 10 e1=AI AT (l.length:Int)/\J 11 e1=AI AT ((0:Nat):Int):=by
  unfold gS;simp only[iN,IS,sT,By,BY,reduceIte,ne,Ae,Vl];exact⟨_,rfl,by simp[AG]⟩
 obtain⟨e1,p1,p2,p3,p4,p5,p6⟩:=pre;obtain⟨e2,h',q1,q2,q3⟩:=j0 (F:=call AC n) R hT V hb hl p2 p3 p4 p5 p6;have a1:GG yQ .u32 (.int .u32 4294967295) (.int .u32 ((PV T 4294967295 l:Nat):Int)) h'=.ok (.int .u32 ((CC T l:Nat):Int)) h':=by
  have hs:=WJ hT l 4294967295 (by decide);have:yQ 4294967295 ((PV T 4294967295 l:Nat):Int)=((CC T l:Nat):Int):=by
   show(4294967295:Int) - _=_;unfold CC;omega
  rw[Ck,this,SP (by unfold CC;omega)]
 refine⟨h',?_,q2⟩;rw[ox rfl,qE,p1,sI];simp only[BJ,Az,q1,A9,BD];unfold suE;simp only[sT,By,BY,reduceIte,B5,q3,a1,lV0]
end
noncomputable section
open Go
set_option maxRecDepth 100000
def Mk(h:Hp)(k:Nat)(v:IN)(l:List Nat):Prop:=∃ b el,v=.slice (some ⟨b,0,none⟩) l.length l.length/\(el=0\/el=6)/\h.Row b el (l.map bv)/\k<=b
theorem Mk.vals{h:Hp}{k:Nat}{v:IN}{l:List Nat}(m:Mk h k v l):h.AEY v (l.map bv):=by
 obtain⟨b,el,h1,h2,h3,h4⟩:=m;exact .inr ⟨b,0,l.length,el,_,by rw[sh];exact h1,h3,by simp,by rw[yf,List.take_length]⟩
theorem Mk.ext{h h':Hp}{k:Nat}{v:IN}{l:List Nat}(m:Mk h k v l)(W:h.Wf)(x:h.Ext h'):Mk h' k v l:=by
 obtain⟨b,el,h1,h2,h3,h4⟩:=m;exact⟨b,el,h1,h2,h3.ext W x,h4⟩
theorem Mk.same{h h':Hp}{k:Nat}{v:IN}{l:List Nat}(m:Mk h k v l)(hb:h'.bl=h.bl):Mk h' k v l:=by
 obtain⟨b,el,h1,h2,h3,h4⟩:=m;exact⟨b,el,h1,h2,h3.same hb,h4⟩
theorem Mk.le{h:Hp}{k k':Nat}{v:IN}{l:List Nat}(m:Mk h k v l)(hk:k'<=k):Mk h k' v l:=by
 obtain⟨b,el,h1,h2,h3,h4⟩:=m;exact⟨b,el,h1,h2,h3,by omega⟩
theorem Hp.Own.mk{h:Hp}{k:Nat}{v:IN}{l:List Nat}(o:h.Own k 5 v (l.map bv))(hl:0<l.length):Mk h k v l:=by
 rcases o with ⟨_,h2⟩|⟨b,h1,h2,h3,h4⟩
 ·have:=congrArg AAw h2
  rw[sh,yM]at this;omega
 ·rw[sh]at h1
  exact⟨b,6,h1,.inr rfl,h2,h3⟩
theorem Lj:∀ n:Nat,Ba ty5.zero n=(xV n 0).map bv:=fun n=>by
 have hz:ty5.zero=[bv 0]:=by kernel_rfl
 rw[hz]
 induction n with
 |zero=>rfl
 |succ n ih=>show [bv 0]++Ba [bv 0] n=_;rw[ih];rfl
theorem RD{A B:List IN}{x y:IN}:over (A++x::B) A.length [y]=A++y::B:=by
 unfold over;have e:A++x::B=(A++[x])++B:=by simp
 rw[ACQ,e,show A.length+[y].length=(A++[x]).length by simp,AA6];simp
theorem Mt{A B V:List IN}(h:A.length=V.length):over (A++B) 0 V=V++B:=by
 unfold over;rw[OF,<- h,AA6];simp
theorem YR{s i:Nat}(hi:i<4):(G0 s).drop (3 - i)=(s/2 ^ min (8*i) 32) % 256::(G0 s).drop (4 - i):=by
 have:i=0\/i=1\/i=2\/i=3:=by omega
 rcases this with rfl|rfl|rfl|rfl
 ·show [s % 256]=s/1 % 256::[]
  rw[Nat.div_one]
 ·rfl
 ·rfl
 ·rfl
theorem Po{a b:List Nat}(ha:∀ x∈a,x<256)(hb:∀ x∈b,x<256):bEq (a.map AAH) (b.map AAH)=decide (a=b):=by
 rw[Lt,zH,beq_iff_eq,decide_eq_true_eq];refine⟨fun h=>?_,fun h=>by rw[h]⟩;have h1:=congrArg (List.map ACU) h;rw[ACt,ACt]at h1;have e:∀ l:List Nat,(∀ x∈l,x<256)->l.map (ACU∘AAH)=l:=fun l hl=>by
  have:l.map (ACU∘AAH)=l.map id:=List.map_congr_left fun x hx=>by
   show(AAH x).toNat=x;rw[UInt8.toNat_ofNat',AAU (hl x hx)]
  rw[this,List.map_id]
 rwa [e a ha,e b hb]at h1
theorem wI{n:Nat}{h:Hp}{u v:IN}{a b:List Nat}(U:h.AEY u (a.map bv))(V:h.AEY v (b.map bv))(ha:∀ x∈a,x<256)(hb:∀ x∈b,x<256):call AC (n+1) 18 [u,v] h=.ok (.bool (decide (a=b))) h:=by
 have hbe:=Po ha hb;rw[oQ rfl];unfold d18;simp only[iN,IS,sT,By,BY,reduceIte,Ke,U.bytes.str,V.bytes.str,PG,Oe,hbe,lV0]
theorem sG:slS=BH (Ac 0 (A6 slB)) slE:=rfl
theorem pz:d22=gP:=rfl
theorem jw{F:AEB}{h h0:Hp}(W0:h0.Wf)(x:h0.Ext h){r s N:Nat}(hr:h0.next<=r){u:IN}{l:List Nat}(V:h0.AEY u (l.map bv))(hN:N=l.length+4)(hl:l.length<=900000)(hs:s<4294967296)(R:h.Row r 0 ((xV N 0).map bv)){e:Env}
  (s1:J 1 e=u)(s5:J 5 e=.slice (some ⟨r,0,none⟩) N N)(s6:J 6 e=.int .u32 (s:Int))(s15:J 15 e=AI AT ((0:Nat):Int)):
  ∃ e' h',A6 slB F e h=.exit 0 e' h'/\h0.Ext h'/\h'.Row r 0 ((xV l.length 0++G0 s).map bv)/\J 1 e'=u/\J 5 e'=.slice (some ⟨r,0,none⟩) N N:=by
 refine Be (I:=fun i e' h'=>h0.Ext h'/\h'.Row r 0 ((xV (N - i) 0++(G0 s).drop (4 - i)).map bv)/\J 1 e'=u/\J 5 e'=.slice (some ⟨r,0,none⟩) N N/\J 6 e'=.int .u32 (s:Int)/\J 15 e'=AI AT (i:Int)/\i<=4)
  (Q:=fun x=>∃ e' h',x=.exit 0 e' h'/\h0.Ext h'/\h'.Row r 0 ((xV l.length 0++G0 s).map bv)/\J 1 e'=u/\J 5 e'=.slice (some ⟨r,0,none⟩) N N) 4 (by omega) (fun i e' h' ⟨x',R',t1,t5,t6,t15,hi⟩=>?_)
  ⟨x,by rw[Nat.sub_zero,yw (show(G0 s).length<=4 - 0 from IT _),List.append_nil];exact R,s1,s5,s6,s15,by omega⟩
 by_cases hlt:i<4
 ·left
  have W:=x'.wf;have Vl:=V.bl h';have c1:iLt (i:Int) 4=true:=Ep hlt;have a1:FE .i64 (AI AT (l.length:Int)) (AI AT 4) h'=.ok (AI AT (N:Int)) h':=by
   rw[D0,show(l.length:Int)+4=(N:Int)by omega,Bj (by omega)]
  have a2:GG yQ .i64 (AI AT (N:Int)) (AI AT 1) h'=.ok (AI AT ((N - 1:Nat):Int)) h':=by
   have:yQ (N:Int) 1=((N - 1:Nat):Int):=by show(N:Int) - 1=_;omega
   rw[Ck,this,Bj (by omega)]
  have a3:GG yQ .i64 (AI AT ((N - 1:Nat):Int)) (AI AT (i:Int)) h'=.ok (AI AT ((N - (i+1):Nat):Int)) h':=by
   have:yQ ((N - 1:Nat):Int) (i:Int)=((N - (i+1):Nat):Int):=by show((N - 1:Nat):Int) - (i:Int)=_;omega
   rw[Ck,this,Bj (by omega)]
  have a4:GG ABw .i64 (AI AT 8) (AI AT (i:Int)) h'=.ok (AI AT ((8*i:Nat):Int)) h':=by
   have:ABw 8 (i:Int)=((8*i:Nat):Int):=by show(8:Int)*(i:Int)=_;omega
   rw[Ck,this,Bj (by omega)]
  have r1:cB .u32 (.int .u32 (s:Int)) (AI AT ((8*i:Nat):Int)) h'=.ok (.int .u32 ((s/2 ^ min (8*i) 32:Nat):Int)) h':=V8 (j:=.u32) (q:=.i64) (m:=s) (n:=8*i);have v1:Dr .u8 (.int .u32 ((s/2 ^ min (8*i) 32:Nat):Int)) h'=.ok (.int .u8 ((s/2 ^ min (8*i) 32 % 256:Nat):Int)) h':=by rw[C5,IK]
  have i1:AE6 1 (.slice (some ⟨r,0,none⟩) N N) (AI AT ((N - (i+1):Nat):Int)) h'=.ok (.pointer (some ⟨r,N - (i+1),none⟩)) h':=by
   have:=DT (h:=h') (n:=N) (c:=N) (es:=1) (b:=r) (off:=0) (i:=N - (i+1)) (k:=.i64) (by omega)
   rwa [OF,AAN]at this
  have AIq:=YR (s:=s) hlt;generalize s / 2 ^ min (8 * i) 32 % 256=c at v1 AIq;have AH8:(xV (N - i) 0++(G0 s).drop (4 - i)).map bv=(xV (N - (i+1)) 0).map bv++bv 0::((G0 s).drop (4 - i)).map bv:=by
   rw[show N - i=(N - (i+1))+1 by omega,List.replicate_succ',yR,yR,xp];rfl
  rw[AH8]at R';have hAl:((xV (N - (i+1)) 0).map bv).length=N - (i+1):=by simp
  have ho:N - (i+1)+[Value.int .u8 (c:Int)].length<=((xV (N - (i+1)) 0).map bv++bv 0::((G0 s).drop (4 - i)).map bv).length:=by
   simp only[No,xP,yM,hAl];omega
  have AEM:256<=r:=by have:=W0.big;omega
  have st:=R'.AEK (n:=1) (off:=N - (i+1)) W AEM (v:=.int .u8 (c:Int)) rfl ho rfl;have wr:=R'.AEP W (off:=N - (i+1)) (vs:=[.int .u8 (c:Int)]) ho;have xw:=R'.AEi x' hr (off:=N - (i+1)) (vs:=[.int .u8 (c:Int)]) ho;have a5:=CN (i:=i) (h:=h'.wr r (N - (i+1)) [.int .u8 (c:Int)]) (by omega);have hov:over ((xV (N - (i+1)) 0).map bv++bv 0::((G0 s).drop (4 - i)).map bv) (N - (i+1)) [.int .u8 (c:Int)]=(xV (N - (i+1)) 0++(G0 s).drop (4 - (i+1))).map bv:=by
   have:=RD (A:=(xV (N - (i+1)) 0).map bv) (B:=((G0 s).drop (4 - i)).map bv) (x:=bv 0) (y:=bv c);rw[hAl]at this;rw[show 4 - (i+1)=3 - i by omega,AIq,yR,List.map_cons];exact this
  rw[hov]at wr;rw[Co]at st;have hrun:∃ e2,slB F e' h'=.norm e2 (h'.wr r (N - (i+1)) [.int .u8 (c:Int)])/\J 1 e2=u/\J 5 e2=.slice (some ⟨r,0,none⟩) N N/\J 6 e2=.int .u32 (s:Int)/\J 15 e2=AI AT ((i+1:Nat):Int):=by
   unfold slB;simp only[sT,By,BY,reduceIte,AK,AJ,t15,c1,Ae,t1,Vl,BP,a1,B5,a2,a3,a4,Vr,t6,r1,Ca,v1,A8,t5,i1,AX,st,a5];exact⟨_,rfl,by simp[AG,t1,t5,t6]⟩
  obtain⟨e2,q1,q2,q3,q4,q5⟩:=hrun;exact⟨hlt,e2,_,q1,xw,wr,q2,q3,q4,q5,hlt⟩
 ·right
  have hi4:i=4:=by omega
  subst hi4;have c1:=DE (show 4<=4 by omega);have hrun:∃ e2,slB F e' h'=.exit 0 e2 h'/\J 1 e2=u/\J 5 e2=.slice (some ⟨r,0,none⟩) N N:=by
   unfold slB;have c1:iLt ((4:Nat):Int) 4=false:=c1;simp only[sT,By,BY,reduceIte,AK,AJ,t15,c1];exact⟨_,rfl,by simp[AG,t1,t5]⟩
  obtain⟨e2,q1,q2,q3⟩:=hrun;rw[q1];refine⟨rfl,e2,h',rfl,x',?_,q2,q3⟩;have e1:N - 4=l.length:=by omega
  have e2:4 - 4=0:=rfl;rw[e1,e2,yf]at R';exact R'
theorem PE{F:AEB}{e:Env}{h:Hp}(W:h.Wf){x y:O}{N:Nat}(hx:x e=AI AT (N:Int))(hy:y e=AI AT (N:Int))(hN:N<=1000000):HC 1 ty5.zero x y F e h=.ok (.slice (some ⟨h.next,0,none⟩) N N) (h.AEA 0 ((xV N 0).map bv)):=by
 unfold HC;rw[hx,hy,DD];unfold Qq;have e1:xU N N=true:=Au.2 (IT N);have e2:xU (yK (xM N) (xM 1)) most=true:=Au.2 (by
  show(N+1)*2<=1099511627776;omega)
 simp only[e1,e2,cond_true];rw[C3 W,Lj];rfl
theorem fD{F:AEB}{e:Env}{h:Hp}(W:h.Wf){x y:O}{r N:Nat}{u:IN}{l A B:List Nat}(hx:x e=.slice (some ⟨r,0,none⟩) N N)(hy:y e=u)(V:h.AEY u (l.map bv))(AEM:256<=r)(hA:A.length=l.length)(hN:N=(A++B).length)(R:h.Row r 0 ((A++B).map bv)):
  Jd 1 x y F e h=.ok (AI AT (l.length:Int)) (h.wr r 0 (l.map bv))/\(h.wr r 0 (l.map bv)).Row r 0 ((l++B).map bv):=by
 have ho:0+(l.map bv).length<=((A++B).map bv).length:=by simp;omega
 have h1:Bb (l.map bv)=true:=DW l;refine⟨?_,?_⟩
 ·unfold Jd Pz
  rw[hx,hy];simp only[V.lenV,Ao,BV,sh];rw[ABe (show l.length<=N by rw[hN,No];omega)];rw[V.src (n:=l.length) (by rw[sh])];rw[R.store W AEM ho h1];rfl
 ·have:=R.AEP W ho
  rw[yR,Mt (by simp[hA])]at this;rw[yR];exact this
theorem V6{n:Nat}{h:Hp}(W:h.Wf){tb:Nat}{T:List Nat}(R:h.Row tb 0 (T.map wv))(hT:AE5 T){u:IN}{l:List Nat}(V:h.AEY u (l.map bv))(hb:∀ x∈l,x<256)(hl:l.length<=900000):
  ∃ h' v,call AC (n+2) 22 [pt tb,u] h=.ok v h'/\h.Ext h'/\Mk h' h.next v (Ec T l):=by
 have x1:=(Hp.Ext.refl W).AEA 0 ((xV (l.length+4) 0).map bv);have R1:=Hp.Row.new W 0 ((xV (l.length+4) 0).map bv);have mk:=fun (e:Env) (hx:J 10 e=AI AT ((l.length+4:Nat):Int))=>PE (F:=call AC (n+1)) (e:=e) W (x:=J 10) (y:=J 10) hx hx (by omega)
 generalize h.AEA 0 ((xV (l.length+4) 0).map bv)=h1 at x1 R1 mk;obtain⟨h2,k1,k2⟩:=Tk (n:=n) (R.ext W x1) hT (V.ext W x1) hb hl;have hbl:h2.bl=h1.bl:=by rcases k2 with rfl|rfl<;>rfl
 have x2:h.Ext h2:=by
  rcases k2 with rfl|rfl
  ·exact x1
  ·exact x1.marked
 have Vl:=V.bl h;have a1:FE .i64 (AI AT (l.length:Int)) (AI AT 4) h=.ok (AI AT ((l.length+4:Nat):Int)) h:=by
  rw[D0,show(l.length:Int)+4=((l.length+4:Nat):Int)by omega,Bj (by omega)]
 have pre:∃ e1,gP (call AC (n+1)) (AS e0 0 [pt tb,u]) h=slS (call AC (n+1)) e1 h2/\J 1 e1=u/\J 5 e1=.slice (some ⟨h.next,0,none⟩) (l.length+4) (l.length+4)/\J 6 e1=.int .u32 ((CC T l:Nat):Int)/\J 15 e1=AI AT ((0:Nat):Int):=by
  unfold gP;simp only[iN,IS,sT,By,BY,reduceIte,Ae,Vl,BP,a1,mk,cA0,k1];exact⟨_,rfl,by simp[AG]⟩
 obtain⟨e1,p1,p2,p3,p4,p5⟩:=pre;obtain⟨e2,h3,q1,x3,R3,q2,q3⟩:=jw (F:=call AC (n+1)) W x2 (IT _) V rfl hl (IJ T l) (R1.same hbl) p2 p3 p4 p5;have AEM:=W.big;obtain⟨c1,c2⟩:=fD (F:=call AC (n+1)) (e:=e2) x3.wf (x:=J 5) (y:=J 1) q3 q2 (V.ext W x3) AEM (A:=xV l.length 0) (B:=G0 (CC T l)) (by simp) (by rw[No,zF];rfl) R3;have x4:=R3.AEi x3 (IT _) (off:=0) (vs:=l.map bv) (by rw[sh,sh,No,zF];omega);refine⟨_,.slice (some ⟨h.next,0,none⟩) (l.length+4) (l.length+4),?_,x4,⟨h.next,0,by rw[IG],.inl rfl,c2,IT _⟩⟩;rw[oU rfl,pz,p1,sG];simp only[BJ,Az,q1,A9,BD];unfold slE;simp only[sT,By,BY,reduceIte,c1,q3,lV0]
end
noncomputable section
open Go
set_option maxRecDepth 100000
theorem cW:LR.k=.slice 5:=by kernel_rfl
theorem rX{F:AEB}{e:Env}{h:Hp}{a:Addr}{n c:Nat}{g:O}(hg:g e=.slice (some a) n c):oEq LR.k false g (kV (.slice none 0 0)) F e h=.ok (.bool false) h:=by
 show(match eqV LR.k (g e) (.slice none 0 0)with|some r=>okB (false != r) h|none=>.no)=_;rw[cW,hg];exact FC
theorem Ok{h0 h:Hp}{eb en k b:Nat}{u:IN}{ys:List IN}(x0:h0.Ext h)(hk2:k<=h.next)(r:h.Row b 0 [])(y:h.AEY u ys)(hy:0<ys.length)(ha:Bb ys=true)(hm:(ys.length+1)*(eb+1)<=1099511627776):
  ∃ h' v',DO 1 eb en (.slice (some ⟨b,0,none⟩) 0 0) u h=.ok v' h'/\h0.Ext h'/\h'.Own k en v' ys:=by
 have W:=x0.wf;obtain⟨cc,hcc,hl⟩:=r.rowOf;obtain⟨t,h2,h3⟩:=EF ys cc [] 0 hl (.inr rfl);have h3:t.Is ys:=by simpa using h3
 refine⟨h.push (.cells t ys.length (en+1)),.slice (some ⟨h.next,0,none⟩) ys.length ys.length,?_,x0.push _,.inr ⟨h.next,rfl,⟨t,by rw[W.AEb,if_pos rfl],h3⟩,hk2,W.big⟩⟩;unfold DO Dl;simp only[y.lenV,y.src rfl,Ao,zC,OF];have e1:xU ys.length 0=false:=by
  cases e:xU ys.length 0
  ·rfl
  ·have:=Au.1 e;omega
 have e2:xU (yK (xM ys.length) (xM eb)) JX=true:=Au.2 (H9 hm);rw[e1];simp only[e2,cond_true,ha];unfold G9;have hcc:rowOf h b=.ok cc 0 0:=hcc;have e3:Nat.beq 0 (yK 0 1)=true:=rfl;simp only[hcc,e3,h2];unfold E4;simp only[hcc,Bf,zC,OF];unfold CX;rw[Ao,C2 W];rfl
theorem P7{F:AEB}{e:Env}{h:Hp}(W:h.Wf):As 0 (Ba ty5.zero 0) [] F e h=.ok (.slice (some ⟨h.next,0,none⟩) 0 0) (h.AEA 0 []):=by
 have:Ba ty5.zero 0=[]:=rfl;rw[this,CM,Bx,C3 W];rfl
theorem Pv{n:Nat}{h:Hp}(W:h.Wf){a:Addr}{c:Nat}{l:List Nat}(V:h.AEY (.slice (some a) l.length c) (l.map bv))(hl:l.length<=900000):∃ h' v,call AC (n+1) 93 [.slice (some a) l.length c] h=.ok v h'/\h.Ext h'/\Mk h' h.next v l:=by
 have y1:=(Hp.Ext.refl W).AEA 0 [];have R:=Hp.Row.new W 0 [];have es:=fun (e:Env)=>P7 (F:=call AC n) (e:=e) W
 have n1:(h.AEA 0 []).next=h.next+1:=rfl;generalize h.AEA 0 []=h1 at y1 R es n1;have ne:∀ e:Env,J 0 e=.slice (some a) l.length c->oEq LR.k false (J 0) (kV (.slice none 0 0)) (call AC n) e h=.ok (.bool false) h:=fun e he=>rX he
 rcases Nat.eq_zero_or_pos l.length with hz|hz
 ·have hl0:l=[]:=List.eq_nil_of_length_eq_zero hz
  subst hl0;have AEM:=W.big;have ap:DO 1 1 5 (.slice (some ⟨h.next,0,none⟩) 0 0) (.slice (some a) 0 c) h1=.ok (.slice (some ⟨h.next,0,none⟩) 0 0) (h1.wr h.next 0 []):=Pj (l:=[]) y1.wf AEM R (V.ext W y1).bytes (IT _) (IT _);have R2:=R.AEP y1.wf (off:=0) (vs:=[]) (IT _);have x2:=R.AEi y1 (IT _) (off:=0) (vs:=[]) (IT _);refine⟨_,.slice (some ⟨h.next,0,none⟩) 0 0,?_,x2,⟨h.next,0,rfl,.inl rfl,R2,IT _⟩⟩;rw[Ib rfl];unfold d93;have ne:∀ e:Env,J 0 e=.slice (some a) 0 c->oEq LR.k false (J 0) (kV (.slice none 0 0)) (call AC n) e h=.ok (.bool false) h:=ne;simp only[iN,IS,sT,By,BY,reduceIte,yM,ne,es,BL,ap,lV0]
 ·obtain⟨h2,v,a1,a2,a3⟩:=Ok (eb:=1) (en:=5) (k:=h.next) y1 (by omega) R (V.ext W y1) (by rw[sh];exact hz) (DW l) (by rw[sh];omega)
  refine⟨h2,v,?_,a2,a3.mk hz⟩;rw[Ib rfl];unfold d93;simp only[iN,IS,sT,By,BY,reduceIte,ne,es,BL,a1,lV0]
theorem ZG{F:AEB}{e:Env}{h:Hp}{x y:O}{a:Addr}{el N C m:Nat}(hx:x e=.slice (some a) N C)(hy:y e=AI AT (m:Int))(hm:m<=C):D9 el 1 x none (some y) none F e h=.ok (.slice (some a) m C) h:=by
 show(match x e with|.slice a n c=>DY e n c none (some y) none (fun l hh m=>EM el 1 a false l hh m h)|_=>.no)=_;rw[hx];show Ct e (some y) N C (fun hh=>Ct e none 0 hh fun l=>EM el 1 (some a) false l hh C h)=_;have hb:∀ K:Nat->R,Ct e (some y) N C K=K m:=fun K=>by
  show(match DG (y e)with|.ok n=>(bif xU n C then K n else .no)|.no=>.no)=_;rw[hy,DD];simp only;rw[Au.2 hm];rfl
 rw[hb];show Bp (some a) 1 0 m C h=_;unfold Bp;simp only[Ao];cases C with
 |zero=>rfl
 |succ C=>rfl
theorem bF{F:AEB}{e:Env}{h:Hp}{k:C}{o:Addr}{n c:Nat}(hb:o.block<h.mark):Ir (.slice (some o) n c) k F e h=k F e h:=by
 show(bif Nat.blt o.block h.mark then k F e h else .no)=_;rw[BW.2 hb];rfl
theorem Hp.AEY.blt{h:Hp}(W:h.Wf){o:Addr}{n c:Nat}{xs:List IN}(V:h.AEY (.slice (some o) n c) xs):o.block<h.next:=by
 rcases V with ⟨h1,_⟩|⟨b,off,c',el,L,h1,h2,_⟩
 ·cases h1
 ·cases h1;exact h2.lt W
def YZ(u:IN):Prop:=∀ o n c,u=.slice o n c->n<=c
theorem Mk.cap{h:Hp}{k:Nat}{v:IN}{l:List Nat}(m:Mk h k v l):YZ v:=fun o n c e=>by
 obtain⟨b,el,h1,_⟩:=m;rw[h1]at e;cases e;exact IT _
def wd(T l:List Nat)(h h':Hp)(r:R):Prop:=(∃ body v,Ex T l=some body/\r=.ok (.tuple ⟨[v,AI AT 0]⟩) h'/\Mk h' h.next v body)\/(Ex T l=none/\∃ c:Int,c≠0/\r=.ok (.tuple ⟨[.slice none 0 0,AI AT c]⟩) h')
theorem YY{n:Nat}{h:Hp}(W:h.Wf){tb:Nat}{T:List Nat}(R:h.Row tb 0 (T.map wv))(hT:AE5 T){u:IN}{l:List Nat}(V:h.AEY u (l.map bv))(hC:YZ u)(hb:∀ x∈l,x<256)(hl:l.length<=900000):
  ∃ h',h.Ext h'/\wd T l h h' (call AC (n+3) 82 [pt tb,u] h):=by
 have Vl:=V.bl h;by_cases h4:l.length<4
 ·have c1:iLt (l.length:Int) 4=true:=Ep h4
  refine⟨h,.refl W,.inr ⟨by unfold Ex;rw[if_pos h4],11,by omega,?_⟩⟩;rw[Sh rfl];unfold d82;simp only[iN,IS,sT,By,BY,reduceIte,Ae,Vl,AK,AJ,c1,BE,DR]
 ·have c1:iLt (l.length:Int) 4=false:=DE (a:=l.length) (b:=4) (by omega)
  have a1:GG yQ .i64 (AI AT (l.length:Int)) (AI AT 4) h=.ok (AI AT ((l.length - 4:Nat):Int)) h:=by
   have:yQ (l.length:Int) 4=((l.length - 4:Nat):Int):=by show(l.length:Int) - 4=_;omega
   rw[Ck,this,Bj (by omega)]
  have hlm:(l.map bv).length=l.length:=sh ..;obtain⟨o,c,hu,V1⟩:=V.cut (n:=l.length - 4) (by rw[hlm];omega);rw[hlm]at hu;have hlen:(l.take (l.length - 4)).length=l.length - 4:=by rw[List.length_take];omega
  have V1:h.AEY (.slice (some o) (l.take (l.length - 4)).length c) ((l.take (l.length - 4)).map bv):=by rw[hlen,List.map_take];exact V1
  obtain⟨h1,v,k1,x1,m1⟩:=Pv (n:=n+1) W V1 (by omega);rw[hlen]at k1;have hbb:∀ x∈l.take (l.length - 4),x<256:=fun x hx=>hb x (zI hx)
  have xm:=x1.marked;have Wm:=xm.wf;have xq:h.Ext h1.marked.quiet:=xm.quiet;obtain⟨h2,w,k2,x2,m2⟩:=V6 (n:=n) xq.wf (R.ext W xq) hT ((m1.same (h':=h1.marked.quiet) rfl).vals) hbb (by omega);have q1:∀ (F:AEB) (e:Env),F=call AC (n+2)->J 0 e=pt tb->J 6 e=v->Ad .weak (AU 22 [J 0,J 6]) F e h1.marked=.ok w (h1.marked.back h2):=fun F e hF h0 h6=>by
   subst hF;refine Ci ?_ x2 (IT _);rw[BN,AV,AV,A0,h0,h6];exact k2
  have x3:h1.marked.Ext (h1.marked.back h2):=Hp.Ext.back x2;have xb:=xm.trans x3;have m3:Mk (h1.marked.back h2) h1.marked.quiet.next w (Ec T (l.take (l.length - 4))):=m2.same rfl;have m4:Mk (h1.marked.back h2) h.next v (l.take (l.length - 4)):=(m1.same (h':=h1.marked) rfl).ext Wm x3;have Ve:=V.ext W xb;have st1:=m3.vals.bytes.str;have st2:=Ve.bytes.str;have hbs:=Po (Rh (T:=T) hbb) hb;have hmk:o.block<(h1.marked.back h2).mark:=by
   have h5:o.block<h.next:=by rw[hu]at V;exact V.blt W
   have h6:=x1.next;show o.block<h1.next;omega
  have old:∀ (k:C) (F:AEB) (e:Env),Ir u k F e (h1.marked.back h2)=k F e (h1.marked.back h2):=fun k F e=>by rw[hu];exact bF hmk
  have ct:∀ (F:AEB) (e:Env),J 1 e=u->J 13 e=AI AT ((l.length - 4:Nat):Int)->D9 5 1 (J 1) none (some (J 13)) none F e h=.ok (.slice (some o) (l.length - 4) c) h:=fun F e e1 e2=>by
   have:=hC _ _ _ hu;exact ZG (e1.trans hu) e2 (by omega)
  by_cases hs:Ec T (l.take (l.length - 4))=l
  ·refine⟨_,xb,.inl ⟨_,v,by unfold Ex;rw[if_neg h4,if_pos hs],?_,m4⟩⟩
   rw[decide_eq_true hs]at hbs;rw[Sh rfl];unfold d82;simp only[iN,IS,sT,By,BY,reduceIte,Ae,Vl,AK,AJ,c1,B5,a1,ct,cA0,k1,Ay,q1,Ke,st1,D4,old,DP,st2,PG,Oe,hbs,Bool.not_true,BE,DR]
  ·refine⟨_,xb,.inr ⟨by unfold Ex;rw[if_neg h4,if_neg hs],12,by omega,?_⟩⟩
   rw[decide_eq_false hs]at hbs;rw[Sh rfl];unfold d82;simp only[iN,IS,sT,By,BY,reduceIte,Ae,Vl,AK,AJ,c1,B5,a1,ct,cA0,k1,Ay,q1,Ke,st1,D4,old,DP,st2,PG,Oe,hbs,Bool.not_false,BE,DR]
end
end Go.Proofs.YtbjadbhkogcfeaaGreat

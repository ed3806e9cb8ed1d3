/-
  Part ZJ of what Lawnr stands on: printed by program, names and spaces cut.
-/
import Derived.Test.YtbjadbhkogcfeaaGreatZI
open Go.Value renaming int→AI
open Go.IntKind renaming i64→AT
open Nat renaming reduceEqDiff→BY,reduceLT→By,reduceAdd→IS,le_refl→IT,zero_add→If,succ→xW,ble→xd,zero_le→yK,le_trans→yP,mul→yl,add_eq→zL,xor→AAB,mod_eq_of_lt→AAc,mul_one→AAi,mul_le_mul_right→ABX,min_eq_left→ABk,xor_lt_two_pow→ACs
open Go renaming Value→IN
open List renaming length_append→No,length_map→OF,getElem?_eq_getElem→sh,getD_eq_getElem?_getD→xV,length_cons→xY,mem_cons_of_mem→xZ,mem_cons_self→xa,replicate→xn,mem_cons→xz,append_assoc→yF,mem_append→yL,length_nil→yS,map_append→yc,length_drop→yk,drop_zero→yv,getElem?_map→yx,drop_of_length_le→zC,drop_eq_getElem_cons→zM,length_replicate→zO,mem_of_mem_take→zV,eq_of_mem_replicate→AAy,length→AA1,drop_left→ABB,take_left→ACS,map_map→ACv
open Go.Proofs.Tryz renaming prog→xc,func16→ADe,func8→ADq,f16→AD5
open Bool renaming and_eq_true→yA,eq_iff_iff→zS
open Or renaming inl→yI
open Int renaming sub→yZ,mul→AB3
open UInt8 renaming ofNat→AAR,toNat→ACX
open Go.IntKind renaming u64→ACN
namespace Go.Proofs.YtbjadbhkogcfeaaGreat
noncomputable section
open Go
theorem AZ{a b:String}(h:(a == b)=false):a≠b:=by simpa using h
theorem o4:BU xc ty 4 b4:=yI ⟨Tryz.f4,al4,Tryz.func4,AZ (by kernel_rfl),ug⟩
theorem o8:BU xc ty 8 b8:=yI ⟨Tryz.f8,al8,ADq,AZ (by kernel_rfl),uh⟩
theorem o9:BU xc ty 9 b9:=yI ⟨Tryz.f9,al9,Tryz.func9,AZ (by kernel_rfl),um⟩
theorem o10:BU xc ty 10 b10:=yI ⟨Tryz.f10,tB,Tryz.func10,AZ (by kernel_rfl),mG⟩
theorem o11:BU xc ty 11 b11:=yI ⟨Tryz.f11,tC,Tryz.func11,AZ (by kernel_rfl),mH⟩
theorem o12:BU xc ty 12 b12:=yI ⟨Tryz.f12,tD,Tryz.func12,AZ (by kernel_rfl),mI⟩
theorem o13:BU xc ty 13 b13:=yI ⟨Tryz.f13,tE,Tryz.func13,AZ (by kernel_rfl),mJ⟩
theorem o15:BU xc ty 15 b15:=yI ⟨Tryz.f15,tF,Tryz.func15,AZ (by kernel_rfl),mK⟩
theorem o16:BU xc ty 16 b16:=yI ⟨AD5,tG,ADe,AZ (by kernel_rfl),mL⟩
theorem o17:BU xc ty 17 b17:=yI ⟨Tryz.f17,tH,Tryz.func17,AZ (by kernel_rfl),mM⟩
theorem o18:BU xc ty 18 b18:=yI ⟨Tryz.f18,tI,Tryz.func18,AZ (by kernel_rfl),mN⟩
theorem o19:BU xc ty 19 b19:=yI ⟨Tryz.f19,tJ,Tryz.func19,AZ (by kernel_rfl),mO⟩
theorem o21:BU xc ty 21 b21:=yI ⟨Tryz.f21,tK,Tryz.func21,AZ (by kernel_rfl),mP⟩
theorem o22:BU xc ty 22 b22:=yI ⟨Tryz.f22,tL,Tryz.func22,AZ (by kernel_rfl),mQ⟩
theorem o29:BU xc ty 29 b29:=yI ⟨Tryz.f29,tM,Tryz.func29,AZ (by kernel_rfl),mR⟩
theorem o30:BU xc ty 30 b30:=yI ⟨Tryz.f30,tN,Tryz.func30,AZ (by kernel_rfl),mS⟩
theorem o31:BU xc ty 31 b31:=yI ⟨Tryz.f31,tO,Tryz.func31,AZ (by kernel_rfl),mT⟩
theorem o32:BU xc ty 32 b32:=yI ⟨Tryz.f32,tP,Tryz.func32,AZ (by kernel_rfl),mU⟩
theorem o33:BU xc ty 33 b33:=yI ⟨Tryz.f33,tQ,Tryz.func33,AZ (by kernel_rfl),mV⟩
theorem o34:BU xc ty 34 b34:=yI ⟨Tryz.f34,tR,Tryz.func34,AZ (by kernel_rfl),mW⟩
theorem o35:BU xc ty 35 b35:=yI ⟨Tryz.f35,tS,Tryz.func35,AZ (by kernel_rfl),mX⟩
theorem o36:BU xc ty 36 b36:=yI ⟨Tryz.f36,tT,Tryz.func36,AZ (by kernel_rfl),mY⟩
theorem o37:BU xc ty 37 b37:=yI ⟨Tryz.f37,tU,Tryz.func37,AZ (by kernel_rfl),mZ⟩
theorem o38:BU xc ty 38 b38:=yI ⟨Tryz.f38,tV,Tryz.func38,AZ (by kernel_rfl),ma⟩
theorem o39:BU xc ty 39 b39:=yI ⟨Tryz.f39,tW,Tryz.func39,AZ (by kernel_rfl),mc⟩
theorem o40:BU xc ty 40 b40:=yI ⟨Tryz.f40,tX,Tryz.func40,AZ (by kernel_rfl),me⟩
theorem o41:BU xc ty 41 b41:=yI ⟨Tryz.f41,tY,Tryz.func41,AZ (by kernel_rfl),mf⟩
theorem o42:BU xc ty 42 b42:=yI ⟨Tryz.f42,tZ,Tryz.func42,AZ (by kernel_rfl),mg⟩
theorem o43:BU xc ty 43 b43:=yI ⟨Tryz.f43,tc,Tryz.func43,AZ (by kernel_rfl),mh⟩
theorem o44:BU xc ty 44 b44:=yI ⟨Tryz.f44,td,Tryz.func44,AZ (by kernel_rfl),mi⟩
theorem o45:BU xc ty 45 b45:=yI ⟨Tryz.f45,te,Tryz.func45,AZ (by kernel_rfl),mj⟩
theorem o47:BU xc ty 47 b47:=yI ⟨Tryz.f47,tf,Tryz.func47,AZ (by kernel_rfl),ml⟩
theorem o48:BU xc ty 48 b48:=yI ⟨Tryz.f48,tg,Tryz.func48,AZ (by kernel_rfl),mo⟩
theorem o53:BU xc ty 53 b53:=yI ⟨Tryz.f53,th,Tryz.func53,AZ (by kernel_rfl),mq⟩
theorem o55:BU xc ty 55 b55:=yI ⟨Tryz.f55,tk,Tryz.func55,AZ (by kernel_rfl),mr⟩
theorem o56:BU xc ty 56 b56:=yI ⟨Tryz.f56,tm,Tryz.func56,AZ (by kernel_rfl),mu⟩
theorem o57:BU xc ty 57 b57:=yI ⟨Tryz.f57,tq,Tryz.func57,AZ (by kernel_rfl),mw⟩
theorem o58:BU xc ty 58 b58:=yI ⟨Tryz.f58,tu,Tryz.func58,AZ (by kernel_rfl),my⟩
theorem o59:BU xc ty 59 b59:=yI ⟨Tryz.f59,tw,Tryz.func59,AZ (by kernel_rfl),mz⟩
theorem o60:BU xc ty 60 b60:=yI ⟨Tryz.f60,tz,Tryz.func60,AZ (by kernel_rfl),nB⟩
theorem o61:BU xc ty 61 b61:=yI ⟨Tryz.f61,uA,Tryz.func61,AZ (by kernel_rfl),nC⟩
theorem o62:BU xc ty 62 b62:=yI ⟨Tryz.f62,uB,Tryz.func62,AZ (by kernel_rfl),nE⟩
theorem o63:BU xc ty 63 b63:=yI ⟨Tryz.f63,uC,Tryz.func63,AZ (by kernel_rfl),nF⟩
theorem o64:BU xc ty 64 b64:=yI ⟨Tryz.f64,uD,Tryz.func64,AZ (by kernel_rfl),nG⟩
theorem o65:BU xc ty 65 b65:=yI ⟨Tryz.f65,uE,Tryz.func65,AZ (by kernel_rfl),nH⟩
theorem o66:BU xc ty 66 b66:=yI ⟨Tryz.f66,uF,Tryz.func66,AZ (by kernel_rfl),nI⟩
theorem o67:BU xc ty 67 b67:=yI ⟨Tryz.f67,uG,Tryz.func67,AZ (by kernel_rfl),nJ⟩
theorem o68:BU xc ty 68 b68:=yI ⟨Tryz.f68,uH,Tryz.func68,AZ (by kernel_rfl),nL⟩
theorem o71:BU xc ty 71 b71:=yI ⟨Tryz.f71,uI,Tryz.func71,AZ (by kernel_rfl),nM⟩
theorem o72:BU xc ty 72 b72:=yI ⟨Tryz.f72,uJ,Tryz.func72,AZ (by kernel_rfl),nN⟩
theorem o73:BU xc ty 73 b73:=yI ⟨Tryz.f73,uK,Tryz.func73,AZ (by kernel_rfl),nO⟩
theorem o74:BU xc ty 74 b74:=yI ⟨Tryz.f74,uL,Tryz.func74,AZ (by kernel_rfl),nP⟩
theorem o75:BU xc ty 75 b75:=yI ⟨Tryz.f75,uM,Tryz.func75,AZ (by kernel_rfl),nQ⟩
theorem o76:BU xc ty 76 b76:=yI ⟨Tryz.f76,uN,Tryz.func76,AZ (by kernel_rfl),nR⟩
theorem o77:BU xc ty 77 b77:=yI ⟨Tryz.f77,uO,Tryz.func77,AZ (by kernel_rfl),nS⟩
theorem o78:BU xc ty 78 b78:=yI ⟨Tryz.f78,uP,Tryz.func78,AZ (by kernel_rfl),nT⟩
theorem o79:BU xc ty 79 b79:=yI ⟨Tryz.f79,uQ,Tryz.func79,AZ (by kernel_rfl),nU⟩
theorem o80:BU xc ty 80 b80:=yI ⟨Tryz.f80,uR,Tryz.func80,AZ (by kernel_rfl),nV⟩
theorem o81:BU xc ty 81 b81:=yI ⟨Tryz.f81,uS,Tryz.func81,AZ (by kernel_rfl),nW⟩
theorem o82:BU xc ty 82 b82:=yI ⟨Tryz.f82,uT,Tryz.func82,AZ (by kernel_rfl),nX⟩
theorem o84:BU xc ty 84 b84:=yI ⟨Tryz.f84,uU,Tryz.func84,AZ (by kernel_rfl),nY⟩
theorem o87:BU xc ty 87 b87:=yI ⟨Tryz.f87,uV,Tryz.func87,AZ (by kernel_rfl),nZ⟩
theorem o89:BU xc ty 89 b89:=yI ⟨Tryz.f89,uW,Tryz.func89,AZ (by kernel_rfl),na⟩
theorem o92:BU xc ty 92 b92:=yI ⟨Tryz.f92,uX,Tryz.func92,AZ (by kernel_rfl),nc⟩
theorem o93:BU xc ty 93 b93:=yI ⟨Tryz.f93,uY,Tryz.func93,AZ (by kernel_rfl),nf⟩
theorem o94:BU xc ty 94 b94:=yI ⟨Tryz.f94,uZ,Tryz.func94,AZ (by kernel_rfl),ng⟩
theorem o95:BU xc ty 95 b95:=yI ⟨Tryz.f95,ua,Tryz.func95,AZ (by kernel_rfl),nh⟩
theorem o96:BU xc ty 96 b96:=yI ⟨Tryz.f96,ub,Tryz.func96,AZ (by kernel_rfl),nk⟩
theorem o97:BU xc ty 97 b97:=yI ⟨Tryz.f97,uc,Tryz.func97,AZ (by kernel_rfl),nl⟩
theorem o98:BU xc ty 98 b98:=yI ⟨Tryz.f98,ud,Tryz.func98,AZ (by kernel_rfl),nr⟩
theorem o99:BU xc ty 99 b99:=yI ⟨Tryz.f99,ue,Tryz.func99,AZ (by kernel_rfl),nt⟩
theorem vR:BU xc ty 100 WL:=yI ⟨Tryz.f100,kL,Tryz.func100,AZ (by kernel_rfl),ch⟩
theorem vS:BU xc ty 101 WM:=yI ⟨Tryz.f101,kM,Tryz.func101,AZ (by kernel_rfl),ci⟩
theorem vT:BU xc ty 102 WN:=yI ⟨Tryz.f102,kN,Tryz.func102,AZ (by kernel_rfl),cj⟩
theorem vU:BU xc ty 103 WO:=yI ⟨Tryz.f103,kO,Tryz.func103,AZ (by kernel_rfl),cn⟩
theorem vV:BU xc ty 104 WP:=yI ⟨Tryz.f104,kP,Tryz.func104,AZ (by kernel_rfl),co⟩
theorem vW:BU xc ty 105 WQ:=yI ⟨Tryz.f105,kQ,Tryz.func105,AZ (by kernel_rfl),cr⟩
theorem vX:BU xc ty 107 WS:=yI ⟨Tryz.f107,kR,Tryz.func107,AZ (by kernel_rfl),cu⟩
theorem vY:BU xc ty 109 WT:=yI ⟨Tryz.f109,kS,Tryz.func109,AZ (by kernel_rfl),cw⟩
theorem vZ:BU xc ty 110 WU:=yI ⟨Tryz.f110,kT,Tryz.func110,AZ (by kernel_rfl),cx⟩
theorem va:BU xc ty 111 WV:=yI ⟨Tryz.f111,kU,Tryz.func111,AZ (by kernel_rfl),cy⟩
theorem vb:BU xc ty 112 WW:=yI ⟨Tryz.f112,kW,Tryz.func112,AZ (by kernel_rfl),cz⟩
theorem vd:BU xc ty 113 WX:=yI ⟨Tryz.f113,kX,Tryz.func113,AZ (by kernel_rfl),dA⟩
theorem ve:BU xc ty 114 WY:=yI ⟨Tryz.f114,kY,Tryz.func114,AZ (by kernel_rfl),dB⟩
theorem vf:BU xc ty 115 WZ:=yI ⟨Tryz.f115,kZ,Tryz.func115,AZ (by kernel_rfl),dC⟩
theorem vg:BU xc ty 116 Wa:=yI ⟨Tryz.f116,kh,Tryz.func116,AZ (by kernel_rfl),dD⟩
theorem vk:BU xc ty 117 Wb:=yI ⟨Tryz.f117,kj,Tryz.func117,AZ (by kernel_rfl),dE⟩
theorem vm:BU xc ty 118 Wc:=yI ⟨Tryz.f118,kl,Tryz.func118,AZ (by kernel_rfl),dF⟩
theorem vo:BU xc ty 119 Wd:=yI ⟨Tryz.f119,km,Tryz.func119,AZ (by kernel_rfl),dG⟩
theorem vp:BU xc ty 120 We:=yI ⟨Tryz.f120,kr,Tryz.func120,AZ (by kernel_rfl),dH⟩
theorem vq:BU xc ty 121 Wi:=yI ⟨Tryz.f121,kv,Tryz.func121,AZ (by kernel_rfl),dJ⟩
theorem vr:BU xc ty 122 Wj:=yI ⟨Tryz.f122,lB,Tryz.func122,AZ (by kernel_rfl),dK⟩
theorem vt:BU xc ty 123 Wk:=yI ⟨Tryz.f123,lC,Tryz.func123,AZ (by kernel_rfl),dL⟩
theorem vu:BU xc ty 124 Wl:=yI ⟨Tryz.f124,lD,Tryz.func124,AZ (by kernel_rfl),dM⟩
theorem vw:BU xc ty 127 Wn:=yI ⟨Tryz.f127,lE,Tryz.func127,AZ (by kernel_rfl),dN⟩
theorem vx:BU xc ty 128 Wo:=yI ⟨Tryz.f128,lF,Tryz.func128,AZ (by kernel_rfl),dO⟩
theorem vy:BU xc ty 129 Wp:=yI ⟨Tryz.f129,lG,Tryz.func129,AZ (by kernel_rfl),dP⟩
theorem vz:BU xc ty 130 Wq:=yI ⟨Tryz.f130,lH,Tryz.func130,AZ (by kernel_rfl),dQ⟩
theorem wA:BU xc ty 132 Wr:=yI ⟨Tryz.f132,lI,Tryz.func132,AZ (by kernel_rfl),dR⟩
theorem wB:BU xc ty 133 Ws:=yI ⟨Tryz.f133,lJ,Tryz.func133,AZ (by kernel_rfl),dS⟩
theorem wC:BU xc ty 134 Wt:=yI ⟨Tryz.f134,lK,Tryz.func134,AZ (by kernel_rfl),dT⟩
theorem wD:BU xc ty 135 Wu:=yI ⟨Tryz.f135,lM,Tryz.func135,AZ (by kernel_rfl),dU⟩
theorem wE:BU xc ty 136 Wv:=yI ⟨Tryz.f136,lN,Tryz.func136,AZ (by kernel_rfl),dV⟩
theorem wF:BU xc ty 145 Ww:=yI ⟨Tryz.f145,lO,Tryz.func145,AZ (by kernel_rfl),dW⟩
theorem wG:BU xc ty 146 Wx:=yI ⟨Tryz.f146,lQ,Tryz.func146,AZ (by kernel_rfl),dX⟩
theorem wH:BU xc ty 147 Wy:=yI ⟨Tryz.f147,lR,Tryz.func147,AZ (by kernel_rfl),dY⟩
theorem wI:BU xc ty 148 Wz:=yI ⟨Tryz.f148,lS,Tryz.func148,AZ (by kernel_rfl),dZ⟩
theorem wJ:BU xc ty 149 W9:=yI ⟨Tryz.f149,lT,Tryz.func149,AZ (by kernel_rfl),da⟩
theorem wK:BU xc ty 155 XA:=yI ⟨Tryz.f155,lU,Tryz.func155,AZ (by kernel_rfl),db⟩
theorem Ao(i:Nat):BU xc ty i An:=Or.inr (.inl rfl)
set_option maxRecDepth 100000 in
def Gb:FT:=(.nd An (.nd An (.nd An (.nd An (.nd b15 (.nd b31 (.nd b63 (.nd Wn .mt .mt) .mt) (.nd b95 (.nd An .mt .mt) .mt)) (.nd b47 (.nd b79 (.nd An .mt .mt) .mt) (.nd WV (.nd An .mt .mt) .mt))) (.nd An (.nd b39 (.nd b71 (.nd Wu .mt .mt) .mt) (.nd WO (.nd An .mt .mt) .mt)) (.nd b55 (.nd b87 (.nd An .mt .mt) .mt) (.nd Wd (.nd An .mt .mt) .mt)))) (.nd b11 (.nd b19 (.nd b35 (.nd b67 (.nd An .mt .mt) .mt) (.nd b99 (.nd An .mt .mt) .mt)) (.nd An (.nd An (.nd Wy .mt .mt) .mt) (.nd WZ (.nd An .mt .mt) .mt))) (.nd An (.nd b43 (.nd b75 (.nd An .mt .mt) .mt) (.nd WS (.nd An .mt .mt) .mt)) (.nd b59 (.nd An (.nd XA .mt .mt) .mt) (.nd Wk .mt .mt))))) (.nd An (.nd b9 (.nd b17 (.nd b33 (.nd b65 (.nd Wp .mt .mt) .mt) (.nd b97 (.nd An .mt .mt) .mt)) (.nd An (.nd b81 (.nd Ww .mt .mt) .mt) (.nd WX (.nd An .mt .mt) .mt))) (.nd An (.nd b41 (.nd b73 (.nd An .mt .mt) .mt) (.nd WQ (.nd An .mt .mt) .mt)) (.nd b57 (.nd b89 (.nd An .mt .mt) .mt) (.nd Wi .mt .mt)))) (.nd b13 (.nd b21 (.nd b37 (.nd An (.nd Ws .mt .mt) .mt) (.nd WM (.nd An .mt .mt) .mt)) (.nd b53 (.nd An (.nd W9 .mt .mt) .mt) (.nd Wb (.nd An .mt .mt) .mt))) (.nd b29 (.nd b45 (.nd b77 (.nd An .mt .mt) .mt) (.nd WT (.nd An .mt .mt) .mt)) (.nd b61 (.nd b93 (.nd An .mt .mt) .mt) (.nd An .mt .mt)))))) (.nd An (.nd b4 (.nd b8 (.nd b16 (.nd b32 (.nd b64 (.nd Wo .mt .mt) .mt) (.nd b96 (.nd An .mt .mt) .mt)) (.nd b48 (.nd b80 (.nd An .mt .mt) .mt) (.nd WW (.nd An .mt .mt) .mt))) (.nd An (.nd b40 (.nd b72 (.nd Wv .mt .mt) .mt) (.nd WP (.nd An .mt .mt) .mt)) (.nd b56 (.nd An (.nd An .mt .mt) .mt) (.nd We (.nd An .mt .mt) .mt)))) (.nd b12 (.nd An (.nd b36 (.nd b68 (.nd Wr .mt .mt) .mt) (.nd WL (.nd An .mt .mt) .mt)) (.nd An (.nd b84 (.nd Wz .mt .mt) .mt) (.nd Wa (.nd An .mt .mt) .mt))) (.nd An (.nd b44 (.nd b76 (.nd An .mt .mt) .mt) (.nd An (.nd An .mt .mt) .mt)) (.nd b60 (.nd b92 (.nd An .mt .mt) .mt) (.nd Wl .mt .mt))))) (.nd An (.nd b10 (.nd b18 (.nd b34 (.nd b66 (.nd Wq .mt .mt) .mt) (.nd b98 (.nd An .mt .mt) .mt)) (.nd An (.nd b82 (.nd Wx .mt .mt) .mt) (.nd WY (.nd An .mt .mt) .mt))) (.nd An (.nd b42 (.nd b74 (.nd An .mt .mt) .mt) (.nd An (.nd An .mt .mt) .mt)) (.nd b58 (.nd An (.nd An .mt .mt) .mt) (.nd Wj .mt .mt)))) (.nd An (.nd b22 (.nd b38 (.nd An (.nd Wt .mt .mt) .mt) (.nd WN (.nd An .mt .mt) .mt)) (.nd An (.nd An (.nd An .mt .mt) .mt) (.nd Wc (.nd An .mt .mt) .mt))) (.nd b30 (.nd An (.nd b78 (.nd An .mt .mt) .mt) (.nd WU (.nd An .mt .mt) .mt)) (.nd b62 (.nd b94 (.nd An .mt .mt) .mt) (.nd An .mt .mt)))))))
set_option maxRecDepth 100000 in
theorem SI:FT.All (BU xc ty) Gb id:=⟨Ao _,⟨Ao _,⟨Ao _,⟨Ao _,⟨o15,⟨o31,⟨o63,⟨vw,trivial,trivial⟩,trivial⟩,⟨o95,⟨Ao _,trivial,trivial⟩,trivial⟩⟩,⟨o47,⟨o79,⟨Ao _,trivial,trivial⟩,trivial⟩,⟨va,⟨Ao _,trivial,trivial⟩,trivial⟩⟩⟩,⟨Ao _,⟨o39,⟨o71,⟨wD,trivial,trivial⟩,trivial⟩,⟨vU,⟨Ao _,trivial,trivial⟩,trivial⟩⟩,⟨o55,⟨o87,⟨Ao _,trivial,trivial⟩,trivial⟩,⟨vo,⟨Ao _,trivial,trivial⟩,trivial⟩⟩⟩⟩,⟨o11,⟨o19,⟨o35,⟨o67,⟨Ao _,trivial,trivial⟩,trivial⟩,⟨o99,⟨Ao _,trivial,trivial⟩,trivial⟩⟩,⟨Ao _,⟨Ao _,⟨wH,trivial,trivial⟩,trivial⟩,⟨vf,⟨Ao _,trivial,trivial⟩,trivial⟩⟩⟩,⟨Ao _,⟨o43,⟨o75,⟨Ao _,trivial,trivial⟩,trivial⟩,⟨vX,⟨Ao _,trivial,trivial⟩,trivial⟩⟩,⟨o59,⟨Ao _,⟨wK,trivial,trivial⟩,trivial⟩,⟨vt,trivial,trivial⟩⟩⟩⟩⟩,⟨Ao _,⟨o9,⟨o17,⟨o33,⟨o65,⟨vy,trivial,trivial⟩,trivial⟩,⟨o97,⟨Ao _,trivial,trivial⟩,trivial⟩⟩,⟨Ao _,⟨o81,⟨wF,trivial,trivial⟩,trivial⟩,⟨vd,⟨Ao _,trivial,trivial⟩,trivial⟩⟩⟩,⟨Ao _,⟨o41,⟨o73,⟨Ao _,trivial,trivial⟩,trivial⟩,⟨vW,⟨Ao _,trivial,trivial⟩,trivial⟩⟩,⟨o57,⟨o89,⟨Ao _,trivial,trivial⟩,trivial⟩,⟨vq,trivial,trivial⟩⟩⟩⟩,⟨o13,⟨o21,⟨o37,⟨Ao _,⟨wB,trivial,trivial⟩,trivial⟩,⟨vS,⟨Ao _,trivial,trivial⟩,trivial⟩⟩,⟨o53,⟨Ao _,⟨wJ,trivial,trivial⟩,trivial⟩,⟨vk,⟨Ao _,trivial,trivial⟩,trivial⟩⟩⟩,⟨o29,⟨o45,⟨o77,⟨Ao _,trivial,trivial⟩,trivial⟩,⟨vY,⟨Ao _,trivial,trivial⟩,trivial⟩⟩,⟨o61,⟨o93,⟨Ao _,trivial,trivial⟩,trivial⟩,⟨Ao _,trivial,trivial⟩⟩⟩⟩⟩⟩,⟨Ao _,⟨o4,⟨o8,⟨o16,⟨o32,⟨o64,⟨vx,trivial,trivial⟩,trivial⟩,⟨o96,⟨Ao _,trivial,trivial⟩,trivial⟩⟩,⟨o48,⟨o80,⟨Ao _,trivial,trivial⟩,trivial⟩,⟨vb,⟨Ao _,trivial,trivial⟩,trivial⟩⟩⟩,⟨Ao _,⟨o40,⟨o72,⟨wE,trivial,trivial⟩,trivial⟩,⟨vV,⟨Ao _,trivial,trivial⟩,trivial⟩⟩,⟨o56,⟨Ao _,⟨Ao _,trivial,trivial⟩,trivial⟩,⟨vp,⟨Ao _,trivial,trivial⟩,trivial⟩⟩⟩⟩,⟨o12,⟨Ao _,⟨o36,⟨o68,⟨wA,trivial,trivial⟩,trivial⟩,⟨vR,⟨Ao _,trivial,trivial⟩,trivial⟩⟩,⟨Ao _,⟨o84,⟨wI,trivial,trivial⟩,trivial⟩,⟨vg,⟨Ao _,trivial,trivial⟩,trivial⟩⟩⟩,⟨Ao _,⟨o44,⟨o76,⟨Ao _,trivial,trivial⟩,trivial⟩,⟨Ao _,⟨Ao _,trivial,trivial⟩,trivial⟩⟩,⟨o60,⟨o92,⟨Ao _,trivial,trivial⟩,trivial⟩,⟨vu,trivial,trivial⟩⟩⟩⟩⟩,⟨Ao _,⟨o10,⟨o18,⟨o34,⟨o66,⟨vz,trivial,trivial⟩,trivial⟩,⟨o98,⟨Ao _,trivial,trivial⟩,trivial⟩⟩,⟨Ao _,⟨o82,⟨wG,trivial,trivial⟩,trivial⟩,⟨ve,⟨Ao _,trivial,trivial⟩,trivial⟩⟩⟩,⟨Ao _,⟨o42,⟨o74,⟨Ao _,trivial,trivial⟩,trivial⟩,⟨Ao _,⟨Ao _,trivial,trivial⟩,trivial⟩⟩,⟨o58,⟨Ao _,⟨Ao _,trivial,trivial⟩,trivial⟩,⟨vr,trivial,trivial⟩⟩⟩⟩,⟨Ao _,⟨o22,⟨o38,⟨Ao _,⟨wC,trivial,trivial⟩,trivial⟩,⟨vT,⟨Ao _,trivial,trivial⟩,trivial⟩⟩,⟨Ao _,⟨Ao _,⟨Ao _,trivial,trivial⟩,trivial⟩,⟨vm,⟨Ao _,trivial,trivial⟩,trivial⟩⟩⟩,⟨o30,⟨Ao _,⟨o78,⟨Ao _,trivial,trivial⟩,trivial⟩,⟨vZ,⟨Ao _,trivial,trivial⟩,trivial⟩⟩,⟨o62,⟨o94,⟨Ao _,trivial,trivial⟩,trivial⟩,⟨Ao _,trivial,trivial⟩⟩⟩⟩⟩⟩⟩
theorem li:DE xc ty:=sQ (by kernel_rfl) (by kernel_rfl)
theorem NW(n:Nat):DX xc ty (call Gb n):=I8 li (by kernel_rfl) SI n
end
noncomputable section
open Go
set_option maxHeartbeats 0 in
theorem WK:aU (call Gb 64 16 [] IW)=true:=by kernel_rfl
theorem SE:Lm xc ty 16 J3:=YF ⟨AD5,ADe,AZ (by kernel_rfl),by kernel_rfl⟩ (bT NW WK)
theorem oA:BU xc ty 16 J3:=Or.inr (.inr SE)
open Go.RowKit Go.WideShapes Go.ChangeShapes
set_option maxRecDepth 100000
def la(L:List IN)(args:List IN)(h:Hp):R:=match args with
 |[]=>.ok (.agg ⟨L⟩) h
 |_::_=>.no
def NT(L:List IN):Body:=⟨[.x (fun _=>la L)],cNo⟩
def isW:IN->Bool
 |.int .u32 n=>decide (0<=n) && decide (n<4294967296)
 |_=>false
def aT:R->Bool
 |.ok (.agg ⟨l⟩) _=>l.all isW && Nat.beq l.length 256
 |_=>false
def rP:R->List IN
 |.ok (.agg ⟨l⟩) _=>l
 |_=>[]
def M7:List IN:=rP (call Gb 64 8 [] IW)
set_option maxHeartbeats 0 in
theorem jv:aT (call Gb 64 8 [] IW)=true:=by kernel_rfl
theorem Ox{v:IN}(h:isW v=true):∃ n:Nat,v=.int .u32 (n:Int)/\n<4294967296:=by
 unfold isW at h;split at h
 ·rename_i n
  simp only[yA,decide_eq_true_eq]at h;obtain⟨m,rfl⟩:=Int.eq_ofNat_of_zero_le h.1;exact⟨m,rfl,by omega⟩
 ·cases h
theorem TO:∃ h',call Gb 64 8 [] IW=.ok (.agg ⟨M7⟩) h'/\M7.length=256/\∀ v∈M7,isW v=true:=by
 have h:=jv;unfold M7;generalize call Gb 64 8 [] IW=r at h;unfold aT at h;split at h
 ·rename_i l h'
  simp only[yA,List.all_eq_true]at h;exact⟨h',rfl,Nat.eq_of_beq_eq_true h.2,h.1⟩
 ·cases h
theorem Qo{φ:Phi}:∀ {L L':List IN},AEV φ L L'->(∀ v∈L,isW v=true)->L'=L
 |_,_,.nil,_=>rfl
 |_,_,.cons (v:=v) h t,hL=>by
  rw[Qo t fun x hx=>hL x (xZ _ hx)];obtain⟨n,rfl,_⟩:=Ox (hL v xa);cases h;rfl
theorem Qp(φ:Phi):∀ {L:List IN},(∀ v∈L,isW v=true)->AEV φ L L
 |[],_=>.nil
 |v::L,h=>by
  obtain⟨n,rfl,_⟩:=Ox (h v xa);exact .cons (.int _ _) (Qp φ fun x hx=>h x (xZ _ hx))
theorem YE(w:World):Calls xc 8 #[] w fun e w'=>e=.returned (.agg ⟨M7⟩)/\Below w.heap.size w w':=by
 obtain⟨h',hr,_,hw⟩:=TO;obtain⟨_,hc⟩:=NW _ 8 [] IW _ h' hr;refine(hc rZ w [] .nil (OI ty w)).mono fun e w' ⟨v',ψ,he,hv,_,ev⟩=>?_
 cases hv with
 |agg hl=>
  rw[Qo hl hw]at he;exact⟨he,⟨ev.os,ev.tape,ev.output,ev.size,fun k hk=>ev.frame k hk fun i p hp=>by cases hp⟩⟩
theorem Xe{P:Program}{ty:TTy}{f:Nat}{L:List IN}(hL:∀ v∈L,isW v=true)(hS:∃ fn,P.funcs[f]? =some fn/\fn.name≠"runtime.NumGoroutine" /\fn.body.isNone=false)(hc:∀ w:World,Calls P f #[] w fun e w'=>e=.returned (.agg ⟨L⟩)/\Below w.heap.size w w'):Lm P ty f (NT L):=fun F args h v h' _ hr=>⟨hS,fun φ w args' AEp H=>by
 have hr:la L args h=.ok v h':=hr;cases args with
 |cons a l=>cases hr
 |nil=>
  cases hr;cases AEp;exact(hc w).mono fun e w' ⟨he,hb⟩=>⟨_,φ,he,.agg (Qp φ hL),(Gr H hb).1,(Gr H hb).2⟩⟩
theorem bt:Lm xc ty 8 (NT M7):=Xe (TO.choose_spec.2.2) ⟨Tryz.f8,ADq,AZ (by kernel_rfl),by kernel_rfl⟩ YE
theorem oT:BU xc ty 8 (NT M7):=Or.inr (.inr bt)
theorem XF{bs:FT}{n f:Nat}{L:List IN}(hb:bs.get f=some (NT L)){h:Hp}:call bs (xW n) f [] h=.ok (.agg ⟨L⟩) h:=by
 rw[Ac hb];rfl
end
noncomputable section
open Go
set_option maxRecDepth 100000 in
def AC:FT:=(.nd An (.nd An (.nd An (.nd An (.nd b15 (.nd b31 (.nd b63 (.nd Wn .mt .mt) .mt) (.nd b95 (.nd An .mt .mt) .mt)) (.nd b47 (.nd b79 (.nd An .mt .mt) .mt) (.nd WV (.nd An .mt .mt) .mt))) (.nd An (.nd b39 (.nd b71 (.nd Wu .mt .mt) .mt) (.nd WO (.nd An .mt .mt) .mt)) (.nd b55 (.nd b87 (.nd An .mt .mt) .mt) (.nd Wd (.nd An .mt .mt) .mt)))) (.nd b11 (.nd b19 (.nd b35 (.nd b67 (.nd An .mt .mt) .mt) (.nd b99 (.nd An .mt .mt) .mt)) (.nd An (.nd An (.nd Wy .mt .mt) .mt) (.nd WZ (.nd An .mt .mt) .mt))) (.nd An (.nd b43 (.nd b75 (.nd An .mt .mt) .mt) (.nd WS (.nd An .mt .mt) .mt)) (.nd b59 (.nd An (.nd XA .mt .mt) .mt) (.nd Wk .mt .mt))))) (.nd An (.nd b9 (.nd b17 (.nd b33 (.nd b65 (.nd Wp .mt .mt) .mt) (.nd b97 (.nd An .mt .mt) .mt)) (.nd An (.nd b81 (.nd Ww .mt .mt) .mt) (.nd WX (.nd An .mt .mt) .mt))) (.nd An (.nd b41 (.nd b73 (.nd An .mt .mt) .mt) (.nd WQ (.nd An .mt .mt) .mt)) (.nd b57 (.nd b89 (.nd An .mt .mt) .mt) (.nd Wi .mt .mt)))) (.nd b13 (.nd b21 (.nd b37 (.nd An (.nd Ws .mt .mt) .mt) (.nd WM (.nd An .mt .mt) .mt)) (.nd b53 (.nd An (.nd W9 .mt .mt) .mt) (.nd Wb (.nd An .mt .mt) .mt))) (.nd b29 (.nd b45 (.nd b77 (.nd An .mt .mt) .mt) (.nd WT (.nd An .mt .mt) .mt)) (.nd b61 (.nd b93 (.nd An .mt .mt) .mt) (.nd An .mt .mt)))))) (.nd An (.nd b4 (.nd (NT M7) (.nd J3 (.nd b32 (.nd b64 (.nd Wo .mt .mt) .mt) (.nd b96 (.nd An .mt .mt) .mt)) (.nd b48 (.nd b80 (.nd An .mt .mt) .mt) (.nd WW (.nd An .mt .mt) .mt))) (.nd An (.nd b40 (.nd b72 (.nd Wv .mt .mt) .mt) (.nd WP (.nd An .mt .mt) .mt)) (.nd b56 (.nd An (.nd An .mt .mt) .mt) (.nd We (.nd An .mt .mt) .mt)))) (.nd b12 (.nd An (.nd b36 (.nd b68 (.nd Wr .mt .mt) .mt) (.nd WL (.nd An .mt .mt) .mt)) (.nd An (.nd b84 (.nd Wz .mt .mt) .mt) (.nd Wa (.nd An .mt .mt) .mt))) (.nd An (.nd b44 (.nd b76 (.nd An .mt .mt) .mt) (.nd An (.nd An .mt .mt) .mt)) (.nd b60 (.nd b92 (.nd An .mt .mt) .mt) (.nd Wl .mt .mt))))) (.nd An (.nd b10 (.nd b18 (.nd b34 (.nd b66 (.nd Wq .mt .mt) .mt) (.nd b98 (.nd An .mt .mt) .mt)) (.nd An (.nd b82 (.nd Wx .mt .mt) .mt) (.nd WY (.nd An .mt .mt) .mt))) (.nd An (.nd b42 (.nd b74 (.nd An .mt .mt) .mt) (.nd An (.nd An .mt .mt) .mt)) (.nd b58 (.nd An (.nd An .mt .mt) .mt) (.nd Wj .mt .mt)))) (.nd An (.nd b22 (.nd b38 (.nd An (.nd Wt .mt .mt) .mt) (.nd WN (.nd An .mt .mt) .mt)) (.nd An (.nd An (.nd An .mt .mt) .mt) (.nd Wc (.nd An .mt .mt) .mt))) (.nd b30 (.nd An (.nd b78 (.nd An .mt .mt) .mt) (.nd WU (.nd An .mt .mt) .mt)) (.nd b62 (.nd b94 (.nd An .mt .mt) .mt) (.nd An .mt .mt)))))))
set_option maxRecDepth 100000 in
theorem XD:FT.All (BU xc ty) AC id:=⟨Ao _,⟨Ao _,⟨Ao _,⟨Ao _,⟨o15,⟨o31,⟨o63,⟨vw,trivial,trivial⟩,trivial⟩,⟨o95,⟨Ao _,trivial,trivial⟩,trivial⟩⟩,⟨o47,⟨o79,⟨Ao _,trivial,trivial⟩,trivial⟩,⟨va,⟨Ao _,trivial,trivial⟩,trivial⟩⟩⟩,⟨Ao _,⟨o39,⟨o71,⟨wD,trivial,trivial⟩,trivial⟩,⟨vU,⟨Ao _,trivial,trivial⟩,trivial⟩⟩,⟨o55,⟨o87,⟨Ao _,trivial,trivial⟩,trivial⟩,⟨vo,⟨Ao _,trivial,trivial⟩,trivial⟩⟩⟩⟩,⟨o11,⟨o19,⟨o35,⟨o67,⟨Ao _,trivial,trivial⟩,trivial⟩,⟨o99,⟨Ao _,trivial,trivial⟩,trivial⟩⟩,⟨Ao _,⟨Ao _,⟨wH,trivial,trivial⟩,trivial⟩,⟨vf,⟨Ao _,trivial,trivial⟩,trivial⟩⟩⟩,⟨Ao _,⟨o43,⟨o75,⟨Ao _,trivial,trivial⟩,trivial⟩,⟨vX,⟨Ao _,trivial,trivial⟩,trivial⟩⟩,⟨o59,⟨Ao _,⟨wK,trivial,trivial⟩,trivial⟩,⟨vt,trivial,trivial⟩⟩⟩⟩⟩,⟨Ao _,⟨o9,⟨o17,⟨o33,⟨o65,⟨vy,trivial,trivial⟩,trivial⟩,⟨o97,⟨Ao _,trivial,trivial⟩,trivial⟩⟩,⟨Ao _,⟨o81,⟨wF,trivial,trivial⟩,trivial⟩,⟨vd,⟨Ao _,trivial,trivial⟩,trivial⟩⟩⟩,⟨Ao _,⟨o41,⟨o73,⟨Ao _,trivial,trivial⟩,trivial⟩,⟨vW,⟨Ao _,trivial,trivial⟩,trivial⟩⟩,⟨o57,⟨o89,⟨Ao _,trivial,trivial⟩,trivial⟩,⟨vq,trivial,trivial⟩⟩⟩⟩,⟨o13,⟨o21,⟨o37,⟨Ao _,⟨wB,trivial,trivial⟩,trivial⟩,⟨vS,⟨Ao _,trivial,trivial⟩,trivial⟩⟩,⟨o53,⟨Ao _,⟨wJ,trivial,trivial⟩,trivial⟩,⟨vk,⟨Ao _,trivial,trivial⟩,trivial⟩⟩⟩,⟨o29,⟨o45,⟨o77,⟨Ao _,trivial,trivial⟩,trivial⟩,⟨vY,⟨Ao _,trivial,trivial⟩,trivial⟩⟩,⟨o61,⟨o93,⟨Ao _,trivial,trivial⟩,trivial⟩,⟨Ao _,trivial,trivial⟩⟩⟩⟩⟩⟩,⟨Ao _,⟨o4,⟨oT,⟨oA,⟨o32,⟨o64,⟨vx,trivial,trivial⟩,trivial⟩,⟨o96,⟨Ao _,trivial,trivial⟩,trivial⟩⟩,⟨o48,⟨o80,⟨Ao _,trivial,trivial⟩,trivial⟩,⟨vb,⟨Ao _,trivial,trivial⟩,trivial⟩⟩⟩,⟨Ao _,⟨o40,⟨o72,⟨wE,trivial,trivial⟩,trivial⟩,⟨vV,⟨Ao _,trivial,trivial⟩,trivial⟩⟩,⟨o56,⟨Ao _,⟨Ao _,trivial,trivial⟩,trivial⟩,⟨vp,⟨Ao _,trivial,trivial⟩,trivial⟩⟩⟩⟩,⟨o12,⟨Ao _,⟨o36,⟨o68,⟨wA,trivial,trivial⟩,trivial⟩,⟨vR,⟨Ao _,trivial,trivial⟩,trivial⟩⟩,⟨Ao _,⟨o84,⟨wI,trivial,trivial⟩,trivial⟩,⟨vg,⟨Ao _,trivial,trivial⟩,trivial⟩⟩⟩,⟨Ao _,⟨o44,⟨o76,⟨Ao _,trivial,trivial⟩,trivial⟩,⟨Ao _,⟨Ao _,trivial,trivial⟩,trivial⟩⟩,⟨o60,⟨o92,⟨Ao _,trivial,trivial⟩,trivial⟩,⟨vu,trivial,trivial⟩⟩⟩⟩⟩,⟨Ao _,⟨o10,⟨o18,⟨o34,⟨o66,⟨vz,trivial,trivial⟩,trivial⟩,⟨o98,⟨Ao _,trivial,trivial⟩,trivial⟩⟩,⟨Ao _,⟨o82,⟨wG,trivial,trivial⟩,trivial⟩,⟨ve,⟨Ao _,trivial,trivial⟩,trivial⟩⟩⟩,⟨Ao _,⟨o42,⟨o74,⟨Ao _,trivial,trivial⟩,trivial⟩,⟨Ao _,⟨Ao _,trivial,trivial⟩,trivial⟩⟩,⟨o58,⟨Ao _,⟨Ao _,trivial,trivial⟩,trivial⟩,⟨vr,trivial,trivial⟩⟩⟩⟩,⟨Ao _,⟨o22,⟨o38,⟨Ao _,⟨wC,trivial,trivial⟩,trivial⟩,⟨vT,⟨Ao _,trivial,trivial⟩,trivial⟩⟩,⟨Ao _,⟨Ao _,⟨Ao _,trivial,trivial⟩,trivial⟩,⟨vm,⟨Ao _,trivial,trivial⟩,trivial⟩⟩⟩,⟨o30,⟨Ao _,⟨o78,⟨Ao _,trivial,trivial⟩,trivial⟩,⟨vZ,⟨Ao _,trivial,trivial⟩,trivial⟩⟩,⟨o62,⟨o94,⟨Ao _,trivial,trivial⟩,trivial⟩,⟨Ao _,trivial,trivial⟩⟩⟩⟩⟩⟩⟩
theorem Yx(n:Nat):DX xc ty (call AC n):=I8 li (by kernel_rfl) XD n
theorem Ya:AC.get 16=some J3:=by kernel_rfl
theorem bu:AC.get 8=some (NT M7):=by kernel_rfl
end
noncomputable section
open Go
set_option maxRecDepth 100000
theorem oG{n:Nat}{args:List IN}{h:Hp}(hl:xd (BF args) 240=true):call AC (xW n) 15 args h=A5 [.t (J 4)] (d15 (call AC n) (AS e0 0 args) h):=by
 have hb:AC.get 15=some b15:=by kernel_rfl
 rw[Ac hb];have hd:b15=⟨[.t (J 4)],d15⟩:=by kernel_rfl
 rw[hd,AW hl]
theorem oH{n:Nat}{args:List IN}{h:Hp}(hl:xd (BF args) 240=true):call AC (xW n) 17 args h=A5 [] (d17 (call AC n) (AS e0 0 args) h):=by
 have hb:AC.get 17=some b17:=by kernel_rfl
 rw[Ac hb];have hd:b17=⟨[],d17⟩:=by kernel_rfl
 rw[hd,AW hl]
theorem oI{n:Nat}{args:List IN}{h:Hp}(hl:xd (BF args) 240=true):call AC (xW n) 18 args h=A5 [.t (J 4)] (d18 (call AC n) (AS e0 0 args) h):=by
 have hb:AC.get 18=some b18:=by kernel_rfl
 rw[Ac hb];have hd:b18=⟨[.t (J 4)],d18⟩:=by kernel_rfl
 rw[hd,AW hl]
theorem oJ{n:Nat}{args:List IN}{h:Hp}(hl:xd (BF args) 240=true):call AC (xW n) 19 args h=A5 [.t (J 2)] (d19 (call AC n) (AS e0 0 args) h):=by
 have hb:AC.get 19=some b19:=by kernel_rfl
 rw[Ac hb];have hd:b19=⟨[.t (J 2)],d19⟩:=by kernel_rfl
 rw[hd,AW hl]
theorem oL{n:Nat}{args:List IN}{h:Hp}(hl:xd (BF args) 240=true):call AC (xW n) 22 args h=A5 [.t (J 4)] (d22 (call AC n) (AS e0 0 args) h):=by
 have hb:AC.get 22=some b22:=by kernel_rfl
 rw[Ac hb];have hd:b22=⟨[.t (J 4)],d22⟩:=by kernel_rfl
 rw[hd,AW hl]
theorem oM{n:Nat}{args:List IN}{h:Hp}(hl:xd (BF args) 240=true):call AC (xW n) 30 args h=A5 [.t (J 2),.t (J 3)] (d30 (call AC n) (AS e0 0 args) h):=by
 have hb:AC.get 30=some b30:=by kernel_rfl
 rw[Ac hb];have hd:b30=⟨[.t (J 2),.t (J 3)],d30⟩:=by kernel_rfl
 rw[hd,AW hl]
theorem oW{n:Nat}{args:List IN}{h:Hp}(hl:xd (BF args) 240=true):call AC (xW n) 40 args h=A5 [.t (J 2)] (d40 (call AC n) (AS e0 0 args) h):=by
 have hb:AC.get 40=some b40:=by kernel_rfl
 rw[Ac hb];have hd:b40=⟨[.t (J 2)],d40⟩:=by kernel_rfl
 rw[hd,AW hl]
theorem oX{n:Nat}{args:List IN}{h:Hp}(hl:xd (BF args) 240=true):call AC (xW n) 41 args h=A5 [.t (J 4)] (d41 (call AC n) (AS e0 0 args) h):=by
 have hb:AC.get 41=some b41:=by kernel_rfl
 rw[Ac hb];have hd:b41=⟨[.t (J 4)],d41⟩:=by kernel_rfl
 rw[hd,AW hl]
theorem oY{n:Nat}{args:List IN}{h:Hp}(hl:xd (BF args) 240=true):call AC (xW n) 45 args h=A5 [.t (J 2)] (d45 (call AC n) (AS e0 0 args) h):=by
 have hb:AC.get 45=some b45:=by kernel_rfl
 rw[Ac hb];have hd:b45=⟨[.t (J 2)],d45⟩:=by kernel_rfl
 rw[hd,AW hl]
theorem oZ{n:Nat}{args:List IN}{h:Hp}(hl:xd (BF args) 240=true):call AC (xW n) 47 args h=A5 [.t (J 6),.t (J 7)] (d47 (call AC n) (AS e0 0 args) h):=by
 have hb:AC.get 47=some b47:=by kernel_rfl
 rw[Ac hb];have hd:b47=⟨[.t (J 6),.t (J 7)],d47⟩:=by kernel_rfl
 rw[hd,AW hl]
theorem oa{n:Nat}{args:List IN}{h:Hp}(hl:xd (BF args) 240=true):call AC (xW n) 48 args h=A5 [.t (J 4)] (d48 (call AC n) (AS e0 0 args) h):=by
 have hb:AC.get 48=some b48:=by kernel_rfl
 rw[Ac hb];have hd:b48=⟨[.t (J 4)],d48⟩:=by kernel_rfl
 rw[hd,AW hl]
theorem od{n:Nat}{args:List IN}{h:Hp}(hl:xd (BF args) 240=true):call AC (xW n) 53 args h=A5 [.t (J 2)] (d53 (call AC n) (AS e0 0 args) h):=by
 have hb:AC.get 53=some b53:=by kernel_rfl
 rw[Ac hb];have hd:b53=⟨[.t (J 2)],d53⟩:=by kernel_rfl
 rw[hd,AW hl]
theorem oo{n:Nat}{args:List IN}{h:Hp}(hl:xd (BF args) 240=true):call AC (xW n) 57 args h=A5 [.t (J 2)] (d57 (call AC n) (AS e0 0 args) h):=by
 have hb:AC.get 57=some b57:=by kernel_rfl
 rw[Ac hb];have hd:b57=⟨[.t (J 2)],d57⟩:=by kernel_rfl
 rw[hd,AW hl]
theorem Ia{n:Nat}{args:List IN}{h:Hp}(hl:xd (BF args) 240=true):call AC (xW n) 58 args h=A5 [.t (J 10)] (d58 (call AC n) (AS e0 0 args) h):=by
 have hb:AC.get 58=some b58:=by kernel_rfl
 rw[Ac hb];have hd:b58=⟨[.t (J 10)],d58⟩:=by kernel_rfl
 rw[hd,AW hl]
theorem Lw{n:Nat}{args:List IN}{h:Hp}(hl:xd (BF args) 240=true):call AC (xW n) 59 args h=A5 [.t (J 8)] (d59 (call AC n) (AS e0 0 args) h):=by
 have hb:AC.get 59=some b59:=by kernel_rfl
 rw[Ac hb];have hd:b59=⟨[.t (J 8)],d59⟩:=by kernel_rfl
 rw[hd,AW hl]
theorem SN{n:Nat}{args:List IN}{h:Hp}(hl:xd (BF args) 240=true):call AC (xW n) 60 args h=A5 [.t (J 8)] (d60 (call AC n) (AS e0 0 args) h):=by
 have hb:AC.get 60=some b60:=by kernel_rfl
 rw[Ac hb];have hd:b60=⟨[.t (J 8)],d60⟩:=by kernel_rfl
 rw[hd,AW hl]
theorem ox{n:Nat}{args:List IN}{h:Hp}(hl:xd (BF args) 240=true):call AC (xW n) 63 args h=A5 [.cN (J 8) 5,.t (J 9)] (d63 (call AC n) (AS e0 0 args) h):=by
 have hb:AC.get 63=some b63:=by kernel_rfl
 rw[Ac hb];have hd:b63=⟨[.cN (J 8) 5,.t (J 9)],d63⟩:=by kernel_rfl
 rw[hd,AW hl]
theorem Ys{n:Nat}{args:List IN}{h:Hp}(hl:xd (BF args) 240=true):call AC (xW n) 64 args h=A5 [.t (J 8)] (d64 (call AC n) (AS e0 0 args) h):=by
 have hb:AC.get 64=some b64:=by kernel_rfl
 rw[Ac hb];have hd:b64=⟨[.t (J 8)],d64⟩:=by kernel_rfl
 rw[hd,AW hl]
theorem o7{n:Nat}{args:List IN}{h:Hp}(hl:xd (BF args) 240=true):call AC (xW n) 67 args h=A5 [.t (J 8)] (d67 (call AC n) (AS e0 0 args) h):=by
 have hb:AC.get 67=some b67:=by kernel_rfl
 rw[Ac hb];have hd:b67=⟨[.t (J 8)],d67⟩:=by kernel_rfl
 rw[hd,AW hl]
theorem pA{n:Nat}{args:List IN}{h:Hp}(hl:xd (BF args) 240=true):call AC (xW n) 68 args h=A5 [.cN (J 2) 5] (d68 (call AC n) (AS e0 0 args) h):=by
 have hb:AC.get 68=some b68:=by kernel_rfl
 rw[Ac hb];have hd:b68=⟨[.cN (J 2) 5],d68⟩:=by kernel_rfl
 rw[hd,AW hl]
theorem pB{n:Nat}{args:List IN}{h:Hp}(hl:xd (BF args) 240=true):call AC (xW n) 71 args h=A5 [.t (J 2)] (d71 (call AC n) (AS e0 0 args) h):=by
 have hb:AC.get 71=some b71:=by kernel_rfl
 rw[Ac hb];have hd:b71=⟨[.t (J 2)],d71⟩:=by kernel_rfl
 rw[hd,AW hl]
theorem pC{n:Nat}{args:List IN}{h:Hp}(hl:xd (BF args) 240=true):call AC (xW n) 72 args h=A5 [.t (J 2)] (d72 (call AC n) (AS e0 0 args) h):=by
 have hb:AC.get 72=some b72:=by kernel_rfl
 rw[Ac hb];have hd:b72=⟨[.t (J 2)],d72⟩:=by kernel_rfl
 rw[hd,AW hl]
theorem pD{n:Nat}{args:List IN}{h:Hp}(hl:xd (BF args) 240=true):call AC (xW n) 73 args h=A5 [.cN (J 4) 6,.t (J 5),.t (J 6),.t (J 7)] (d73 (call AC n) (AS e0 0 args) h):=by
 have hb:AC.get 73=some b73:=by kernel_rfl
 rw[Ac hb];have hd:b73=⟨[.cN (J 4) 6,.t (J 5),.t (J 6),.t (J 7)],d73⟩:=by kernel_rfl
 rw[hd,AW hl]
theorem Yt{n:Nat}{args:List IN}{h:Hp}(hl:xd (BF args) 240=true):call AC (xW n) 74 args h=A5 [] (d74 (call AC n) (AS e0 0 args) h):=by
 have hb:AC.get 74=some b74:=by kernel_rfl
 rw[Ac hb];have hd:b74=⟨[],d74⟩:=by kernel_rfl
 rw[hd,AW hl]
theorem pE{n:Nat}{args:List IN}{h:Hp}(hl:xd (BF args) 240=true):call AC (xW n) 75 args h=A5 [.t (J 4)] (d75 (call AC n) (AS e0 0 args) h):=by
 have hb:AC.get 75=some b75:=by kernel_rfl
 rw[Ac hb];have hd:b75=⟨[.t (J 4)],d75⟩:=by kernel_rfl
 rw[hd,AW hl]
theorem pF{n:Nat}{args:List IN}{h:Hp}(hl:xd (BF args) 240=true):call AC (xW n) 76 args h=A5 [.t (J 2)] (d76 (call AC n) (AS e0 0 args) h):=by
 have hb:AC.get 76=some b76:=by kernel_rfl
 rw[Ac hb];have hd:b76=⟨[.t (J 2)],d76⟩:=by kernel_rfl
 rw[hd,AW hl]
theorem pG{n:Nat}{args:List IN}{h:Hp}(hl:xd (BF args) 240=true):call AC (xW n) 77 args h=A5 [.t (J 3)] (d77 (call AC n) (AS e0 0 args) h):=by
 have hb:AC.get 77=some b77:=by kernel_rfl
 rw[Ac hb];have hd:b77=⟨[.t (J 3)],d77⟩:=by kernel_rfl
 rw[hd,AW hl]
theorem pH{n:Nat}{args:List IN}{h:Hp}(hl:xd (BF args) 240=true):call AC (xW n) 78 args h=A5 [.t (J 4)] (d78 (call AC n) (AS e0 0 args) h):=by
 have hb:AC.get 78=some b78:=by kernel_rfl
 rw[Ac hb];have hd:b78=⟨[.t (J 4)],d78⟩:=by kernel_rfl
 rw[hd,AW hl]
theorem pI{n:Nat}{args:List IN}{h:Hp}(hl:xd (BF args) 240=true):call AC (xW n) 79 args h=A5 [.t (J 3)] (d79 (call AC n) (AS e0 0 args) h):=by
 have hb:AC.get 79=some b79:=by kernel_rfl
 rw[Ac hb];have hd:b79=⟨[.t (J 3)],d79⟩:=by kernel_rfl
 rw[hd,AW hl]
theorem pJ{n:Nat}{args:List IN}{h:Hp}(hl:xd (BF args) 240=true):call AC (xW n) 80 args h=A5 [.t (J 4)] (d80 (call AC n) (AS e0 0 args) h):=by
 have hb:AC.get 80=some b80:=by kernel_rfl
 rw[Ac hb];have hd:b80=⟨[.t (J 4)],d80⟩:=by kernel_rfl
 rw[hd,AW hl]
theorem Yu{n:Nat}{args:List IN}{h:Hp}(hl:xd (BF args) 240=true):call AC (xW n) 81 args h=A5 [.t (J 4)] (d81 (call AC n) (AS e0 0 args) h):=by
 have hb:AC.get 81=some b81:=by kernel_rfl
 rw[Ac hb];have hd:b81=⟨[.t (J 4)],d81⟩:=by kernel_rfl
 rw[hd,AW hl]
theorem SO{n:Nat}{args:List IN}{h:Hp}(hl:xd (BF args) 240=true):call AC (xW n) 82 args h=A5 [.t (J 4),.t (J 5)] (d82 (call AC n) (AS e0 0 args) h):=by
 have hb:AC.get 82=some b82:=by kernel_rfl
 rw[Ac hb];have hd:b82=⟨[.t (J 4),.t (J 5)],d82⟩:=by kernel_rfl
 rw[hd,AW hl]
theorem Yv{n:Nat}{args:List IN}{h:Hp}(hl:xd (BF args) 240=true):call AC (xW n) 84 args h=A5 [.t (J 4),.t (J 5),.t (J 6)] (d84 (call AC n) (AS e0 0 args) h):=by
 have hb:AC.get 84=some b84:=by kernel_rfl
 rw[Ac hb];have hd:b84=⟨[.t (J 4),.t (J 5),.t (J 6)],d84⟩:=by kernel_rfl
 rw[hd,AW hl]
theorem pK{n:Nat}{args:List IN}{h:Hp}(hl:xd (BF args) 240=true):call AC (xW n) 87 args h=A5 [.t (J 4)] (d87 (call AC n) (AS e0 0 args) h):=by
 have hb:AC.get 87=some b87:=by kernel_rfl
 rw[Ac hb];have hd:b87=⟨[.t (J 4)],d87⟩:=by kernel_rfl
 rw[hd,AW hl]
theorem pM{n:Nat}{args:List IN}{h:Hp}(hl:xd (BF args) 240=true):call AC (xW n) 92 args h=A5 [.t (J 2)] (d92 (call AC n) (AS e0 0 args) h):=by
 have hb:AC.get 92=some b92:=by kernel_rfl
 rw[Ac hb];have hd:b92=⟨[.t (J 2)],d92⟩:=by kernel_rfl
 rw[hd,AW hl]
theorem Ib{n:Nat}{args:List IN}{h:Hp}(hl:xd (BF args) 240=true):call AC (xW n) 93 args h=A5 [.t (J 2)] (d93 (call AC n) (AS e0 0 args) h):=by
 have hb:AC.get 93=some b93:=by kernel_rfl
 rw[Ac hb];have hd:b93=⟨[.t (J 2)],d93⟩:=by kernel_rfl
 rw[hd,AW hl]
theorem pN{n:Nat}{args:List IN}{h:Hp}(hl:xd (BF args) 240=true):call AC (xW n) 94 args h=A5 [.t (J 2)] (d94 (call AC n) (AS e0 0 args) h):=by
 have hb:AC.get 94=some b94:=by kernel_rfl
 rw[Ac hb];have hd:b94=⟨[.t (J 2)],d94⟩:=by kernel_rfl
 rw[hd,AW hl]
theorem pO{n:Nat}{args:List IN}{h:Hp}(hl:xd (BF args) 240=true):call AC (xW n) 95 args h=A5 [.t (J 8)] (d95 (call AC n) (AS e0 0 args) h):=by
 have hb:AC.get 95=some b95:=by kernel_rfl
 rw[Ac hb];have hd:b95=⟨[.t (J 8)],d95⟩:=by kernel_rfl
 rw[hd,AW hl]
theorem SP{n:Nat}{args:List IN}{h:Hp}(hl:xd (BF args) 240=true):call AC (xW n) 96 args h=A5 [.t (J 4)] (d96 (call AC n) (AS e0 0 args) h):=by
 have hb:AC.get 96=some b96:=by kernel_rfl
 rw[Ac hb];have hd:b96=⟨[.t (J 4)],d96⟩:=by kernel_rfl
 rw[hd,AW hl]
theorem pP{n:Nat}{args:List IN}{h:Hp}(hl:xd (BF args) 240=true):call AC (xW n) 97 args h=A5 [.t (J 8)] (d97 (call AC n) (AS e0 0 args) h):=by
 have hb:AC.get 97=some b97:=by kernel_rfl
 rw[Ac hb];have hd:b97=⟨[.t (J 8)],d97⟩:=by kernel_rfl
 rw[hd,AW hl]
theorem Yw{n:Nat}{args:List IN}{h:Hp}(hl:xd (BF args) 240=true):call AC (xW n) 98 args h=A5 [.t (J 4),.t (J 5)] (d98 (call AC n) (AS e0 0 args) h):=by
 have hb:AC.get 98=some b98:=by kernel_rfl
 rw[Ac hb];have hd:b98=⟨[.t (J 4),.t (J 5)],d98⟩:=by kernel_rfl
 rw[hd,AW hl]
theorem pQ{n:Nat}{args:List IN}{h:Hp}(hl:xd (BF args) 240=true):call AC (xW n) 99 args h=A5 [.t (J 6)] (d99 (call AC n) (AS e0 0 args) h):=by
 have hb:AC.get 99=some b99:=by kernel_rfl
 rw[Ac hb];have hd:b99=⟨[.t (J 6)],d99⟩:=by kernel_rfl
 rw[hd,AW hl]
theorem dy{n:Nat}{args:List IN}{h:Hp}(hl:xd (BF args) 240=true):call AC (xW n) 100 args h=A5 [.t (J 4)] (eu (call AC n) (AS e0 0 args) h):=by
 have hb:AC.get 100=some WL:=by kernel_rfl
 rw[Ac hb];have hd:WL=⟨[.t (J 4)],eu⟩:=by kernel_rfl
 rw[hd,AW hl]
theorem dz{n:Nat}{args:List IN}{h:Hp}(hl:xd (BF args) 240=true):call AC (xW n) 101 args h=A5 [.t (J 4)] (ez (call AC n) (AS e0 0 args) h):=by
 have hb:AC.get 101=some WM:=by kernel_rfl
 rw[Ac hb];have hd:WM=⟨[.t (J 4)],ez⟩:=by kernel_rfl
 rw[hd,AW hl]
theorem Hw{n:Nat}{args:List IN}{h:Hp}(hl:xd (BF args) 240=true):call AC (xW n) 102 args h=A5 [.t (J 2)] (OY (call AC n) (AS e0 0 args) h):=by
 have hb:AC.get 102=some WN:=by kernel_rfl
 rw[Ac hb];have hd:WN=⟨[.t (J 2)],OY⟩:=by kernel_rfl
 rw[hd,AW hl]
theorem OV{n:Nat}{args:List IN}{h:Hp}(hl:xd (BF args) 240=true):call AC (xW n) 103 args h=A5 [.t (J 2)] (XI (call AC n) (AS e0 0 args) h):=by
 have hb:AC.get 103=some WO:=by kernel_rfl
 rw[Ac hb];have hd:WO=⟨[.t (J 2)],XI⟩:=by kernel_rfl
 rw[hd,AW hl]
theorem d6{n:Nat}{args:List IN}{h:Hp}(hl:xd (BF args) 240=true):call AC (xW n) 104 args h=A5 [.t (J 4)] (fA (call AC n) (AS e0 0 args) h):=by
 have hb:AC.get 104=some WP:=by kernel_rfl
 rw[Ac hb];have hd:WP=⟨[.t (J 4)],fA⟩:=by kernel_rfl
 rw[hd,AW hl]
theorem d7{n:Nat}{args:List IN}{h:Hp}(hl:xd (BF args) 240=true):call AC (xW n) 105 args h=A5 [.t (J 4)] (fC (call AC n) (AS e0 0 args) h):=by
 have hb:AC.get 105=some WQ:=by kernel_rfl
 rw[Ac hb];have hd:WQ=⟨[.t (J 4)],fC⟩:=by kernel_rfl
 rw[hd,AW hl]
theorem eA{n:Nat}{args:List IN}{h:Hp}(hl:xd (BF args) 240=true):call AC (xW n) 109 args h=A5 [.t (J 4),.t (J 5)] (fF (call AC n) (AS e0 0 args) h):=by
 have hb:AC.get 109=some WT:=by kernel_rfl
 rw[Ac hb];have hd:WT=⟨[.t (J 4),.t (J 5)],fF⟩:=by kernel_rfl
 rw[hd,AW hl]
theorem LS{n:Nat}{args:List IN}{h:Hp}(hl:xd (BF args) 240=true):call AC (xW n) 110 args h=A5 [.t (J 4)] (SV (call AC n) (AS e0 0 args) h):=by
 have hb:AC.get 110=some WU:=by kernel_rfl
 rw[Ac hb];have hd:WU=⟨[.t (J 4)],SV⟩:=by kernel_rfl
 rw[hd,AW hl]
theorem eB{n:Nat}{args:List IN}{h:Hp}(hl:xd (BF args) 240=true):call AC (xW n) 111 args h=A5 [.t (J 2)] (fG (call AC n) (AS e0 0 args) h):=by
 have hb:AC.get 111=some WV:=by kernel_rfl
 rw[Ac hb];have hd:WV=⟨[.t (J 2)],fG⟩:=by kernel_rfl
 rw[hd,AW hl]
theorem I7{n:Nat}{args:List IN}{h:Hp}(hl:xd (BF args) 240=true):call AC (xW n) 112 args h=A5 [.cN (J 4) 5,.t (J 5),.t (J 6),.t (J 7)] (fH (call AC n) (AS e0 0 args) h):=by
 have hb:AC.get 112=some WW:=by kernel_rfl
 rw[Ac hb];have hd:WW=⟨[.cN (J 4) 5,.t (J 5),.t (J 6),.t (J 7)],fH⟩:=by kernel_rfl
 rw[hd,AW hl]
theorem Tu{n:Nat}{args:List IN}{h:Hp}(hl:xd (BF args) 240=true):call AC (xW n) 113 args h=A5 [.t (J 6),.t (J 7)] (fI (call AC n) (AS e0 0 args) h):=by
 have hb:AC.get 113=some WX:=by kernel_rfl
 rw[Ac hb];have hd:WX=⟨[.t (J 6),.t (J 7)],fI⟩:=by kernel_rfl
 rw[hd,AW hl]
theorem Tv{n:Nat}{args:List IN}{h:Hp}(hl:xd (BF args) 240=true):call AC (xW n) 114 args h=A5 [] (fJ (call AC n) (AS e0 0 args) h):=by
 have hb:AC.get 114=some WY:=by kernel_rfl
 rw[Ac hb];have hd:WY=⟨[],fJ⟩:=by kernel_rfl
 rw[hd,AW hl]
theorem eC{n:Nat}{args:List IN}{h:Hp}(hl:xd (BF args) 240=true):call AC (xW n) 115 args h=A5 [.t (J 2)] (fL (call AC n) (AS e0 0 args) h):=by
 have hb:AC.get 115=some WZ:=by kernel_rfl
 rw[Ac hb];have hd:WZ=⟨[.t (J 2)],fL⟩:=by kernel_rfl
 rw[hd,AW hl]
theorem Tw{n:Nat}{args:List IN}{h:Hp}(hl:xd (BF args) 240=true):call AC (xW n) 116 args h=A5 [.t (J 2)] (fM (call AC n) (AS e0 0 args) h):=by
 have hb:AC.get 116=some Wa:=by kernel_rfl
 rw[Ac hb];have hd:Wa=⟨[.t (J 2)],fM⟩:=by kernel_rfl
 rw[hd,AW hl]
theorem eD{n:Nat}{args:List IN}{h:Hp}(hl:xd (BF args) 240=true):call AC (xW n) 117 args h=A5 [.t (J 4)] (fN (call AC n) (AS e0 0 args) h):=by
 have hb:AC.get 117=some Wb:=by kernel_rfl
 rw[Ac hb];have hd:Wb=⟨[.t (J 4)],fN⟩:=by kernel_rfl
 rw[hd,AW hl]
theorem eE{n:Nat}{args:List IN}{h:Hp}(hl:xd (BF args) 240=true):call AC (xW n) 118 args h=A5 [.t (J 3)] (fO (call AC n) (AS e0 0 args) h):=by
 have hb:AC.get 118=some Wc:=by kernel_rfl
 rw[Ac hb];have hd:Wc=⟨[.t (J 3)],fO⟩:=by kernel_rfl
 rw[hd,AW hl]
theorem eF{n:Nat}{args:List IN}{h:Hp}(hl:xd (BF args) 240=true):call AC (xW n) 119 args h=A5 [.t (J 3)] (fQ (call AC n) (AS e0 0 args) h):=by
 have hb:AC.get 119=some Wd:=by kernel_rfl
 rw[Ac hb];have hd:Wd=⟨[.t (J 3)],fQ⟩:=by kernel_rfl
 rw[hd,AW hl]
theorem Tx{n:Nat}{args:List IN}{h:Hp}(hl:xd (BF args) 240=true):call AC (xW n) 120 args h=A5 [.t (J 4)] (fT (call AC n) (AS e0 0 args) h):=by
 have hb:AC.get 120=some We:=by kernel_rfl
 rw[Ac hb];have hd:We=⟨[.t (J 4)],fT⟩:=by kernel_rfl
 rw[hd,AW hl]
theorem eG{n:Nat}{args:List IN}{h:Hp}(hl:xd (BF args) 240=true):call AC (xW n) 121 args h=A5 [.t (J 4)] (fU (call AC n) (AS e0 0 args) h):=by
 have hb:AC.get 121=some Wi:=by kernel_rfl
 rw[Ac hb];have hd:Wi=⟨[.t (J 4)],fU⟩:=by kernel_rfl
 rw[hd,AW hl]
theorem eH{n:Nat}{args:List IN}{h:Hp}(hl:xd (BF args) 240=true):call AC (xW n) 122 args h=A5 [.t (J 2)] (fX (call AC n) (AS e0 0 args) h):=by
 have hb:AC.get 122=some Wj:=by kernel_rfl
 rw[Ac hb];have hd:Wj=⟨[.t (J 2)],fX⟩:=by kernel_rfl
 rw[hd,AW hl]
theorem eI{n:Nat}{args:List IN}{h:Hp}(hl:xd (BF args) 240=true):call AC (xW n) 123 args h=A5 [.t (J 6)] (fY (call AC n) (AS e0 0 args) h):=by
 have hb:AC.get 123=some Wk:=by kernel_rfl
 rw[Ac hb];have hd:Wk=⟨[.t (J 6)],fY⟩:=by kernel_rfl
 rw[hd,AW hl]
theorem eJ{n:Nat}{args:List IN}{h:Hp}(hl:xd (BF args) 240=true):call AC (xW n) 124 args h=A5 [.t (J 2)] (fZ (call AC n) (AS e0 0 args) h):=by
 have hb:AC.get 124=some Wl:=by kernel_rfl
 rw[Ac hb];have hd:Wl=⟨[.t (J 2)],fZ⟩:=by kernel_rfl
 rw[hd,AW hl]
theorem eK{n:Nat}{args:List IN}{h:Hp}(hl:xd (BF args) 240=true):call AC (xW n) 127 args h=A5 [.t (J 5)] (fb (call AC n) (AS e0 0 args) h):=by
 have hb:AC.get 127=some Wn:=by kernel_rfl
 rw[Ac hb];have hd:Wn=⟨[.t (J 5)],fb⟩:=by kernel_rfl
 rw[hd,AW hl]
theorem eL{n:Nat}{args:List IN}{h:Hp}(hl:xd (BF args) 240=true):call AC (xW n) 128 args h=A5 [.t (J 6)] (fc (call AC n) (AS e0 0 args) h):=by
 have hb:AC.get 128=some Wo:=by kernel_rfl
 rw[Ac hb];have hd:Wo=⟨[.t (J 6)],fc⟩:=by kernel_rfl
 rw[hd,AW hl]
theorem eM{n:Nat}{args:List IN}{h:Hp}(hl:xd (BF args) 240=true):call AC (xW n) 129 args h=A5 [.t (J 3)] (fd (call AC n) (AS e0 0 args) h):=by
 have hb:AC.get 129=some Wp:=by kernel_rfl
 rw[Ac hb];have hd:Wp=⟨[.t (J 3)],fd⟩:=by kernel_rfl
 rw[hd,AW hl]
theorem eN{n:Nat}{args:List IN}{h:Hp}(hl:xd (BF args) 240=true):call AC (xW n) 130 args h=A5 [.t (J 6)] (fe (call AC n) (AS e0 0 args) h):=by
 have hb:AC.get 130=some Wq:=by kernel_rfl
 rw[Ac hb];have hd:Wq=⟨[.t (J 6)],fe⟩:=by kernel_rfl
 rw[hd,AW hl]
theorem eP{n:Nat}{args:List IN}{h:Hp}(hl:xd (BF args) 240=true):call AC (xW n) 133 args h=A5 [.t (J 4)] (fk (call AC n) (AS e0 0 args) h):=by
 have hb:AC.get 133=some Ws:=by kernel_rfl
 rw[Ac hb];have hd:Ws=⟨[.t (J 4)],fk⟩:=by kernel_rfl
 rw[hd,AW hl]
theorem LT{n:Nat}{args:List IN}{h:Hp}(hl:xd (BF args) 240=true):call AC (xW n) 134 args h=A5 [.t (J 4)] (fp (call AC n) (AS e0 0 args) h):=by
 have hb:AC.get 134=some Wt:=by kernel_rfl
 rw[Ac hb];have hd:Wt=⟨[.t (J 4)],fp⟩:=by kernel_rfl
 rw[hd,AW hl]
theorem eQ{n:Nat}{args:List IN}{h:Hp}(hl:xd (BF args) 240=true):call AC (xW n) 135 args h=A5 [.t (J 2)] (fq (call AC n) (AS e0 0 args) h):=by
 have hb:AC.get 135=some Wu:=by kernel_rfl
 rw[Ac hb];have hd:Wu=⟨[.t (J 2)],fq⟩:=by kernel_rfl
 rw[hd,AW hl]
theorem Ty{n:Nat}{args:List IN}{h:Hp}(hl:xd (BF args) 240=true):call AC (xW n) 136 args h=A5 [] (fu (call AC n) (AS e0 0 args) h):=by
 have hb:AC.get 136=some Wv:=by kernel_rfl
 rw[Ac hb];have hd:Wv=⟨[],fu⟩:=by kernel_rfl
 rw[hd,AW hl]
theorem eS{n:Nat}{args:List IN}{h:Hp}(hl:xd (BF args) 240=true):call AC (xW n) 145 args h=A5 [.t (J 2)] (fw (call AC n) (AS e0 0 args) h):=by
 have hb:AC.get 145=some Ww:=by kernel_rfl
 rw[Ac hb];have hd:Ww=⟨[.t (J 2)],fw⟩:=by kernel_rfl
 rw[hd,AW hl]
theorem UA{n:Nat}{args:List IN}{h:Hp}(hl:xd (BF args) 240=true):call AC (xW n) 146 args h=A5 [.t (J 2)] (ZB (call AC n) (AS e0 0 args) h):=by
 have hb:AC.get 146=some Wx:=by kernel_rfl
 rw[Ac hb];have hd:Wx=⟨[.t (J 2)],ZB⟩:=by kernel_rfl
 rw[hd,AW hl]
theorem eT{n:Nat}{args:List IN}{h:Hp}(hl:xd (BF args) 240=true):call AC (xW n) 147 args h=A5 [.t (J 2)] (fy (call AC n) (AS e0 0 args) h):=by
 have hb:AC.get 147=some Wy:=by kernel_rfl
 rw[Ac hb];have hd:Wy=⟨[.t (J 2)],fy⟩:=by kernel_rfl
 rw[hd,AW hl]
theorem eU{n:Nat}{args:List IN}{h:Hp}(hl:xd (BF args) 240=true):call AC (xW n) 148 args h=A5 [.t (J 4)] (fz (call AC n) (AS e0 0 args) h):=by
 have hb:AC.get 148=some Wz:=by kernel_rfl
 rw[Ac hb];have hd:Wz=⟨[.t (J 4)],fz⟩:=by kernel_rfl
 rw[hd,AW hl]
end
set_option linter.unusedVariables false
set_option linter.unusedSimpArgs false
noncomputable section
open Go
set_option maxRecDepth 100000
theorem lw:Bc ty5.zero 1=[.int .u8 0]:=by kernel_rfl
theorem qC:d87=G 4 (AQ (kV (.slice none 0 0))) (BI (Ab 0 (A3 NB)) cJ):=rfl
theorem YI{F:AEA}{h0 h:Hp}{k:Nat}(x0:h0.Ext h)(hk:h0.next<=k)(hk2:k<=h.next){v:IN}{l:List Nat}(o:h.Own k 5 v (l.map bv))(hl:l.length<=1000000){N:Nat}(hN:N<18446744073709551616){e:Env}(s0:J 0 e=v)(s1:J 1 e=.int .u64 (N:Int)):
  ∃ e' h' v' xs m,A3 NB F e h=.exit 0 e' h'/\J 0 e'=v'/\J 1 e'=.int .u64 ((m:Nat):Int)/\m<128/\l++CC N=xs++[m]/\h0.Ext h'/\h'.Own k 5 v' (xs.map bv)/\h.next<=h'.next/\(∀ b el L,¬ AEc v b->h.Row b el L->h'.Row b el L/\¬ AEc v' b):=by
 have AJm:=Kk hN;refine Bd (I:=fun i e' h'=>∃ v' xs m,J 0 e'=v'/\J 1 e'=.int .u64 ((m:Nat):Int)/\m<18446744073709551616/\l++CC N=xs++CC m/\i+(CC m).length=(CC N).length/\h0.Ext h'/\h'.Own k 5 v' (xs.map bv)/\h.next<=h'.next/\(∀ b el L,¬ AEc v b->h.Row b el L->h'.Row b el L/\¬ AEc v' b))
  (Q:=fun x=>∃ e' h' v' xs m,x=.exit 0 e' h'/\J 0 e'=v'/\J 1 e'=.int .u64 ((m:Nat):Int)/\m<128/\l++CC N=xs++[m]/\h0.Ext h'/\h'.Own k 5 v' (xs.map bv)/\h.next<=h'.next/\(∀ b el L,¬ AEc v b->h.Row b el L->h'.Row b el L/\¬ AEc v' b)) 20 (by omega) (fun i e' h' ⟨v',xs,m,t0,t1,hm,hx,hi,x1,o1,hn,fr⟩=>?_)
  ⟨v,l,N,s0,s1,hN,rfl,If _,x0,o,IT _,fun b el L hb r=>⟨r,hb⟩⟩
 have hlen:=congrArg AA1 hx;rw[No,No]at hlen;by_cases h1:m<128
 ·right
  have c1:iGt (m:Int) 127=false:=by rw[Gf];simp;omega
  have hrun:NB F e' h'=.exit 0 (Env.set 6 (.bool false) e') h':=by
   unfold NB;simp only[sT,By,BY,reduceIte,AK,AJ,t1,c1]
  rw[hrun];refine⟨rfl,_,_,v',xs,m,rfl,by simp[AG,t0],by simp[AG,t1],h1,?_,x1,o1,hn,fr⟩;rw[hx,E7 h1]
 ·left
  have W:=x1.wf;have c1:iGt (m:Int) 127=true:=by rw[Gf];simp;omega
  have r1:bL .u64 (.int .u64 (m:Int)) (.int .u64 128) h'=.ok (.int .u64 ((m % 128:Nat):Int)) h':=by rw[Vb (by omega)];rfl
  have a1:Fg .u64 (.int .u64 ((m % 128:Nat):Int)) (.int .u64 128) h'=.ok (.int .u64 ((m % 128+128:Nat):Int)) h':=by
   have:ACN.wrap (((m % 128:Nat):Int)+128)=((m % 128+128:Nat):Int):=by
    rw[show((m % 128:Nat):Int)+128=((m % 128+128:Nat):Int)by omega];exact EV (by omega)
   rw[Ep,this]
  have v1:Dr .u8 (.int .u64 ((m % 128+128:Nat):Int)) h'=.ok (.int .u8 ((m % 128+128:Nat):Int)) h':=by
   rw[C5,IJ,AAc (show m % 128+128<256 by omega)]
  have os:∀ e,J 11 e=.int .u8 ((m % 128+128:Nat):Int)->Ar 1 (Bc ty5.zero 1) [(0,1,J 11)] F e h'=.ok (.slice (some ⟨h'.next,0,none⟩) 1 1) (h'.AD9 0 [.int .u8 ((m % 128+128:Nat):Int)]):=fun e he=>by rw[lw];exact ID W he rfl rfl
  have hpos:=YH (m/128);rw[GZ (n:=m) (by omega)]at hi hlen hx;rw[xY]at hi hlen;obtain⟨h2,v2,a2,x2,o2,hn2,fr2⟩:=Jf (eb:=1) (n:=((m % 128+128:Nat):Int)) (kd:=.u8) x1 hk (yP hk2 hn) o1 (by rw[OF];omega);have d1:SY .u64 (.int .u64 (m:Int)) (.int .u64 128) h2=.ok (.int .u64 ((m/128:Nat):Int)) h2:=by
   have:ACN.wrap ((m:Int).tdiv 128)=((m/128:Nat):Int):=EV (n:=m/128) (by omega);rw[LV (by omega),this]
  have hrun:∃ e2,NB F e' h'=.norm e2 h2/\J 0 e2=v2/\J 1 e2=.int .u64 ((m/128:Nat):Int):=by
   unfold NB;simp only[sT,By,BY,reduceIte,AK,AJ,t1,c1,PA,r1,BM,a1,Cd,v1,os,BN,t0,a2,Jc,d1];exact⟨_,rfl,by simp[AG]⟩
  obtain⟨e2,b1,b2,b3⟩:=hrun;refine⟨by omega,e2,h2,b1,v2,xs++[m % 128+128],m/128,b2,b3,by omega,?_,by omega,x2,?_,by omega,fun b el L hb r=>?_⟩
  ·rw[hx];simp
  ·rw[yc];exact o2
  ·obtain⟨r1,r2⟩:=fr b el L hb r
   exact fr2 b el L r2 r1
theorem j7{n:Nat}{h0 h:Hp}{k:Nat}(x0:h0.Ext h)(hk:h0.next<=k)(hk2:k<=h.next){v:IN}{l:List Nat}(o:h.Own k 5 v (l.map bv))(hl:l.length<=1000000){N:Nat}(hN:N<18446744073709551616):
  ∃ h' v',call AC (n+1) 87 [v,.int .u64 (N:Int)] h=.ok v' h'/\h0.Ext h'/\h'.Own k 5 v' ((l++CC N).map bv)/\h.next<=h'.next/\(∀ b el L,¬ AEc v b->h.Row b el L->h'.Row b el L/\¬ AEc v' b):=by
 obtain⟨e1,h1,v1,xs,m,q1,s0,s1,hm,hx,x1,o1,hn,fr⟩:=YI (F:=call AC n) x0 hk hk2 o hl hN (e:=Env.set 4 (.slice none 0 0) (Env.set 1 (.int .u64 (N:Int)) (Env.set 0 v e0))) (by simp[AG]) (by simp[AG]);have W:=x1.wf;have AJm:=Kk hN;have hlen:=congrArg AA1 hx;rw[No,No,List.length_singleton]at hlen;have c1:Dr .u8 (.int .u64 (m:Int)) h1=.ok (.int .u8 (m:Int)) h1:=by
  rw[C5,IJ,AAc (show m<256 by omega)]
 have os:∀ e,J 18 e=.int .u8 (m:Int)->Ar 1 (Bc ty5.zero 1) [(0,1,J 18)] (call AC n) e h1=.ok (.slice (some ⟨h1.next,0,none⟩) 1 1) (h1.AD9 0 [.int .u8 (m:Int)]):=fun e he=>by rw[lw];exact ID W he rfl rfl
 obtain⟨h2,v2,a2,x2,o2,hn2,fr2⟩:=Jf (eb:=1) (n:=(m:Int)) (kd:=.u8) x1 hk (yP hk2 hn) o1 (by rw[OF];omega);refine⟨h2,v2,?_,x2,?_,by omega,fun b el L hb r=>?_⟩
 ·rw[pK rfl,qC]
  simp only[iN,IS,AG,By,BY,reduceIte,Gc,Gm,Dz,Gl,HY,BJ,Ay];rw[q1];simp only[A7,BA];unfold cJ;simp only[sT,By,BY,reduceIte,Cd,s1,c1,os,BN,s0,a2,lV0]
 ·rw[hx,yc];exact o2
 ·obtain⟨r1,r2⟩:=fr b el L hb r
  exact fr2 b el L r2 r1
def lx(l:List Nat)(p:Nat)(a b c:Int):Prop:=(∃ v j:Nat,Fi 0 0 (l.drop p)=some (v,j)/\a=(v:Int)/\b=((p+j:Nat):Int)/\c=0)\/(Fi 0 0 (l.drop p)=none/\c≠0)
def Ok:C:=(Bj 46
(G 4 (AQ (kV (.int .u64 0)))
(G 5 (AQ (kV (AI AT 0)))
(G 6 (AQ (kV (AI AT 10)))
Aq)))
(G 49 (Qx .u8 (J 9) (kV (.int .u8 128)))
(G 50 (C7 .u64 (J 49))
(G 52 (C1 AB3 .i64 (kV (AI AT 7)) (J 10))
(G 53 (NM .u64 (J 50) (J 52))
(G 54 (CG .u64 (BE .u64) (J 7) (J 53))
(G 7 (Aj 54)
(G 56 (Ai iLt .u8 (J 9) (kV (.int .u8 128)))
(Bj 56
(G 59 (CG .i64 (BE .i64) (J 8) (kV (AI AT 1)))
(G 4 (Aj 7)
(G 5 (Aj 59)
(G 6 (AQ (kV (AI AT 0)))
Aq))))
Aw)))))))))
def qd(K:C):C:=(G 34 (Ai iGt .i64 (J 10) (kV (AI AT 0)))
(Ad 34 true 36 (Aj 9)
(Ad 34 true 37 (Ai iEq .u8 (J 36) (kV (.int .u8 0)))
(G 38 (A1 (J 34) (J 37) (kV (.bool false)))
(Ad 38 false 40 (Aj 10)
(Ad 38 false 41 (Ai iGt .i64 (J 40) (kV (AI AT 8)))
(Ad 38 false 42 (Aj 41)
(Ad 42 true 43 (Aj 9)
(Ad 42 true 44 (Ai iGt .u8 (J 43) (kV (.int .u8 1)))
(Ad 38 false 45 (A1 (J 42) (J 44) (kV (.bool false)))
(G 46 (A1 (J 38) (kV (.bool true)) (J 45))
K)))))))))))
theorem Uf:QL=G 22 (Be (J 0)) (G 23 (Ai iLt .i64 (J 8) (J 22)) (Bj 23 (BI (Ab 1 (G 28 (B9 1 (J 0) (J 8)) (G 29 (AM (J 28)) (G 32 (C1 yZ .i64 (J 8) (J 1)) (G 9 (Aj 29) (G 10 (Aj 32) (qd Ok))))))) (G 25 (CG .i64 (BE .i64) (J 8) (kV (AI AT 1))) (G 8 (Aj 25) Aw))) (B7 0))):=rfl
theorem ge{K:C}{F:AEA}{h:Hp}{e:Env}{c i:Nat}{b1 b2 b3 b4:Bool}(s9:J 9 e=.int .u8 (c:Int))(s10:J 10 e=AI AT (i:Int))(i1:iGt (i:Int) 0=b1)(i2:iEq (c:Int) 0=b2)(i3:iGt (i:Int) 8=b3)(i4:iGt (c:Int) 1=b4):
  ∃ e',qd K F e h=K F e' h/\J 46 e'=.bool ((b1 && b2) || (b3 && b4))/\J 0 e'=J 0 e/\J 1 e'=J 1 e/\J 7 e'=J 7 e/\J 8 e'=J 8 e/\J 9 e'=J 9 e/\J 10 e'=J 10 e:=by
 unfold qd;cases b1<;>cases b2<;>cases b3<;>cases b4<;>
 ·simp only[sT,By,BY,reduceIte,gD,AK,AJ,s9,s10,i1,i2,i3,i4]
  exact⟨_,rfl,by simp[AG],by simp[AG],by simp[AG],by simp[AG],by simp[AG],by simp only[AG,By,BY,reduceIte,s9],by simp only[AG,By,BY,reduceIte,s10]⟩
theorem Q8{i:Nat}(hi:i<=9):2 ^ (7*i)<=9223372036854775808:=by
 have:2 ^ (7*i)<=2 ^ 63:=Nat.pow_le_pow_right (by omega) (by omega);have e:(2:Nat) ^ 63=9223372036854775808:=rfl;omega
theorem Zh{F:AEA}{h:Hp}{u:IN}{l:List Nat}{p:Nat}(V:h.AEX u (l.map bv))(hb:∀ x∈l,x<256)(hp:p<=l.length)(hl:l.length<=1000000){e:Env}(s0:J 0 e=u)(s1:J 1 e=AI AT (p:Int))(s7:J 7 e=.int .u64 0)(s8:J 8 e=AI AT (p:Int)):
  (∃ e',A3 QL F e h=.exit 0 e' h/\Fi 0 0 (l.drop p)=none)\/(∃ e' a b c,A3 QL F e h=.ret e' h/\J 4 e'=.int .u64 a/\J 5 e'=AI AT b/\J 6 e'=AI AT c/\lx l p a b c):=by
 have Vl:AEs u h=.ok (AI AT (l.length:Int)) h:=by have:=V.len;rwa [OF]at this
 refine Bd (I:=fun i e' h'=>h'=h/\∃ acc:Nat,J 0 e'=u/\J 1 e'=AI AT (p:Int)/\J 7 e'=.int .u64 (acc:Int)/\J 8 e'=AI AT ((p+i:Nat):Int)/\acc<2 ^ (7*i)/\i<=9/\p+i<=l.length/\Fi 0 0 (l.drop p)=Fi i acc (l.drop (p+i)))
  (Q:=fun x=>(∃ e',x=.exit 0 e' h/\Fi 0 0 (l.drop p)=none)\/(∃ e' a b c,x=.ret e' h/\J 4 e'=.int .u64 a/\J 5 e'=AI AT b/\J 6 e'=AI AT c/\lx l p a b c)) 20 (by omega) (fun i e' h' ⟨hh,acc,t0,t1,t7,t8,hacc,hi9,hpi,hu⟩=>?_)
  ⟨rfl,0,s0,s1,s7,s8,by decide,by omega,hp,rfl⟩
 subst hh;by_cases hlt:p+i<l.length
 ·have hc:l.getD (p+i) 0<256:=hb _ (by rw[xV,sh hlt];exact List.getElem_mem hlt)
  have hd:l.drop (p+i)=l.getD (p+i) 0::l.drop (p+i+1):=by
   rw[zM hlt,xV,sh hlt];rfl
  have hel:(l.map bv).getD (p+i) AED=.int .u8 ((l.getD (p+i) 0:Nat):Int):=by
   rw[xV,yx,xV,sh hlt];rfl
  obtain⟨a,g1,g2⟩:=V.at (i:=p+i) (by rw[OF];exact hlt);rw[hel]at g2;rw[hd]at hu;generalize l.getD (p+i) 0=c at hc g2 hu;have c1:iLt ((p+i:Nat):Int) (l.length:Int)=true:=by rw[DC];simp;omega
  have a2:GA yZ .i64 (AI AT ((p+i:Nat):Int)) (AI AT (p:Int)) h'=.ok (AI AT (i:Int)) h':=by
   have:yZ ((p+i:Nat):Int) (p:Int)=(i:Int):=by show((p+i:Nat):Int) - (p:Int)=i;omega
   rw[Cm,this,Bn (by omega)]
  have a3:Fg .i64 (AI AT ((p+i:Nat):Int)) (AI AT 1) h'=.ok (AI AT ((p+(i+1):Nat):Int)) h':=by
   have:((p+i:Nat):Int)+1=((p+(i+1):Nat):Int):=by omega
   rw[Ep,this,Bn (by omega)]
  have pre:∃ e2,QL F e' h'=X6 (J5 1 (Ok F e2 h')) (G 25 (CG .i64 (BE .i64) (J 8) (kV (AI AT 1))) (G 8 (Aj 25) Aw)) F/\J 46 e2=.bool ((decide (0<i) && decide (c=0)) || (decide (8<i) && decide (1<c)))/\J 0 e2=u/\J 1 e2=AI AT (p:Int)/\J 7 e2=.int .u64 (acc:Int)/\J 8 e2=AI AT ((p+i:Nat):Int)/\J 9 e2=.int .u8 (c:Int)/\J 10 e2=AI AT (i:Int):=by
   obtain⟨e2,q1,q2,q3,q4,q5,q6,q7,q8⟩:=ge (K:=Ok) (F:=F) (h:=h') (e:=Env.set 10 (AI AT (i:Int)) (Env.set 9 (.int .u8 (c:Int)) (Env.set 32 (AI AT (i:Int)) (Env.set 29 (.int .u8 (c:Int)) (Env.set 28 (.pointer (some a)) (Env.set 23 (.bool true) (Env.set 22 (AI AT (l.length:Int)) e'))))))) (c:=c) (i:=i) (b1:=decide (0<i)) (b2:=decide (c=0)) (b3:=decide (8<i)) (b4:=decide (1<c))
    (by simp[AG]) (by simp[AG]) (by rw[Gf,decide_eq_decide];omega) (by rw[DY,zS,beq_iff_eq,decide_eq_true_eq];omega) (by rw[Gf,decide_eq_decide];omega) (by rw[Gf,decide_eq_decide];omega)
   refine⟨e2,?_,q2,?_,?_,?_,?_,?_,?_⟩
   ·rw[Uf]
    simp only[Gc,HJ,OT,BJ,Ay,Gm,Ig,Dz,Gl,HY,AG,By,BY,reduceIte,Af,t0,Vl,AK,AJ,t8,c1,A9,g1,AN,g2,B4,t1,a2,q1]
   ·rw[q3];simp only[AG,By,BY,reduceIte];exact t0
   ·rw[q4];simp only[AG,By,BY,reduceIte];exact t1
   ·rw[q5];simp only[AG,By,BY,reduceIte];exact t7
   ·rw[q6];simp only[AG,By,BY,reduceIte];exact t8
   ·rw[q7];simp only[AG,By,BY,reduceIte]
   ·rw[q8];simp only[AG,By,BY,reduceIte]
  obtain⟨e2,p1,p46,p0,pp1,p7,p8,p9,p10⟩:=pre;rw[Fi]at hu;by_cases AGD:(0<i/\c=0)\/(8<i/\1<c)
  ·right
   have hB:((decide (0<i) && decide (c=0)) || (decide (8<i) && decide (1<c)))=true:=by simpa using AGD
   rw[hB]at p46;rw[if_pos AGD]at hu;have hrun:∃ e3,Ok F e2 h'=.ret e3 h'/\J 4 e3=.int .u64 0/\J 5 e3=AI AT 0/\J 6 e3=AI AT 10:=by
    unfold Ok;simp only[sT,By,BY,reduceIte,p46];exact⟨_,rfl,by simp[AG]⟩
   obtain⟨e3,r1,r4,r5,r6⟩:=hrun;rw[p1,r1,CM,C8];exact⟨rfl,.inr ⟨e3,0,0,10,rfl,r4,r5,r6,.inr ⟨hu,by omega⟩⟩⟩
  ·have hB:((decide (0<i) && decide (c=0)) || (decide (8<i) && decide (1<c)))=false:=by
    rw[<- Bool.not_eq_true];simpa using AGD
   rw[hB]at p46;rw[if_neg AGD]at hu;have hle:acc+c % 128*2 ^ (7*i)<2 ^ (7*(i+1)):=by
    rw[Mt];have h1:c % 128<=127:=by omega
    have h2:=ABX (2 ^ (7*i)) h1;omega
   have AKn:c % 128*2 ^ (7*i)<=9223372036854775808/\acc<9223372036854775808:=by
    have h3:=Q8 hi9;refine⟨?_,by omega⟩;rcases Nat.lt_or_ge i 9 with h4|h4
    ·have h5:2 ^ (7*(i+1))<=9223372036854775808:=Q8 (by omega)
     omega
    ·have h5:c % 128<=1:=by omega
     have h6:=ABX (2 ^ (7*i)) h5;omega
   have m1:bL .u8 (.int .u8 (c:Int)) (.int .u8 128) h'=.ok (.int .u8 ((c % 128:Nat):Int)) h':=by rw[Vb (by omega)];rfl
   have m2:Dr .u64 (.int .u8 ((c % 128:Nat):Int)) h'=.ok (.int .u64 ((c % 128:Nat):Int)) h':=by rw[C5,EV (by omega)]
   have m3:GA AB3 .i64 (AI AT 7) (AI AT (i:Int)) h'=.ok (AI AT ((7*i:Nat):Int)) h':=by
    have:AB3 7 (i:Int)=((7*i:Nat):Int):=by show(7:Int)*(i:Int)=_;omega
    rw[Cm,this,Bn (by omega)]
   have m4:jj .u64 (.int .u64 ((c % 128:Nat):Int)) (AI AT ((7*i:Nat):Int)) h'=.ok (.int .u64 ((c % 128*2 ^ (7*i):Nat):Int)) h':=by
    have:min (7*i) ACN.bits=7*i:=ABk (by show 7*i<=64;omega);rw[jk,this,EV (by omega)]
   have m5:Fg .u64 (.int .u64 (acc:Int)) (.int .u64 ((c % 128*2 ^ (7*i):Nat):Int)) h'=.ok (.int .u64 ((acc+c % 128*2 ^ (7*i):Nat):Int)) h':=by
    rw[Ep,<- Int.natCast_add,EV (by omega)]
   by_cases hsm:c<128
   ·right
    rw[if_pos hsm]at hu;have c2:iLt (c:Int) 128=true:=by rw[DC];simp;omega
    have hrun:∃ e3,Ok F e2 h'=.ret e3 h'/\J 4 e3=.int .u64 ((acc+c % 128*2 ^ (7*i):Nat):Int)/\J 5 e3=AI AT ((p+(i+1):Nat):Int)/\J 6 e3=AI AT 0:=by
     unfold Ok;simp only[sT,By,BY,reduceIte,p46,PA,p9,m1,Cd,m2,B4,p10,m3,VN,m4,BM,p7,m5,AK,AJ,c2,p8,a3];exact⟨_,rfl,by simp[AG]⟩
    obtain⟨e3,r1,r4,r5,r6⟩:=hrun;rw[p1,r1,CM,C8];refine⟨rfl,.inr ⟨e3,_,_,_,rfl,r4,r5,r6,.inl ⟨_,_,hu,?_,rfl,rfl⟩⟩⟩;rw[AAc hsm]
   ·left
    rw[if_neg hsm]at hu;have hi8:i<=8:=by omega
    have c2:iLt (c:Int) 128=false:=by rw[DC];simp;omega
    have hrun:∃ e3,Ok F e2 h'=.norm e3 h'/\J 0 e3=u/\J 1 e3=AI AT (p:Int)/\J 7 e3=.int .u64 ((acc+c % 128*2 ^ (7*i):Nat):Int)/\J 8 e3=AI AT ((p+i:Nat):Int):=by
     unfold Ok;simp only[sT,By,BY,reduceIte,p46,PA,p9,m1,Cd,m2,B4,p10,m3,VN,m4,BM,p7,m5,AK,AJ,c2,p8,a3];exact⟨_,rfl,by simp[AG,p0,pp1,p8]⟩
    obtain⟨e3,r1,r0,rr1,r7,r8⟩:=hrun;have AGa:∃ e4,QL F e' h'=.norm e4 h'/\J 0 e4=u/\J 1 e4=AI AT (p:Int)/\J 7 e4=.int .u64 ((acc+c % 128*2 ^ (7*i):Nat):Int)/\J 8 e4=AI AT ((p+(i+1):Nat):Int):=by
     rw[p1,r1];simp only[Ca,BA,Gc,Gm,BM,r8,HY,a3,Dz,Gl,Lv,AG,By,BY,reduceIte];exact⟨_,rfl,by simp[AG,r0,rr1,r7]⟩
    obtain⟨e4,k1,k2,k3,k4,k5⟩:=AGa;exact⟨by omega,e4,h',k1,rfl,_,k2,k3,k4,k5,hle,by omega,by omega,hu⟩
 ·right
  have c1:iLt ((p+i:Nat):Int) (l.length:Int)=false:=by rw[DC];simp;omega
  have hrun:∃ e2,QL F e' h'=.exit 0 e2 h':=by
   rw[Uf];simp only[sT,By,BY,reduceIte,Af,t0,Vl,AK,AJ,t8,c1];exact⟨_,rfl⟩
  obtain⟨e2,r1⟩:=hrun;rw[r1];refine⟨rfl,.inl ⟨e2,rfl,?_⟩⟩;rw[hu,zC (by omega)];rfl
theorem Ui:MK=G 7 (AQ (kV (.int .u64 0))) (G 8 (Aj 1) (BI (Ab 0 (A3 QL)) qc)):=rfl
theorem ZG:d84=gM:=rfl
theorem qf{n:Nat}{h:Hp}{u:IN}{l:List Nat}{p:Nat}(V:h.AEX u (l.map bv))(hb:∀ x∈l,x<256)(hp:p<=l.length)(hl:l.length<=1000000):
  ∃ a b c,call AC (n+1) 84 [u,AI AT (p:Int)] h=.ok (.tuple ⟨[.int .u64 a,AI AT b,AI AT c]⟩) h/\lx l p a b c:=by
 have Vl:AEs u h=.ok (AI AT (l.length:Int)) h:=by have:=V.len;rwa [OF]at this
 have c0:iLt (p:Int) 0=false:=by rw[DC];simp
 have c1:iGt (p:Int) (l.length:Int)=false:=by rw[Gf];simp;omega
 have pre:∃ e1,gM (call AC n) (AS e0 0 [u,AI AT (p:Int)]) h=MK (call AC n) e1 h/\J 0 e1=u/\J 1 e1=AI AT (p:Int):=by
  unfold gM;simp only[iN,IS,Gc,HJ,OT,Gm,HL,Dz,Gl,HY,AG,By,BY,reduceIte,gD,AK,AJ,c0,Af,Vl,c1];exact⟨_,rfl,by simp[AG]⟩
 obtain⟨e1,p1,p2,p3⟩:=pre;have H:=Zh (F:=call AC n) (e:=Env.set 8 (AI AT (p:Int)) (Env.set 7 (.int .u64 0) e1)) V hb hp hl (by simp[AG,p2]) (by simp[AG,p3]) (by simp[AG]) (by simp[AG]);rcases H with ⟨e2,q1,q2⟩|⟨e2,a,b,c,q1,q4,q5,q6,q7⟩
 ·refine⟨0,0,11,?_,.inr ⟨q2,by omega⟩⟩
  rw[Yv rfl,ZG,p1,Ui];simp only[Gc,Gm,Dz,Gl,HY,AG,By,BY,reduceIte,p3,BJ,Ay];rw[q1];simp only[A7,BA];unfold qc;simp only[sT,By,BY,reduceIte,BG,MH]
 ·refine⟨a,b,c,?_,q7⟩
  rw[Yv rfl,ZG,p1,Ui];simp only[Gc,Gm,Dz,Gl,HY,AG,By,BY,reduceIte,p3,BJ,Ay];rw[q1];simp only[CM,C8];simp only[BG,MH,q4,q5,q6]
end
noncomputable section
open Go
def PQ(T:List Nat):Nat->List Nat->Nat
 |s,[]=>s
 |s,b::l=>PQ T (AAB (T.getD (AAB (s % 256) b) 0) (s/256)) l
def CD(T l:List Nat):Nat:=4294967295 - PQ T 4294967295 l
def AE4(T:List Nat):Prop:=T.length=256/\∀ i,T.getD i 0<4294967296
theorem j9{a b:Nat}(ha:a<256)(hb:b<256):AAB a b<256:=ACs (n:=8) ha hb
theorem cQ{a b:Nat}(ha:a<4294967296)(hb:b<4294967296):AAB a b<4294967296:=ACs (n:=32) ha hb
theorem OK{T:List Nat}(hT:AE4 T){s:Nat}(hs:s<4294967296)(b:Nat):AAB (T.getD (AAB (s % 256) b) 0) (s/256)<4294967296:=cQ (hT.2 _) (by omega)
theorem Vv{T:List Nat}(hT:AE4 T):∀ (l:List Nat) (s:Nat),s<4294967296->PQ T s l<4294967296
 |[],s,hs=>hs
 |b::l,s,hs=>Vv hT l _ (OK hT hs b)
theorem II(T l:List Nat):CD T l<4294967296:=by unfold CD;omega
def Gz(s:Nat):List Nat:=[s/16777216 % 256,s/65536 % 256,s/256 % 256,s % 256]
def Ea(T l:List Nat):List Nat:=l++Gz (CD T l)
theorem IF(T l:List Nat):(Ea T l).length=l.length+4:=by unfold Ea;rw[No];rfl
theorem js(s x:Nat)(h:x∈Gz s):x<256:=by
 unfold Gz at h;simp only[xz,List.mem_nil_iff,or_false]at h;omega
theorem RO{T l:List Nat}(h:∀ x∈l,x<256):∀ x∈Ea T l,x<256:=fun x hx=>by
 rcases yL.1 hx with h1|h1
 ·exact h x h1
 ·exact js _ x h1
def Bz(ns:List Nat):List Nat:=ns.flatMap CC
theorem E8(n:Nat)(ns:List Nat):Bz (n::ns)=CC n++Bz ns:=rfl
theorem TV(a b:List Nat):Bz (a++b)=Bz a++Bz b:=List.flatMap_append
theorem OM{ns:List Nat}:∀ x∈Bz ns,x<256:=fun x hx=>by
 obtain⟨n,_,h⟩:=List.mem_flatMap.1 hx;exact cI n x h
theorem Iw:∀ {ns:List Nat},(∀ v∈ns,v<18446744073709551616)->(Bz ns).length<=10*ns.length
 |[],_=>IT _
 |n::ns,h=>by
  have h1:=Kk (h n xa);have h2:=Iw fun v hv=>h v (xZ _ hv)
  rw[E8,No,xY];omega
def PH(l:List Nat):List Nat:=l++xn (60 - l.length) 0
theorem Mo{l:List Nat}(h:l.length<=60):(PH l).length=60:=by unfold PH;rw[No,zO];omega
theorem VX{l:List Nat}(h:∀ x∈l,x<256):∀ x∈PH l,x<256:=fun x hx=>by
 rcases yL.1 hx with h1|h1
 ·exact h x h1
 ·rw[AAy h1];decide
def LG(ns:List Nat):List Nat:=PH (Bz ns)
def rdN:Nat->List Nat->Nat->Option (List Nat×Nat)
 |0,_,p=>some ([],p)
 |k+1,l,p=>match Fi 0 0 (l.drop p)with
  |none=>none
  |some (v,j)=>if v<=1099511627776 then(match rdN k l (p+j)with
   |none=>none
   |some (vs,q)=>some (v::vs,q))else none
theorem Ld:∀ (ns:List Nat) (a r:List Nat),(∀ v∈ns,v<=1099511627776)->rdN ns.length (a++(Bz ns++r)) a.length=some (ns,a.length+(Bz ns).length)
 |[],a,r,_=>rfl
 |v::ns,a,r,h=>by
  have hv:=h v xa;rw[xY,rdN,ABB,E8,yF,sW (by omega)];simp only;have:=Ld ns (a++CC v) r fun x hx=>h x (xZ _ hx)
  rw[yF,No]at this;rw[if_pos hv,this];simp only[No,Nat.add_assoc]
theorem Lc:∀ (k:Nat) (l:List Nat) (p:Nat) (ns:List Nat) (q:Nat),(∀ x∈l,x<256)->p<=l.length->rdN k l p=some (ns,q)->ns.length=k/\l.drop p=Bz ns++l.drop q/\q=p+(Bz ns).length/\q<=l.length/\∀ v∈ns,v<=1099511627776
 |0,l,p,ns,q,hb,hp,h=>by
  cases h;exact⟨rfl,rfl,rfl,hp,fun v hv=>by cases hv⟩
 |k+1,l,p,ns,q,hb,hp,h=>by
  rw[rdN]at h;cases hu:Fi 0 0 (l.drop p)with
  |none=>rw[hu]at h;cases h
  |some vj=>
   obtain⟨v,j⟩:=vj;rw[hu]at h;simp only at h;by_cases hv:v<=1099511627776
   ·rw[if_pos hv]at h
    have hbd:∀ x∈l.drop p,x<256:=fun x hx=>hb x (List.mem_of_mem_drop hx)
    have hj:=lr hbd hu;rw[yk]at hj;obtain⟨g1,g2,g3⟩:=cF hbd hu;cases hr:rdN k l (p+j)with
    |none=>rw[hr]at h;cases h
    |some y=>
     obtain⟨vs,q'⟩:=y;rw[hr]at h;cases h;obtain⟨i1,i2,i3,i4,i5⟩:=Lc k l (p+j) vs q hb (by omega) hr;refine⟨by rw[xY,i1],?_,?_,i4,fun x hx=>?_⟩
     ·rw[g1,List.drop_drop,i2,E8,yF]
     ·rw[i3,E8,No];omega
     ·rcases xz.1 hx with rfl|hx
      ·exact hv
      ·exact i5 x hx
   ·rw[if_neg hv]at h;cases h
def AEP(a b c:Int)(s n:Nat):Bool:=decide (0<=a/\a<=1099511627776/\0<=b/\b<255/\1<=c/\c<=1099511627776/\(s=1\/s=2)/\n<=65536)
def at6(ns:List Nat)(i:Nat):Nat:=ns.getD i 0
def Ev(T l:List Nat):Option (List Nat):=if l.length<4 then none else if Ea T (l.take (l.length - 4))=l then some (l.take (l.length - 4))else none
def PC(ns:List Nat):Prop:=AEP (at6 ns 1) (at6 ns 2) (at6 ns 3) (min (at6 ns 0) 9) 0=true/\at6 ns 4<=65536/\at6 ns 5<=4294967295
def jA(ns:List Nat):Prop:=at6 ns 0<=2/\at6 ns 4<=65536/\at6 ns 5<=4294967295/\AEP (at6 ns 1) (at6 ns 2) (at6 ns 3) (at6 ns 0) 0=true
theorem jB{ns:List Nat}:PC ns↔jA ns:=by
 unfold PC jA AEP;simp only[decide_eq_true_eq];generalize at6 ns 0=s;constructor
 ·rintro⟨⟨h1,h2,h3,h4,h5,h6,h7,h8⟩,h9,h10⟩
  exact⟨by omega,h9,h10,h1,h2,h3,h4,h5,h6,by omega,h8⟩
 ·rintro⟨h0,h9,h10,h1,h2,h3,h4,h5,h6,h7,h8⟩
  exact⟨⟨h1,h2,h3,h4,h5,h6,by omega,h8⟩,h9,h10⟩
def LC(T l ns:List Nat):Prop:=∃ body q,Ev T l=some body/\body.length=60/\rdN 6 body 0=some (ns,q)/\PC ns/\∀ x∈body.drop q,x=0
def wu(T l ns:List Nat):Prop:=∃ q,rdN 6 l 0=some (ns,q)/\jA ns/\Ea T (LG ns)=l
theorem Ju{T l body:List Nat}(h:Ev T l=some body):Ea T body=l/\body=l.take (l.length - 4):=by
 unfold Ev at h;split at h
 ·cases h
 ·split at h
  ·rename_i h2
   cases h;exact⟨h2,rfl⟩
  ·cases h
theorem PU(T body:List Nat):Ev T (Ea T body)=some body:=by
 have h1:(Ea T body).take ((Ea T body).length - 4)=body:=by
  rw[IF,Nat.add_sub_cancel];unfold Ea;exact ACS
 unfold Ev;rw[h1,if_neg (by rw[IF];omega),if_pos rfl]
theorem cW{l:List Nat}(h:∀ x∈l,x=0):l=xn l.length 0:=List.eq_replicate_iff.2 ⟨rfl,h⟩
theorem Q6{T l ns:List Nat}(hb:∀ x∈l,x<256):LC T l ns↔wu T l ns:=by
 constructor
 ·rintro⟨body,q,h1,h2,h3,h4,h5⟩
  obtain⟨k1,k2⟩:=Ju h1;have hbb:∀ x∈body,x<256:=fun x hx=>hb x (by rw[k2]at hx;exact zV hx)
  obtain⟨g1,g2,g3,g4,g5⟩:=Lc 6 body 0 ns q hbb (yK _) h3;rw[yv]at g2;have hz:=cW h5;have hh:LG ns=body:=by
   unfold LG PH;rw[show 60 - (Bz ns).length=(body.drop q).length by rw[yk];omega,<- hz,<- g2]
  refine⟨(Bz ns).length,?_,jB.1 h4,by rw[hh];exact k1⟩;have:=Ld ns [] (body.drop q++Gz (CD T body)) g5;rw[g1]at this;rw[<- k1];unfold Ea;rw[List.nil_append,<- yF,<- g2]at this
  simpa using this
 ·rintro⟨q,h1,h2,h3⟩
  obtain⟨g1,g2,g3,g4,g5⟩:=Lc 6 l 0 ns q hb (yK _) h1;have hlen:(Bz ns).length<=60:=by
   have:=Iw (ns:=ns) fun v hv=>by have:=g5 v hv;omega
   omega
  refine⟨LG ns,(Bz ns).length,by rw[<- h3];exact PU T _,Mo hlen,?_,jB.2 h2,fun x hx=>?_⟩
  ·have:=Ld ns [] (xn (60 - (Bz ns).length) 0) g5
   rw[g1]at this;unfold LG PH
   simpa using this
  ·unfold LG PH at hx
   rw[ABB]at hx;exact AAy hx
end
noncomputable section
open Go
set_option maxRecDepth 100000
abbrev pt(b:Nat):IN:=.pointer (some ⟨b,0,none⟩)
def wv(n:Nat):IN:=.int .u32 (n:Int)
theorem Al{a:Addr}{h:Hp}:Xd (.pointer (some a)) h=.ok (.pointer (some a)) h:=rfl
theorem Ax{F:AEA}{e:Env}{h:Hp}{x:O}:Bf x F e h=Xd (x e) h:=rfl
theorem lq:Ro.k=.ptr 25:=by kernel_rfl
theorem ra{F:AEA}{e:Env}{h:Hp}{a:Addr}{g:O}(hg:g e=.pointer (some a)):oEq Ro.k false g (kV (.pointer none)) F e h=.ok (.bool false) h:=by
 show(match eqV Ro.k (g e) (.pointer none)with|some r=>okB (false != r) h|none=>.no)=_;rw[lq,hg];exact FC
theorem sP{h:Hp}{tb:Nat}{T:List Nat}(R:h.Row tb 0 (T.map wv))(hT:AE4 T){k:IntKind}{x:Nat}(hx:x<256):NG 256 1 (pt tb) (.int k (x:Int)) h=.ok (.pointer (some ⟨tb,x,none⟩)) h/\Hd (.pointer (some ⟨tb,x,none⟩)) h=.ok (wv (T.getD x 0)) h:=by
 refine⟨?_,?_⟩
 ·have:=Ur (h:=h) (n:=256) (es:=1) (b:=tb) (off:=0) (i:=x) (k:=k) hx
  rwa [If,AAi]at this
 ·have hx':x<T.length:=by rw[hT.1];exact hx
  rw[AP,R.AEC (off:=x) (by rw[OF];exact hx'),xV,yx,xV,sh hx'];rfl
theorem Iz{h:Hp}{u:IN}{l:List Nat}(V:h.AEX u (l.map bv)){i:Nat}(hi:i<l.length):∃ a,AE2 1 u (AI AT (i:Int)) h=.ok (.pointer (some a)) h/\Hd (.pointer (some a)) h=.ok (.int .u8 ((l.getD i 0:Nat):Int)) h:=by
 obtain⟨a,g1,g2⟩:=V.at (i:=i) (by rw[OF];exact hi);refine⟨a,g1,?_⟩;rw[g2,xV,yx,xV,sh hi];rfl
theorem gc{l:List Nat}(hb:∀ x∈l,x<256)(i:Nat):l.getD i 0<256:=by
 rw[xV];cases h:l[i]? with
 |none=>decide
 |some x=>exact hb x (List.mem_of_getElem? h)
theorem GJ{l:List Nat}{i:Nat}(hi:i<l.length):l.drop i=l.getD i 0::l.drop (i+1):=by
 rw[zM hi,xV,sh hi];rfl
theorem Hp.AEX.bl{h:Hp}{u:IN}{l:List Nat}(V:h.AEX u (l.map bv))(g:Hp):AEs u g=.ok (AI AT (l.length:Int)) g:=by
 obtain⟨a,c,hu⟩:=V.shape;rw[hu,OF];rfl
theorem xT{a b:Nat}(ha:a<256)(hb:b<256){h:Hp}:Yg AAB .u8 (.int .u8 (a:Int)) (.int .u8 (b:Int)) h=.ok (.int .u8 ((AAB a b:Nat):Int)) h:=To (by show a<=255;omega) (by show b<=255;omega)
theorem we{a b:Nat}(ha:a<4294967296)(hb:b<4294967296){h:Hp}:Yg AAB .u32 (.int .u32 (a:Int)) (.int .u32 (b:Int)) h=.ok (.int .u32 ((AAB a b:Nat):Int)) h:=To (by show a<=4294967295;omega) (by show b<=4294967295;omega)
theorem R0{n:Nat}(h:n<=4294967295):IntKind.u32.wrap (n:Int)=n:=Dl .u32 n h
theorem CI{i:Nat}(hi:i<=1000000000){h:Hp}:Fg .i64 (AI AT (i:Int)) (AI AT 1) h=.ok (AI AT ((i+1:Nat):Int)) h:=by
 have:(i:Int)+1=((i+1:Nat):Int):=by omega
 rw[Ep,this,Bn (by omega)]
theorem EW{a b:Nat}(h:a<b):iLt (a:Int) (b:Int)=true:=by rw[DC];simp;omega
theorem DD{a b:Nat}(h:b<=a):iLt (a:Int) (b:Int)=false:=by rw[DC];simp;omega
theorem sN:suS=BI (Ab 0 (A3 suB)) suE:=rfl
theorem px:d48=gI:=rfl
theorem jr{F:AEA}{h:Hp}{tb:Nat}{T:List Nat}(R:h.Row tb 0 (T.map wv))(hT:AE4 T){u:IN}{l:List Nat}(V:h.AEX u (l.map bv))(hb:∀ x∈l,x<256)(hl:l.length<=900000){e:Env}(s0:J 0 e=pt tb)(s1:J 1 e=u)(s5:J 5 e=.int .u32 ((4294967295:Nat):Int))(s10:J 10 e=AI AT (l.length:Int))(s11:J 11 e=AI AT ((0:Nat):Int)):
  ∃ e' h',A3 suB F e h=.exit 0 e' h'/\(h'=h\/h'=h.marked)/\J 5 e'=.int .u32 ((PQ T 4294967295 l:Nat):Int):=by
 refine Bd (I:=fun i e' h'=>(h'=h\/h'=h.marked)/\∃ s:Nat,J 0 e'=pt tb/\J 1 e'=u/\J 5 e'=.int .u32 (s:Int)/\J 10 e'=AI AT (l.length:Int)/\J 11 e'=AI AT (i:Int)/\i<=l.length/\s<4294967296/\PQ T 4294967295 l=PQ T s (l.drop i))
  (Q:=fun x=>∃ e' h',x=.exit 0 e' h'/\(h'=h\/h'=h.marked)/\J 5 e'=.int .u32 ((PQ T 4294967295 l:Nat):Int)) l.length (by omega) (fun i e' h' ⟨hh,s,t0,t1,t5,t10,t11,hi,hs,hr⟩=>?_) ⟨.inl rfl,4294967295,s0,s1,s5,s10,s11,yK _,by decide,rfl⟩
 have hm:h'.marked=h.marked:=by rcases hh with rfl|rfl<;>rfl
 by_cases hlt:i<l.length
 ·left
  have V2:h.marked.AEX u (l.map bv):=V.same rfl;have R2:h.marked.Row tb 0 (T.map wv):=R.same rfl;obtain⟨a,g1,g2⟩:=Iz V2 hlt;have hc:=gc hb i;rw[GJ hlt]at hr;generalize l.getD i 0=c at g2 hc hr;have c1:=EW hlt;have v1:Dr .u8 (.int .u32 (s:Int)) h.marked=.ok (.int .u8 ((s % 256:Nat):Int)) h.marked:=by rw[C5,IJ]
  have x1:=xT (h:=h.marked) (show s % 256<256 by omega) hc;have hx:=j9 (show s % 256<256 by omega) hc;obtain⟨i1,l1⟩:=sP R2 hT (k:=.u8) hx;have r1:bZ .u32 (.int .u32 (s:Int)) (.int .u64 8) h.marked=.ok (.int .u32 ((s/256:Nat):Int)) h.marked:=Vh (j:=.u32) (q:=.u64) (m:=s) (n:=8);have x2:=we (h:=h.marked) (hT.2 (AAB (s % 256) c)) (show s/256<4294967296 by omega);have l1:Hd (.pointer (some ⟨tb,AAB (s % 256) c,none⟩)) h.marked=.ok (.int .u32 ((T.getD (AAB (s % 256) c) 0:Nat):Int)) h.marked:=l1;have hst:=OK hT hs c;have a3:=CI (i:=i) (h:=h.marked) (by omega);have hrun:∃ e2,suB F e' h'=.norm e2 h.marked/\J 0 e2=pt tb/\J 1 e2=u/\J 5 e2=.int .u32 ((AAB (T.getD (AAB (s % 256) c) 0) (s/256):Nat):Int)/\J 10 e2=AI AT (l.length:Int)/\J 11 e2=AI AT ((i+1:Nat):Int):=by
   unfold suB;simp only[sT,By,BY,reduceIte,AK,AJ,t11,t10,c1,A0,hm,Cd,t5,v1,A9,t1,g1,AN,g2,iT,x1,Ax,t0,Al,DO,i1,l1,VO,r1,x2,BM,a3];exact⟨_,rfl,by simp[AG,t0,t1,t10]⟩
  obtain⟨e2,q1,q2,q3,q4,q5,q6⟩:=hrun;exact⟨hlt,e2,h.marked,q1,.inr rfl,_,q2,q3,q4,q5,q6,hlt,hst,hr⟩
 ·right
  have c1:=DD (show l.length<=i by omega);have hrun:∃ e2,suB F e' h'=.exit 0 e2 h'/\J 5 e2=.int .u32 (s:Int):=by
   unfold suB;simp only[sT,By,BY,reduceIte,AK,AJ,t11,t10,c1];exact⟨_,rfl,by simp[AG,t5]⟩
  obtain⟨e2,q1,q2⟩:=hrun;rw[q1];refine⟨rfl,e2,h',rfl,hh,?_⟩;rw[q2,hr,zC (by omega)];rfl
theorem TN{n:Nat}{h:Hp}{tb:Nat}{T:List Nat}(R:h.Row tb 0 (T.map wv))(hT:AE4 T){u:IN}{l:List Nat}(V:h.AEX u (l.map bv))(hb:∀ x∈l,x<256)(hl:l.length<=900000):
  ∃ h',call AC (n+1) 48 [pt tb,u] h=.ok (.int .u32 ((CD T l:Nat):Int)) h'/\(h'=h\/h'=h.marked):=by
 have ne:∀ e:Env,J 0 e=pt tb->oEq Ro.k false (J 0) (kV (.pointer none)) (call AC n) e h=.ok (.bool false) h:=fun e he=>ra he
 have Vl:=V.bl h;have pre:∃ e1,gI (call AC n) (AS e0 0 [pt tb,u]) h=suS (call AC n) e1 h/\J 0 e1=pt tb/\J 1 e1=u/\J 5 e1=.int .u32 ((4294967295:Nat):Int)/\J 10 e1=AI AT (l.length:Int)/\J 11 e1=AI AT ((0:Nat):Int):=by
  unfold gI;simp only[iN,IS,sT,By,BY,reduceIte,ne,Af,Vl];exact⟨_,rfl,by simp[AG]⟩
 obtain⟨e1,p1,p2,p3,p4,p5,p6⟩:=pre;obtain⟨e2,h',q1,q2,q3⟩:=jr (F:=call AC n) R hT V hb hl p2 p3 p4 p5 p6;have a1:GA yZ .u32 (.int .u32 4294967295) (.int .u32 ((PQ T 4294967295 l:Nat):Int)) h'=.ok (.int .u32 ((CD T l:Nat):Int)) h':=by
  have hs:=Vv hT l 4294967295 (by decide);have:yZ 4294967295 ((PQ T 4294967295 l:Nat):Int)=((CD T l:Nat):Int):=by
   show(4294967295:Int) - _=_;unfold CD;omega
  rw[Cm,this,R0 (by unfold CD;omega)]
 refine⟨h',?_,q2⟩;rw[oa rfl,px,p1,sN];simp only[BJ,Ay,q1,A7,BA];unfold suE;simp only[sT,By,BY,reduceIte,B4,q3,a1,lV0]
end
noncomputable section
open Go
set_option maxRecDepth 100000
def Mk(h:Hp)(k:Nat)(v:IN)(l:List Nat):Prop:=∃ b el,v=.slice (some ⟨b,0,none⟩) l.length l.length/\(el=0\/el=6)/\h.Row b el (l.map bv)/\k<=b
theorem Mk.vals{h:Hp}{k:Nat}{v:IN}{l:List Nat}(m:Mk h k v l):h.AEX v (l.map bv):=by
 obtain⟨b,el,h1,h2,h3,h4⟩:=m;exact .inr ⟨b,0,l.length,el,_,by rw[OF];exact h1,h3,by simp,by rw[yv,List.take_length]⟩
theorem Mk.ext{h h':Hp}{k:Nat}{v:IN}{l:List Nat}(m:Mk h k v l)(W:h.Wf)(x:h.Ext h'):Mk h' k v l:=by
 obtain⟨b,el,h1,h2,h3,h4⟩:=m;exact⟨b,el,h1,h2,h3.ext W x,h4⟩
theorem Mk.same{h h':Hp}{k:Nat}{v:IN}{l:List Nat}(m:Mk h k v l)(hb:h'.bl=h.bl):Mk h' k v l:=by
 obtain⟨b,el,h1,h2,h3,h4⟩:=m;exact⟨b,el,h1,h2,h3.same hb,h4⟩
theorem Mk.le{h:Hp}{k k':Nat}{v:IN}{l:List Nat}(m:Mk h k v l)(hk:k'<=k):Mk h k' v l:=by
 obtain⟨b,el,h1,h2,h3,h4⟩:=m;exact⟨b,el,h1,h2,h3,by omega⟩
theorem Hp.Own.mk{h:Hp}{k:Nat}{v:IN}{l:List Nat}(o:h.Own k 5 v (l.map bv))(hl:0<l.length):Mk h k v l:=by
 rcases o with ⟨_,h2⟩|⟨b,h1,h2,h3,h4⟩
 ·have:=congrArg AA1 h2
  rw[OF,yS]at this;omega
 ·rw[OF]at h1
  exact⟨b,6,h1,.inr rfl,h2,h3⟩
theorem Lg:∀ n:Nat,Bc ty5.zero n=(xn n 0).map bv:=fun n=>by
 have hz:ty5.zero=[bv 0]:=by kernel_rfl
 rw[hz]
 induction n with
 |zero=>rfl
 |succ n ih=>show [bv 0]++Bc [bv 0] n=_;rw[ih];rfl
theorem Q3{A B:List IN}{x y:IN}:over (A++x::B) A.length [y]=A++y::B:=by
 unfold over;have e:A++x::B=(A++[x])++B:=by simp
 rw[ACS,e,show A.length+[y].length=(A++[x]).length by simp,ABB];simp
theorem Mn{A B V:List IN}(h:A.length=V.length):over (A++B) 0 V=V++B:=by
 unfold over;rw[If,<- h,ABB];simp
theorem YC{s i:Nat}(hi:i<4):(Gz s).drop (3 - i)=(s/2 ^ min (8*i) 32) % 256::(Gz s).drop (4 - i):=by
 have:i=0\/i=1\/i=2\/i=3:=by omega
 rcases this with rfl|rfl|rfl|rfl
 ·show [s % 256]=s/1 % 256::[]
  rw[Nat.div_one]
 ·rfl
 ·rfl
 ·rfl
theorem Pk{a b:List Nat}(ha:∀ x∈a,x<256)(hb:∀ x∈b,x<256):bEq (a.map AAR) (b.map AAR)=decide (a=b):=by
 rw[Lp,zS,beq_iff_eq,decide_eq_true_eq];refine⟨fun h=>?_,fun h=>by rw[h]⟩;have h1:=congrArg (List.map ACX) h;rw[ACv,ACv]at h1;have e:∀ l:List Nat,(∀ x∈l,x<256)->l.map (ACX∘AAR)=l:=fun l hl=>by
  have:l.map (ACX∘AAR)=l.map id:=List.map_congr_left fun x hx=>by
   show(AAR x).toNat=x;rw[UInt8.toNat_ofNat',AAc (hl x hx)]
  rw[this,List.map_id]
 rwa [e a ha,e b hb]at h1
theorem lg{n:Nat}{h:Hp}{u v:IN}{a b:List Nat}(U:h.AEX u (a.map bv))(V:h.AEX v (b.map bv))(ha:∀ x∈a,x<256)(hb:∀ x∈b,x<256):call AC (n+1) 18 [u,v] h=.ok (.bool (decide (a=b))) h:=by
 have hbe:=Pk ha hb;rw[oI rfl];unfold d18;simp only[iN,IS,sT,By,BY,reduceIte,Kb,U.bytes.str,V.bytes.str,PB,Oc,hbe,lV0]
theorem sL:slS=BI (Ab 0 (A3 slB)) slE:=rfl
theorem po:d22=gF:=rfl
theorem jm{F:AEA}{h h0:Hp}(W0:h0.Wf)(x:h0.Ext h){r s N:Nat}(hr:h0.next<=r){u:IN}{l:List Nat}(V:h0.AEX u (l.map bv))(hN:N=l.length+4)(hl:l.length<=900000)(hs:s<4294967296)(R:h.Row r 0 ((xn N 0).map bv)){e:Env}
  (s1:J 1 e=u)(s5:J 5 e=.slice (some ⟨r,0,none⟩) N N)(s6:J 6 e=.int .u32 (s:Int))(s15:J 15 e=AI AT ((0:Nat):Int)):
  ∃ e' h',A3 slB F e h=.exit 0 e' h'/\h0.Ext h'/\h'.Row r 0 ((xn l.length 0++Gz s).map bv)/\J 1 e'=u/\J 5 e'=.slice (some ⟨r,0,none⟩) N N:=by
 refine Bd (I:=fun i e' h'=>h0.Ext h'/\h'.Row r 0 ((xn (N - i) 0++(Gz s).drop (4 - i)).map bv)/\J 1 e'=u/\J 5 e'=.slice (some ⟨r,0,none⟩) N N/\J 6 e'=.int .u32 (s:Int)/\J 15 e'=AI AT (i:Int)/\i<=4)
  (Q:=fun x=>∃ e' h',x=.exit 0 e' h'/\h0.Ext h'/\h'.Row r 0 ((xn l.length 0++Gz s).map bv)/\J 1 e'=u/\J 5 e'=.slice (some ⟨r,0,none⟩) N N) 4 (by omega) (fun i e' h' ⟨x',R',t1,t5,t6,t15,hi⟩=>?_)
  ⟨x,by rw[Nat.sub_zero,zC (show(Gz s).length<=4 - 0 from IT _),List.append_nil];exact R,s1,s5,s6,s15,by omega⟩
 by_cases hlt:i<4
 ·left
  have W:=x'.wf;have Vl:=V.bl h';have c1:iLt (i:Int) 4=true:=EW hlt;have a1:Fg .i64 (AI AT (l.length:Int)) (AI AT 4) h'=.ok (AI AT (N:Int)) h':=by
   rw[Ep,show(l.length:Int)+4=(N:Int)by omega,Bn (by omega)]
  have a2:GA yZ .i64 (AI AT (N:Int)) (AI AT 1) h'=.ok (AI AT ((N - 1:Nat):Int)) h':=by
   have:yZ (N:Int) 1=((N - 1:Nat):Int):=by show(N:Int) - 1=_;omega
   rw[Cm,this,Bn (by omega)]
  have a3:GA yZ .i64 (AI AT ((N - 1:Nat):Int)) (AI AT (i:Int)) h'=.ok (AI AT ((N - (i+1):Nat):Int)) h':=by
   have:yZ ((N - 1:Nat):Int) (i:Int)=((N - (i+1):Nat):Int):=by show((N - 1:Nat):Int) - (i:Int)=_;omega
   rw[Cm,this,Bn (by omega)]
  have a4:GA AB3 .i64 (AI AT 8) (AI AT (i:Int)) h'=.ok (AI AT ((8*i:Nat):Int)) h':=by
   have:AB3 8 (i:Int)=((8*i:Nat):Int):=by show(8:Int)*(i:Int)=_;omega
   rw[Cm,this,Bn (by omega)]
  have r1:bZ .u32 (.int .u32 (s:Int)) (AI AT ((8*i:Nat):Int)) h'=.ok (.int .u32 ((s/2 ^ min (8*i) 32:Nat):Int)) h':=Vh (j:=.u32) (q:=.i64) (m:=s) (n:=8*i);have v1:Dr .u8 (.int .u32 ((s/2 ^ min (8*i) 32:Nat):Int)) h'=.ok (.int .u8 ((s/2 ^ min (8*i) 32 % 256:Nat):Int)) h':=by rw[C5,IJ]
  have i1:AE2 1 (.slice (some ⟨r,0,none⟩) N N) (AI AT ((N - (i+1):Nat):Int)) h'=.ok (.pointer (some ⟨r,N - (i+1),none⟩)) h':=by
   have:=C6 (h:=h') (n:=N) (c:=N) (es:=1) (b:=r) (off:=0) (i:=N - (i+1)) (k:=.i64) (by omega)
   rwa [If,AAi]at this
  have AIt:=YC (s:=s) hlt;generalize s / 2 ^ min (8 * i) 32 % 256=c at v1 AIt;have AH6:(xn (N - i) 0++(Gz s).drop (4 - i)).map bv=(xn (N - (i+1)) 0).map bv++bv 0::((Gz s).drop (4 - i)).map bv:=by
   rw[show N - i=(N - (i+1))+1 by omega,List.replicate_succ',yc,yc,yF];rfl
  rw[AH6]at R';have hAl:((xn (N - (i+1)) 0).map bv).length=N - (i+1):=by simp
  have ho:N - (i+1)+[Value.int .u8 (c:Int)].length<=((xn (N - (i+1)) 0).map bv++bv 0::((Gz s).drop (4 - i)).map bv).length:=by
   simp only[No,xY,yS,hAl];omega
  have AEK:256<=r:=by have:=W0.big;omega
  have st:=R'.AEH (n:=1) (off:=N - (i+1)) W AEK (v:=.int .u8 (c:Int)) rfl ho rfl;have wr:=R'.AEM W (off:=N - (i+1)) (vs:=[.int .u8 (c:Int)]) ho;have xw:=R'.AEe x' hr (off:=N - (i+1)) (vs:=[.int .u8 (c:Int)]) ho;have a5:=CI (i:=i) (h:=h'.wr r (N - (i+1)) [.int .u8 (c:Int)]) (by omega);have hov:over ((xn (N - (i+1)) 0).map bv++bv 0::((Gz s).drop (4 - i)).map bv) (N - (i+1)) [.int .u8 (c:Int)]=(xn (N - (i+1)) 0++(Gz s).drop (4 - (i+1))).map bv:=by
   have:=Q3 (A:=(xn (N - (i+1)) 0).map bv) (B:=((Gz s).drop (4 - i)).map bv) (x:=bv 0) (y:=bv c);rw[hAl]at this;rw[show 4 - (i+1)=3 - i by omega,AIt,yc,List.map_cons];exact this
  rw[hov]at wr;rw[Cq]at st;have hrun:∃ e2,slB F e' h'=.norm e2 (h'.wr r (N - (i+1)) [.int .u8 (c:Int)])/\J 1 e2=u/\J 5 e2=.slice (some ⟨r,0,none⟩) N N/\J 6 e2=.int .u32 (s:Int)/\J 15 e2=AI AT ((i+1:Nat):Int):=by
   unfold slB;simp only[sT,By,BY,reduceIte,AK,AJ,t15,c1,Af,t1,Vl,BM,a1,B4,a2,a3,a4,VO,t6,r1,Cd,v1,A9,t5,i1,AX,st,a5];exact⟨_,rfl,by simp[AG,t1,t5,t6]⟩
  obtain⟨e2,q1,q2,q3,q4,q5⟩:=hrun;exact⟨hlt,e2,_,q1,xw,wr,q2,q3,q4,q5,hlt⟩
 ·right
  have hi4:i=4:=by omega
  subst hi4;have c1:=DD (show 4<=4 by omega);have hrun:∃ e2,slB F e' h'=.exit 0 e2 h'/\J 1 e2=u/\J 5 e2=.slice (some ⟨r,0,none⟩) N N:=by
   unfold slB;have c1:iLt ((4:Nat):Int) 4=false:=c1;simp only[sT,By,BY,reduceIte,AK,AJ,t15,c1];exact⟨_,rfl,by simp[AG,t1,t5]⟩
  obtain⟨e2,q1,q2,q3⟩:=hrun;rw[q1];refine⟨rfl,e2,h',rfl,x',?_,q2,q3⟩;have e1:N - 4=l.length:=by omega
  have e2:4 - 4=0:=rfl;rw[e1,e2,yv]at R';exact R'
theorem O9{F:AEA}{e:Env}{h:Hp}(W:h.Wf){x y:O}{N:Nat}(hx:x e=AI AT (N:Int))(hy:y e=AI AT (N:Int))(hN:N<=1000000):HC 1 ty5.zero x y F e h=.ok (.slice (some ⟨h.next,0,none⟩) N N) (h.AD9 0 ((xn N 0).map bv)):=by
 unfold HC;rw[hx,hy,DH];unfold Qj;have e1:xd N N=true:=Au.2 (IT N);have e2:xd (yl (xW N) (xW 1)) most=true:=Au.2 (by
  show(N+1)*2<=1099511627776;omega)
 simp only[e1,e2,cond_true];rw[C4 W,Lg];rfl
theorem ed{F:AEA}{e:Env}{h:Hp}(W:h.Wf){x y:O}{r N:Nat}{u:IN}{l A B:List Nat}(hx:x e=.slice (some ⟨r,0,none⟩) N N)(hy:y e=u)(V:h.AEX u (l.map bv))(AEK:256<=r)(hA:A.length=l.length)(hN:N=(A++B).length)(R:h.Row r 0 ((A++B).map bv)):
  Jb 1 x y F e h=.ok (AI AT (l.length:Int)) (h.wr r 0 (l.map bv))/\(h.wr r 0 (l.map bv)).Row r 0 ((l++B).map bv):=by
 have ho:0+(l.map bv).length<=((A++B).map bv).length:=by simp;omega
 have h1:Ba (l.map bv)=true:=DV l;refine⟨?_,?_⟩
 ·unfold Jb Pv
  rw[hx,hy];simp only[V.lenV,Ap,BW,OF];rw[ABk (show l.length<=N by rw[hN,No];omega)];rw[V.src (n:=l.length) (by rw[OF])];rw[R.store W AEK ho h1];rfl
 ·have:=R.AEM W ho
  rw[yc,Mn (by simp[hA])]at this;rw[yc];exact this
theorem Vf{n:Nat}{h:Hp}(W:h.Wf){tb:Nat}{T:List Nat}(R:h.Row tb 0 (T.map wv))(hT:AE4 T){u:IN}{l:List Nat}(V:h.AEX u (l.map bv))(hb:∀ x∈l,x<256)(hl:l.length<=900000):
  ∃ h' v,call AC (n+2) 22 [pt tb,u] h=.ok v h'/\h.Ext h'/\Mk h' h.next v (Ea T l):=by
 have x1:=(Hp.Ext.refl W).AD9 0 ((xn (l.length+4) 0).map bv);have R1:=Hp.Row.new W 0 ((xn (l.length+4) 0).map bv);have mk:=fun (e:Env) (hx:J 10 e=AI AT ((l.length+4:Nat):Int))=>O9 (F:=call AC (n+1)) (e:=e) W (x:=J 10) (y:=J 10) hx hx (by omega)
 generalize h.AD9 0 ((xn (l.length+4) 0).map bv)=h1 at x1 R1 mk;obtain⟨h2,k1,k2⟩:=TN (n:=n) (R.ext W x1) hT (V.ext W x1) hb hl;have hbl:h2.bl=h1.bl:=by rcases k2 with rfl|rfl<;>rfl
 have x2:h.Ext h2:=by
  rcases k2 with rfl|rfl
  ·exact x1
  ·exact x1.marked
 have Vl:=V.bl h;have a1:Fg .i64 (AI AT (l.length:Int)) (AI AT 4) h=.ok (AI AT ((l.length+4:Nat):Int)) h:=by
  rw[Ep,show(l.length:Int)+4=((l.length+4:Nat):Int)by omega,Bn (by omega)]
 have pre:∃ e1,gF (call AC (n+1)) (AS e0 0 [pt tb,u]) h=slS (call AC (n+1)) e1 h2/\J 1 e1=u/\J 5 e1=.slice (some ⟨h.next,0,none⟩) (l.length+4) (l.length+4)/\J 6 e1=.int .u32 ((CD T l:Nat):Int)/\J 15 e1=AI AT ((0:Nat):Int):=by
  unfold gF;simp only[iN,IS,sT,By,BY,reduceIte,Af,Vl,BM,a1,mk,cA0,k1];exact⟨_,rfl,by simp[AG]⟩
 obtain⟨e1,p1,p2,p3,p4,p5⟩:=pre;obtain⟨e2,h3,q1,x3,R3,q2,q3⟩:=jm (F:=call AC (n+1)) W x2 (IT _) V rfl hl (II T l) (R1.same hbl) p2 p3 p4 p5;have AEK:=W.big;obtain⟨c1,c2⟩:=ed (F:=call AC (n+1)) (e:=e2) x3.wf (x:=J 5) (y:=J 1) q3 q2 (V.ext W x3) AEK (A:=xn l.length 0) (B:=Gz (CD T l)) (by simp) (by rw[No,zO];rfl) R3;have x4:=R3.AEe x3 (IT _) (off:=0) (vs:=l.map bv) (by rw[OF,OF,No,zO];omega);refine⟨_,.slice (some ⟨h.next,0,none⟩) (l.length+4) (l.length+4),?_,x4,⟨h.next,0,by rw[IF],.inl rfl,c2,IT _⟩⟩;rw[oL rfl,po,p1,sL];simp only[BJ,Ay,q1,A7,BA];unfold slE;simp only[sT,By,BY,reduceIte,c1,q3,lV0]
end
noncomputable section
open Go
set_option maxRecDepth 100000
theorem cE:LP.k=.slice 5:=by kernel_rfl
theorem rL{F:AEA}{e:Env}{h:Hp}{a:Addr}{n c:Nat}{g:O}(hg:g e=.slice (some a) n c):oEq LP.k false g (kV (.slice none 0 0)) F e h=.ok (.bool false) h:=by
 show(match eqV LP.k (g e) (.slice none 0 0)with|some r=>okB (false != r) h|none=>.no)=_;rw[cE,hg];exact FC
theorem Oj{h0 h:Hp}{eb en k b:Nat}{u:IN}{ys:List IN}(x0:h0.Ext h)(hk2:k<=h.next)(r:h.Row b 0 [])(y:h.AEX u ys)(hy:0<ys.length)(ha:Ba ys=true)(hm:(ys.length+1)*(eb+1)<=1099511627776):
  ∃ h' v',DP 1 eb en (.slice (some ⟨b,0,none⟩) 0 0) u h=.ok v' h'/\h0.Ext h'/\h'.Own k en v' ys:=by
 have W:=x0.wf;obtain⟨cc,hcc,hl⟩:=r.rowOf;obtain⟨t,h2,h3⟩:=EG ys cc [] 0 hl (.inr rfl);have h3:t.Is ys:=by simpa using h3
 refine⟨h.push (.cells t ys.length (en+1)),.slice (some ⟨h.next,0,none⟩) ys.length ys.length,?_,x0.push _,.inr ⟨h.next,rfl,⟨t,by rw[W.AEZ,if_pos rfl],h3⟩,hk2,W.big⟩⟩;unfold DP Dm;simp only[y.lenV,y.src rfl,Ap,zL,If];have e1:xd ys.length 0=false:=by
  cases e:xd ys.length 0
  ·rfl
  ·have:=Au.1 e;omega
 have e2:xd (yl (xW ys.length) (xW eb)) JU=true:=Au.2 (H8 hm);rw[e1];simp only[e2,cond_true,ha];unfold G9;have hcc:rowOf h b=.ok cc 0 0:=hcc;have e3:Nat.beq 0 (yl 0 1)=true:=rfl;simp only[hcc,e3,h2];unfold E3;simp only[hcc,Bm,zL,If];unfold CY;rw[Ap,C3 W];rfl
theorem P5{F:AEA}{e:Env}{h:Hp}(W:h.Wf):Ar 0 (Bc ty5.zero 0) [] F e h=.ok (.slice (some ⟨h.next,0,none⟩) 0 0) (h.AD9 0 []):=by
 have:Bc ty5.zero 0=[]:=rfl;rw[this,CO,Bu,C4 W];rfl
theorem Pr{n:Nat}{h:Hp}(W:h.Wf){a:Addr}{c:Nat}{l:List Nat}(V:h.AEX (.slice (some a) l.length c) (l.map bv))(hl:l.length<=900000):∃ h' v,call AC (n+1) 93 [.slice (some a) l.length c] h=.ok v h'/\h.Ext h'/\Mk h' h.next v l:=by
 have y1:=(Hp.Ext.refl W).AD9 0 [];have R:=Hp.Row.new W 0 [];have es:=fun (e:Env)=>P5 (F:=call AC n) (e:=e) W
 have n1:(h.AD9 0 []).next=h.next+1:=rfl;generalize h.AD9 0 []=h1 at y1 R es n1;have ne:∀ e:Env,J 0 e=.slice (some a) l.length c->oEq LP.k false (J 0) (kV (.slice none 0 0)) (call AC n) e h=.ok (.bool false) h:=fun e he=>rL he
 rcases Nat.eq_zero_or_pos l.length with hz|hz
 ·have hl0:l=[]:=List.eq_nil_of_length_eq_zero hz
  subst hl0;have AEK:=W.big;have ap:DP 1 1 5 (.slice (some ⟨h.next,0,none⟩) 0 0) (.slice (some a) 0 c) h1=.ok (.slice (some ⟨h.next,0,none⟩) 0 0) (h1.wr h.next 0 []):=Pg (l:=[]) y1.wf AEK R (V.ext W y1).bytes (IT _) (IT _);have R2:=R.AEM y1.wf (off:=0) (vs:=[]) (IT _);have x2:=R.AEe y1 (IT _) (off:=0) (vs:=[]) (IT _);refine⟨_,.slice (some ⟨h.next,0,none⟩) 0 0,?_,x2,⟨h.next,0,rfl,.inl rfl,R2,IT _⟩⟩;rw[Ib rfl];unfold d93;have ne:∀ e:Env,J 0 e=.slice (some a) 0 c->oEq LP.k false (J 0) (kV (.slice none 0 0)) (call AC n) e h=.ok (.bool false) h:=ne;simp only[iN,IS,sT,By,BY,reduceIte,yS,ne,es,BN,ap,lV0]
 ·obtain⟨h2,v,a1,a2,a3⟩:=Oj (eb:=1) (en:=5) (k:=h.next) y1 (by omega) R (V.ext W y1) (by rw[OF];exact hz) (DV l) (by rw[OF];omega)
  refine⟨h2,v,?_,a2,a3.mk hz⟩;rw[Ib rfl];unfold d93;simp only[iN,IS,sT,By,BY,reduceIte,ne,es,BN,a1,lV0]
theorem Y8{F:AEA}{e:Env}{h:Hp}{x y:O}{a:Addr}{el N C m:Nat}(hx:x e=.slice (some a) N C)(hy:y e=AI AT (m:Int))(hm:m<=C):EB el 1 x none (some y) none F e h=.ok (.slice (some a) m C) h:=by
 show(match x e with|.slice a n c=>Dc e n c none (some y) none (fun l hh m=>EL el 1 a false l hh m h)|_=>.no)=_;rw[hx];show Cu e (some y) N C (fun hh=>Cu e none 0 hh fun l=>EL el 1 (some a) false l hh C h)=_;have hb:∀ K:Nat->R,Cu e (some y) N C K=K m:=fun K=>by
  show(match DZ (y e)with|.ok n=>(bif xd n C then K n else .no)|.no=>.no)=_;rw[hy,DH];simp only;rw[Au.2 hm];rfl
 rw[hb];show Br (some a) 1 0 m C h=_;unfold Br;simp only[Ap];cases C with
 |zero=>rfl
 |succ C=>rfl
theorem aW{F:AEA}{e:Env}{h:Hp}{k:C}{o:Addr}{n c:Nat}(hb:o.block<h.mark):Iq (.slice (some o) n c) k F e h=k F e h:=by
 show(bif Nat.blt o.block h.mark then k F e h else .no)=_;rw[Bb.2 hb];rfl
theorem Hp.AEX.blt{h:Hp}(W:h.Wf){o:Addr}{n c:Nat}{xs:List IN}(V:h.AEX (.slice (some o) n c) xs):o.block<h.next:=by
 rcases V with ⟨h1,_⟩|⟨b,off,c',el,L,h1,h2,_⟩
 ·cases h1
 ·cases h1;exact h2.lt W
def YL(u:IN):Prop:=∀ o n c,u=.slice o n c->n<=c
theorem Mk.cap{h:Hp}{k:Nat}{v:IN}{l:List Nat}(m:Mk h k v l):YL v:=fun o n c e=>by
 obtain⟨b,el,h1,_⟩:=m;rw[h1]at e;cases e;exact IT _
def wy(T l:List Nat)(h h':Hp)(r:R):Prop:=(∃ body v,Ev T l=some body/\r=.ok (.tuple ⟨[v,AI AT 0]⟩) h'/\Mk h' h.next v body)\/(Ev T l=none/\∃ c:Int,c≠0/\r=.ok (.tuple ⟨[.slice none 0 0,AI AT c]⟩) h')
theorem YJ{n:Nat}{h:Hp}(W:h.Wf){tb:Nat}{T:List Nat}(R:h.Row tb 0 (T.map wv))(hT:AE4 T){u:IN}{l:List Nat}(V:h.AEX u (l.map bv))(hC:YL u)(hb:∀ x∈l,x<256)(hl:l.length<=900000):
  ∃ h',h.Ext h'/\wy T l h h' (call AC (n+3) 82 [pt tb,u] h):=by
 have Vl:=V.bl h;by_cases h4:l.length<4
 ·have c1:iLt (l.length:Int) 4=true:=EW h4
  refine⟨h,.refl W,.inr ⟨by unfold Ev;rw[if_pos h4],11,by omega,?_⟩⟩;rw[SO rfl];unfold d82;simp only[iN,IS,sT,By,BY,reduceIte,Af,Vl,AK,AJ,c1,BG,DR]
 ·have c1:iLt (l.length:Int) 4=false:=DD (a:=l.length) (b:=4) (by omega)
  have a1:GA yZ .i64 (AI AT (l.length:Int)) (AI AT 4) h=.ok (AI AT ((l.length - 4:Nat):Int)) h:=by
   have:yZ (l.length:Int) 4=((l.length - 4:Nat):Int):=by show(l.length:Int) - 4=_;omega
   rw[Cm,this,Bn (by omega)]
  have hlm:(l.map bv).length=l.length:=OF ..;obtain⟨o,c,hu,V1⟩:=V.cut (n:=l.length - 4) (by rw[hlm];omega);rw[hlm]at hu;have hlen:(l.take (l.length - 4)).length=l.length - 4:=by rw[List.length_take];omega
  have V1:h.AEX (.slice (some o) (l.take (l.length - 4)).length c) ((l.take (l.length - 4)).map bv):=by rw[hlen,List.map_take];exact V1
  obtain⟨h1,v,k1,x1,m1⟩:=Pr (n:=n+1) W V1 (by omega);rw[hlen]at k1;have hbb:∀ x∈l.take (l.length - 4),x<256:=fun x hx=>hb x (zV hx)
  have xm:=x1.marked;have Wm:=xm.wf;have xq:h.Ext h1.marked.quiet:=xm.quiet;obtain⟨h2,w,k2,x2,m2⟩:=Vf (n:=n) xq.wf (R.ext W xq) hT ((m1.same (h':=h1.marked.quiet) rfl).vals) hbb (by omega);have q1:∀ (F:AEA) (e:Env),F=call AC (n+2)->J 0 e=pt tb->J 6 e=v->Ae .weak (AU 22 [J 0,J 6]) F e h1.marked=.ok w (h1.marked.back h2):=fun F e hF h0 h6=>by
   subst hF;refine Ck ?_ x2 (IT _);rw[BO,AV,AV,A2,h0,h6];exact k2
  have x3:h1.marked.Ext (h1.marked.back h2):=Hp.Ext.back x2;have xb:=xm.trans x3;have m3:Mk (h1.marked.back h2) h1.marked.quiet.next w (Ea T (l.take (l.length - 4))):=m2.same rfl;have m4:Mk (h1.marked.back h2) h.next v (l.take (l.length - 4)):=(m1.same (h':=h1.marked) rfl).ext Wm x3;have Ve:=V.ext W xb;have st1:=m3.vals.bytes.str;have st2:=Ve.bytes.str;have hbs:=Pk (RO (T:=T) hbb) hb;have hmk:o.block<(h1.marked.back h2).mark:=by
   have h5:o.block<h.next:=by rw[hu]at V;exact V.blt W
   have h6:=x1.next;show o.block<h1.next;omega
  have old:∀ (k:C) (F:AEA) (e:Env),Iq u k F e (h1.marked.back h2)=k F e (h1.marked.back h2):=fun k F e=>by rw[hu];exact aW hmk
  have ct:∀ (F:AEA) (e:Env),J 1 e=u->J 13 e=AI AT ((l.length - 4:Nat):Int)->EB 5 1 (J 1) none (some (J 13)) none F e h=.ok (.slice (some o) (l.length - 4) c) h:=fun F e e1 e2=>by
   have:=hC _ _ _ hu;exact Y8 (e1.trans hu) e2 (by omega)
  by_cases hs:Ea T (l.take (l.length - 4))=l
  ·refine⟨_,xb,.inl ⟨_,v,by unfold Ev;rw[if_neg h4,if_pos hs],?_,m4⟩⟩
   rw[decide_eq_true hs]at hbs;rw[SO rfl];unfold d82;simp only[iN,IS,sT,By,BY,reduceIte,Af,Vl,AK,AJ,c1,B4,a1,ct,cA0,k1,A0,q1,Kb,st1,D5,old,DQ,st2,PB,Oc,hbs,Bool.not_true,BG,DR]
  ·refine⟨_,xb,.inr ⟨by unfold Ev;rw[if_neg h4,if_neg hs],12,by omega,?_⟩⟩
   rw[decide_eq_false hs]at hbs;rw[SO rfl];unfold d82;simp only[iN,IS,sT,By,BY,reduceIte,Af,Vl,AK,AJ,c1,B4,a1,ct,cA0,k1,A0,q1,Kb,st1,D5,old,DQ,st2,PB,Oc,hbs,Bool.not_false,BG,DR]
end
end Go.Proofs.YtbjadbhkogcfeaaGreat

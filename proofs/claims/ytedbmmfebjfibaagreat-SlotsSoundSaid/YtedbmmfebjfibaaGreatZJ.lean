/-
  Part ZJ of what Lawso stands on: printed by program, names and spaces cut.
-/
import Derived.Test.YtedbmmfebjfibaaGreatZI
namespace Go.Proofs.YtedbmmfebjfibaaGreat
noncomputable section
open Go
theorem Ap{a b:String}(h:(a == b)=false):a≠b:=by simpa using h
theorem o3:Bi Tryz.prog ty 3 b3:=Or.inl ⟨Tryz.f3,al3,Tryz.func3,Ap (by kernel_rfl),jt⟩
theorem o8:Bi Tryz.prog ty 8 b8:=Or.inl ⟨Tryz.f8,al8,Tryz.func8,Ap (by kernel_rfl),ju⟩
theorem o9:Bi Tryz.prog ty 9 b9:=Or.inl ⟨Tryz.f9,al9,Tryz.func9,Ap (by kernel_rfl),jv⟩
theorem o10:Bi Tryz.prog ty 10 b10:=Or.inl ⟨Tryz.f10,iV,Tryz.func10,Ap (by kernel_rfl),bW⟩
theorem o11:Bi Tryz.prog ty 11 b11:=Or.inl ⟨Tryz.f11,iW,Tryz.func11,Ap (by kernel_rfl),bX⟩
theorem o12:Bi Tryz.prog ty 12 b12:=Or.inl ⟨Tryz.f12,iX,Tryz.func12,Ap (by kernel_rfl),bY⟩
theorem o13:Bi Tryz.prog ty 13 b13:=Or.inl ⟨Tryz.f13,iY,Tryz.func13,Ap (by kernel_rfl),bZ⟩
theorem o14:Bi Tryz.prog ty 14 b14:=Or.inl ⟨Tryz.f14,iZ,Tryz.func14,Ap (by kernel_rfl),ba⟩
theorem o15:Bi Tryz.prog ty 15 b15:=Or.inl ⟨Tryz.f15,ia,Tryz.func15,Ap (by kernel_rfl),be⟩
theorem o16:Bi Tryz.prog ty 16 b16:=Or.inl ⟨Tryz.f16,ib,Tryz.func16,Ap (by kernel_rfl),bf⟩
theorem o17:Bi Tryz.prog ty 17 b17:=Or.inl ⟨Tryz.f17,ic,Tryz.func17,Ap (by kernel_rfl),bg⟩
theorem o18:Bi Tryz.prog ty 18 b18:=Or.inl ⟨Tryz.f18,ie,Tryz.func18,Ap (by kernel_rfl),bh⟩
theorem o19:Bi Tryz.prog ty 19 b19:=Or.inl ⟨Tryz.f19,ig,Tryz.func19,Ap (by kernel_rfl),bi⟩
theorem o20:Bi Tryz.prog ty 20 b20:=Or.inl ⟨Tryz.f20,ii,Tryz.func20,Ap (by kernel_rfl),bj⟩
theorem o21:Bi Tryz.prog ty 21 b21:=Or.inl ⟨Tryz.f21,ij,Tryz.func21,Ap (by kernel_rfl),bn⟩
theorem o24:Bi Tryz.prog ty 24 b24:=Or.inl ⟨Tryz.f24,ik,Tryz.func24,Ap (by kernel_rfl),bo⟩
theorem o29:Bi Tryz.prog ty 29 b29:=Or.inl ⟨Tryz.f29,il,Tryz.func29,Ap (by kernel_rfl),bp⟩
theorem o35:Bi Tryz.prog ty 35 b35:=Or.inl ⟨Tryz.f35,im,Tryz.func35,Ap (by kernel_rfl),br⟩
theorem o36:Bi Tryz.prog ty 36 b36:=Or.inl ⟨Tryz.f36,io,Tryz.func36,Ap (by kernel_rfl),bu⟩
theorem o37:Bi Tryz.prog ty 37 b37:=Or.inl ⟨Tryz.f37,ip,Tryz.func37,Ap (by kernel_rfl),bz⟩
theorem o38:Bi Tryz.prog ty 38 b38:=Or.inl ⟨Tryz.f38,iq,Tryz.func38,Ap (by kernel_rfl),cA⟩
theorem o39:Bi Tryz.prog ty 39 b39:=Or.inl ⟨Tryz.f39,ir,Tryz.func39,Ap (by kernel_rfl),cB⟩
theorem o40:Bi Tryz.prog ty 40 b40:=Or.inl ⟨Tryz.f40,iu,Tryz.func40,Ap (by kernel_rfl),cC⟩
theorem o41:Bi Tryz.prog ty 41 b41:=Or.inl ⟨Tryz.f41,iv,Tryz.func41,Ap (by kernel_rfl),cD⟩
theorem o42:Bi Tryz.prog ty 42 b42:=Or.inl ⟨Tryz.f42,iw,Tryz.func42,Ap (by kernel_rfl),cE⟩
theorem o43:Bi Tryz.prog ty 43 b43:=Or.inl ⟨Tryz.f43,iy,Tryz.func43,Ap (by kernel_rfl),cF⟩
theorem o44:Bi Tryz.prog ty 44 b44:=Or.inl ⟨Tryz.f44,iz,Tryz.func44,Ap (by kernel_rfl),cH⟩
theorem o45:Bi Tryz.prog ty 45 b45:=Or.inl ⟨Tryz.f45,i6,Tryz.func45,Ap (by kernel_rfl),cI⟩
theorem o46:Bi Tryz.prog ty 46 b46:=Or.inl ⟨Tryz.f46,i7,Tryz.func46,Ap (by kernel_rfl),cJ⟩
theorem o47:Bi Tryz.prog ty 47 b47:=Or.inl ⟨Tryz.f47,i9,Tryz.func47,Ap (by kernel_rfl),cK⟩
theorem o48:Bi Tryz.prog ty 48 b48:=Or.inl ⟨Tryz.f48,jA,Tryz.func48,Ap (by kernel_rfl),cL⟩
theorem o49:Bi Tryz.prog ty 49 b49:=Or.inl ⟨Tryz.f49,jB,Tryz.func49,Ap (by kernel_rfl),cM⟩
theorem o50:Bi Tryz.prog ty 50 b50:=Or.inl ⟨Tryz.f50,jC,Tryz.func50,Ap (by kernel_rfl),cP⟩
theorem o51:Bi Tryz.prog ty 51 b51:=Or.inl ⟨Tryz.f51,jD,Tryz.func51,Ap (by kernel_rfl),cQ⟩
theorem o52:Bi Tryz.prog ty 52 b52:=Or.inl ⟨Tryz.f52,jE,Tryz.func52,Ap (by kernel_rfl),cR⟩
theorem o53:Bi Tryz.prog ty 53 b53:=Or.inl ⟨Tryz.f53,jF,Tryz.func53,Ap (by kernel_rfl),cS⟩
theorem o54:Bi Tryz.prog ty 54 b54:=Or.inl ⟨Tryz.f54,jG,Tryz.func54,Ap (by kernel_rfl),cT⟩
theorem o55:Bi Tryz.prog ty 55 b55:=Or.inl ⟨Tryz.f55,jH,Tryz.func55,Ap (by kernel_rfl),cU⟩
theorem o56:Bi Tryz.prog ty 56 b56:=Or.inl ⟨Tryz.f56,jI,Tryz.func56,Ap (by kernel_rfl),cV⟩
theorem o57:Bi Tryz.prog ty 57 b57:=Or.inl ⟨Tryz.f57,jJ,Tryz.func57,Ap (by kernel_rfl),cW⟩
theorem o58:Bi Tryz.prog ty 58 b58:=Or.inl ⟨Tryz.f58,jK,Tryz.func58,Ap (by kernel_rfl),cX⟩
theorem o59:Bi Tryz.prog ty 59 b59:=Or.inl ⟨Tryz.f59,jL,Tryz.func59,Ap (by kernel_rfl),cY⟩
theorem o60:Bi Tryz.prog ty 60 b60:=Or.inl ⟨Tryz.f60,jM,Tryz.func60,Ap (by kernel_rfl),cZ⟩
theorem o61:Bi Tryz.prog ty 61 b61:=Or.inl ⟨Tryz.f61,jN,Tryz.func61,Ap (by kernel_rfl),cd⟩
theorem o62:Bi Tryz.prog ty 62 b62:=Or.inl ⟨Tryz.f62,jO,Tryz.func62,Ap (by kernel_rfl),ce⟩
theorem o63:Bi Tryz.prog ty 63 b63:=Or.inl ⟨Tryz.f63,jP,Tryz.func63,Ap (by kernel_rfl),cf⟩
theorem o64:Bi Tryz.prog ty 64 b64:=Or.inl ⟨Tryz.f64,jQ,Tryz.func64,Ap (by kernel_rfl),cg⟩
theorem o65:Bi Tryz.prog ty 65 b65:=Or.inl ⟨Tryz.f65,jR,Tryz.func65,Ap (by kernel_rfl),ci⟩
theorem o69:Bi Tryz.prog ty 69 b69:=Or.inl ⟨Tryz.f69,jS,Tryz.func69,Ap (by kernel_rfl),cj⟩
theorem o70:Bi Tryz.prog ty 70 b70:=Or.inl ⟨Tryz.f70,jT,Tryz.func70,Ap (by kernel_rfl),cn⟩
theorem o71:Bi Tryz.prog ty 71 b71:=Or.inl ⟨Tryz.f71,jU,Tryz.func71,Ap (by kernel_rfl),co⟩
theorem o72:Bi Tryz.prog ty 72 b72:=Or.inl ⟨Tryz.f72,jV,Tryz.func72,Ap (by kernel_rfl),cq⟩
theorem o73:Bi Tryz.prog ty 73 b73:=Or.inl ⟨Tryz.f73,jW,Tryz.func73,Ap (by kernel_rfl),cr⟩
theorem o74:Bi Tryz.prog ty 74 b74:=Or.inl ⟨Tryz.f74,jX,Tryz.func74,Ap (by kernel_rfl),cu⟩
theorem o75:Bi Tryz.prog ty 75 b75:=Or.inl ⟨Tryz.f75,jY,Tryz.func75,Ap (by kernel_rfl),cw⟩
theorem o76:Bi Tryz.prog ty 76 b76:=Or.inl ⟨Tryz.f76,jZ,Tryz.func76,Ap (by kernel_rfl),cx⟩
theorem o77:Bi Tryz.prog ty 77 b77:=Or.inl ⟨Tryz.f77,ja,Tryz.func77,Ap (by kernel_rfl),cy⟩
theorem o78:Bi Tryz.prog ty 78 b78:=Or.inl ⟨Tryz.f78,jb,Tryz.func78,Ap (by kernel_rfl),cz⟩
theorem o79:Bi Tryz.prog ty 79 b79:=Or.inl ⟨Tryz.f79,jc,Tryz.func79,Ap (by kernel_rfl),dA⟩
theorem o80:Bi Tryz.prog ty 80 b80:=Or.inl ⟨Tryz.f80,jd,Tryz.func80,Ap (by kernel_rfl),dB⟩
theorem o81:Bi Tryz.prog ty 81 b81:=Or.inl ⟨Tryz.f81,je,Tryz.func81,Ap (by kernel_rfl),dC⟩
theorem o82:Bi Tryz.prog ty 82 b82:=Or.inl ⟨Tryz.f82,jf,Tryz.func82,Ap (by kernel_rfl),dD⟩
theorem o83:Bi Tryz.prog ty 83 b83:=Or.inl ⟨Tryz.f83,jg,Tryz.func83,Ap (by kernel_rfl),dE⟩
theorem o84:Bi Tryz.prog ty 84 b84:=Or.inl ⟨Tryz.f84,jh,Tryz.func84,Ap (by kernel_rfl),dF⟩
theorem o85:Bi Tryz.prog ty 85 b85:=Or.inl ⟨Tryz.f85,ji,Tryz.func85,Ap (by kernel_rfl),dG⟩
theorem o86:Bi Tryz.prog ty 86 b86:=Or.inl ⟨Tryz.f86,jj,Tryz.func86,Ap (by kernel_rfl),dH⟩
theorem o87:Bi Tryz.prog ty 87 b87:=Or.inl ⟨Tryz.f87,jk,Tryz.func87,Ap (by kernel_rfl),dJ⟩
theorem o88:Bi Tryz.prog ty 88 b88:=Or.inl ⟨Tryz.f88,jl,Tryz.func88,Ap (by kernel_rfl),dK⟩
theorem o89:Bi Tryz.prog ty 89 b89:=Or.inl ⟨Tryz.f89,jm,Tryz.func89,Ap (by kernel_rfl),dL⟩
theorem o90:Bi Tryz.prog ty 90 b90:=Or.inl ⟨Tryz.f90,jn,Tryz.func90,Ap (by kernel_rfl),dM⟩
theorem o91:Bi Tryz.prog ty 91 b91:=Or.inl ⟨Tryz.f91,jo,Tryz.func91,Ap (by kernel_rfl),dN⟩
theorem o92:Bi Tryz.prog ty 92 b92:=Or.inl ⟨Tryz.f92,jp,Tryz.func92,Ap (by kernel_rfl),dO⟩
theorem o95:Bi Tryz.prog ty 95 b95:=Or.inl ⟨Tryz.f95,jq,Tryz.func95,Ap (by kernel_rfl),dP⟩
theorem o96:Bi Tryz.prog ty 96 b96:=Or.inl ⟨Tryz.f96,jr,Tryz.func96,Ap (by kernel_rfl),dQ⟩
theorem o97:Bi Tryz.prog ty 97 b97:=Or.inl ⟨Tryz.f97,js,Tryz.func97,Ap (by kernel_rfl),dR⟩
theorem kG:Bi Tryz.prog ty 106 Sy:=Or.inl ⟨Tryz.f106,ag,Tryz.func106,Ap (by kernel_rfl),Xo⟩
theorem kH:Bi Tryz.prog ty 107 Sz:=Or.inl ⟨Tryz.f107,ai,Tryz.func107,Ap (by kernel_rfl),Xp⟩
theorem kI:Bi Tryz.prog ty 108 Xq:=Or.inl ⟨Tryz.f108,aj,Tryz.func108,Ap (by kernel_rfl),Xr⟩
theorem kJ:Bi Tryz.prog ty 109 S0:=Or.inl ⟨Tryz.f109,am,Tryz.func109,Ap (by kernel_rfl),Xs⟩
theorem kK:Bi Tryz.prog ty 110 S1:=Or.inl ⟨Tryz.f110,an,Tryz.func110,Ap (by kernel_rfl),Xt⟩
theorem kL:Bi Tryz.prog ty 111 S2:=Or.inl ⟨Tryz.f111,aq,Tryz.func111,Ap (by kernel_rfl),Xu⟩
theorem kM:Bi Tryz.prog ty 112 S3:=Or.inl ⟨Tryz.f112,au,Tryz.func112,Ap (by kernel_rfl),Xv⟩
theorem kN:Bi Tryz.prog ty 119 Xw:=Or.inl ⟨Tryz.f119,av,Tryz.func119,Ap (by kernel_rfl),Xx⟩
theorem As(i:Nat):Bi Tryz.prog ty i Ar:=Or.inr (.inl rfl)
set_option maxRecDepth 100000 in
def FQ:FT:=(.nd Ar (.nd Ar (.nd b3 (.nd Ar (.nd b15 (.nd Ar (.nd b63 (.nd Ar .mt .mt) .mt) (.nd b95 .mt .mt)) (.nd b47 (.nd b79 (.nd Ar .mt .mt) .mt) (.nd S2 .mt .mt))) (.nd Ar (.nd b39 (.nd b71 (.nd Ar .mt .mt) .mt) (.nd Ar .mt .mt)) (.nd b55 (.nd b87 .mt .mt) (.nd Xw .mt .mt)))) (.nd b11 (.nd b19 (.nd b35 (.nd Ar (.nd Ar .mt .mt) .mt) (.nd Ar .mt .mt)) (.nd b51 (.nd b83 (.nd Ar .mt .mt) .mt) (.nd Ar .mt .mt))) (.nd Ar (.nd b43 (.nd b75 (.nd Ar .mt .mt) .mt) (.nd Sz .mt .mt)) (.nd b59 (.nd b91 .mt .mt) (.nd Ar .mt .mt))))) (.nd Ar (.nd b9 (.nd b17 (.nd Ar (.nd b65 (.nd Ar .mt .mt) .mt) (.nd b97 .mt .mt)) (.nd b49 (.nd b81 (.nd Ar .mt .mt) .mt) (.nd Ar .mt .mt))) (.nd Ar (.nd b41 (.nd b73 (.nd Ar .mt .mt) .mt) (.nd Ar .mt .mt)) (.nd b57 (.nd b89 .mt .mt) (.nd Ar .mt .mt)))) (.nd b13 (.nd b21 (.nd b37 (.nd b69 (.nd Ar .mt .mt) .mt) (.nd Ar .mt .mt)) (.nd b53 (.nd b85 .mt .mt) (.nd Ar .mt .mt))) (.nd b29 (.nd b45 (.nd b77 (.nd Ar .mt .mt) .mt) (.nd S0 .mt .mt)) (.nd b61 (.nd Ar .mt .mt) (.nd Ar .mt .mt)))))) (.nd Ar (.nd Ar (.nd b8 (.nd b16 (.nd Ar (.nd b64 (.nd Ar .mt .mt) .mt) (.nd b96 .mt .mt)) (.nd b48 (.nd b80 (.nd Ar .mt .mt) .mt) (.nd S3 .mt .mt))) (.nd b24 (.nd b40 (.nd b72 (.nd Ar .mt .mt) .mt) (.nd Ar .mt .mt)) (.nd b56 (.nd b88 .mt .mt) (.nd Ar .mt .mt)))) (.nd b12 (.nd b20 (.nd b36 (.nd Ar (.nd Ar .mt .mt) .mt) (.nd Ar .mt .mt)) (.nd b52 (.nd b84 (.nd Ar .mt .mt) .mt) (.nd Ar .mt .mt))) (.nd Ar (.nd b44 (.nd b76 (.nd Ar .mt .mt) .mt) (.nd Xq .mt .mt)) (.nd b60 (.nd b92 .mt .mt) (.nd Ar .mt .mt))))) (.nd Ar (.nd b10 (.nd b18 (.nd Ar (.nd Ar (.nd Ar .mt .mt) .mt) (.nd Ar .mt .mt)) (.nd b50 (.nd b82 (.nd Ar .mt .mt) .mt) (.nd Ar .mt .mt))) (.nd Ar (.nd b42 (.nd b74 (.nd Ar .mt .mt) .mt) (.nd Sy .mt .mt)) (.nd b58 (.nd b90 .mt .mt) (.nd Ar .mt .mt)))) (.nd b14 (.nd Ar (.nd b38 (.nd b70 (.nd Ar .mt .mt) .mt) (.nd Ar .mt .mt)) (.nd b54 (.nd b86 .mt .mt) (.nd Ar .mt .mt))) (.nd Ar (.nd b46 (.nd b78 (.nd Ar .mt .mt) .mt) (.nd S1 .mt .mt)) (.nd b62 (.nd Ar .mt .mt) (.nd Ar .mt .mt)))))))
set_option maxRecDepth 100000 in
theorem QS:FT.All (Bi Tryz.prog ty) FQ id:=⟨As _,⟨As _,⟨o3,⟨As _,⟨o15,⟨As _,⟨o63,⟨As _,trivial,trivial⟩,trivial⟩,⟨o95,trivial,trivial⟩⟩,⟨o47,⟨o79,⟨As _,trivial,trivial⟩,trivial⟩,⟨kL,trivial,trivial⟩⟩⟩,⟨As _,⟨o39,⟨o71,⟨As _,trivial,trivial⟩,trivial⟩,⟨As _,trivial,trivial⟩⟩,⟨o55,⟨o87,trivial,trivial⟩,⟨kN,trivial,trivial⟩⟩⟩⟩,⟨o11,⟨o19,⟨o35,⟨As _,⟨As _,trivial,trivial⟩,trivial⟩,⟨As _,trivial,trivial⟩⟩,⟨o51,⟨o83,⟨As _,trivial,trivial⟩,trivial⟩,⟨As _,trivial,trivial⟩⟩⟩,⟨As _,⟨o43,⟨o75,⟨As _,trivial,trivial⟩,trivial⟩,⟨kH,trivial,trivial⟩⟩,⟨o59,⟨o91,trivial,trivial⟩,⟨As _,trivial,trivial⟩⟩⟩⟩⟩,⟨As _,⟨o9,⟨o17,⟨As _,⟨o65,⟨As _,trivial,trivial⟩,trivial⟩,⟨o97,trivial,trivial⟩⟩,⟨o49,⟨o81,⟨As _,trivial,trivial⟩,trivial⟩,⟨As _,trivial,trivial⟩⟩⟩,⟨As _,⟨o41,⟨o73,⟨As _,trivial,trivial⟩,trivial⟩,⟨As _,trivial,trivial⟩⟩,⟨o57,⟨o89,trivial,trivial⟩,⟨As _,trivial,trivial⟩⟩⟩⟩,⟨o13,⟨o21,⟨o37,⟨o69,⟨As _,trivial,trivial⟩,trivial⟩,⟨As _,trivial,trivial⟩⟩,⟨o53,⟨o85,trivial,trivial⟩,⟨As _,trivial,trivial⟩⟩⟩,⟨o29,⟨o45,⟨o77,⟨As _,trivial,trivial⟩,trivial⟩,⟨kJ,trivial,trivial⟩⟩,⟨o61,⟨As _,trivial,trivial⟩,⟨As _,trivial,trivial⟩⟩⟩⟩⟩⟩,⟨As _,⟨As _,⟨o8,⟨o16,⟨As _,⟨o64,⟨As _,trivial,trivial⟩,trivial⟩,⟨o96,trivial,trivial⟩⟩,⟨o48,⟨o80,⟨As _,trivial,trivial⟩,trivial⟩,⟨kM,trivial,trivial⟩⟩⟩,⟨o24,⟨o40,⟨o72,⟨As _,trivial,trivial⟩,trivial⟩,⟨As _,trivial,trivial⟩⟩,⟨o56,⟨o88,trivial,trivial⟩,⟨As _,trivial,trivial⟩⟩⟩⟩,⟨o12,⟨o20,⟨o36,⟨As _,⟨As _,trivial,trivial⟩,trivial⟩,⟨As _,trivial,trivial⟩⟩,⟨o52,⟨o84,⟨As _,trivial,trivial⟩,trivial⟩,⟨As _,trivial,trivial⟩⟩⟩,⟨As _,⟨o44,⟨o76,⟨As _,trivial,trivial⟩,trivial⟩,⟨kI,trivial,trivial⟩⟩,⟨o60,⟨o92,trivial,trivial⟩,⟨As _,trivial,trivial⟩⟩⟩⟩⟩,⟨As _,⟨o10,⟨o18,⟨As _,⟨As _,⟨As _,trivial,trivial⟩,trivial⟩,⟨As _,trivial,trivial⟩⟩,⟨o50,⟨o82,⟨As _,trivial,trivial⟩,trivial⟩,⟨As _,trivial,trivial⟩⟩⟩,⟨As _,⟨o42,⟨o74,⟨As _,trivial,trivial⟩,trivial⟩,⟨kG,trivial,trivial⟩⟩,⟨o58,⟨o90,trivial,trivial⟩,⟨As _,trivial,trivial⟩⟩⟩⟩,⟨o14,⟨As _,⟨o38,⟨o70,⟨As _,trivial,trivial⟩,trivial⟩,⟨As _,trivial,trivial⟩⟩,⟨o54,⟨o86,trivial,trivial⟩,⟨As _,trivial,trivial⟩⟩⟩,⟨As _,⟨o46,⟨o78,⟨As _,trivial,trivial⟩,trivial⟩,⟨kK,trivial,trivial⟩⟩,⟨o62,⟨As _,trivial,trivial⟩,⟨As _,trivial,trivial⟩⟩⟩⟩⟩⟩⟩
theorem bF:Cn Tryz.prog ty:=iE (by kernel_rfl) (by kernel_rfl)
theorem MP(n:Nat):C6 Tryz.prog ty (call FQ n):=IU bF (by kernel_rfl) QS n
end
noncomputable section
open Go
set_option maxHeartbeats 0 in
theorem Sx:We (call FQ 64 8 [] HO)=true:=by kernel_rfl
theorem QO:Ke Tryz.prog ty 8 JD:=UO ⟨Tryz.f8,Tryz.func8,Ap (by kernel_rfl),by kernel_rfl⟩ (Wy MP Sx)
theorem oA:Bi Tryz.prog ty 8 JD:=Or.inr (.inr QO)
open Go.RowKit Go.WideShapes Go.ChangeShapes
set_option maxRecDepth 100000
def bD(L:List Value)(args:List Value)(h:Hp):R:=match args with
 |[]=>.ok (.agg ⟨L⟩) h
 |_::_=>.no
def MO(L:List Value):Body:=⟨[.x (fun _=>bD L)],cNo⟩
def isW:Value→Bool
 |.int .u32 n=>decide (0≤n) && decide (n<4294967296)
 |_=>false
def Wd:R→Bool
 |.ok (.agg ⟨l⟩) _=>l.all isW && Nat.beq l.length 256
 |_=>false
def gX:R→List Value
 |.ok (.agg ⟨l⟩) _=>l
 |_=>[]
def Jf:List Value:=gX (call FQ 64 9 [] HO)
set_option maxHeartbeats 0 in
theorem aN:Wd (call FQ 64 9 [] HO)=true:=by kernel_rfl
theorem NU{v:Value}(h:isW v=true):∃ n:Nat,v=.int .u32 (n:Int)∧n<4294967296:=by
 unfold isW at h
 split at h
 ·rename_i n
  simp only[Bool.and_eq_true,decide_eq_true_eq]at h
  obtain⟨m,rfl⟩:=Int.eq_ofNat_of_zero_le h.1
  exact⟨m,rfl,by omega⟩
 ·cases h
theorem Nv:∃ h',call FQ 64 9 [] HO=.ok (.agg ⟨Jf⟩) h'∧Jf.length=256∧∀ v∈Jf,isW v=true:=by
 have h:=aN
 unfold Jf
 generalize call FQ 64 9 [] HO=r at h
 unfold Wd at h
 split at h
 ·rename_i l h'
  simp only[Bool.and_eq_true,List.all_eq_true]at h
  exact⟨h',rfl,Nat.eq_of_beq_eq_true h.2,h.1⟩
 ·cases h
theorem PE{φ:Phi}:∀ {L L':List Value},RelL φ L L'→(∀ v∈L,isW v=true)→L'=L
 |_,_,.nil,_=>rfl
 |_,_,.cons (v:=v) h t,hL=>by
  rw[PE t fun x hx=>hL x (List.mem_cons_of_mem _ hx)]
  obtain⟨n,rfl,_⟩:=NU (hL v List.mem_cons_self)
  cases h;rfl
theorem PF(φ:Phi):∀ {L:List Value},(∀ v∈L,isW v=true)→RelL φ L L
 |[],_=>.nil
 |v::L,h=>by
  obtain⟨n,rfl,_⟩:=NU (h v List.mem_cons_self)
  exact .cons (.int _ _) (PF φ fun x hx=>h x (List.mem_cons_of_mem _ hx))
theorem UN(w:World):Calls Tryz.prog 9 #[] w fun e w'=>e=.returned (.agg ⟨Jf⟩)∧Below w.heap.size w w':=by
 obtain⟨h',hr,_,hw⟩:=Nv
 obtain⟨_,hc⟩:=MP _ 9 [] HO _ h' hr
 refine(hc gk w [] .nil (Mz ty w)).mono fun e w' ⟨v',ψ,he,hv,_,ev⟩=>?_
 cases hv with
 |agg hl=>
  rw[PE hl hw]at he
  exact⟨he,⟨ev.os,ev.tape,ev.output,ev.size,fun k hk=>ev.frame k hk fun i p hp=>by cases hp⟩⟩
theorem TZ{P:Program}{ty:TTy}{f:Nat}{L:List Value}(hL:∀ v∈L,isW v=true)(hS:∃ fn,P.funcs[f]? =some fn∧fn.name≠"runtime.NumGoroutine" ∧fn.body.isNone=false)(hc:∀ w:World,Calls P f #[] w fun e w'=>e=.returned (.agg ⟨L⟩)∧Below w.heap.size w w'):Ke P ty f (MO L):=fun F args h v h' _ hr=>⟨hS,fun φ w args' hrel H=>by
 have hr:bD L args h=.ok v h':=hr
 cases args with
 |cons a l=>cases hr
 |nil=>
  cases hr
  cases hrel
  exact(hc w).mono fun e w' ⟨he,hb⟩=>⟨_,φ,he,.agg (PF φ hL),(GX H hb).1,(GX H hb).2⟩⟩
theorem XJ:Ke Tryz.prog ty 9 (MO Jf):=TZ (Nv.choose_spec.2.2) ⟨Tryz.f9,Tryz.func9,Ap (by kernel_rfl),by kernel_rfl⟩ UN
theorem oT:Bi Tryz.prog ty 9 (MO Jf):=Or.inr (.inr XJ)
theorem S8{bs:FT}{n f:Nat}{L:List Value}(hb:bs.get f=some (MO L)){h:Hp}:call bs (Nat.succ n) f [] h=.ok (.agg ⟨L⟩) h:=by
 rw[Aw hb];rfl
def iG:Value→Nat
 |.int .u32 n=>Nat.div n.toNat 16777216
 |_=>0
def gb:R→Bool
 |.ok (.agg ⟨l⟩) _=>Ia (l.map iG)
 |_=>false
set_option maxHeartbeats 0 in
theorem XN:gb (call FQ 64 9 [] HO)=true:=by kernel_rfl
theorem XK:Ia (Jf.map iG)=true:=by
 obtain⟨h',hr,_,_⟩:=Nv
 have h:=XN
 rw[hr]at h
 exact h
end
noncomputable section
open Go
set_option maxRecDepth 100000 in
def AG:FT:=(.nd Ar (.nd Ar (.nd b3 (.nd Ar (.nd b15 (.nd Ar (.nd b63 (.nd Ar .mt .mt) .mt) (.nd b95 .mt .mt)) (.nd b47 (.nd b79 (.nd Ar .mt .mt) .mt) (.nd S2 .mt .mt))) (.nd Ar (.nd b39 (.nd b71 (.nd Ar .mt .mt) .mt) (.nd Ar .mt .mt)) (.nd b55 (.nd b87 .mt .mt) (.nd Xw .mt .mt)))) (.nd b11 (.nd b19 (.nd b35 (.nd Ar (.nd Ar .mt .mt) .mt) (.nd Ar .mt .mt)) (.nd b51 (.nd b83 (.nd Ar .mt .mt) .mt) (.nd Ar .mt .mt))) (.nd Ar (.nd b43 (.nd b75 (.nd Ar .mt .mt) .mt) (.nd Sz .mt .mt)) (.nd b59 (.nd b91 .mt .mt) (.nd Ar .mt .mt))))) (.nd Ar (.nd (MO Jf) (.nd b17 (.nd Ar (.nd b65 (.nd Ar .mt .mt) .mt) (.nd b97 .mt .mt)) (.nd b49 (.nd b81 (.nd Ar .mt .mt) .mt) (.nd Ar .mt .mt))) (.nd Ar (.nd b41 (.nd b73 (.nd Ar .mt .mt) .mt) (.nd Ar .mt .mt)) (.nd b57 (.nd b89 .mt .mt) (.nd Ar .mt .mt)))) (.nd b13 (.nd b21 (.nd b37 (.nd b69 (.nd Ar .mt .mt) .mt) (.nd Ar .mt .mt)) (.nd b53 (.nd b85 .mt .mt) (.nd Ar .mt .mt))) (.nd b29 (.nd b45 (.nd b77 (.nd Ar .mt .mt) .mt) (.nd S0 .mt .mt)) (.nd b61 (.nd Ar .mt .mt) (.nd Ar .mt .mt)))))) (.nd Ar (.nd Ar (.nd JD (.nd b16 (.nd Ar (.nd b64 (.nd Ar .mt .mt) .mt) (.nd b96 .mt .mt)) (.nd b48 (.nd b80 (.nd Ar .mt .mt) .mt) (.nd S3 .mt .mt))) (.nd b24 (.nd b40 (.nd b72 (.nd Ar .mt .mt) .mt) (.nd Ar .mt .mt)) (.nd b56 (.nd b88 .mt .mt) (.nd Ar .mt .mt)))) (.nd b12 (.nd b20 (.nd b36 (.nd Ar (.nd Ar .mt .mt) .mt) (.nd Ar .mt .mt)) (.nd b52 (.nd b84 (.nd Ar .mt .mt) .mt) (.nd Ar .mt .mt))) (.nd Ar (.nd b44 (.nd b76 (.nd Ar .mt .mt) .mt) (.nd Xq .mt .mt)) (.nd b60 (.nd b92 .mt .mt) (.nd Ar .mt .mt))))) (.nd Ar (.nd b10 (.nd b18 (.nd Ar (.nd Ar (.nd Ar .mt .mt) .mt) (.nd Ar .mt .mt)) (.nd b50 (.nd b82 (.nd Ar .mt .mt) .mt) (.nd Ar .mt .mt))) (.nd Ar (.nd b42 (.nd b74 (.nd Ar .mt .mt) .mt) (.nd Sy .mt .mt)) (.nd b58 (.nd b90 .mt .mt) (.nd Ar .mt .mt)))) (.nd b14 (.nd Ar (.nd b38 (.nd b70 (.nd Ar .mt .mt) .mt) (.nd Ar .mt .mt)) (.nd b54 (.nd b86 .mt .mt) (.nd Ar .mt .mt))) (.nd Ar (.nd b46 (.nd b78 (.nd Ar .mt .mt) .mt) (.nd S1 .mt .mt)) (.nd b62 (.nd Ar .mt .mt) (.nd Ar .mt .mt)))))))
set_option maxRecDepth 100000 in
theorem S6:FT.All (Bi Tryz.prog ty) AG id:=⟨As _,⟨As _,⟨o3,⟨As _,⟨o15,⟨As _,⟨o63,⟨As _,trivial,trivial⟩,trivial⟩,⟨o95,trivial,trivial⟩⟩,⟨o47,⟨o79,⟨As _,trivial,trivial⟩,trivial⟩,⟨kL,trivial,trivial⟩⟩⟩,⟨As _,⟨o39,⟨o71,⟨As _,trivial,trivial⟩,trivial⟩,⟨As _,trivial,trivial⟩⟩,⟨o55,⟨o87,trivial,trivial⟩,⟨kN,trivial,trivial⟩⟩⟩⟩,⟨o11,⟨o19,⟨o35,⟨As _,⟨As _,trivial,trivial⟩,trivial⟩,⟨As _,trivial,trivial⟩⟩,⟨o51,⟨o83,⟨As _,trivial,trivial⟩,trivial⟩,⟨As _,trivial,trivial⟩⟩⟩,⟨As _,⟨o43,⟨o75,⟨As _,trivial,trivial⟩,trivial⟩,⟨kH,trivial,trivial⟩⟩,⟨o59,⟨o91,trivial,trivial⟩,⟨As _,trivial,trivial⟩⟩⟩⟩⟩,⟨As _,⟨oT,⟨o17,⟨As _,⟨o65,⟨As _,trivial,trivial⟩,trivial⟩,⟨o97,trivial,trivial⟩⟩,⟨o49,⟨o81,⟨As _,trivial,trivial⟩,trivial⟩,⟨As _,trivial,trivial⟩⟩⟩,⟨As _,⟨o41,⟨o73,⟨As _,trivial,trivial⟩,trivial⟩,⟨As _,trivial,trivial⟩⟩,⟨o57,⟨o89,trivial,trivial⟩,⟨As _,trivial,trivial⟩⟩⟩⟩,⟨o13,⟨o21,⟨o37,⟨o69,⟨As _,trivial,trivial⟩,trivial⟩,⟨As _,trivial,trivial⟩⟩,⟨o53,⟨o85,trivial,trivial⟩,⟨As _,trivial,trivial⟩⟩⟩,⟨o29,⟨o45,⟨o77,⟨As _,trivial,trivial⟩,trivial⟩,⟨kJ,trivial,trivial⟩⟩,⟨o61,⟨As _,trivial,trivial⟩,⟨As _,trivial,trivial⟩⟩⟩⟩⟩⟩,⟨As _,⟨As _,⟨oA,⟨o16,⟨As _,⟨o64,⟨As _,trivial,trivial⟩,trivial⟩,⟨o96,trivial,trivial⟩⟩,⟨o48,⟨o80,⟨As _,trivial,trivial⟩,trivial⟩,⟨kM,trivial,trivial⟩⟩⟩,⟨o24,⟨o40,⟨o72,⟨As _,trivial,trivial⟩,trivial⟩,⟨As _,trivial,trivial⟩⟩,⟨o56,⟨o88,trivial,trivial⟩,⟨As _,trivial,trivial⟩⟩⟩⟩,⟨o12,⟨o20,⟨o36,⟨As _,⟨As _,trivial,trivial⟩,trivial⟩,⟨As _,trivial,trivial⟩⟩,⟨o52,⟨o84,⟨As _,trivial,trivial⟩,trivial⟩,⟨As _,trivial,trivial⟩⟩⟩,⟨As _,⟨o44,⟨o76,⟨As _,trivial,trivial⟩,trivial⟩,⟨kI,trivial,trivial⟩⟩,⟨o60,⟨o92,trivial,trivial⟩,⟨As _,trivial,trivial⟩⟩⟩⟩⟩,⟨As _,⟨o10,⟨o18,⟨As _,⟨As _,⟨As _,trivial,trivial⟩,trivial⟩,⟨As _,trivial,trivial⟩⟩,⟨o50,⟨o82,⟨As _,trivial,trivial⟩,trivial⟩,⟨As _,trivial,trivial⟩⟩⟩,⟨As _,⟨o42,⟨o74,⟨As _,trivial,trivial⟩,trivial⟩,⟨kG,trivial,trivial⟩⟩,⟨o58,⟨o90,trivial,trivial⟩,⟨As _,trivial,trivial⟩⟩⟩⟩,⟨o14,⟨As _,⟨o38,⟨o70,⟨As _,trivial,trivial⟩,trivial⟩,⟨As _,trivial,trivial⟩⟩,⟨o54,⟨o86,trivial,trivial⟩,⟨As _,trivial,trivial⟩⟩⟩,⟨As _,⟨o46,⟨o78,⟨As _,trivial,trivial⟩,trivial⟩,⟨kK,trivial,trivial⟩⟩,⟨o62,⟨As _,trivial,trivial⟩,⟨As _,trivial,trivial⟩⟩⟩⟩⟩⟩⟩
theorem U4(n:Nat):C6 Tryz.prog ty (call AG n):=IU bF (by kernel_rfl) S6 n
theorem OB:AG.get 8=some JD:=by kernel_rfl
theorem XL:AG.get 9=some (MO Jf):=by kernel_rfl
end
noncomputable section
open Go
set_option maxRecDepth 100000
theorem Uw{n:Nat}{args:List Value}{h:Hp}(hl:Nat.ble (BI args) 160=true):call AG (Nat.succ n) 3 args h=BB [.t (AB 8)] (d3 (call AG n) (AZ e0 0 args) h):=by
 have hb:AG.get 3=some b3:=by kernel_rfl
 rw[Aw hb]
 have hd:b3=⟨[.t (AB 8)],d3⟩:=by kernel_rfl
 rw[hd,An hl]
theorem dW{n:Nat}{args:List Value}{h:Hp}(hl:Nat.ble (BI args) 160=true):call AG (Nat.succ n) 10 args h=BB [.t (AB 4),.t (AB 5),.t (AB 6)] (d10 (call AG n) (AZ e0 0 args) h):=by
 have hb:AG.get 10=some b10:=by kernel_rfl
 rw[Aw hb]
 have hd:b10=⟨[.t (AB 4),.t (AB 5),.t (AB 6)],d10⟩:=by kernel_rfl
 rw[hd,An hl]
theorem dX{n:Nat}{args:List Value}{h:Hp}(hl:Nat.ble (BI args) 160=true):call AG (Nat.succ n) 11 args h=BB [.t (AB 10)] (d11 (call AG n) (AZ e0 0 args) h):=by
 have hb:AG.get 11=some b11:=by kernel_rfl
 rw[Aw hb]
 have hd:b11=⟨[.t (AB 10)],d11⟩:=by kernel_rfl
 rw[hd,An hl]
theorem dY{n:Nat}{args:List Value}{h:Hp}(hl:Nat.ble (BI args) 160=true):call AG (Nat.succ n) 12 args h=BB [.t (AB 8)] (d12 (call AG n) (AZ e0 0 args) h):=by
 have hb:AG.get 12=some b12:=by kernel_rfl
 rw[Aw hb]
 have hd:b12=⟨[.t (AB 8)],d12⟩:=by kernel_rfl
 rw[hd,An hl]
theorem dZ{n:Nat}{args:List Value}{h:Hp}(hl:Nat.ble (BI args) 160=true):call AG (Nat.succ n) 13 args h=BB [.t (AB 5)] (d13 (call AG n) (AZ e0 0 args) h):=by
 have hb:AG.get 13=some b13:=by kernel_rfl
 rw[Aw hb]
 have hd:b13=⟨[.t (AB 5)],d13⟩:=by kernel_rfl
 rw[hd,An hl]
theorem da{n:Nat}{args:List Value}{h:Hp}(hl:Nat.ble (BI args) 160=true):call AG (Nat.succ n) 14 args h=BB [.t (AB 8)] (d14 (call AG n) (AZ e0 0 args) h):=by
 have hb:AG.get 14=some b14:=by kernel_rfl
 rw[Aw hb]
 have hd:b14=⟨[.t (AB 8)],d14⟩:=by kernel_rfl
 rw[hd,An hl]
theorem Uv{n:Nat}{args:List Value}{h:Hp}(hl:Nat.ble (BI args) 160=true):call AG (Nat.succ n) 15 args h=BB [.t (AB 8)] (d15 (call AG n) (AZ e0 0 args) h):=by
 have hb:AG.get 15=some b15:=by kernel_rfl
 rw[Aw hb]
 have hd:b15=⟨[.t (AB 8)],d15⟩:=by kernel_rfl
 rw[hd,An hl]
theorem db{n:Nat}{args:List Value}{h:Hp}(hl:Nat.ble (BI args) 160=true):call AG (Nat.succ n) 16 args h=BB [.t (AB 6),.t (AB 7)] (d16 (call AG n) (AZ e0 0 args) h):=by
 have hb:AG.get 16=some b16:=by kernel_rfl
 rw[Aw hb]
 have hd:b16=⟨[.t (AB 6),.t (AB 7)],d16⟩:=by kernel_rfl
 rw[hd,An hl]
theorem de{n:Nat}{args:List Value}{h:Hp}(hl:Nat.ble (BI args) 160=true):call AG (Nat.succ n) 17 args h=BB [.cN (AB 6) 5,.t (AB 7)] (d17 (call AG n) (AZ e0 0 args) h):=by
 have hb:AG.get 17=some b17:=by kernel_rfl
 rw[Aw hb]
 have hd:b17=⟨[.cN (AB 6) 5,.t (AB 7)],d17⟩:=by kernel_rfl
 rw[hd,An hl]
theorem df{n:Nat}{args:List Value}{h:Hp}(hl:Nat.ble (BI args) 160=true):call AG (Nat.succ n) 18 args h=BB [.cN (AB 8) 5,.t (AB 9)] (d18 (call AG n) (AZ e0 0 args) h):=by
 have hb:AG.get 18=some b18:=by kernel_rfl
 rw[Aw hb]
 have hd:b18=⟨[.cN (AB 8) 5,.t (AB 9)],d18⟩:=by kernel_rfl
 rw[hd,An hl]
theorem dh{n:Nat}{args:List Value}{h:Hp}(hl:Nat.ble (BI args) 160=true):call AG (Nat.succ n) 19 args h=BB [.t (AB 2)] (d19 (call AG n) (AZ e0 0 args) h):=by
 have hb:AG.get 19=some b19:=by kernel_rfl
 rw[Aw hb]
 have hd:b19=⟨[.t (AB 2)],d19⟩:=by kernel_rfl
 rw[hd,An hl]
theorem dj{n:Nat}{args:List Value}{h:Hp}(hl:Nat.ble (BI args) 160=true):call AG (Nat.succ n) 20 args h=BB [.t (AB 2)] (d20 (call AG n) (AZ e0 0 args) h):=by
 have hb:AG.get 20=some b20:=by kernel_rfl
 rw[Aw hb]
 have hd:b20=⟨[.t (AB 2)],d20⟩:=by kernel_rfl
 rw[hd,An hl]
theorem dp{n:Nat}{args:List Value}{h:Hp}(hl:Nat.ble (BI args) 160=true):call AG (Nat.succ n) 21 args h=BB [.t (AB 2)] (d21 (call AG n) (AZ e0 0 args) h):=by
 have hb:AG.get 21=some b21:=by kernel_rfl
 rw[Aw hb]
 have hd:b21=⟨[.t (AB 2)],d21⟩:=by kernel_rfl
 rw[hd,An hl]
theorem dq{n:Nat}{args:List Value}{h:Hp}(hl:Nat.ble (BI args) 160=true):call AG (Nat.succ n) 35 args h=BB [.t (AB 2),.t (AB 3)] (d35 (call AG n) (AZ e0 0 args) h):=by
 have hb:AG.get 35=some b35:=by kernel_rfl
 rw[Aw hb]
 have hd:b35=⟨[.t (AB 2),.t (AB 3)],d35⟩:=by kernel_rfl
 rw[hd,An hl]
theorem dr{n:Nat}{args:List Value}{h:Hp}(hl:Nat.ble (BI args) 160=true):call AG (Nat.succ n) 38 args h=BB [.t (AB 2)] (d38 (call AG n) (AZ e0 0 args) h):=by
 have hb:AG.get 38=some b38:=by kernel_rfl
 rw[Aw hb]
 have hd:b38=⟨[.t (AB 2)],d38⟩:=by kernel_rfl
 rw[hd,An hl]
theorem Ks{n:Nat}{args:List Value}{h:Hp}(hl:Nat.ble (BI args) 160=true):call AG (Nat.succ n) 39 args h=BB [.t (AB 2)] (d39 (call AG n) (AZ e0 0 args) h):=by
 have hb:AG.get 39=some b39:=by kernel_rfl
 rw[Aw hb]
 have hd:b39=⟨[.t (AB 2)],d39⟩:=by kernel_rfl
 rw[hd,An hl]
theorem du{n:Nat}{args:List Value}{h:Hp}(hl:Nat.ble (BI args) 160=true):call AG (Nat.succ n) 40 args h=BB [.t (AB 2)] (d40 (call AG n) (AZ e0 0 args) h):=by
 have hb:AG.get 40=some b40:=by kernel_rfl
 rw[Aw hb]
 have hd:b40=⟨[.t (AB 2)],d40⟩:=by kernel_rfl
 rw[hd,An hl]
theorem dw{n:Nat}{args:List Value}{h:Hp}(hl:Nat.ble (BI args) 160=true):call AG (Nat.succ n) 41 args h=BB [.t (AB 8)] (d41 (call AG n) (AZ e0 0 args) h):=by
 have hb:AG.get 41=some b41:=by kernel_rfl
 rw[Aw hb]
 have hd:b41=⟨[.t (AB 8)],d41⟩:=by kernel_rfl
 rw[hd,An hl]
theorem QV{n:Nat}{args:List Value}{h:Hp}(hl:Nat.ble (BI args) 160=true):call AG (Nat.succ n) 42 args h=BB [.t (AB 4)] (d42 (call AG n) (AZ e0 0 args) h):=by
 have hb:AG.get 42=some b42:=by kernel_rfl
 rw[Aw hb]
 have hd:b42=⟨[.t (AB 4)],d42⟩:=by kernel_rfl
 rw[hd,An hl]
theorem dy{n:Nat}{args:List Value}{h:Hp}(hl:Nat.ble (BI args) 160=true):call AG (Nat.succ n) 43 args h=BB [.t (AB 8)] (d43 (call AG n) (AZ e0 0 args) h):=by
 have hb:AG.get 43=some b43:=by kernel_rfl
 rw[Aw hb]
 have hd:b43=⟨[.t (AB 8)],d43⟩:=by kernel_rfl
 rw[hd,An hl]
theorem Ux{n:Nat}{args:List Value}{h:Hp}(hl:Nat.ble (BI args) 160=true):call AG (Nat.succ n) 44 args h=BB [.t (AB 4),.t (AB 5)] (d44 (call AG n) (AZ e0 0 args) h):=by
 have hb:AG.get 44=some b44:=by kernel_rfl
 rw[Aw hb]
 have hd:b44=⟨[.t (AB 4),.t (AB 5)],d44⟩:=by kernel_rfl
 rw[hd,An hl]
theorem dz{n:Nat}{args:List Value}{h:Hp}(hl:Nat.ble (BI args) 160=true):call AG (Nat.succ n) 45 args h=BB [.t (AB 6)] (d45 (call AG n) (AZ e0 0 args) h):=by
 have hb:AG.get 45=some b45:=by kernel_rfl
 rw[Aw hb]
 have hd:b45=⟨[.t (AB 6)],d45⟩:=by kernel_rfl
 rw[hd,An hl]
theorem d6{n:Nat}{args:List Value}{h:Hp}(hl:Nat.ble (BI args) 160=true):call AG (Nat.succ n) 46 args h=BB [.t (AB 4)] (d46 (call AG n) (AZ e0 0 args) h):=by
 have hb:AG.get 46=some b46:=by kernel_rfl
 rw[Aw hb]
 have hd:b46=⟨[.t (AB 4)],d46⟩:=by kernel_rfl
 rw[hd,An hl]
theorem d7{n:Nat}{args:List Value}{h:Hp}(hl:Nat.ble (BI args) 160=true):call AG (Nat.succ n) 47 args h=BB [.t (AB 4)] (d47 (call AG n) (AZ e0 0 args) h):=by
 have hb:AG.get 47=some b47:=by kernel_rfl
 rw[Aw hb]
 have hd:b47=⟨[.t (AB 4)],d47⟩:=by kernel_rfl
 rw[hd,An hl]
theorem QW{n:Nat}{args:List Value}{h:Hp}(hl:Nat.ble (BI args) 160=true):call AG (Nat.succ n) 48 args h=BB [.t (AB 2)] (d48 (call AG n) (AZ e0 0 args) h):=by
 have hb:AG.get 48=some b48:=by kernel_rfl
 rw[Aw hb]
 have hd:b48=⟨[.t (AB 2)],d48⟩:=by kernel_rfl
 rw[hd,An hl]
theorem Uy{n:Nat}{args:List Value}{h:Hp}(hl:Nat.ble (BI args) 160=true):call AG (Nat.succ n) 49 args h=BB [.t (AB 2)] (d49 (call AG n) (AZ e0 0 args) h):=by
 have hb:AG.get 49=some b49:=by kernel_rfl
 rw[Aw hb]
 have hd:b49=⟨[.t (AB 2)],d49⟩:=by kernel_rfl
 rw[hd,An hl]
theorem d8{n:Nat}{args:List Value}{h:Hp}(hl:Nat.ble (BI args) 160=true):call AG (Nat.succ n) 50 args h=BB [] (d50 (call AG n) (AZ e0 0 args) h):=by
 have hb:AG.get 50=some b50:=by kernel_rfl
 rw[Aw hb]
 have hd:b50=⟨[],d50⟩:=by kernel_rfl
 rw[hd,An hl]
theorem eA{n:Nat}{args:List Value}{h:Hp}(hl:Nat.ble (BI args) 160=true):call AG (Nat.succ n) 51 args h=BB [.t (AB 4)] (d51 (call AG n) (AZ e0 0 args) h):=by
 have hb:AG.get 51=some b51:=by kernel_rfl
 rw[Aw hb]
 have hd:b51=⟨[.t (AB 4)],d51⟩:=by kernel_rfl
 rw[hd,An hl]
theorem Uz{n:Nat}{args:List Value}{h:Hp}(hl:Nat.ble (BI args) 160=true):call AG (Nat.succ n) 53 args h=BB [.t (AB 4)] (d53 (call AG n) (AZ e0 0 args) h):=by
 have hb:AG.get 53=some b53:=by kernel_rfl
 rw[Aw hb]
 have hd:b53=⟨[.t (AB 4)],d53⟩:=by kernel_rfl
 rw[hd,An hl]
theorem eB{n:Nat}{args:List Value}{h:Hp}(hl:Nat.ble (BI args) 160=true):call AG (Nat.succ n) 54 args h=BB [.t (AB 2)] (d54 (call AG n) (AZ e0 0 args) h):=by
 have hb:AG.get 54=some b54:=by kernel_rfl
 rw[Aw hb]
 have hd:b54=⟨[.t (AB 2)],d54⟩:=by kernel_rfl
 rw[hd,An hl]
theorem eC{n:Nat}{args:List Value}{h:Hp}(hl:Nat.ble (BI args) 160=true):call AG (Nat.succ n) 55 args h=BB [.cN (AB 4) 6,.t (AB 5),.t (AB 6),.t (AB 7)] (d55 (call AG n) (AZ e0 0 args) h):=by
 have hb:AG.get 55=some b55:=by kernel_rfl
 rw[Aw hb]
 have hd:b55=⟨[.cN (AB 4) 6,.t (AB 5),.t (AB 6),.t (AB 7)],d55⟩:=by kernel_rfl
 rw[hd,An hl]
theorem eD{n:Nat}{args:List Value}{h:Hp}(hl:Nat.ble (BI args) 160=true):call AG (Nat.succ n) 56 args h=BB [.t (AB 2)] (d56 (call AG n) (AZ e0 0 args) h):=by
 have hb:AG.get 56=some b56:=by kernel_rfl
 rw[Aw hb]
 have hd:b56=⟨[.t (AB 2)],d56⟩:=by kernel_rfl
 rw[hd,An hl]
theorem eE{n:Nat}{args:List Value}{h:Hp}(hl:Nat.ble (BI args) 160=true):call AG (Nat.succ n) 57 args h=BB [.t (AB 2)] (d57 (call AG n) (AZ e0 0 args) h):=by
 have hb:AG.get 57=some b57:=by kernel_rfl
 rw[Aw hb]
 have hd:b57=⟨[.t (AB 2)],d57⟩:=by kernel_rfl
 rw[hd,An hl]
theorem eF{n:Nat}{args:List Value}{h:Hp}(hl:Nat.ble (BI args) 160=true):call AG (Nat.succ n) 58 args h=BB [.t (AB 2)] (d58 (call AG n) (AZ e0 0 args) h):=by
 have hb:AG.get 58=some b58:=by kernel_rfl
 rw[Aw hb]
 have hd:b58=⟨[.t (AB 2)],d58⟩:=by kernel_rfl
 rw[hd,An hl]
theorem eG{n:Nat}{args:List Value}{h:Hp}(hl:Nat.ble (BI args) 160=true):call AG (Nat.succ n) 59 args h=BB [.t (AB 2)] (d59 (call AG n) (AZ e0 0 args) h):=by
 have hb:AG.get 59=some b59:=by kernel_rfl
 rw[Aw hb]
 have hd:b59=⟨[.t (AB 2)],d59⟩:=by kernel_rfl
 rw[hd,An hl]
theorem eH{n:Nat}{args:List Value}{h:Hp}(hl:Nat.ble (BI args) 160=true):call AG (Nat.succ n) 60 args h=BB [.t (AB 3)] (d60 (call AG n) (AZ e0 0 args) h):=by
 have hb:AG.get 60=some b60:=by kernel_rfl
 rw[Aw hb]
 have hd:b60=⟨[.t (AB 3)],d60⟩:=by kernel_rfl
 rw[hd,An hl]
theorem eI{n:Nat}{args:List Value}{h:Hp}(hl:Nat.ble (BI args) 160=true):call AG (Nat.succ n) 61 args h=BB [.t (AB 4)] (d61 (call AG n) (AZ e0 0 args) h):=by
 have hb:AG.get 61=some b61:=by kernel_rfl
 rw[Aw hb]
 have hd:b61=⟨[.t (AB 4)],d61⟩:=by kernel_rfl
 rw[hd,An hl]
theorem eJ{n:Nat}{args:List Value}{h:Hp}(hl:Nat.ble (BI args) 160=true):call AG (Nat.succ n) 62 args h=BB [.t (AB 3)] (d62 (call AG n) (AZ e0 0 args) h):=by
 have hb:AG.get 62=some b62:=by kernel_rfl
 rw[Aw hb]
 have hd:b62=⟨[.t (AB 3)],d62⟩:=by kernel_rfl
 rw[hd,An hl]
theorem eK{n:Nat}{args:List Value}{h:Hp}(hl:Nat.ble (BI args) 160=true):call AG (Nat.succ n) 63 args h=BB [.t (AB 4)] (d63 (call AG n) (AZ e0 0 args) h):=by
 have hb:AG.get 63=some b63:=by kernel_rfl
 rw[Aw hb]
 have hd:b63=⟨[.t (AB 4)],d63⟩:=by kernel_rfl
 rw[hd,An hl]
theorem eL{n:Nat}{args:List Value}{h:Hp}(hl:Nat.ble (BI args) 160=true):call AG (Nat.succ n) 64 args h=BB [.t (AB 6)] (d64 (call AG n) (AZ e0 0 args) h):=by
 have hb:AG.get 64=some b64:=by kernel_rfl
 rw[Aw hb]
 have hd:b64=⟨[.t (AB 6)],d64⟩:=by kernel_rfl
 rw[hd,An hl]
theorem eM{n:Nat}{args:List Value}{h:Hp}(hl:Nat.ble (BI args) 160=true):call AG (Nat.succ n) 65 args h=BB [.cN (AB 2) 5] (d65 (call AG n) (AZ e0 0 args) h):=by
 have hb:AG.get 65=some b65:=by kernel_rfl
 rw[Aw hb]
 have hd:b65=⟨[.cN (AB 2) 5],d65⟩:=by kernel_rfl
 rw[hd,An hl]
theorem U0{n:Nat}{args:List Value}{h:Hp}(hl:Nat.ble (BI args) 160=true):call AG (Nat.succ n) 69 args h=BB [.t (AB 4)] (d69 (call AG n) (AZ e0 0 args) h):=by
 have hb:AG.get 69=some b69:=by kernel_rfl
 rw[Aw hb]
 have hd:b69=⟨[.t (AB 4)],d69⟩:=by kernel_rfl
 rw[hd,An hl]
theorem eO{n:Nat}{args:List Value}{h:Hp}(hl:Nat.ble (BI args) 160=true):call AG (Nat.succ n) 70 args h=BB [.t (AB 5)] (d70 (call AG n) (AZ e0 0 args) h):=by
 have hb:AG.get 70=some b70:=by kernel_rfl
 rw[Aw hb]
 have hd:b70=⟨[.t (AB 5)],d70⟩:=by kernel_rfl
 rw[hd,An hl]
theorem eP{n:Nat}{args:List Value}{h:Hp}(hl:Nat.ble (BI args) 160=true):call AG (Nat.succ n) 71 args h=BB [.t (AB 4)] (d71 (call AG n) (AZ e0 0 args) h):=by
 have hb:AG.get 71=some b71:=by kernel_rfl
 rw[Aw hb]
 have hd:b71=⟨[.t (AB 4)],d71⟩:=by kernel_rfl
 rw[hd,An hl]
theorem eQ{n:Nat}{args:List Value}{h:Hp}(hl:Nat.ble (BI args) 160=true):call AG (Nat.succ n) 72 args h=BB [.t (AB 4)] (d72 (call AG n) (AZ e0 0 args) h):=by
 have hb:AG.get 72=some b72:=by kernel_rfl
 rw[Aw hb]
 have hd:b72=⟨[.t (AB 4)],d72⟩:=by kernel_rfl
 rw[hd,An hl]
theorem eR{n:Nat}{args:List Value}{h:Hp}(hl:Nat.ble (BI args) 160=true):call AG (Nat.succ n) 73 args h=BB [.t (AB 4)] (d73 (call AG n) (AZ e0 0 args) h):=by
 have hb:AG.get 73=some b73:=by kernel_rfl
 rw[Aw hb]
 have hd:b73=⟨[.t (AB 4)],d73⟩:=by kernel_rfl
 rw[hd,An hl]
theorem eS{n:Nat}{args:List Value}{h:Hp}(hl:Nat.ble (BI args) 160=true):call AG (Nat.succ n) 74 args h=BB [.t (AB 3)] (d74 (call AG n) (AZ e0 0 args) h):=by
 have hb:AG.get 74=some b74:=by kernel_rfl
 rw[Aw hb]
 have hd:b74=⟨[.t (AB 3)],d74⟩:=by kernel_rfl
 rw[hd,An hl]
theorem eT{n:Nat}{args:List Value}{h:Hp}(hl:Nat.ble (BI args) 160=true):call AG (Nat.succ n) 75 args h=BB [.t (AB 6)] (d75 (call AG n) (AZ e0 0 args) h):=by
 have hb:AG.get 75=some b75:=by kernel_rfl
 rw[Aw hb]
 have hd:b75=⟨[.t (AB 6)],d75⟩:=by kernel_rfl
 rw[hd,An hl]
theorem eU{n:Nat}{args:List Value}{h:Hp}(hl:Nat.ble (BI args) 160=true):call AG (Nat.succ n) 76 args h=BB [.t (AB 2)] (d76 (call AG n) (AZ e0 0 args) h):=by
 have hb:AG.get 76=some b76:=by kernel_rfl
 rw[Aw hb]
 have hd:b76=⟨[.t (AB 2)],d76⟩:=by kernel_rfl
 rw[hd,An hl]
theorem eV{n:Nat}{args:List Value}{h:Hp}(hl:Nat.ble (BI args) 160=true):call AG (Nat.succ n) 77 args h=BB [] (d77 (call AG n) (AZ e0 0 args) h):=by
 have hb:AG.get 77=some b77:=by kernel_rfl
 rw[Aw hb]
 have hd:b77=⟨[],d77⟩:=by kernel_rfl
 rw[hd,An hl]
theorem eW{n:Nat}{args:List Value}{h:Hp}(hl:Nat.ble (BI args) 160=true):call AG (Nat.succ n) 78 args h=BB [.t (AB 2)] (d78 (call AG n) (AZ e0 0 args) h):=by
 have hb:AG.get 78=some b78:=by kernel_rfl
 rw[Aw hb]
 have hd:b78=⟨[.t (AB 2)],d78⟩:=by kernel_rfl
 rw[hd,An hl]
theorem U2{n:Nat}{args:List Value}{h:Hp}(hl:Nat.ble (BI args) 160=true):call AG (Nat.succ n) 79 args h=BB [.t (AB 2)] (d79 (call AG n) (AZ e0 0 args) h):=by
 have hb:AG.get 79=some b79:=by kernel_rfl
 rw[Aw hb]
 have hd:b79=⟨[.t (AB 2)],d79⟩:=by kernel_rfl
 rw[hd,An hl]
theorem eX{n:Nat}{args:List Value}{h:Hp}(hl:Nat.ble (BI args) 160=true):call AG (Nat.succ n) 80 args h=BB [.t (AB 4)] (d80 (call AG n) (AZ e0 0 args) h):=by
 have hb:AG.get 80=some b80:=by kernel_rfl
 rw[Aw hb]
 have hd:b80=⟨[.t (AB 4)],d80⟩:=by kernel_rfl
 rw[hd,An hl]
theorem eY{n:Nat}{args:List Value}{h:Hp}(hl:Nat.ble (BI args) 160=true):call AG (Nat.succ n) 83 args h=BB [.t (AB 2)] (d83 (call AG n) (AZ e0 0 args) h):=by
 have hb:AG.get 83=some b83:=by kernel_rfl
 rw[Aw hb]
 have hd:b83=⟨[.t (AB 2)],d83⟩:=by kernel_rfl
 rw[hd,An hl]
theorem eZ{n:Nat}{args:List Value}{h:Hp}(hl:Nat.ble (BI args) 160=true):call AG (Nat.succ n) 84 args h=BB [.t (AB 4),.t (AB 5)] (d84 (call AG n) (AZ e0 0 args) h):=by
 have hb:AG.get 84=some b84:=by kernel_rfl
 rw[Aw hb]
 have hd:b84=⟨[.t (AB 4),.t (AB 5)],d84⟩:=by kernel_rfl
 rw[hd,An hl]
theorem NE{n:Nat}{args:List Value}{h:Hp}(hl:Nat.ble (BI args) 160=true):call AG (Nat.succ n) 85 args h=BB [.t (AB 4)] (d85 (call AG n) (AZ e0 0 args) h):=by
 have hb:AG.get 85=some b85:=by kernel_rfl
 rw[Aw hb]
 have hd:b85=⟨[.t (AB 4)],d85⟩:=by kernel_rfl
 rw[hd,An hl]
theorem ed{n:Nat}{args:List Value}{h:Hp}(hl:Nat.ble (BI args) 160=true):call AG (Nat.succ n) 86 args h=BB [.t (AB 2)] (d86 (call AG n) (AZ e0 0 args) h):=by
 have hb:AG.get 86=some b86:=by kernel_rfl
 rw[Aw hb]
 have hd:b86=⟨[.t (AB 2)],d86⟩:=by kernel_rfl
 rw[hd,An hl]
theorem Ku{n:Nat}{args:List Value}{h:Hp}(hl:Nat.ble (BI args) 160=true):call AG (Nat.succ n) 87 args h=BB [.cN (AB 4) 5,.t (AB 5),.t (AB 6),.t (AB 7)] (d87 (call AG n) (AZ e0 0 args) h):=by
 have hb:AG.get 87=some b87:=by kernel_rfl
 rw[Aw hb]
 have hd:b87=⟨[.cN (AB 4) 5,.t (AB 5),.t (AB 6),.t (AB 7)],d87⟩:=by kernel_rfl
 rw[hd,An hl]
theorem U3{n:Nat}{args:List Value}{h:Hp}(hl:Nat.ble (BI args) 160=true):call AG (Nat.succ n) 88 args h=BB [.t (AB 6),.t (AB 7)] (d88 (call AG n) (AZ e0 0 args) h):=by
 have hb:AG.get 88=some b88:=by kernel_rfl
 rw[Aw hb]
 have hd:b88=⟨[.t (AB 6),.t (AB 7)],d88⟩:=by kernel_rfl
 rw[hd,An hl]
theorem ee{n:Nat}{args:List Value}{h:Hp}(hl:Nat.ble (BI args) 160=true):call AG (Nat.succ n) 89 args h=BB [.t (AB 3)] (d89 (call AG n) (AZ e0 0 args) h):=by
 have hb:AG.get 89=some b89:=by kernel_rfl
 rw[Aw hb]
 have hd:b89=⟨[.t (AB 3)],d89⟩:=by kernel_rfl
 rw[hd,An hl]
theorem ef{n:Nat}{args:List Value}{h:Hp}(hl:Nat.ble (BI args) 160=true):call AG (Nat.succ n) 90 args h=BB [.t (AB 3)] (d90 (call AG n) (AZ e0 0 args) h):=by
 have hb:AG.get 90=some b90:=by kernel_rfl
 rw[Aw hb]
 have hd:b90=⟨[.t (AB 3)],d90⟩:=by kernel_rfl
 rw[hd,An hl]
theorem eh{n:Nat}{args:List Value}{h:Hp}(hl:Nat.ble (BI args) 160=true):call AG (Nat.succ n) 91 args h=BB [.t (AB 4)] (d91 (call AG n) (AZ e0 0 args) h):=by
 have hb:AG.get 91=some b91:=by kernel_rfl
 rw[Aw hb]
 have hd:b91=⟨[.t (AB 4)],d91⟩:=by kernel_rfl
 rw[hd,An hl]
theorem eo{n:Nat}{args:List Value}{h:Hp}(hl:Nat.ble (BI args) 160=true):call AG (Nat.succ n) 92 args h=BB [.t (AB 4)] (d92 (call AG n) (AZ e0 0 args) h):=by
 have hb:AG.get 92=some b92:=by kernel_rfl
 rw[Aw hb]
 have hd:b92=⟨[.t (AB 4)],d92⟩:=by kernel_rfl
 rw[hd,An hl]
theorem ep{n:Nat}{args:List Value}{h:Hp}(hl:Nat.ble (BI args) 160=true):call AG (Nat.succ n) 95 args h=BB [.t (AB 4)] (d95 (call AG n) (AZ e0 0 args) h):=by
 have hb:AG.get 95=some b95:=by kernel_rfl
 rw[Aw hb]
 have hd:b95=⟨[.t (AB 4)],d95⟩:=by kernel_rfl
 rw[hd,An hl]
theorem et{n:Nat}{args:List Value}{h:Hp}(hl:Nat.ble (BI args) 160=true):call AG (Nat.succ n) 96 args h=BB [.t (AB 2)] (d96 (call AG n) (AZ e0 0 args) h):=by
 have hb:AG.get 96=some b96:=by kernel_rfl
 rw[Aw hb]
 have hd:b96=⟨[.t (AB 2)],d96⟩:=by kernel_rfl
 rw[hd,An hl]
theorem eu{n:Nat}{args:List Value}{h:Hp}(hl:Nat.ble (BI args) 160=true):call AG (Nat.succ n) 97 args h=BB [] (d97 (call AG n) (AZ e0 0 args) h):=by
 have hb:AG.get 97=some b97:=by kernel_rfl
 rw[Aw hb]
 have hd:b97=⟨[],d97⟩:=by kernel_rfl
 rw[hd,An hl]
theorem X7{n:Nat}{args:List Value}{h:Hp}(hl:Nat.ble (BI args) 160=true):call AG (Nat.succ n) 106 args h=BB [.t (AB 2)] (YM (call AG n) (AZ e0 0 args) h):=by
 have hb:AG.get 106=some Sy:=by kernel_rfl
 rw[Aw hb]
 have hd:Sy=⟨[.t (AB 2)],YM⟩:=by kernel_rfl
 rw[hd,An hl]
theorem X8{n:Nat}{args:List Value}{h:Hp}(hl:Nat.ble (BI args) 160=true):call AG (Nat.succ n) 107 args h=BB [.t (AB 2)] (YN (call AG n) (AZ e0 0 args) h):=by
 have hb:AG.get 107=some Sz:=by kernel_rfl
 rw[Aw hb]
 have hd:Sz=⟨[.t (AB 2)],YN⟩:=by kernel_rfl
 rw[hd,An hl]
theorem KC{n:Nat}{args:List Value}{h:Hp}(hl:Nat.ble (BI args) 160=true):call AG (Nat.succ n) 109 args h=BB [.t (AB 4)] (YO (call AG n) (AZ e0 0 args) h):=by
 have hb:AG.get 109=some S0:=by kernel_rfl
 rw[Aw hb]
 have hd:S0=⟨[.t (AB 4)],YO⟩:=by kernel_rfl
 rw[hd,An hl]
theorem ND{n:Nat}{args:List Value}{h:Hp}(hl:Nat.ble (BI args) 160=true):call AG (Nat.succ n) 110 args h=BB [.t (AB 4),.t (AB 5)] (TB (call AG n) (AZ e0 0 args) h):=by
 have hb:AG.get 110=some S1:=by kernel_rfl
 rw[Aw hb]
 have hd:S1=⟨[.t (AB 4),.t (AB 5)],TB⟩:=by kernel_rfl
 rw[hd,An hl]
theorem RU{n:Nat}{args:List Value}{h:Hp}(hl:Nat.ble (BI args) 160=true):call AG (Nat.succ n) 111 args h=BB [.t (AB 4),.t (AB 5),.t (AB 6)] (YP (call AG n) (AZ e0 0 args) h):=by
 have hb:AG.get 111=some S2:=by kernel_rfl
 rw[Aw hb]
 have hd:S2=⟨[.t (AB 4),.t (AB 5),.t (AB 6)],YP⟩:=by kernel_rfl
 rw[hd,An hl]
theorem X9{n:Nat}{args:List Value}{h:Hp}(hl:Nat.ble (BI args) 160=true):call AG (Nat.succ n) 112 args h=BB [.t (AB 2)] (YQ (call AG n) (AZ e0 0 args) h):=by
 have hb:AG.get 112=some S3:=by kernel_rfl
 rw[Aw hb]
 have hd:S3=⟨[.t (AB 2)],YQ⟩:=by kernel_rfl
 rw[hd,An hl]
end
set_option linter.unusedVariables false
set_option linter.unusedSimpArgs false
noncomputable section
open Go
set_option maxRecDepth 100000
theorem bN:BG ty5.zero 1=[.int .u8 0]:=by kernel_rfl
theorem fY:d72=AF (AC 4) (AD (kV (.slice none 0 0))) (A5 (Ah 0 (A1 MB)) XV):=rfl
theorem US{F:CallF}{h0 h:Hp}{k:Nat}(x0:h0.Ext h)(hk:h0.next≤k)(hk2:k≤h.next){v:Value}{l:List Nat}(o:h.Own k 5 v (l.map bv))(hl:l.length≤1000000){N:Nat}(hN:N<18446744073709551616){e:Env}(s0:AB 0 e=v)(s1:AB 1 e=.int .u64 (N:Int)):
  ∃ e' h' v' xs m,A1 MB F e h=.exit 0 e' h'∧AB 0 e'=v'∧AB 1 e'=.int .u64 ((m:Nat):Int)∧m<128∧l++B4 N=xs++[m]∧h0.Ext h'∧h'.Own k 5 v' (xs.map bv)∧h.next≤h'.next∧(∀ b el L,¬ blkV v b→h.Row b el L→h'.Row b el L∧¬ blkV v' b):=by
 have hten:=Jg hN
 refine Bz (I:=fun i e' h'=>∃ v' xs m,AB 0 e'=v'∧AB 1 e'=.int .u64 ((m:Nat):Int)∧m<18446744073709551616∧l++B4 N=xs++B4 m∧i+(B4 m).length=(B4 N).length∧h0.Ext h'∧h'.Own k 5 v' (xs.map bv)∧h.next≤h'.next∧(∀ b el L,¬ blkV v b→h.Row b el L→h'.Row b el L∧¬ blkV v' b))
  (Q:=fun x=>∃ e' h' v' xs m,x=.exit 0 e' h'∧AB 0 e'=v'∧AB 1 e'=.int .u64 ((m:Nat):Int)∧m<128∧l++B4 N=xs++[m]∧h0.Ext h'∧h'.Own k 5 v' (xs.map bv)∧h.next≤h'.next∧(∀ b el L,¬ blkV v b→h.Row b el L→h'.Row b el L∧¬ blkV v' b)) 20 (by omega) (fun i e' h' ⟨v',xs,m,t0,t1,hm,hx,hi,x1,o1,hn,fr⟩=>?_)
  ⟨v,l,N,s0,s1,hN,rfl,Nat.zero_add _,x0,o,Nat.le_refl _,fun b el L hb r=>⟨r,hb⟩⟩
 have hlen:=congrArg List.length hx
 rw[List.length_append,List.length_append]at hlen
 by_cases h1:m<128
 ·right
  have c1:iGt (m:Int) 127=false:=by rw[G1];simp;omega
  have hrun:MB F e' h'=.exit 0 (Env.set 6 (.bool false) e') h':=by
   unfold MB
   simp only[sT,Nat.reduceLT,Nat.reduceEqDiff,if_true,if_false,reduceIte,AS,AQ,t1,c1]
  rw[hrun]
  refine⟨rfl,_,_,v',xs,m,rfl,by simp only[AE,Nat.reduceLT,Nat.reduceEqDiff,if_true,if_false,reduceIte];exact t0,by simp only[AE,Nat.reduceLT,Nat.reduceEqDiff,if_true,if_false,reduceIte];exact t1,h1,?_,x1,o1,hn,fr⟩
  rw[hx,Ei h1]
 ·left
  have W:=x1.wf
  have c1:iGt (m:Int) 127=true:=by rw[G1];simp;omega
  have r1:RB .u64 (.int .u64 (m:Int)) (.int .u64 128) h'=.ok (.int .u64 ((m % 128:Nat):Int)) h':=by rw[KT (by omega)];rfl
  have a1:Gn .u64 (.int .u64 ((m % 128:Nat):Int)) (.int .u64 128) h'=.ok (.int .u64 ((m % 128+128:Nat):Int)) h':=by
   have:IntKind.u64.wrap (((m % 128:Nat):Int)+128)=((m % 128+128:Nat):Int):=by
    rw[show((m % 128:Nat):Int)+128=((m % 128+128:Nat):Int)by omega];exact FI (by omega)
   rw[EU,this]
  have v1:DZ .u8 (.int .u64 ((m % 128+128:Nat):Int)) h'=.ok (.int .u8 ((m % 128+128:Nat):Int)) h':=by
   rw[Cy,Ht,Nat.mod_eq_of_lt (show m % 128+128<256 by omega)]
  have os:∀ e,AB 11 e=.int .u8 ((m % 128+128:Nat):Int)→Af 1 (BG ty5.zero 1) [(0,1,AB 11)] F e h'=.ok (.slice (some ⟨h'.next,0,none⟩) 1 1) (h'.pushRow 0 [.int .u8 ((m % 128+128:Nat):Int)]):=fun e he=>by rw[bN];exact Hr W he rfl rfl
  have hpos:=UR (m / 128)
  rw[GI (n:=m) (by omega)]at hi hlen hx
  rw[List.length_cons]at hi hlen
  obtain⟨h2,v2,a2,x2,o2,hn2,fr2⟩:=Iu (eb:=1) (n:=((m % 128+128:Nat):Int)) (kd:=.u8) x1 hk (Nat.le_trans hk2 hn) o1 (by rw[List.length_map];omega)
  have d1:OP .u64 (.int .u64 (m:Int)) (.int .u64 128) h2=.ok (.int .u64 ((m / 128:Nat):Int)) h2:=by
   have:IntKind.u64.wrap ((m:Int).tdiv 128)=((m / 128:Nat):Int):=FI (n:=m / 128) (by omega)
   rw[Ib (by omega),this]
  have hrun:∃ e2,MB F e' h'=.norm e2 h2∧AB 0 e2=v2∧AB 1 e2=.int .u64 ((m / 128:Nat):Int):=by
   unfold MB
   simp only[sT,Nat.reduceLT,Nat.reduceEqDiff,if_true,if_false,reduceIte,AS,AQ,t1,c1,Ho,r1,BZ,a1,Cd,v1,os,Bn,t0,a2,GR,d1]
   exact⟨_,rfl,by simp[AE],by simp[AE]⟩
  obtain⟨e2,b1,b2,b3⟩:=hrun
  refine⟨by omega,e2,h2,b1,v2,xs++[m % 128+128],m / 128,b2,b3,by omega,?_,by omega,x2,?_,by omega,fun b el L hb r=>?_⟩
  ·rw[hx];simp
  ·rw[List.map_append];exact o2
  ·obtain⟨r1,r2⟩:=fr b el L hb r
   exact fr2 b el L r2 r1
theorem aT{n:Nat}{h0 h:Hp}{k:Nat}(x0:h0.Ext h)(hk:h0.next≤k)(hk2:k≤h.next){v:Value}{l:List Nat}(o:h.Own k 5 v (l.map bv))(hl:l.length≤1000000){N:Nat}(hN:N<18446744073709551616):
  ∃ h' v',call AG (n+1) 72 [v,.int .u64 (N:Int)] h=.ok v' h'∧h0.Ext h'∧h'.Own k 5 v' ((l++B4 N).map bv)∧h.next≤h'.next∧(∀ b el L,¬ blkV v b→h.Row b el L→h'.Row b el L∧¬ blkV v' b):=by
 obtain⟨e1,h1,v1,xs,m,q1,s0,s1,hm,hx,x1,o1,hn,fr⟩:=US (F:=call AG n) x0 hk hk2 o hl hN (e:=Env.set 4 (.slice none 0 0) (Env.set 1 (.int .u64 (N:Int)) (Env.set 0 v e0))) (by simp[AE]) (by simp[AE])
 have W:=x1.wf
 have hten:=Jg hN
 have hlen:=congrArg List.length hx
 rw[List.length_append,List.length_append,List.length_singleton]at hlen
 have c1:DZ .u8 (.int .u64 (m:Int)) h1=.ok (.int .u8 (m:Int)) h1:=by
  rw[Cy,Ht,Nat.mod_eq_of_lt (show m<256 by omega)]
 have os:∀ e,AB 18 e=.int .u8 (m:Int)→Af 1 (BG ty5.zero 1) [(0,1,AB 18)] (call AG n) e h1=.ok (.slice (some ⟨h1.next,0,none⟩) 1 1) (h1.pushRow 0 [.int .u8 (m:Int)]):=fun e he=>by rw[bN];exact Hr W he rfl rfl
 obtain⟨h2,v2,a2,x2,o2,hn2,fr2⟩:=Iu (eb:=1) (n:=(m:Int)) (kd:=.u8) x1 hk (Nat.le_trans hk2 hn) o1 (by rw[List.length_map];omega)
 refine⟨h2,v2,?_,x2,?_,by omega,fun b el L hb r=>?_⟩
 ·rw[eQ rfl,fY]
  simp only[AJ,AK,Nat.succ_eq_add_one,Nat.zero_add,Nat.reduceAdd,AE,Nat.reduceLT,Nat.reduceEqDiff,if_true,if_false,reduceIte,GL,GT,D6,G6,BU,A3]
  rw[q1]
  simp only[A9,BH]
  unfold XV
  simp only[sT,Nat.reduceLT,Nat.reduceEqDiff,if_true,if_false,reduceIte,Cd,s1,c1,os,Bn,s0,a2,AP,Aa]
 ·rw[hx,List.map_append];exact o2
 ·obtain⟨r1,r2⟩:=fr b el L hb r
  exact fr2 b el L r2 r1
def bO(l:List Nat)(p:Nat)(a b c:Int):Prop:=(∃ v j:Nat,FO 0 0 (l.drop p)=some (v,j)∧a=(v:Int)∧b=((p+j:Nat):Int)∧c=0)∨(FO 0 0 (l.drop p)=none∧c≠0)
def Qf:C:=(AF (AC 22) (BR (AB 0))
(AF (AC 23) (Ad iLt .i64 (AB 8) (AB 22))
(AW (AB 23)
(A5 (Ah 1 (AF (AC 28) (Bp 1 (AB 0) (AB 8))
(AF (AC 29) (AL (AB 28))
(AF (AC 32) (B9 Int.sub .i64 (AB 8) (AB 1))
(AF (AC 9) (AD (AB 29))
(AF (AC 10) (AD (AB 32))
(AF (AC 34) (Ad iGt .i64 (AB 10) (kV (.int .i64 0)))
(cG (AB 34) true (AC 36) (AD (AB 9))
(cG (AB 34) true (AC 37) (Ad iEq .u8 (AB 36) (kV (.int .u8 0)))
(AF (AC 38) (Am (AB 34) (AB 37) (kV (.bool false)))
(cG (AB 38) false (AC 40) (AD (AB 10))
(cG (AB 38) false (AC 41) (Ad iGt .i64 (AB 40) (kV (.int .i64 8)))
(cG (AB 38) false (AC 42) (AD (AB 41))
(cG (AB 42) true (AC 43) (AD (AB 9))
(cG (AB 42) true (AC 44) (Ad iGt .u8 (AB 43) (kV (.int .u8 1)))
(cG (AB 38) false (AC 45) (Am (AB 42) (AB 44) (kV (.bool false)))
(AF (AC 46) (Am (AB 38) (kV (.bool true)) (AB 45))
(AW (AB 46)
(AF (AC 4) (AD (kV (.int .u64 0)))
(AF (AC 5) (AD (kV (.int .i64 0)))
(AF (AC 6) (AD (kV (.int .i64 10)))
Aj)))
(AF (AC 49) (Iq .u8 (AB 9) (kV (.int .u8 128)))
(AF (AC 50) (CD .u64 (AB 49))
(AF (AC 52) (B9 Int.mul .i64 (kV (.int .i64 7)) (AB 10))
(AF (AC 53) (Li .u64 (AB 50) (AB 52))
(AF (AC 54) (Bh .u64 (Ax .u64) (AB 7) (AB 53))
(AF (AC 7) (AD (AB 54))
(AF (AC 56) (Ad iLt .u8 (AB 9) (kV (.int .u8 128)))
(AW (AB 56)
(AF (AC 59) (Bh .i64 (Ax .i64) (AB 8) (kV (.int .i64 1)))
(AF (AC 4) (AD (AB 7))
(AF (AC 5) (AD (AB 59))
(AF (AC 6) (AD (kV (.int .i64 0)))
Aj))))
Ai))))))))))))))))))))))))))
(AF (AC 25) (Bh .i64 (Ax .i64) (AB 8) (kV (.int .i64 1)))
(AF (AC 8) (AD (AB 25))
Ai)))
(Bc 0))))
def NL:C:=(AW (AB 46)
(AF (AC 4) (AD (kV (.int .u64 0)))
(AF (AC 5) (AD (kV (.int .i64 0)))
(AF (AC 6) (AD (kV (.int .i64 10)))
Aj)))
(AF (AC 49) (Iq .u8 (AB 9) (kV (.int .u8 128)))
(AF (AC 50) (CD .u64 (AB 49))
(AF (AC 52) (B9 Int.mul .i64 (kV (.int .i64 7)) (AB 10))
(AF (AC 53) (Li .u64 (AB 50) (AB 52))
(AF (AC 54) (Bh .u64 (Ax .u64) (AB 7) (AB 53))
(AF (AC 7) (AD (AB 54))
(AF (AC 56) (Ad iLt .u8 (AB 9) (kV (.int .u8 128)))
(AW (AB 56)
(AF (AC 59) (Bh .i64 (Ax .i64) (AB 8) (kV (.int .i64 1)))
(AF (AC 4) (AD (AB 7))
(AF (AC 5) (AD (AB 59))
(AF (AC 6) (AD (kV (.int .i64 0)))
Aj))))
Ai)))))))))
def f0(K:C):C:=(AF (AC 34) (Ad iGt .i64 (AB 10) (kV (.int .i64 0)))
(cG (AB 34) true (AC 36) (AD (AB 9))
(cG (AB 34) true (AC 37) (Ad iEq .u8 (AB 36) (kV (.int .u8 0)))
(AF (AC 38) (Am (AB 34) (AB 37) (kV (.bool false)))
(cG (AB 38) false (AC 40) (AD (AB 10))
(cG (AB 38) false (AC 41) (Ad iGt .i64 (AB 40) (kV (.int .i64 8)))
(cG (AB 38) false (AC 42) (AD (AB 41))
(cG (AB 42) true (AC 43) (AD (AB 9))
(cG (AB 42) true (AC 44) (Ad iGt .u8 (AB 43) (kV (.int .u8 1)))
(cG (AB 38) false (AC 45) (Am (AB 42) (AB 44) (kV (.bool false)))
(AF (AC 46) (Am (AB 38) (kV (.bool true)) (AB 45))
K)))))))))))
theorem R0:Qf=AF (AC 22) (BR (AB 0)) (AF (AC 23) (Ad iLt .i64 (AB 8) (AB 22)) (AW (AB 23) (A5 (Ah 1 (AF (AC 28) (Bp 1 (AB 0) (AB 8)) (AF (AC 29) (AL (AB 28)) (AF (AC 32) (B9 Int.sub .i64 (AB 8) (AB 1)) (AF (AC 9) (AD (AB 29)) (AF (AC 10) (AD (AB 32)) (f0 NL))))))) (AF (AC 25) (Bh .i64 (Ax .i64) (AB 8) (kV (.int .i64 1))) (AF (AC 8) (AD (AB 25)) Ai))) (Bc 0))):=rfl
theorem Yq{K:C}{F:CallF}{h:Hp}{e:Env}{c i:Nat}{b1 b2 b3 b4:Bool}(s9:AB 9 e=.int .u8 (c:Int))(s10:AB 10 e=.int .i64 (i:Int))(i1:iGt (i:Int) 0=b1)(i2:iEq (c:Int) 0=b2)(i3:iGt (i:Int) 8=b3)(i4:iGt (c:Int) 1=b4):
  ∃ e',f0 K F e h=K F e' h∧AB 46 e'=.bool ((b1 && b2) || (b3 && b4))∧AB 0 e'=AB 0 e∧AB 1 e'=AB 1 e∧AB 7 e'=AB 7 e∧AB 8 e'=AB 8 e∧AB 9 e'=AB 9 e∧AB 10 e'=AB 10 e:=by
 unfold f0
 cases b1<;>cases b2<;>cases b3<;>cases b4<;>
 ·simp only[sT,Nat.reduceLT,Nat.reduceEqDiff,if_true,if_false,reduceIte,gD,AS,AQ,s9,s10,i1,i2,i3,i4]
  exact⟨_,rfl,by simp only[AE,Nat.reduceLT,Nat.reduceEqDiff,if_true,if_false,reduceIte];rfl,by simp[AE],by simp[AE],by simp[AE],by simp[AE],by simp only[AE,Nat.reduceLT,Nat.reduceEqDiff,if_true,if_false,reduceIte,s9],by simp only[AE,Nat.reduceLT,Nat.reduceEqDiff,if_true,if_false,reduceIte,s10]⟩
theorem Pf{i:Nat}(hi:i≤9):2 ^ (7 * i)≤9223372036854775808:=by
 have:2 ^ (7 * i)≤2 ^ 63:=Nat.pow_le_pow_right (by omega) (by omega)
 have e:(2:Nat) ^ 63=9223372036854775808:=rfl
 omega
theorem Va{F:CallF}{h:Hp}{u:Value}{l:List Nat}{p:Nat}(V:h.Vals u (l.map bv))(hb:∀ x∈l,x<256)(hp:p≤l.length)(hl:l.length≤1000000){e:Env}(s0:AB 0 e=u)(s1:AB 1 e=.int .i64 (p:Int))(s7:AB 7 e=.int .u64 0)(s8:AB 8 e=.int .i64 (p:Int)):
  (∃ e',A1 Qf F e h=.exit 0 e' h∧FO 0 0 (l.drop p)=none)∨(∃ e' a b c,A1 Qf F e h=.ret e' h∧AB 4 e'=.int .u64 a∧AB 5 e'=.int .i64 b∧AB 6 e'=.int .i64 c∧bO l p a b c):=by
 have Vl:Fc u h=.ok (.int .i64 (l.length:Int)) h:=by have:=V.len;rwa [List.length_map]at this
 refine Bz (I:=fun i e' h'=>h'=h∧∃ acc:Nat,AB 0 e'=u∧AB 1 e'=.int .i64 (p:Int)∧AB 7 e'=.int .u64 (acc:Int)∧AB 8 e'=.int .i64 ((p+i:Nat):Int)∧acc<2 ^ (7 * i)∧i≤9∧p+i≤l.length∧FO 0 0 (l.drop p)=FO i acc (l.drop (p+i)))
  (Q:=fun x=>(∃ e',x=.exit 0 e' h∧FO 0 0 (l.drop p)=none)∨(∃ e' a b c,x=.ret e' h∧AB 4 e'=.int .u64 a∧AB 5 e'=.int .i64 b∧AB 6 e'=.int .i64 c∧bO l p a b c)) 20 (by omega) (fun i e' h' ⟨hh,acc,t0,t1,t7,t8,hacc,hi9,hpi,hu⟩=>?_)
  ⟨rfl,0,s0,s1,s7,s8,by decide,by omega,hp,rfl⟩
 subst hh
 by_cases hlt:p+i<l.length
 ·have hc:l.getD (p+i) 0<256:=hb _ (by rw[List.getD_eq_getElem?_getD,List.getElem?_eq_getElem hlt];exact List.getElem_mem hlt)
  have hd:l.drop (p+i)=l.getD (p+i) 0::l.drop (p+i+1):=by
   rw[List.drop_eq_getElem_cons hlt,List.getD_eq_getElem?_getD,List.getElem?_eq_getElem hlt];rfl
  have hel:(l.map bv).getD (p+i) noRes=.int .u8 ((l.getD (p+i) 0:Nat):Int):=by
   rw[List.getD_eq_getElem?_getD,List.getElem?_map,List.getD_eq_getElem?_getD,List.getElem?_eq_getElem hlt];rfl
  obtain⟨a,g1,g2⟩:=V.at (i:=p+i) (by rw[List.length_map];exact hlt)
  rw[hel]at g2
  rw[hd]at hu
  generalize l.getD (p+i) 0=c at hc g2 hu
  have c1:iLt ((p+i:Nat):Int) (l.length:Int)=true:=by rw[C0];simp;omega
  have a2:Hu Int.sub .i64 (.int .i64 ((p+i:Nat):Int)) (.int .i64 (p:Int)) h'=.ok (.int .i64 (i:Int)) h':=by
   have:Int.sub ((p+i:Nat):Int) (p:Int)=(i:Int):=by show((p+i:Nat):Int) - (p:Int)=i;omega
   rw[DI,this,Br (by omega)]
  have a3:Gn .i64 (.int .i64 ((p+i:Nat):Int)) (.int .i64 1) h'=.ok (.int .i64 ((p+(i+1):Nat):Int)) h':=by
   have:((p+i:Nat):Int)+1=((p+(i+1):Nat):Int):=by omega
   rw[EU,this,Br (by omega)]
  have pre:∃ e2,Qf F e' h'=UF (JF 1 (NL F e2 h')) (AF (AC 25) (Bh .i64 (Ax .i64) (AB 8) (kV (.int .i64 1))) (AF (AC 8) (AD (AB 25)) Ai)) F∧AB 46 e2=.bool ((decide (0<i) && decide (c=0)) || (decide (8<i) && decide (1<c)))∧AB 0 e2=u∧AB 1 e2=.int .i64 (p:Int)∧AB 7 e2=.int .u64 (acc:Int)∧AB 8 e2=.int .i64 ((p+i:Nat):Int)∧AB 9 e2=.int .u8 (c:Int)∧AB 10 e2=.int .i64 (i:Int):=by
   obtain⟨e2,q1,q2,q3,q4,q5,q6,q7,q8⟩:=Yq (K:=NL) (F:=F) (h:=h') (e:=Env.set 10 (.int .i64 (i:Int)) (Env.set 9 (.int .u8 (c:Int)) (Env.set 32 (.int .i64 (i:Int)) (Env.set 29 (.int .u8 (c:Int)) (Env.set 28 (.pointer (some a)) (Env.set 23 (.bool true) (Env.set 22 (.int .i64 (l.length:Int)) e'))))))) (c:=c) (i:=i) (b1:=decide (0<i)) (b2:=decide (c=0)) (b3:=decide (8<i)) (b4:=decide (1<c))
    (by simp[AE]) (by simp[AE]) (by rw[G1,decide_eq_decide];omega) (by rw[Dz,Bool.eq_iff_iff,beq_iff_eq,decide_eq_true_eq];omega) (by rw[G1,decide_eq_decide];omega) (by rw[G1,decide_eq_decide];omega)
   refine⟨e2,?_,q2,?_,?_,?_,?_,?_,?_⟩
   ·rw[R0]
    simp only[GL,IQ,BU,A3,GT,H7,D6,G6,AE,Nat.reduceLT,Nat.reduceEqDiff,if_true,if_false,reduceIte,Ay,t0,Vl,AS,AQ,t8,c1,Bb,g1,AV,g2,DK,t1,a2,q1]
   ·rw[q3];simp only[AE,Nat.reduceLT,Nat.reduceEqDiff,if_true,if_false,reduceIte];exact t0
   ·rw[q4];simp only[AE,Nat.reduceLT,Nat.reduceEqDiff,if_true,if_false,reduceIte];exact t1
   ·rw[q5];simp only[AE,Nat.reduceLT,Nat.reduceEqDiff,if_true,if_false,reduceIte];exact t7
   ·rw[q6];simp only[AE,Nat.reduceLT,Nat.reduceEqDiff,if_true,if_false,reduceIte];exact t8
   ·rw[q7];simp only[AE,Nat.reduceLT,Nat.reduceEqDiff,if_true,if_false,reduceIte]
   ·rw[q8];simp only[AE,Nat.reduceLT,Nat.reduceEqDiff,if_true,if_false,reduceIte]
  obtain⟨e2,p1,p46,p0,pp1,p7,p8,p9,p10⟩:=pre
  rw[FO]at hu
  by_cases hbad:(0<i∧c=0)∨(8<i∧1<c)
  ·right
   have hB:((decide (0<i) && decide (c=0)) || (decide (8<i) && decide (1<c)))=true:=by simpa using hbad
   rw[hB]at p46
   rw[if_pos hbad]at hu
   have hrun:∃ e3,NL F e2 h'=.ret e3 h'∧AB 4 e3=.int .u64 0∧AB 5 e3=.int .i64 0∧AB 6 e3=.int .i64 10:=by
    unfold NL
    simp only[sT,Nat.reduceLT,Nat.reduceEqDiff,if_true,if_false,reduceIte,p46]
    exact⟨_,rfl,by simp[AE],by simp[AE],by simp[AE]⟩
   obtain⟨e3,r1,r4,r5,r6⟩:=hrun
   rw[p1,r1,CY,DD]
   exact⟨rfl,.inr ⟨e3,0,0,10,rfl,r4,r5,r6,.inr ⟨hu,by omega⟩⟩⟩
  ·have hB:((decide (0<i) && decide (c=0)) || (decide (8<i) && decide (1<c)))=false:=by
    rw[← Bool.not_eq_true];simpa using hbad
   rw[hB]at p46
   rw[if_neg hbad]at hu
   have hle:acc+c % 128 * 2 ^ (7 * i)<2 ^ (7 * (i+1)):=by
    rw[Lu]
    have h1:c % 128≤127:=by omega
    have h2:=Nat.mul_le_mul_right (2 ^ (7 * i)) h1
    omega
   have htop:c % 128 * 2 ^ (7 * i)≤9223372036854775808∧acc<9223372036854775808:=by
    have h3:=Pf hi9
    refine⟨?_,by omega⟩
    rcases Nat.lt_or_ge i 9 with h4|h4
    ·have h5:2 ^ (7 * (i+1))≤9223372036854775808:=Pf (by omega)
     omega
    ·have h5:c % 128≤1:=by omega
     have h6:=Nat.mul_le_mul_right (2 ^ (7 * i)) h5
     omega
   have m1:RB .u8 (.int .u8 (c:Int)) (.int .u8 128) h'=.ok (.int .u8 ((c % 128:Nat):Int)) h':=by rw[KT (by omega)];rfl
   have m2:DZ .u64 (.int .u8 ((c % 128:Nat):Int)) h'=.ok (.int .u64 ((c % 128:Nat):Int)) h':=by rw[Cy,FI (by omega)]
   have m3:Hu Int.mul .i64 (.int .i64 7) (.int .i64 (i:Int)) h'=.ok (.int .i64 ((7 * i:Nat):Int)) h':=by
    have:Int.mul 7 (i:Int)=((7 * i:Nat):Int):=by show(7:Int) * (i:Int)=_;omega
    rw[DI,this,Br (by omega)]
   have m4:aE .u64 (.int .u64 ((c % 128:Nat):Int)) (.int .i64 ((7 * i:Nat):Int)) h'=.ok (.int .u64 ((c % 128 * 2 ^ (7 * i):Nat):Int)) h':=by
    have:min (7 * i) IntKind.u64.bits=7 * i:=Nat.min_eq_left (by show 7 * i≤64;omega)
    rw[aF,this,FI (by omega)]
   have m5:Gn .u64 (.int .u64 (acc:Int)) (.int .u64 ((c % 128 * 2 ^ (7 * i):Nat):Int)) h'=.ok (.int .u64 ((acc+c % 128 * 2 ^ (7 * i):Nat):Int)) h':=by
    rw[EU,← Int.natCast_add,FI (by omega)]
   by_cases hsm:c<128
   ·right
    rw[if_pos hsm]at hu
    have c2:iLt (c:Int) 128=true:=by rw[C0];simp;omega
    have hrun:∃ e3,NL F e2 h'=.ret e3 h'∧AB 4 e3=.int .u64 ((acc+c % 128 * 2 ^ (7 * i):Nat):Int)∧AB 5 e3=.int .i64 ((p+(i+1):Nat):Int)∧AB 6 e3=.int .i64 0:=by
     unfold NL
     simp only[sT,Nat.reduceLT,Nat.reduceEqDiff,if_true,if_false,reduceIte,p46,Ho,p9,m1,Cd,m2,DK,p10,m3,SZ,m4,BZ,p7,m5,AS,AQ,c2,p8,a3]
     exact⟨_,rfl,by simp[AE],by simp[AE],by simp[AE]⟩
    obtain⟨e3,r1,r4,r5,r6⟩:=hrun
    rw[p1,r1,CY,DD]
    refine⟨rfl,.inr ⟨e3,_,_,_,rfl,r4,r5,r6,.inl ⟨_,_,hu,?_,rfl,rfl⟩⟩⟩
    rw[Nat.mod_eq_of_lt hsm]
   ·left
    rw[if_neg hsm]at hu
    have hi8:i≤8:=by omega
    have c2:iLt (c:Int) 128=false:=by rw[C0];simp;omega
    have hrun:∃ e3,NL F e2 h'=.norm e3 h'∧AB 0 e3=u∧AB 1 e3=.int .i64 (p:Int)∧AB 7 e3=.int .u64 ((acc+c % 128 * 2 ^ (7 * i):Nat):Int)∧AB 8 e3=.int .i64 ((p+i:Nat):Int):=by
     unfold NL
     simp only[sT,Nat.reduceLT,Nat.reduceEqDiff,if_true,if_false,reduceIte,p46,Ho,p9,m1,Cd,m2,DK,p10,m3,SZ,m4,BZ,p7,m5,AS,AQ,c2,p8,a3]
     exact⟨_,rfl,by simp only[AE,Nat.reduceLT,Nat.reduceEqDiff,if_true,if_false,reduceIte];exact p0,by simp only[AE,Nat.reduceLT,Nat.reduceEqDiff,if_true,if_false,reduceIte];exact pp1,by simp[AE],by simp only[AE,Nat.reduceLT,Nat.reduceEqDiff,if_true,if_false,reduceIte];exact p8⟩
    obtain⟨e3,r1,r0,rr1,r7,r8⟩:=hrun
    have hrun2:∃ e4,Qf F e' h'=.norm e4 h'∧AB 0 e4=u∧AB 1 e4=.int .i64 (p:Int)∧AB 7 e4=.int .u64 ((acc+c % 128 * 2 ^ (7 * i):Nat):Int)∧AB 8 e4=.int .i64 ((p+(i+1):Nat):Int):=by
     rw[p1,r1]
     simp only[Ec,BH,GL,GT,BZ,r8,G6,a3,D6,Kq,AE,Nat.reduceLT,Nat.reduceEqDiff,if_true,if_false,reduceIte]
     exact⟨_,rfl,by simp only[AE,Nat.reduceLT,Nat.reduceEqDiff,if_true,if_false,reduceIte];exact r0,by simp only[AE,Nat.reduceLT,Nat.reduceEqDiff,if_true,if_false,reduceIte];exact rr1,by simp only[AE,Nat.reduceLT,Nat.reduceEqDiff,if_true,if_false,reduceIte];exact r7,by simp[AE]⟩
    obtain⟨e4,k1,k2,k3,k4,k5⟩:=hrun2
    exact⟨by omega,e4,h',k1,rfl,_,k2,k3,k4,k5,hle,by omega,by omega,hu⟩
 ·right
  have c1:iLt ((p+i:Nat):Int) (l.length:Int)=false:=by rw[C0];simp;omega
  have hrun:∃ e2,Qf F e' h'=.exit 0 e2 h':=by
   rw[R0]
   simp only[sT,Nat.reduceLT,Nat.reduceEqDiff,if_true,if_false,reduceIte,Ay,t0,Vl,AS,AQ,t8,c1]
   exact⟨_,rfl⟩
  obtain⟨e2,r1⟩:=hrun
  rw[r1]
  refine⟨rfl,.inl ⟨e2,rfl,?_⟩⟩
  rw[hu,List.drop_of_length_le (by omega)];rfl
def j6:C:=(AF (AC 4) (AD (kV (.int .u64 0))) (AF (AC 5) (AD (kV (.int .i64 0))) (AF (AC 6) (AD (kV (.int .i64 11))) Aj)))
theorem SB:LG=AF (AC 7) (AD (kV (.int .u64 0))) (AF (AC 8) (AD (AB 1)) (A5 (Ah 0 (A1 Qf)) j6)):=rfl
theorem RY:YP=RZ:=rfl
theorem gB{n:Nat}{h:Hp}{u:Value}{l:List Nat}{p:Nat}(V:h.Vals u (l.map bv))(hb:∀ x∈l,x<256)(hp:p≤l.length)(hl:l.length≤1000000):
  ∃ a b c,call AG (n+1) 111 [u,.int .i64 (p:Int)] h=.ok (.tuple ⟨[.int .u64 a,.int .i64 b,.int .i64 c]⟩) h∧bO l p a b c:=by
 have Vl:Fc u h=.ok (.int .i64 (l.length:Int)) h:=by have:=V.len;rwa [List.length_map]at this
 have c0:iLt (p:Int) 0=false:=by rw[C0];simp
 have c1:iGt (p:Int) (l.length:Int)=false:=by rw[G1];simp;omega
 have pre:∃ e1,RZ (call AG n) (AZ e0 0 [u,.int .i64 (p:Int)]) h=LG (call AG n) e1 h∧AB 0 e1=u∧AB 1 e1=.int .i64 (p:Int):=by
  unfold RZ
  simp only[AJ,AK,Nat.succ_eq_add_one,Nat.zero_add,Nat.reduceAdd,GL,IQ,GT,Gt,D6,G6,AE,Nat.reduceLT,Nat.reduceEqDiff,if_true,if_false,reduceIte,gD,AS,AQ,c0,Ay,Vl,c1]
  exact⟨_,rfl,by simp[AE],by simp[AE]⟩
 obtain⟨e1,p1,p2,p3⟩:=pre
 have H:=Va (F:=call AG n) (e:=Env.set 8 (.int .i64 (p:Int)) (Env.set 7 (.int .u64 0) e1)) V hb hp hl (by simp only[AE,Nat.reduceLT,Nat.reduceEqDiff,if_true,if_false,reduceIte];exact p2) (by simp only[AE,Nat.reduceLT,Nat.reduceEqDiff,if_true,if_false,reduceIte];exact p3) (by simp[AE]) (by simp[AE])
 rcases H with ⟨e2,q1,q2⟩|⟨e2,a,b,c,q1,q4,q5,q6,q7⟩
 ·refine⟨0,0,11,?_,.inr ⟨q2,by omega⟩⟩
  rw[RU rfl,RY,p1,SB]
  simp only[GL,GT,D6,G6,AE,Nat.reduceLT,Nat.reduceEqDiff,if_true,if_false,reduceIte,p3,BU,A3]
  rw[q1]
  simp only[A9,BH]
  unfold j6
  simp only[sT,Nat.reduceLT,Nat.reduceEqDiff,if_true,if_false,reduceIte,AP,LD]
 ·refine⟨a,b,c,?_,q7⟩
  rw[RU rfl,RY,p1,SB]
  simp only[GL,GT,D6,G6,AE,Nat.reduceLT,Nat.reduceEqDiff,if_true,if_false,reduceIte,p3,BU,A3]
  rw[q1]
  simp only[CY,DD]
  simp only[AP,LD,q4,q5,q6]
end
noncomputable section
open Go
def FF(T:List Nat):Nat→List Nat→Nat
 |s,[]=>s
 |s,b::l=>FF T (Nat.xor (T.getD (Nat.xor (s % 256) b) 0) (s / 256)) l
def BX(T l:List Nat):Nat:=4294967295 - FF T 4294967295 l
def TblOk(T:List Nat):Prop:=T.length=256∧∀ i,T.getD i 0<4294967296
theorem I9{a b:Nat}(ha:a<256)(hb:b<256):Nat.xor a b<256:=Nat.xor_lt_two_pow (n:=8) ha hb
theorem Xd{a b:Nat}(ha:a<4294967296)(hb:b<4294967296):Nat.xor a b<4294967296:=Nat.xor_lt_two_pow (n:=32) ha hb
theorem Je{T:List Nat}(hT:TblOk T){s:Nat}(hs:s<4294967296)(b:Nat):Nat.xor (T.getD (Nat.xor (s % 256) b) 0) (s / 256)<4294967296:=Xd (hT.2 _) (by omega)
theorem I2{T:List Nat}(hT:TblOk T):∀ (l:List Nat) (s:Nat),s<4294967296→FF T s l<4294967296
 |[],s,hs=>hs
 |b::l,s,hs=>I2 hT l _ (Je hT hs b)
theorem Fl(T l:List Nat):BX T l<4294967296:=by unfold BX;omega
theorem HP(T:List Nat):∀ (a b:List Nat) (s:Nat),FF T s (a++b)=FF T (FF T s a) b
 |[],b,s=>rfl
 |x::a,b,s=>HP T a b _
def ET(s:Nat):List Nat:=[s / 16777216 % 256,s / 65536 % 256,s / 256 % 256,s % 256]
def C3(T l:List Nat):List Nat:=l++ET (BX T l)
theorem Ez(T l:List Nat):(C3 T l).length=l.length+4:=by unfold C3;rw[List.length_append];rfl
theorem aK(s x:Nat)(h:x∈ET s):x<256:=by
 unfold ET at h
 simp only[List.mem_cons,List.mem_nil_iff,or_false]at h
 omega
theorem Pv{T l:List Nat}(h:∀ x∈l,x<256):∀ x∈C3 T l,x<256:=fun x hx=>by
 rcases List.mem_append.1 hx with h1|h1
 ·exact h x h1
 ·exact aK _ x h1
def Bo(ns:List Nat):List Nat:=ns.flatMap B4
theorem CS(n:Nat)(ns:List Nat):Bo (n::ns)=B4 n++Bo ns:=rfl
theorem RJ(a b:List Nat):Bo (a++b)=Bo a++Bo b:=List.flatMap_append
theorem Jh{ns:List Nat}:∀ x∈Bo ns,x<256:=fun x hx=>by
 obtain⟨n,_,h⟩:=List.mem_flatMap.1 hx
 exact XU n x h
theorem IM:∀ {ns:List Nat},(∀ v∈ns,v<18446744073709551616)→(Bo ns).length≤10 * ns.length
 |[],_=>Nat.le_refl _
 |n::ns,h=>by
  have h1:=Jg (h n List.mem_cons_self)
  have h2:=IM fun v hv=>h v (List.mem_cons_of_mem _ hv)
  rw[CS,List.length_append,List.length_cons]
  omega
def Nl(l:List Nat):List Nat:=l++List.replicate (60 - l.length) 0
theorem Lo{l:List Nat}(h:l.length≤60):(Nl l).length=60:=by unfold Nl;rw[List.length_append,List.length_replicate];omega
theorem Nm{l:List Nat}(h:∀ x∈l,x<256):∀ x∈Nl l,x<256:=fun x hx=>by
 rcases List.mem_append.1 hx with h1|h1
 ·exact h x h1
 ·rw[List.eq_of_mem_replicate h1];decide
def F5(ns:List Nat):List Nat:=Nl (Bo ns)
def rdN:Nat→List Nat→Nat→Option (List Nat×Nat)
 |0,_,p=>some ([],p)
 |k+1,l,p=>match FO 0 0 (l.drop p)with
  |none=>none
  |some (v,j)=>if v≤1099511627776 then(match rdN k l (p+j)with
   |none=>none
   |some (vs,q)=>some (v::vs,q))else none
theorem KQ:∀ (ns:List Nat) (a r:List Nat),(∀ v∈ns,v≤1099511627776)→rdN ns.length (a++(Bo ns++r)) a.length=some (ns,a.length+(Bo ns).length)
 |[],a,r,_=>rfl
 |v::ns,a,r,h=>by
  have hv:=h v List.mem_cons_self
  rw[List.length_cons,rdN,List.drop_left,CS,List.append_assoc,iJ (by omega)]
  simp only
  have:=KQ ns (a++B4 v) r fun x hx=>h x (List.mem_cons_of_mem _ hx)
  rw[List.append_assoc,List.length_append]at this
  rw[if_pos hv,this]
  simp only[List.length_append,Nat.add_assoc]
theorem KP:∀ (k:Nat) (l:List Nat) (p:Nat) (ns:List Nat) (q:Nat),(∀ x∈l,x<256)→p≤l.length→rdN k l p=some (ns,q)→ns.length=k∧l.drop p=Bo ns++l.drop q∧q=p+(Bo ns).length∧q≤l.length∧∀ v∈ns,v≤1099511627776
 |0,l,p,ns,q,hb,hp,h=>by
  cases h
  exact⟨rfl,rfl,rfl,hp,fun v hv=>by cases hv⟩
 |k+1,l,p,ns,q,hb,hp,h=>by
  rw[rdN]at h
  cases hu:FO 0 0 (l.drop p)with
  |none=>rw[hu]at h;cases h
  |some vj=>
   obtain⟨v,j⟩:=vj
   rw[hu]at h
   simp only at h
   by_cases hv:v≤1099511627776
   ·rw[if_pos hv]at h
    have hbd:∀ x∈l.drop p,x<256:=fun x hx=>hb x (List.mem_of_mem_drop hx)
    have hj:=bL hbd hu
    rw[List.length_drop]at hj
    obtain⟨g1,g2,g3⟩:=XS hbd hu
    cases hr:rdN k l (p+j)with
    |none=>rw[hr]at h;cases h
    |some y=>
     obtain⟨vs,q'⟩:=y
     rw[hr]at h
     cases h
     obtain⟨i1,i2,i3,i4,i5⟩:=KP k l (p+j) vs q hb (by omega) hr
     refine⟨by rw[List.length_cons,i1],?_,?_,i4,fun x hx=>?_⟩
     ·rw[g1,List.drop_drop,i2,CS,List.append_assoc]
     ·rw[i3,CS,List.length_append];omega
     ·rcases List.mem_cons.1 hx with rfl|hx
      ·exact hv
      ·exact i5 x hx
   ·rw[if_neg hv]at h;cases h
def CA(a b c:Int)(s n:Nat):Bool:=decide (0≤a∧a≤1099511627776∧0≤b∧b<255∧1≤c∧c≤1099511627776∧(s=1∨s=2)∧n≤65536)
def at6(ns:List Nat)(i:Nat):Nat:=ns.getD i 0
def Dh(T l:List Nat):Option (List Nat):=if l.length<4 then none else if C3 T (l.take (l.length - 4))=l then some (l.take (l.length - 4))else none
def Ni(ns:List Nat):Prop:=CA (at6 ns 1) (at6 ns 2) (at6 ns 3) (min (at6 ns 0) 9) 0=true∧at6 ns 4≤65536∧at6 ns 5≤4294967295
def Zv(ns:List Nat):Prop:=at6 ns 0≤2∧at6 ns 4≤65536∧at6 ns 5≤4294967295∧CA (at6 ns 1) (at6 ns 2) (at6 ns 3) (at6 ns 0) 0=true
theorem Zw{ns:List Nat}:Ni ns↔Zv ns:=by
 unfold Ni Zv CA
 simp only[decide_eq_true_eq]
 generalize at6 ns 0=s
 constructor
 ·rintro⟨⟨h1,h2,h3,h4,h5,h6,h7,h8⟩,h9,h10⟩
  exact⟨by omega,h9,h10,h1,h2,h3,h4,h5,h6,by omega,h8⟩
 ·rintro⟨h0,h9,h10,h1,h2,h3,h4,h5,h6,h7,h8⟩
  exact⟨⟨h1,h2,h3,h4,h5,h6,by omega,h8⟩,h9,h10⟩
def H3(T l ns:List Nat):Prop:=∃ body q,Dh T l=some body∧body.length=60∧rdN 6 body 0=some (ns,q)∧Ni ns∧∀ x∈body.drop q,x=0
def nF(T l ns:List Nat):Prop:=∃ q,rdN 6 l 0=some (ns,q)∧Zv ns∧C3 T (F5 ns)=l
theorem I6{T l body:List Nat}(h:Dh T l=some body):C3 T body=l∧body=l.take (l.length - 4):=by
 unfold Dh at h
 split at h
 ·cases h
 ·split at h
  ·rename_i h2
   cases h
   exact⟨h2,rfl⟩
  ·cases h
theorem Nz(T body:List Nat):Dh T (C3 T body)=some body:=by
 have h1:(C3 T body).take ((C3 T body).length - 4)=body:=by
  rw[Ez,Nat.add_sub_cancel]
  unfold C3
  exact List.take_left
 unfold Dh
 rw[h1,if_neg (by rw[Ez];omega),if_pos rfl]
theorem Xi{l:List Nat}(h:∀ x∈l,x=0):l=List.replicate l.length 0:=List.eq_replicate_iff.2 ⟨rfl,h⟩
theorem Pa{T l ns:List Nat}(hb:∀ x∈l,x<256):H3 T l ns↔nF T l ns:=by
 constructor
 ·rintro⟨body,q,h1,h2,h3,h4,h5⟩
  obtain⟨k1,k2⟩:=I6 h1
  have hbb:∀ x∈body,x<256:=fun x hx=>hb x (by rw[k2]at hx;exact List.mem_of_mem_take hx)
  obtain⟨g1,g2,g3,g4,g5⟩:=KP 6 body 0 ns q hbb (Nat.zero_le _) h3
  rw[List.drop_zero]at g2
  have hz:=Xi h5
  have hh:F5 ns=body:=by
   unfold F5 Nl
   rw[show 60 - (Bo ns).length=(body.drop q).length by rw[List.length_drop];omega,← hz,← g2]
  refine⟨(Bo ns).length,?_,Zw.1 h4,by rw[hh];exact k1⟩
  have:=KQ ns [] (body.drop q++ET (BX T body)) g5
  rw[g1]at this
  rw[← k1]
  unfold C3
  rw[List.nil_append,← List.append_assoc,← g2]at this
  simpa using this
 ·rintro⟨q,h1,h2,h3⟩
  obtain⟨g1,g2,g3,g4,g5⟩:=KP 6 l 0 ns q hb (Nat.zero_le _) h1
  have hlen:(Bo ns).length≤60:=by
   have:=IM (ns:=ns) fun v hv=>by have:=g5 v hv;omega
   omega
  refine⟨F5 ns,(Bo ns).length,by rw[← h3];exact Nz T _,Lo hlen,?_,Zw.2 h2,fun x hx=>?_⟩
  ·have:=KQ ns [] (List.replicate (60 - (Bo ns).length) 0) g5
   rw[g1]at this
   unfold F5 Nl
   simpa using this
  ·unfold F5 Nl at hx
   rw[List.drop_left]at hx
   exact List.eq_of_mem_replicate hx
theorem Wq{T l ns ms:List Nat}(h:H3 T l ns)(h':H3 T l ms):ns=ms:=by
 obtain⟨body,q,h1,_,h3,_⟩:=h
 obtain⟨body',q',k1,_,k3,_⟩:=h'
 rw[h1]at k1;cases k1
 rw[h3]at k3;cases k3
 rfl
end
noncomputable section
open Go
set_option maxRecDepth 100000
abbrev pt(b:Nat):Value:=.pointer (some ⟨b,0,none⟩)
def wv(n:Nat):Value:=.int .u32 (n:Int)
theorem Az{a:Addr}{h:Hp}:TY (.pointer (some a)) h=.ok (.pointer (some a)) h:=rfl
theorem A4{F:CallF}{e:Env}{h:Hp}{x:O}:BJ x F e h=TY (x e) h:=rfl
theorem bI:QE.k=.ptr 27:=by kernel_rfl
theorem gp{F:CallF}{e:Env}{h:Hp}{a:Addr}{g:O}(hg:g e=.pointer (some a)):oEq QE.k false g (kV (.pointer none)) F e h=.ok (.bool false) h:=by
 show(match eqV QE.k (g e) (.pointer none)with|some r=>okB (false != r) h|none=>.no)=_
 rw[bI,hg]
 exact Ft
theorem iD{h:Hp}{tb:Nat}{T:List Nat}(R:h.Row tb 0 (T.map wv))(hT:TblOk T){k:IntKind}{x:Nat}(hx:x<256):J5 256 1 (pt tb) (.int k (x:Int)) h=.ok (.pointer (some ⟨tb,x,none⟩)) h∧Gl (.pointer (some ⟨tb,x,none⟩)) h=.ok (wv (T.getD x 0)) h:=by
 refine⟨?_,?_⟩
 ·have:=KG (h:=h) (n:=256) (es:=1) (b:=tb) (off:=0) (i:=x) (k:=k) hx
  rwa [Nat.zero_add,Nat.mul_one]at this
 ·have hx':x<T.length:=by rw[hT.1];exact hx
  rw[Ac,R.load1 (off:=x) (by rw[List.length_map];exact hx'),List.getD_eq_getElem?_getD,List.getElem?_map,List.getD_eq_getElem?_getD,List.getElem?_eq_getElem hx'];rfl
theorem IP{h:Hp}{u:Value}{l:List Nat}(V:h.Vals u (l.map bv)){i:Nat}(hi:i<l.length):∃ a,Fa 1 u (.int .i64 (i:Int)) h=.ok (.pointer (some a)) h∧Gl (.pointer (some a)) h=.ok (.int .u8 ((l.getD i 0:Nat):Int)) h:=by
 obtain⟨a,g1,g2⟩:=V.at (i:=i) (by rw[List.length_map];exact hi)
 refine⟨a,g1,?_⟩
 rw[g2,List.getD_eq_getElem?_getD,List.getElem?_map,List.getD_eq_getElem?_getD,List.getElem?_eq_getElem hi];rfl
theorem Ep{l:List Nat}(hb:∀ x∈l,x<256)(i:Nat):l.getD i 0<256:=by
 rw[List.getD_eq_getElem?_getD]
 cases h:l[i]? with
 |none=>decide
 |some x=>exact hb x (List.mem_of_getElem? h)
theorem F0{l:List Nat}{i:Nat}(hi:i<l.length):l.drop i=l.getD i 0::l.drop (i+1):=by
 rw[List.drop_eq_getElem_cons hi,List.getD_eq_getElem?_getD,List.getElem?_eq_getElem hi];rfl
theorem Hp.Vals.bl{h:Hp}{u:Value}{l:List Nat}(V:h.Vals u (l.map bv))(g:Hp):Fc u g=.ok (.int .i64 (l.length:Int)) g:=by
 obtain⟨a,c,hu⟩:=V.shape
 rw[hu,List.length_map];rfl
theorem m8{a b:Nat}(ha:a<256)(hb:b<256){h:Hp}:Uk Nat.xor .u8 (.int .u8 (a:Int)) (.int .u8 (b:Int)) h=.ok (.int .u8 ((Nat.xor a b:Nat):Int)) h:=RQ (by show a≤255;omega) (by show b≤255;omega)
theorem mz{a b:Nat}(ha:a<4294967296)(hb:b<4294967296){h:Hp}:Uk Nat.xor .u32 (.int .u32 (a:Int)) (.int .u32 (b:Int)) h=.ok (.int .u32 ((Nat.xor a b:Nat):Int)) h:=RQ (by show a≤4294967295;omega) (by show b≤4294967295;omega)
theorem QI{n:Nat}(h:n≤4294967295):IntKind.u32.wrap (n:Int)=n:=C9 .u32 n h
theorem C1{i:Nat}(hi:i≤1000000000){h:Hp}:Gn .i64 (.int .i64 (i:Int)) (.int .i64 1) h=.ok (.int .i64 ((i+1:Nat):Int)) h:=by
 have:(i:Int)+1=((i+1:Nat):Int):=by omega
 rw[EU,this,Br (by omega)]
theorem E8{a b:Nat}(h:a<b):iLt (a:Int) (b:Int)=true:=by rw[C0];simp;omega
theorem DU{a b:Nat}(h:b≤a):iLt (a:Int) (b:Int)=false:=by rw[C0];simp;omega
def suB:C:=(AF (AC 12) (Ad iLt .i64 (AB 11) (AB 10))
(AW (AB 12)
(A5 (Ah 1 (AF (AC 6) (AD (AB 11))
(Bm (AF (AC 16) (CD .u8 (AB 5))
(AF (AC 19) (Bp 1 (AB 1) (AB 6))
(AF (AC 20) (AL (AB 19))
(AF (AC 21) (Hv Nat.xor .u8 (AB 16) (AB 20))
(AF (AC 22) (BJ (AB 0))
(AF (AC 23) (Bk 256 1 (AB 22) (AB 21))
(AF (AC 24) (AL (AB 23))
(AF (AC 26) (Ir .u32 (AB 5) (kV (.int .u64 8)))
(AF (AC 27) (Hv Nat.xor .u32 (AB 24) (AB 26))
(AF (AC 5) (AD (AB 27))
Ai)))))))))))))
(AF (AC 28) (Bh .i64 (Ax .i64) (AB 11) (kV (.int .i64 1)))
(AF (AC 11) (AD (AB 28))
Ai)))
(Bc 0)))
def suE:C:=(AF (AC 30) (B9 Int.sub .u32 (kV (.int .u32 4294967295)) (AB 5))
(AF (AC 4) (AD (AB 30))
Aj))
theorem hO:suS=A5 (Ah 0 (A1 suB)) suE:=rfl
theorem fX:d71=YZ:=rfl
theorem aJ{F:CallF}{h:Hp}{tb:Nat}{T:List Nat}(R:h.Row tb 0 (T.map wv))(hT:TblOk T){u:Value}{l:List Nat}(V:h.Vals u (l.map bv))(hb:∀ x∈l,x<256)(hl:l.length≤900000){e:Env}(s0:AB 0 e=pt tb)(s1:AB 1 e=u)(s5:AB 5 e=.int .u32 ((4294967295:Nat):Int))(s10:AB 10 e=.int .i64 (l.length:Int))(s11:AB 11 e=.int .i64 ((0:Nat):Int)):
  ∃ e' h',A1 suB F e h=.exit 0 e' h'∧(h'=h∨h'=h.marked)∧AB 5 e'=.int .u32 ((FF T 4294967295 l:Nat):Int):=by
 refine Bz (I:=fun i e' h'=>(h'=h∨h'=h.marked)∧∃ s:Nat,AB 0 e'=pt tb∧AB 1 e'=u∧AB 5 e'=.int .u32 (s:Int)∧AB 10 e'=.int .i64 (l.length:Int)∧AB 11 e'=.int .i64 (i:Int)∧i≤l.length∧s<4294967296∧FF T 4294967295 l=FF T s (l.drop i))
  (Q:=fun x=>∃ e' h',x=.exit 0 e' h'∧(h'=h∨h'=h.marked)∧AB 5 e'=.int .u32 ((FF T 4294967295 l:Nat):Int)) l.length (by omega) (fun i e' h' ⟨hh,s,t0,t1,t5,t10,t11,hi,hs,hr⟩=>?_) ⟨.inl rfl,4294967295,s0,s1,s5,s10,s11,Nat.zero_le _,by decide,rfl⟩
 have hm:h'.marked=h.marked:=by rcases hh with rfl|rfl<;>rfl
 by_cases hlt:i<l.length
 ·left
  have V2:h.marked.Vals u (l.map bv):=V.same rfl
  have R2:h.marked.Row tb 0 (T.map wv):=R.same rfl
  obtain⟨a,g1,g2⟩:=IP V2 hlt
  have hc:=Ep hb i
  rw[F0 hlt]at hr
  generalize l.getD i 0=c at g2 hc hr
  have c1:=E8 hlt
  have v1:DZ .u8 (.int .u32 (s:Int)) h.marked=.ok (.int .u8 ((s % 256:Nat):Int)) h.marked:=by rw[Cy,Ht]
  have x1:=m8 (h:=h.marked) (show s % 256<256 by omega) hc
  have hx:=I9 (show s % 256<256 by omega) hc
  obtain⟨i1,l1⟩:=iD R2 hT (k:=.u8) hx
  have r1:W7 .u32 (.int .u32 (s:Int)) (.int .u64 8) h.marked=.ok (.int .u32 ((s / 256:Nat):Int)) h.marked:=Sm (j:=.u32) (q:=.u64) (m:=s) (n:=8)
  have x2:=mz (h:=h.marked) (hT.2 (Nat.xor (s % 256) c)) (show s / 256<4294967296 by omega)
  have l1:Gl (.pointer (some ⟨tb,Nat.xor (s % 256) c,none⟩)) h.marked=.ok (.int .u32 ((T.getD (Nat.xor (s % 256) c) 0:Nat):Int)) h.marked:=l1
  have hst:=Je hT hs c
  have a3:=C1 (i:=i) (h:=h.marked) (by omega)
  have hrun:∃ e2,suB F e' h'=.norm e2 h.marked∧AB 0 e2=pt tb∧AB 1 e2=u∧AB 5 e2=.int .u32 ((Nat.xor (T.getD (Nat.xor (s % 256) c) 0) (s / 256):Nat):Int)∧AB 10 e2=.int .i64 (l.length:Int)∧AB 11 e2=.int .i64 ((i+1:Nat):Int):=by
   unfold suB
   simp only[sT,Nat.reduceLT,Nat.reduceEqDiff,if_true,if_false,reduceIte,AS,AQ,t11,t10,c1,BD,hm,Cd,t5,v1,Bb,t1,g1,AV,g2,SX,x1,A4,t0,Az,CZ,i1,l1,Sa,r1,x2,BZ,a3]
   exact⟨_,rfl,by simp only[AE,Nat.reduceLT,Nat.reduceEqDiff,if_true,if_false,reduceIte];exact t0,by simp only[AE,Nat.reduceLT,Nat.reduceEqDiff,if_true,if_false,reduceIte];exact t1,by simp[AE],by simp only[AE,Nat.reduceLT,Nat.reduceEqDiff,if_true,if_false,reduceIte];exact t10,by simp[AE]⟩
  obtain⟨e2,q1,q2,q3,q4,q5,q6⟩:=hrun
  exact⟨hlt,e2,h.marked,q1,.inr rfl,_,q2,q3,q4,q5,q6,hlt,hst,hr⟩
 ·right
  have c1:=DU (show l.length≤i by omega)
  have hrun:∃ e2,suB F e' h'=.exit 0 e2 h'∧AB 5 e2=.int .u32 (s:Int):=by
   unfold suB
   simp only[sT,Nat.reduceLT,Nat.reduceEqDiff,if_true,if_false,reduceIte,AS,AQ,t11,t10,c1]
   exact⟨_,rfl,by simp only[AE,Nat.reduceLT,Nat.reduceEqDiff,if_true,if_false,reduceIte];exact t5⟩
  obtain⟨e2,q1,q2⟩:=hrun
  rw[q1]
  refine⟨rfl,e2,h',rfl,hh,?_⟩
  rw[q2,hr,List.drop_of_length_le (by omega)];rfl
theorem RH{n:Nat}{h:Hp}{tb:Nat}{T:List Nat}(R:h.Row tb 0 (T.map wv))(hT:TblOk T){u:Value}{l:List Nat}(V:h.Vals u (l.map bv))(hb:∀ x∈l,x<256)(hl:l.length≤900000):
  ∃ h',call AG (n+1) 71 [pt tb,u] h=.ok (.int .u32 ((BX T l:Nat):Int)) h'∧(h'=h∨h'=h.marked):=by
 have ne:∀ e:Env,AB 0 e=pt tb→oEq QE.k false (AB 0) (kV (.pointer none)) (call AG n) e h=.ok (.bool false) h:=fun e he=>gp he
 have Vl:=V.bl h
 have pre:∃ e1,YZ (call AG n) (AZ e0 0 [pt tb,u]) h=suS (call AG n) e1 h∧AB 0 e1=pt tb∧AB 1 e1=u∧AB 5 e1=.int .u32 ((4294967295:Nat):Int)∧AB 10 e1=.int .i64 (l.length:Int)∧AB 11 e1=.int .i64 ((0:Nat):Int):=by
  unfold YZ
  simp only[AJ,AK,Nat.succ_eq_add_one,Nat.zero_add,Nat.reduceAdd,sT,Nat.reduceLT,Nat.reduceEqDiff,if_true,if_false,reduceIte,ne,Ay,Vl]
  exact⟨_,rfl,by simp[AE],by simp[AE],by simp only[AE,Nat.reduceLT,Nat.reduceEqDiff,if_true,if_false,reduceIte];rfl,by simp[AE],by simp only[AE,Nat.reduceLT,Nat.reduceEqDiff,if_true,if_false,reduceIte];rfl⟩
 obtain⟨e1,p1,p2,p3,p4,p5,p6⟩:=pre
 obtain⟨e2,h',q1,q2,q3⟩:=aJ (F:=call AG n) R hT V hb hl p2 p3 p4 p5 p6
 have a1:Hu Int.sub .u32 (.int .u32 4294967295) (.int .u32 ((FF T 4294967295 l:Nat):Int)) h'=.ok (.int .u32 ((BX T l:Nat):Int)) h':=by
  have hs:=I2 hT l 4294967295 (by decide)
  have:Int.sub 4294967295 ((FF T 4294967295 l:Nat):Int)=((BX T l:Nat):Int):=by
   show(4294967295:Int) - _=_
   unfold BX;omega
  rw[DI,this,QI (by unfold BX;omega)]
 refine⟨h',?_,q2⟩
 rw[eP rfl,fX,p1,hO]
 simp only[BU,A3,q1,A9,BH]
 unfold suE
 simp only[sT,Nat.reduceLT,Nat.reduceEqDiff,if_true,if_false,reduceIte,DK,q3,a1,AP,Aa]
end
noncomputable section
open Go
set_option maxRecDepth 100000
def Mk(h:Hp)(k:Nat)(v:Value)(l:List Nat):Prop:=∃ b el,v=.slice (some ⟨b,0,none⟩) l.length l.length∧(el=0∨el=6)∧h.Row b el (l.map bv)∧k≤b
theorem Mk.vals{h:Hp}{k:Nat}{v:Value}{l:List Nat}(m:Mk h k v l):h.Vals v (l.map bv):=by
 obtain⟨b,el,h1,h2,h3,h4⟩:=m
 exact .inr ⟨b,0,l.length,el,_,by rw[List.length_map];exact h1,h3,by simp,by rw[List.drop_zero,List.take_length]⟩
theorem Mk.ext{h h':Hp}{k:Nat}{v:Value}{l:List Nat}(m:Mk h k v l)(W:h.Wf)(x:h.Ext h'):Mk h' k v l:=by
 obtain⟨b,el,h1,h2,h3,h4⟩:=m
 exact⟨b,el,h1,h2,h3.ext W x,h4⟩
theorem Mk.same{h h':Hp}{k:Nat}{v:Value}{l:List Nat}(m:Mk h k v l)(hb:h'.bl=h.bl):Mk h' k v l:=by
 obtain⟨b,el,h1,h2,h3,h4⟩:=m
 exact⟨b,el,h1,h2,h3.same hb,h4⟩
theorem Mk.le{h:Hp}{k k':Nat}{v:Value}{l:List Nat}(m:Mk h k v l)(hk:k'≤k):Mk h k' v l:=by
 obtain⟨b,el,h1,h2,h3,h4⟩:=m
 exact⟨b,el,h1,h2,h3,by omega⟩
theorem Hp.Own.mk{h:Hp}{k:Nat}{v:Value}{l:List Nat}(o:h.Own k 5 v (l.map bv))(hl:0<l.length):Mk h k v l:=by
 rcases o with ⟨_,h2⟩|⟨b,h1,h2,h3,h4⟩
 ·have:=congrArg List.length h2
  rw[List.length_map,List.length_nil]at this;omega
 ·rw[List.length_map]at h1
  exact⟨b,6,h1,.inr rfl,h2,h3⟩
theorem KU:∀ n:Nat,BG ty5.zero n=(List.replicate n 0).map bv:=fun n=>by
 have hz:ty5.zero=[bv 0]:=by kernel_rfl
 rw[hz]
 induction n with
 |zero=>rfl
 |succ n ih=>show [bv 0]++BG [bv 0] n=_;rw[ih];rfl
theorem PW{A B:List Value}{x y:Value}:over (A++x::B) A.length [y]=A++y::B:=by
 unfold over
 have e:A++x::B=(A++[x])++B:=by simp
 rw[List.take_left,e,show A.length+[y].length=(A++[x]).length by simp,List.drop_left]
 simp
theorem Ln{A B V:List Value}(h:A.length=V.length):over (A++B) 0 V=V++B:=by
 unfold over
 rw[Nat.zero_add,← h,List.drop_left];simp
theorem UL{s i:Nat}(hi:i<4):(ET s).drop (3 - i)=(s / 2 ^ min (8 * i) 32) % 256::(ET s).drop (4 - i):=by
 have:i=0∨i=1∨i=2∨i=3:=by omega
 rcases this with rfl|rfl|rfl|rfl
 ·show [s % 256]=s / 1 % 256::[]
  rw[Nat.div_one]
 ·rfl
 ·rfl
 ·rfl
theorem Uf{a b:List Nat}(ha:∀ x∈a,x<256)(hb:∀ x∈b,x<256):bEq (a.map UInt8.ofNat) (b.map UInt8.ofNat)=decide (a=b):=by
 rw[Kj,Bool.eq_iff_iff,beq_iff_eq,decide_eq_true_eq]
 refine⟨fun h=>?_,fun h=>by rw[h]⟩
 have h1:=congrArg (List.map UInt8.toNat) h
 rw[List.map_map,List.map_map]at h1
 have e:∀ l:List Nat,(∀ x∈l,x<256)→l.map (UInt8.toNat∘UInt8.ofNat)=l:=fun l hl=>by
  have:l.map (UInt8.toNat∘UInt8.ofNat)=l.map id:=List.map_congr_left fun x hx=>by
   show(UInt8.ofNat x).toNat=x
   rw[UInt8.toNat_ofNat',Nat.mod_eq_of_lt (hl x hx)]
  rw[this,List.map_id]
 rwa [e a ha,e b hb]at h1
def slB:C:=(AF (AC 16) (Ad iLt .i64 (AB 15) (kV (.int .i64 4)))
(AW (AB 16)
(A5 (Ah 1 (AF (AC 7) (AD (AB 15))
(AF (AC 20) (BR (AB 1))
(AF (AC 21) (Bh .i64 (Ax .i64) (AB 20) (kV (.int .i64 4)))
(AF (AC 22) (B9 Int.sub .i64 (AB 21) (kV (.int .i64 1)))
(AF (AC 24) (B9 Int.sub .i64 (AB 22) (AB 7))
(AF (AC 27) (B9 Int.mul .i64 (kV (.int .i64 8)) (AB 7))
(AF (AC 28) (Ir .u32 (AB 6) (AB 27))
(AF (AC 29) (CD .u8 (AB 28))
(AF (AC 30) (Bp 1 (AB 5) (AB 24))
(cDo (Ae 1 (AB 30) (AB 29))
Ai)))))))))))
(AF (AC 31) (Bh .i64 (Ax .i64) (AB 15) (kV (.int .i64 1)))
(AF (AC 15) (AD (AB 31))
Ai)))
(Bc 0)))
def slE:C:=(AF (AC 34) (HE 1 (AB 5) (AB 1))
(AF (AC 4) (AD (AB 5))
Aj))
theorem gy:slS=A5 (Ah 0 (A1 slB)) slE:=rfl
theorem fZ:d73=Ya:=rfl
theorem aH{F:CallF}{h h0:Hp}(W0:h0.Wf)(x:h0.Ext h){r s N:Nat}(hr:h0.next≤r){u:Value}{l:List Nat}(V:h0.Vals u (l.map bv))(hN:N=l.length+4)(hl:l.length≤900000)(hs:s<4294967296)(R:h.Row r 0 ((List.replicate N 0).map bv)){e:Env}
  (s1:AB 1 e=u)(s5:AB 5 e=.slice (some ⟨r,0,none⟩) N N)(s6:AB 6 e=.int .u32 (s:Int))(s15:AB 15 e=.int .i64 ((0:Nat):Int)):
  ∃ e' h',A1 slB F e h=.exit 0 e' h'∧h0.Ext h'∧h'.Row r 0 ((List.replicate l.length 0++ET s).map bv)∧AB 1 e'=u∧AB 5 e'=.slice (some ⟨r,0,none⟩) N N:=by
 refine Bz (I:=fun i e' h'=>h0.Ext h'∧h'.Row r 0 ((List.replicate (N - i) 0++(ET s).drop (4 - i)).map bv)∧AB 1 e'=u∧AB 5 e'=.slice (some ⟨r,0,none⟩) N N∧AB 6 e'=.int .u32 (s:Int)∧AB 15 e'=.int .i64 (i:Int)∧i≤4)
  (Q:=fun x=>∃ e' h',x=.exit 0 e' h'∧h0.Ext h'∧h'.Row r 0 ((List.replicate l.length 0++ET s).map bv)∧AB 1 e'=u∧AB 5 e'=.slice (some ⟨r,0,none⟩) N N) 4 (by omega) (fun i e' h' ⟨x',R',t1,t5,t6,t15,hi⟩=>?_)
  ⟨x,by rw[Nat.sub_zero,List.drop_of_length_le (show(ET s).length≤4 - 0 from Nat.le_refl _),List.append_nil];exact R,s1,s5,s6,s15,by omega⟩
 by_cases hlt:i<4
 ·left
  have W:=x'.wf
  have Vl:=V.bl h'
  have c1:iLt (i:Int) 4=true:=E8 hlt
  have a1:Gn .i64 (.int .i64 (l.length:Int)) (.int .i64 4) h'=.ok (.int .i64 (N:Int)) h':=by
   rw[EU,show(l.length:Int)+4=(N:Int)by omega,Br (by omega)]
  have a2:Hu Int.sub .i64 (.int .i64 (N:Int)) (.int .i64 1) h'=.ok (.int .i64 ((N - 1:Nat):Int)) h':=by
   have:Int.sub (N:Int) 1=((N - 1:Nat):Int):=by show(N:Int) - 1=_;omega
   rw[DI,this,Br (by omega)]
  have a3:Hu Int.sub .i64 (.int .i64 ((N - 1:Nat):Int)) (.int .i64 (i:Int)) h'=.ok (.int .i64 ((N - (i+1):Nat):Int)) h':=by
   have:Int.sub ((N - 1:Nat):Int) (i:Int)=((N - (i+1):Nat):Int):=by show((N - 1:Nat):Int) - (i:Int)=_;omega
   rw[DI,this,Br (by omega)]
  have a4:Hu Int.mul .i64 (.int .i64 8) (.int .i64 (i:Int)) h'=.ok (.int .i64 ((8 * i:Nat):Int)) h':=by
   have:Int.mul 8 (i:Int)=((8 * i:Nat):Int):=by show(8:Int) * (i:Int)=_;omega
   rw[DI,this,Br (by omega)]
  have r1:W7 .u32 (.int .u32 (s:Int)) (.int .i64 ((8 * i:Nat):Int)) h'=.ok (.int .u32 ((s / 2 ^ min (8 * i) 32:Nat):Int)) h':=Sm (j:=.u32) (q:=.i64) (m:=s) (n:=8 * i)
  have v1:DZ .u8 (.int .u32 ((s / 2 ^ min (8 * i) 32:Nat):Int)) h'=.ok (.int .u8 ((s / 2 ^ min (8 * i) 32 % 256:Nat):Int)) h':=by rw[Cy,Ht]
  have i1:Fa 1 (.slice (some ⟨r,0,none⟩) N N) (.int .i64 ((N - (i+1):Nat):Int)) h'=.ok (.pointer (some ⟨r,N - (i+1),none⟩)) h':=by
   have:=D0 (h:=h') (n:=N) (c:=N) (es:=1) (b:=r) (off:=0) (i:=N - (i+1)) (k:=.i64) (by omega)
   rwa [Nat.zero_add,Nat.mul_one]at this
  have hsuf:=UL (s:=s) hlt
  generalize s / 2 ^ min (8 * i) 32 % 256=c at v1 hsuf
  have hlist:(List.replicate (N - i) 0++(ET s).drop (4 - i)).map bv=(List.replicate (N - (i+1)) 0).map bv++bv 0::((ET s).drop (4 - i)).map bv:=by
   rw[show N - i=(N - (i+1))+1 by omega,List.replicate_succ',List.map_append,List.map_append,List.append_assoc];rfl
  rw[hlist]at R'
  have hAl:((List.replicate (N - (i+1)) 0).map bv).length=N - (i+1):=by simp
  have ho:N - (i+1)+[Value.int .u8 (c:Int)].length≤((List.replicate (N - (i+1)) 0).map bv++bv 0::((ET s).drop (4 - i)).map bv).length:=by
   simp only[List.length_append,List.length_cons,List.length_nil,hAl];omega
  have h256:256≤r:=by have:=W0.big;omega
  have st:=R'.storeR (n:=1) (off:=N - (i+1)) W h256 (v:=.int .u8 (c:Int)) rfl ho rfl
  have wr:=R'.wr_self W (off:=N - (i+1)) (vs:=[.int .u8 (c:Int)]) ho
  have xw:=R'.wr_ext x' hr (off:=N - (i+1)) (vs:=[.int .u8 (c:Int)]) ho
  have a5:=C1 (i:=i) (h:=h'.wr r (N - (i+1)) [.int .u8 (c:Int)]) (by omega)
  have hov:over ((List.replicate (N - (i+1)) 0).map bv++bv 0::((ET s).drop (4 - i)).map bv) (N - (i+1)) [.int .u8 (c:Int)]=(List.replicate (N - (i+1)) 0++(ET s).drop (4 - (i+1))).map bv:=by
   have:=PW (A:=(List.replicate (N - (i+1)) 0).map bv) (B:=((ET s).drop (4 - i)).map bv) (x:=bv 0) (y:=bv c)
   rw[hAl]at this
   rw[show 4 - (i+1)=3 - i by omega,hsuf,List.map_append,List.map_cons]
   exact this
  rw[hov]at wr
  rw[EG]at st
  have hrun:∃ e2,slB F e' h'=.norm e2 (h'.wr r (N - (i+1)) [.int .u8 (c:Int)])∧AB 1 e2=u∧AB 5 e2=.slice (some ⟨r,0,none⟩) N N∧AB 6 e2=.int .u32 (s:Int)∧AB 15 e2=.int .i64 ((i+1:Nat):Int):=by
   unfold slB
   simp only[sT,Nat.reduceLT,Nat.reduceEqDiff,if_true,if_false,reduceIte,AS,AQ,t15,c1,Ay,t1,Vl,BZ,a1,DK,a2,a3,a4,Sa,t6,r1,Cd,v1,Bb,t5,i1,Av,st,a5]
   exact⟨_,rfl,by simp only[AE,Nat.reduceLT,Nat.reduceEqDiff,if_true,if_false,reduceIte];exact t1,by simp only[AE,Nat.reduceLT,Nat.reduceEqDiff,if_true,if_false,reduceIte];exact t5,by simp only[AE,Nat.reduceLT,Nat.reduceEqDiff,if_true,if_false,reduceIte];exact t6,by simp[AE]⟩
  obtain⟨e2,q1,q2,q3,q4,q5⟩:=hrun
  exact⟨hlt,e2,_,q1,xw,wr,q2,q3,q4,q5,hlt⟩
 ·right
  have hi4:i=4:=by omega
  subst hi4
  have c1:=DU (show 4≤4 by omega)
  have hrun:∃ e2,slB F e' h'=.exit 0 e2 h'∧AB 1 e2=u∧AB 5 e2=.slice (some ⟨r,0,none⟩) N N:=by
   unfold slB
   have c1:iLt ((4:Nat):Int) 4=false:=c1
   simp only[sT,Nat.reduceLT,Nat.reduceEqDiff,if_true,if_false,reduceIte,AS,AQ,t15,c1]
   exact⟨_,rfl,by simp only[AE,Nat.reduceLT,Nat.reduceEqDiff,if_true,if_false,reduceIte];exact t1,by simp only[AE,Nat.reduceLT,Nat.reduceEqDiff,if_true,if_false,reduceIte];exact t5⟩
  obtain⟨e2,q1,q2,q3⟩:=hrun
  rw[q1]
  refine⟨rfl,e2,h',rfl,x',?_,q2,q3⟩
  have e1:N - 4=l.length:=by omega
  have e2:4 - 4=0:=rfl
  rw[e1,e2,List.drop_zero]at R'
  exact R'
theorem Nh{F:CallF}{e:Env}{h:Hp}(W:h.Wf){x y:O}{N:Nat}(hx:x e=.int .i64 (N:Int))(hy:y e=.int .i64 (N:Int))(hN:N≤1000000):GB 1 ty5.zero x y F e h=.ok (.slice (some ⟨h.next,0,none⟩) N N) (h.pushRow 0 ((List.replicate N 0).map bv)):=by
 unfold GB
 rw[hx,hy,DG]
 unfold O7
 have e1:Nat.ble N N=true:=Aq.2 (Nat.le_refl N)
 have e2:Nat.ble (Nat.mul (Nat.succ N) (Nat.succ 1)) most=true:=Aq.2 (by
  show(N+1) * 2≤1099511627776
  omega)
 simp only[e1,e2,cond_true]
 rw[DH W,KU];rfl
theorem YH{F:CallF}{e:Env}{h:Hp}(W:h.Wf){x y:O}{r N:Nat}{u:Value}{l A B:List Nat}(hx:x e=.slice (some ⟨r,0,none⟩) N N)(hy:y e=u)(V:h.Vals u (l.map bv))(h256:256≤r)(hA:A.length=l.length)(hN:N=(A++B).length)(R:h.Row r 0 ((A++B).map bv)):
  HE 1 x y F e h=.ok (.int .i64 (l.length:Int)) (h.wr r 0 (l.map bv))∧(h.wr r 0 (l.map bv)).Row r 0 ((l++B).map bv):=by
 have ho:0+(l.map bv).length≤((A++B).map bv).length:=by simp;omega
 have h1:Bg (l.map bv)=true:=DE l
 refine⟨?_,?_⟩
 ·unfold HE OK
  rw[hx,hy]
  simp only[V.lenV,Ao,BK,List.length_map]
  rw[Nat.min_eq_left (show l.length≤N by rw[hN,List.length_append];omega)]
  rw[V.src (n:=l.length) (by rw[List.length_map])]
  rw[R.store W h256 ho h1];rfl
 ·have:=R.wr_self W ho
  rw[List.map_append,Ln (by simp[hA])]at this
  rw[List.map_append];exact this
theorem Sk{n:Nat}{h:Hp}(W:h.Wf){tb:Nat}{T:List Nat}(R:h.Row tb 0 (T.map wv))(hT:TblOk T){u:Value}{l:List Nat}(V:h.Vals u (l.map bv))(hb:∀ x∈l,x<256)(hl:l.length≤900000):
  ∃ h' v,call AG (n+2) 73 [pt tb,u] h=.ok v h'∧h.Ext h'∧Mk h' h.next v (C3 T l):=by
 have x1:=(Hp.Ext.refl W).pushRow 0 ((List.replicate (l.length+4) 0).map bv)
 have R1:=Hp.Row.new W 0 ((List.replicate (l.length+4) 0).map bv)
 have mk:=fun (e:Env) (hx:AB 10 e=.int .i64 ((l.length+4:Nat):Int))=>Nh (F:=call AG (n+1)) (e:=e) W (x:=AB 10) (y:=AB 10) hx hx (by omega)
 generalize h.pushRow 0 ((List.replicate (l.length+4) 0).map bv)=h1 at x1 R1 mk
 obtain⟨h2,k1,k2⟩:=RH (n:=n) (R.ext W x1) hT (V.ext W x1) hb hl
 have hbl:h2.bl=h1.bl:=by rcases k2 with rfl|rfl<;>rfl
 have x2:h.Ext h2:=by
  rcases k2 with rfl|rfl
  ·exact x1
  ·exact x1.marked
 have Vl:=V.bl h
 have a1:Gn .i64 (.int .i64 (l.length:Int)) (.int .i64 4) h=.ok (.int .i64 ((l.length+4:Nat):Int)) h:=by
  rw[EU,show(l.length:Int)+4=((l.length+4:Nat):Int)by omega,Br (by omega)]
 have pre:∃ e1,Ya (call AG (n+1)) (AZ e0 0 [pt tb,u]) h=slS (call AG (n+1)) e1 h2∧AB 1 e1=u∧AB 5 e1=.slice (some ⟨h.next,0,none⟩) (l.length+4) (l.length+4)∧AB 6 e1=.int .u32 ((BX T l:Nat):Int)∧AB 15 e1=.int .i64 ((0:Nat):Int):=by
  unfold Ya
  simp only[AJ,AK,Nat.succ_eq_add_one,Nat.zero_add,Nat.reduceAdd,sT,Nat.reduceLT,Nat.reduceEqDiff,if_true,if_false,reduceIte,Ay,Vl,BZ,a1,mk,Ab,AN,AX,k1]
  exact⟨_,rfl,by simp[AE],by simp[AE],by simp[AE],by simp only[AE,Nat.reduceLT,Nat.reduceEqDiff,if_true,if_false,reduceIte];rfl⟩
 obtain⟨e1,p1,p2,p3,p4,p5⟩:=pre
 obtain⟨e2,h3,q1,x3,R3,q2,q3⟩:=aH (F:=call AG (n+1)) W x2 (Nat.le_refl _) V rfl hl (Fl T l) (R1.same hbl) p2 p3 p4 p5
 have h256:=W.big
 obtain⟨c1,c2⟩:=YH (F:=call AG (n+1)) (e:=e2) x3.wf (x:=AB 5) (y:=AB 1) q3 q2 (V.ext W x3) h256 (A:=List.replicate l.length 0) (B:=ET (BX T l)) (by simp) (by rw[List.length_append,List.length_replicate];rfl) R3
 have x4:=R3.wr_ext x3 (Nat.le_refl _) (off:=0) (vs:=l.map bv) (by rw[List.length_map,List.length_map,List.length_append,List.length_replicate];omega)
 refine⟨_,.slice (some ⟨h.next,0,none⟩) (l.length+4) (l.length+4),?_,x4,⟨h.next,0,by rw[Ez],.inl rfl,c2,Nat.le_refl _⟩⟩
 rw[eR rfl,fZ,p1,gy]
 simp only[BU,A3,q1,A9,BH]
 unfold slE
 simp only[sT,Nat.reduceLT,Nat.reduceEqDiff,if_true,if_false,reduceIte,c1,q3,AP,Aa]
end
end Go.Proofs.YtedbmmfebjfibaaGreat

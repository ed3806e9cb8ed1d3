/-
  Part ZJ of what Lawap stands on: printed by program, names and spaces cut.
-/
import Derived.Test.YtedbmmfebjfibaaGreatZI
namespace Go.Proofs.YtedbmmfebjfibaaGreat
noncomputable section
open Go
theorem Ab{a b:String}(h:(a == b)=false):a≠b:=by simpa using h
theorem o4:BV Tryz.prog ty 4 b4:=Or.inl ⟨Tryz.f4,al4,Tryz.func4,Ab (by kernel_rfl),ng⟩
theorem o8:BV Tryz.prog ty 8 b8:=Or.inl ⟨Tryz.f8,al8,Tryz.func8,Ab (by kernel_rfl),nh⟩
theorem o9:BV Tryz.prog ty 9 b9:=Or.inl ⟨Tryz.f9,al9,Tryz.func9,Ab (by kernel_rfl),nk⟩
theorem o10:BV Tryz.prog ty 10 b10:=Or.inl ⟨Tryz.f10,lr,Tryz.func10,Ab (by kernel_rfl),fL⟩
theorem o11:BV Tryz.prog ty 11 b11:=Or.inl ⟨Tryz.f11,lw,Tryz.func11,Ab (by kernel_rfl),fM⟩
theorem o12:BV Tryz.prog ty 12 b12:=Or.inl ⟨Tryz.f12,lx,Tryz.func12,Ab (by kernel_rfl),fN⟩
theorem o15:BV Tryz.prog ty 15 b15:=Or.inl ⟨Tryz.f15,ly,Tryz.func15,Ab (by kernel_rfl),fO⟩
theorem o16:BV Tryz.prog ty 16 b16:=Or.inl ⟨Tryz.f16,lz,Tryz.func16,Ab (by kernel_rfl),fP⟩
theorem o17:BV Tryz.prog ty 17 b17:=Or.inl ⟨Tryz.f17,l7,Tryz.func17,Ab (by kernel_rfl),fQ⟩
theorem o18:BV Tryz.prog ty 18 b18:=Or.inl ⟨Tryz.f18,mA,Tryz.func18,Ab (by kernel_rfl),fR⟩
theorem o19:BV Tryz.prog ty 19 b19:=Or.inl ⟨Tryz.f19,mB,Tryz.func19,Ab (by kernel_rfl),fT⟩
theorem o20:BV Tryz.prog ty 20 b20:=Or.inl ⟨Tryz.f20,mC,Tryz.func20,Ab (by kernel_rfl),fU⟩
theorem o21:BV Tryz.prog ty 21 b21:=Or.inl ⟨Tryz.f21,mD,Tryz.func21,Ab (by kernel_rfl),fV⟩
theorem o22:BV Tryz.prog ty 22 b22:=Or.inl ⟨Tryz.f22,mE,Tryz.func22,Ab (by kernel_rfl),fX⟩
theorem o23:BV Tryz.prog ty 23 b23:=Or.inl ⟨Tryz.f23,mF,Tryz.func23,Ab (by kernel_rfl),fY⟩
theorem o24:BV Tryz.prog ty 24 b24:=Or.inl ⟨Tryz.f24,mG,Tryz.func24,Ab (by kernel_rfl),fZ⟩
theorem o29:BV Tryz.prog ty 29 b29:=Or.inl ⟨Tryz.f29,mH,Tryz.func29,Ab (by kernel_rfl),fa⟩
theorem o30:BV Tryz.prog ty 30 b30:=Or.inl ⟨Tryz.f30,mI,Tryz.func30,Ab (by kernel_rfl),fb⟩
theorem o35:BV Tryz.prog ty 35 b35:=Or.inl ⟨Tryz.f35,mJ,Tryz.func35,Ab (by kernel_rfl),fc⟩
theorem o36:BV Tryz.prog ty 36 b36:=Or.inl ⟨Tryz.f36,mK,Tryz.func36,Ab (by kernel_rfl),fd⟩
theorem o37:BV Tryz.prog ty 37 b37:=Or.inl ⟨Tryz.f37,mL,Tryz.func37,Ab (by kernel_rfl),fe⟩
theorem o38:BV Tryz.prog ty 38 b38:=Or.inl ⟨Tryz.f38,mM,Tryz.func38,Ab (by kernel_rfl),ff⟩
theorem o39:BV Tryz.prog ty 39 b39:=Or.inl ⟨Tryz.f39,mN,Tryz.func39,Ab (by kernel_rfl),fg⟩
theorem o40:BV Tryz.prog ty 40 b40:=Or.inl ⟨Tryz.f40,mO,Tryz.func40,Ab (by kernel_rfl),fh⟩
theorem o41:BV Tryz.prog ty 41 b41:=Or.inl ⟨Tryz.f41,mP,Tryz.func41,Ab (by kernel_rfl),fj⟩
theorem o42:BV Tryz.prog ty 42 b42:=Or.inl ⟨Tryz.f42,mQ,Tryz.func42,Ab (by kernel_rfl),fk⟩
theorem o43:BV Tryz.prog ty 43 b43:=Or.inl ⟨Tryz.f43,mR,Tryz.func43,Ab (by kernel_rfl),fl⟩
theorem o44:BV Tryz.prog ty 44 b44:=Or.inl ⟨Tryz.f44,mS,Tryz.func44,Ab (by kernel_rfl),fp⟩
theorem o45:BV Tryz.prog ty 45 b45:=Or.inl ⟨Tryz.f45,mT,Tryz.func45,Ab (by kernel_rfl),fq⟩
theorem o46:BV Tryz.prog ty 46 b46:=Or.inl ⟨Tryz.f46,mU,Tryz.func46,Ab (by kernel_rfl),fu⟩
theorem o47:BV Tryz.prog ty 47 b47:=Or.inl ⟨Tryz.f47,mV,Tryz.func47,Ab (by kernel_rfl),fw⟩
theorem o48:BV Tryz.prog ty 48 b48:=Or.inl ⟨Tryz.f48,mW,Tryz.func48,Ab (by kernel_rfl),fz⟩
theorem o49:BV Tryz.prog ty 49 b49:=Or.inl ⟨Tryz.f49,mX,Tryz.func49,Ab (by kernel_rfl),f0⟩
theorem o50:BV Tryz.prog ty 50 b50:=Or.inl ⟨Tryz.f50,mY,Tryz.func50,Ab (by kernel_rfl),gA⟩
theorem o51:BV Tryz.prog ty 51 b51:=Or.inl ⟨Tryz.f51,mZ,Tryz.func51,Ab (by kernel_rfl),gB⟩
theorem o52:BV Tryz.prog ty 52 b52:=Or.inl ⟨Tryz.f52,ma,Tryz.func52,Ab (by kernel_rfl),gC⟩
theorem o53:BV Tryz.prog ty 53 b53:=Or.inl ⟨Tryz.f53,mc,Tryz.func53,Ab (by kernel_rfl),gE⟩
theorem o54:BV Tryz.prog ty 54 b54:=Or.inl ⟨Tryz.f54,me,Tryz.func54,Ab (by kernel_rfl),gF⟩
theorem o55:BV Tryz.prog ty 55 b55:=Or.inl ⟨Tryz.f55,mf,Tryz.func55,Ab (by kernel_rfl),gG⟩
theorem o56:BV Tryz.prog ty 56 b56:=Or.inl ⟨Tryz.f56,mg,Tryz.func56,Ab (by kernel_rfl),gH⟩
theorem o57:BV Tryz.prog ty 57 b57:=Or.inl ⟨Tryz.f57,mh,Tryz.func57,Ab (by kernel_rfl),gI⟩
theorem o58:BV Tryz.prog ty 58 b58:=Or.inl ⟨Tryz.f58,mi,Tryz.func58,Ab (by kernel_rfl),gJ⟩
theorem o59:BV Tryz.prog ty 59 b59:=Or.inl ⟨Tryz.f59,mj,Tryz.func59,Ab (by kernel_rfl),gK⟩
theorem o60:BV Tryz.prog ty 60 b60:=Or.inl ⟨Tryz.f60,ml,Tryz.func60,Ab (by kernel_rfl),gL⟩
theorem o61:BV Tryz.prog ty 61 b61:=Or.inl ⟨Tryz.f61,mo,Tryz.func61,Ab (by kernel_rfl),gM⟩
theorem o62:BV Tryz.prog ty 62 b62:=Or.inl ⟨Tryz.f62,mq,Tryz.func62,Ab (by kernel_rfl),gN⟩
theorem o63:BV Tryz.prog ty 63 b63:=Or.inl ⟨Tryz.f63,mr,Tryz.func63,Ab (by kernel_rfl),gO⟩
theorem o64:BV Tryz.prog ty 64 b64:=Or.inl ⟨Tryz.f64,mu,Tryz.func64,Ab (by kernel_rfl),gP⟩
theorem o65:BV Tryz.prog ty 65 b65:=Or.inl ⟨Tryz.f65,mw,Tryz.func65,Ab (by kernel_rfl),gQ⟩
theorem o68:BV Tryz.prog ty 68 b68:=Or.inl ⟨Tryz.f68,my,Tryz.func68,Ab (by kernel_rfl),gR⟩
theorem o69:BV Tryz.prog ty 69 b69:=Or.inl ⟨Tryz.f69,mz,Tryz.func69,Ab (by kernel_rfl),gS⟩
theorem o70:BV Tryz.prog ty 70 b70:=Or.inl ⟨Tryz.f70,nB,Tryz.func70,Ab (by kernel_rfl),gT⟩
theorem o71:BV Tryz.prog ty 71 b71:=Or.inl ⟨Tryz.f71,nC,Tryz.func71,Ab (by kernel_rfl),gU⟩
theorem o72:BV Tryz.prog ty 72 b72:=Or.inl ⟨Tryz.f72,nE,Tryz.func72,Ab (by kernel_rfl),gV⟩
theorem o73:BV Tryz.prog ty 73 b73:=Or.inl ⟨Tryz.f73,nF,Tryz.func73,Ab (by kernel_rfl),gW⟩
theorem o74:BV Tryz.prog ty 74 b74:=Or.inl ⟨Tryz.f74,nG,Tryz.func74,Ab (by kernel_rfl),gX⟩
theorem o75:BV Tryz.prog ty 75 b75:=Or.inl ⟨Tryz.f75,nH,Tryz.func75,Ab (by kernel_rfl),gY⟩
theorem o76:BV Tryz.prog ty 76 b76:=Or.inl ⟨Tryz.f76,nI,Tryz.func76,Ab (by kernel_rfl),gZ⟩
theorem o77:BV Tryz.prog ty 77 b77:=Or.inl ⟨Tryz.f77,nJ,Tryz.func77,Ab (by kernel_rfl),ga⟩
theorem o78:BV Tryz.prog ty 78 b78:=Or.inl ⟨Tryz.f78,nL,Tryz.func78,Ab (by kernel_rfl),gb⟩
theorem o79:BV Tryz.prog ty 79 b79:=Or.inl ⟨Tryz.f79,nM,Tryz.func79,Ab (by kernel_rfl),gc⟩
theorem o80:BV Tryz.prog ty 80 b80:=Or.inl ⟨Tryz.f80,nN,Tryz.func80,Ab (by kernel_rfl),gd⟩
theorem o81:BV Tryz.prog ty 81 b81:=Or.inl ⟨Tryz.f81,nO,Tryz.func81,Ab (by kernel_rfl),ge⟩
theorem o82:BV Tryz.prog ty 82 b82:=Or.inl ⟨Tryz.f82,nP,Tryz.func82,Ab (by kernel_rfl),gf⟩
theorem o83:BV Tryz.prog ty 83 b83:=Or.inl ⟨Tryz.f83,nQ,Tryz.func83,Ab (by kernel_rfl),gh⟩
theorem o84:BV Tryz.prog ty 84 b84:=Or.inl ⟨Tryz.f84,nR,Tryz.func84,Ab (by kernel_rfl),gi⟩
theorem o85:BV Tryz.prog ty 85 b85:=Or.inl ⟨Tryz.f85,nS,Tryz.func85,Ab (by kernel_rfl),gj⟩
theorem o86:BV Tryz.prog ty 86 b86:=Or.inl ⟨Tryz.f86,nT,Tryz.func86,Ab (by kernel_rfl),gk⟩
theorem o87:BV Tryz.prog ty 87 b87:=Or.inl ⟨Tryz.f87,nU,Tryz.func87,Ab (by kernel_rfl),gm⟩
theorem o88:BV Tryz.prog ty 88 b88:=Or.inl ⟨Tryz.f88,nV,Tryz.func88,Ab (by kernel_rfl),gn⟩
theorem o89:BV Tryz.prog ty 89 b89:=Or.inl ⟨Tryz.f89,nW,Tryz.func89,Ab (by kernel_rfl),gp⟩
theorem o90:BV Tryz.prog ty 90 b90:=Or.inl ⟨Tryz.f90,nX,Tryz.func90,Ab (by kernel_rfl),gq⟩
theorem o91:BV Tryz.prog ty 91 b91:=Or.inl ⟨Tryz.f91,nY,Tryz.func91,Ab (by kernel_rfl),gt⟩
theorem o92:BV Tryz.prog ty 92 b92:=Or.inl ⟨Tryz.f92,nZ,Tryz.func92,Ab (by kernel_rfl),gu⟩
theorem o95:BV Tryz.prog ty 95 b95:=Or.inl ⟨Tryz.f95,na,Tryz.func95,Ab (by kernel_rfl),gv⟩
theorem o96:BV Tryz.prog ty 96 b96:=Or.inl ⟨Tryz.f96,nc,Tryz.func96,Ab (by kernel_rfl),gx⟩
theorem o97:BV Tryz.prog ty 97 b97:=Or.inl ⟨Tryz.f97,nf,Tryz.func97,Ab (by kernel_rfl),gy⟩
theorem oH:BV Tryz.prog ty 106 UW:=Or.inl ⟨Tryz.f106,eC,Tryz.func106,Ab (by kernel_rfl),Zg⟩
theorem oI:BV Tryz.prog ty 107 UX:=Or.inl ⟨Tryz.f107,eD,Tryz.func107,Ab (by kernel_rfl),Zh⟩
theorem oJ:BV Tryz.prog ty 108 UY:=Or.inl ⟨Tryz.f108,eE,Tryz.func108,Ab (by kernel_rfl),Zi⟩
theorem oK:BV Tryz.prog ty 109 UZ:=Or.inl ⟨Tryz.f109,eF,Tryz.func109,Ab (by kernel_rfl),Zj⟩
theorem oL:BV Tryz.prog ty 110 Ua:=Or.inl ⟨Tryz.f110,eG,Tryz.func110,Ab (by kernel_rfl),Zk⟩
theorem oM:BV Tryz.prog ty 111 Ub:=Or.inl ⟨Tryz.f111,eH,Tryz.func111,Ab (by kernel_rfl),Zl⟩
theorem oN:BV Tryz.prog ty 112 Uc:=Or.inl ⟨Tryz.f112,eI,Tryz.func112,Ab (by kernel_rfl),Zm⟩
theorem oO:BV Tryz.prog ty 119 Ud:=Or.inl ⟨Tryz.f119,eJ,Tryz.func119,Ab (by kernel_rfl),Zn⟩
theorem oP:BV Tryz.prog ty 125 Ue:=Or.inl ⟨Tryz.f125,eK,Tryz.func125,Ab (by kernel_rfl),Zo⟩
theorem An(i:Nat):BV Tryz.prog ty i Ak:=Or.inr (.inl rfl)
set_option maxRecDepth 100000 in
def GI:FT:=(.nd Ak (.nd Ak (.nd Ak (.nd Ak (.nd b15 (.nd Ak (.nd b63 (.nd Ak .mt .mt) .mt) (.nd b95 .mt .mt)) (.nd b47 (.nd b79 (.nd Ak .mt .mt) .mt) (.nd Ub .mt .mt))) (.nd b23 (.nd b39 (.nd b71 (.nd Ak .mt .mt) .mt) (.nd Ak .mt .mt)) (.nd b55 (.nd b87 .mt .mt) (.nd Ud .mt .mt)))) (.nd b11 (.nd b19 (.nd b35 (.nd Ak (.nd Ak .mt .mt) .mt) (.nd Ak .mt .mt)) (.nd b51 (.nd b83 (.nd Ak .mt .mt) .mt) (.nd Ak .mt .mt))) (.nd Ak (.nd b43 (.nd b75 (.nd Ak .mt .mt) .mt) (.nd UX .mt .mt)) (.nd b59 (.nd b91 .mt .mt) (.nd Ak .mt .mt))))) (.nd Ak (.nd b9 (.nd b17 (.nd Ak (.nd b65 (.nd Ak .mt .mt) .mt) (.nd b97 .mt .mt)) (.nd b49 (.nd b81 (.nd Ak .mt .mt) .mt) (.nd Ak .mt .mt))) (.nd Ak (.nd b41 (.nd b73 (.nd Ak .mt .mt) .mt) (.nd Ak .mt .mt)) (.nd b57 (.nd b89 .mt .mt) (.nd Ak .mt .mt)))) (.nd Ak (.nd b21 (.nd b37 (.nd b69 (.nd Ak .mt .mt) .mt) (.nd Ak .mt .mt)) (.nd b53 (.nd b85 .mt .mt) (.nd Ak .mt .mt))) (.nd b29 (.nd b45 (.nd b77 (.nd Ak .mt .mt) .mt) (.nd UZ .mt .mt)) (.nd b61 (.nd Ak .mt .mt) (.nd Ue .mt .mt)))))) (.nd Ak (.nd b4 (.nd b8 (.nd b16 (.nd Ak (.nd b64 (.nd Ak .mt .mt) .mt) (.nd b96 .mt .mt)) (.nd b48 (.nd b80 (.nd Ak .mt .mt) .mt) (.nd Uc .mt .mt))) (.nd b24 (.nd b40 (.nd b72 (.nd Ak .mt .mt) .mt) (.nd Ak .mt .mt)) (.nd b56 (.nd b88 .mt .mt) (.nd Ak .mt .mt)))) (.nd b12 (.nd b20 (.nd b36 (.nd b68 (.nd Ak .mt .mt) .mt) (.nd Ak .mt .mt)) (.nd b52 (.nd b84 (.nd Ak .mt .mt) .mt) (.nd Ak .mt .mt))) (.nd Ak (.nd b44 (.nd b76 (.nd Ak .mt .mt) .mt) (.nd UY .mt .mt)) (.nd b60 (.nd b92 .mt .mt) (.nd Ak .mt .mt))))) (.nd Ak (.nd b10 (.nd b18 (.nd Ak (.nd Ak (.nd Ak .mt .mt) .mt) (.nd Ak .mt .mt)) (.nd b50 (.nd b82 (.nd Ak .mt .mt) .mt) (.nd Ak .mt .mt))) (.nd Ak (.nd b42 (.nd b74 (.nd Ak .mt .mt) .mt) (.nd UW .mt .mt)) (.nd b58 (.nd b90 .mt .mt) (.nd Ak .mt .mt)))) (.nd Ak (.nd b22 (.nd b38 (.nd b70 (.nd Ak .mt .mt) .mt) (.nd Ak .mt .mt)) (.nd b54 (.nd b86 .mt .mt) (.nd Ak .mt .mt))) (.nd b30 (.nd b46 (.nd b78 (.nd Ak .mt .mt) .mt) (.nd Ua .mt .mt)) (.nd b62 (.nd Ak .mt .mt) (.nd Ak .mt .mt)))))))
set_option maxRecDepth 100000 in
theorem RN:FT.All (BV Tryz.prog ty) GI id:=⟨An _,⟨An _,⟨An _,⟨An _,⟨o15,⟨An _,⟨o63,⟨An _,trivial,trivial⟩,trivial⟩,⟨o95,trivial,trivial⟩⟩,⟨o47,⟨o79,⟨An _,trivial,trivial⟩,trivial⟩,⟨oM,trivial,trivial⟩⟩⟩,⟨o23,⟨o39,⟨o71,⟨An _,trivial,trivial⟩,trivial⟩,⟨An _,trivial,trivial⟩⟩,⟨o55,⟨o87,trivial,trivial⟩,⟨oO,trivial,trivial⟩⟩⟩⟩,⟨o11,⟨o19,⟨o35,⟨An _,⟨An _,trivial,trivial⟩,trivial⟩,⟨An _,trivial,trivial⟩⟩,⟨o51,⟨o83,⟨An _,trivial,trivial⟩,trivial⟩,⟨An _,trivial,trivial⟩⟩⟩,⟨An _,⟨o43,⟨o75,⟨An _,trivial,trivial⟩,trivial⟩,⟨oI,trivial,trivial⟩⟩,⟨o59,⟨o91,trivial,trivial⟩,⟨An _,trivial,trivial⟩⟩⟩⟩⟩,⟨An _,⟨o9,⟨o17,⟨An _,⟨o65,⟨An _,trivial,trivial⟩,trivial⟩,⟨o97,trivial,trivial⟩⟩,⟨o49,⟨o81,⟨An _,trivial,trivial⟩,trivial⟩,⟨An _,trivial,trivial⟩⟩⟩,⟨An _,⟨o41,⟨o73,⟨An _,trivial,trivial⟩,trivial⟩,⟨An _,trivial,trivial⟩⟩,⟨o57,⟨o89,trivial,trivial⟩,⟨An _,trivial,trivial⟩⟩⟩⟩,⟨An _,⟨o21,⟨o37,⟨o69,⟨An _,trivial,trivial⟩,trivial⟩,⟨An _,trivial,trivial⟩⟩,⟨o53,⟨o85,trivial,trivial⟩,⟨An _,trivial,trivial⟩⟩⟩,⟨o29,⟨o45,⟨o77,⟨An _,trivial,trivial⟩,trivial⟩,⟨oK,trivial,trivial⟩⟩,⟨o61,⟨An _,trivial,trivial⟩,⟨oP,trivial,trivial⟩⟩⟩⟩⟩⟩,⟨An _,⟨o4,⟨o8,⟨o16,⟨An _,⟨o64,⟨An _,trivial,trivial⟩,trivial⟩,⟨o96,trivial,trivial⟩⟩,⟨o48,⟨o80,⟨An _,trivial,trivial⟩,trivial⟩,⟨oN,trivial,trivial⟩⟩⟩,⟨o24,⟨o40,⟨o72,⟨An _,trivial,trivial⟩,trivial⟩,⟨An _,trivial,trivial⟩⟩,⟨o56,⟨o88,trivial,trivial⟩,⟨An _,trivial,trivial⟩⟩⟩⟩,⟨o12,⟨o20,⟨o36,⟨o68,⟨An _,trivial,trivial⟩,trivial⟩,⟨An _,trivial,trivial⟩⟩,⟨o52,⟨o84,⟨An _,trivial,trivial⟩,trivial⟩,⟨An _,trivial,trivial⟩⟩⟩,⟨An _,⟨o44,⟨o76,⟨An _,trivial,trivial⟩,trivial⟩,⟨oJ,trivial,trivial⟩⟩,⟨o60,⟨o92,trivial,trivial⟩,⟨An _,trivial,trivial⟩⟩⟩⟩⟩,⟨An _,⟨o10,⟨o18,⟨An _,⟨An _,⟨An _,trivial,trivial⟩,trivial⟩,⟨An _,trivial,trivial⟩⟩,⟨o50,⟨o82,⟨An _,trivial,trivial⟩,trivial⟩,⟨An _,trivial,trivial⟩⟩⟩,⟨An _,⟨o42,⟨o74,⟨An _,trivial,trivial⟩,trivial⟩,⟨oH,trivial,trivial⟩⟩,⟨o58,⟨o90,trivial,trivial⟩,⟨An _,trivial,trivial⟩⟩⟩⟩,⟨An _,⟨o22,⟨o38,⟨o70,⟨An _,trivial,trivial⟩,trivial⟩,⟨An _,trivial,trivial⟩⟩,⟨o54,⟨o86,trivial,trivial⟩,⟨An _,trivial,trivial⟩⟩⟩,⟨o30,⟨o46,⟨o78,⟨An _,trivial,trivial⟩,trivial⟩,⟨oL,trivial,trivial⟩⟩,⟨o62,⟨An _,trivial,trivial⟩,⟨An _,trivial,trivial⟩⟩⟩⟩⟩⟩⟩
theorem eV:Cc Tryz.prog ty:=lR (by kernel_rfl) (by kernel_rfl)
theorem Mx(n:Nat):Cw Tryz.prog ty (call GI n):=Ib eV (by kernel_rfl) RN n
end
noncomputable section
open Go
set_option maxHeartbeats 0 in
theorem UV:YU (call GI 64 8 [] Hx)=true:=by kernel_rfl
theorem RK:LC Tryz.prog ty 8 JU:=Vr ⟨Tryz.f8,Tryz.func8,Ab (by kernel_rfl),by kernel_rfl⟩ (Yx Mx UV)
theorem oA:BV Tryz.prog ty 8 JU:=Or.inr (.inr RK)
open Go.RowKit Go.WideShapes Go.ChangeShapes
set_option maxRecDepth 100000
def eT(L:List Value)(args:List Value)(h:Hp):R:=match args with
 |[]=>.ok (.agg ⟨L⟩) h
 |_::_=>.no
def Mv(L:List Value):Body:=⟨[.x (fun _=>eT L)],cNo⟩
def isW:Value→Bool
 |.int .u32 n=>decide (0≤n) && decide (n<4294967296)
 |_=>false
def YT:R→Bool
 |.ok (.agg ⟨l⟩) _=>l.all isW && Nat.beq l.length 256
 |_=>false
def kX:R→List Value
 |.ok (.agg ⟨l⟩) _=>l
 |_=>[]
def Mb:List Value:=kX (call GI 64 9 [] Hx)
set_option maxHeartbeats 0 in
theorem df:YT (call GI 64 9 [] Hx)=true:=by kernel_rfl
theorem OJ{v:Value}(h:isW v=true):∃ n:Nat,v=.int .u32 (n:Int)∧n<4294967296:=by
 unfold isW at h
 split at h
 ·rename_i n
  simp only[Bool.and_eq_true,decide_eq_true_eq]at h
  obtain⟨m,rfl⟩:=Int.eq_ofNat_of_zero_le h.1
  exact⟨m,rfl,by omega⟩
 ·cases h
theorem Sb:∃ h',call GI 64 9 [] Hx=.ok (.agg ⟨Mb⟩) h'∧Mb.length=256∧∀ v∈Mb,isW v=true:=by
 have h:=df
 unfold Mb
 generalize call GI 64 9 [] Hx=r at h
 unfold YT at h
 split at h
 ·rename_i l h'
  simp only[Bool.and_eq_true,List.all_eq_true]at h
  exact⟨h',rfl,Nat.eq_of_beq_eq_true h.2,h.1⟩
 ·cases h
theorem P9{φ:Phi}:∀ {L L':List Value},RelL φ L L'→(∀ v∈L,isW v=true)→L'=L
 |_,_,.nil,_=>rfl
 |_,_,.cons (v:=v) h t,hL=>by
  rw[P9 t fun x hx=>hL x (List.mem_cons_of_mem _ hx)]
  obtain⟨n,rfl,_⟩:=OJ (hL v List.mem_cons_self)
  cases h;rfl
theorem QA(φ:Phi):∀ {L:List Value},(∀ v∈L,isW v=true)→RelL φ L L
 |[],_=>.nil
 |v::L,h=>by
  obtain⟨n,rfl,_⟩:=OJ (h v List.mem_cons_self)
  exact .cons (.int _ _) (QA φ fun x hx=>h x (List.mem_cons_of_mem _ hx))
theorem Vq(w:World):Calls Tryz.prog 9 #[] w fun e w'=>e=.returned (.agg ⟨Mb⟩)∧Below w.heap.size w w':=by
 obtain⟨h',hr,_,hw⟩:=Sb
 obtain⟨_,hc⟩:=Mx _ 9 [] Hx _ h' hr
 refine(hc lF w [] .nil (Nl ty w)).mono fun e w' ⟨v',ψ,he,hv,_,ev⟩=>?_
 cases hv with
 |agg hl=>
  rw[P9 hl hw]at he
  exact⟨he,⟨ev.os,ev.tape,ev.output,ev.size,fun k hk=>ev.frame k hk fun i p hp=>by cases hp⟩⟩
theorem VB{P:Program}{ty:TTy}{f:Nat}{L:List Value}(hL:∀ v∈L,isW v=true)(hS:∃ fn,P.funcs[f]? =some fn∧fn.name≠"runtime.NumGoroutine" ∧fn.body.isNone=false)(hc:∀ w:World,Calls P f #[] w fun e w'=>e=.returned (.agg ⟨L⟩)∧Below w.heap.size w w'):LC P ty f (Mv L):=fun F args h v h' _ hr=>⟨hS,fun φ w args' hrel H=>by
 have hr:eT L args h=.ok v h':=hr
 cases args with
 |cons a l=>cases hr
 |nil=>
  cases hr
  cases hrel
  exact(hc w).mono fun e w' ⟨he,hb⟩=>⟨_,φ,he,.agg (QA φ hL),(GT H hb).1,(GT H hb).2⟩⟩
theorem ZC:LC Tryz.prog ty 9 (Mv Mb):=VB (Sb.choose_spec.2.2) ⟨Tryz.f9,Tryz.func9,Ab (by kernel_rfl),by kernel_rfl⟩ Vq
theorem oT:BV Tryz.prog ty 9 (Mv Mb):=Or.inr (.inr ZC)
theorem Uj{bs:FT}{n f:Nat}{L:List Value}(hb:bs.get f=some (Mv L)){h:Hp}:call bs (Nat.succ n) f [] h=.ok (.agg ⟨L⟩) h:=by
 rw[Ai hb];rfl
end
noncomputable section
open Go
set_option maxRecDepth 100000 in
def AD:FT:=(.nd Ak (.nd Ak (.nd Ak (.nd Ak (.nd b15 (.nd Ak (.nd b63 (.nd Ak .mt .mt) .mt) (.nd b95 .mt .mt)) (.nd b47 (.nd b79 (.nd Ak .mt .mt) .mt) (.nd Ub .mt .mt))) (.nd b23 (.nd b39 (.nd b71 (.nd Ak .mt .mt) .mt) (.nd Ak .mt .mt)) (.nd b55 (.nd b87 .mt .mt) (.nd Ud .mt .mt)))) (.nd b11 (.nd b19 (.nd b35 (.nd Ak (.nd Ak .mt .mt) .mt) (.nd Ak .mt .mt)) (.nd b51 (.nd b83 (.nd Ak .mt .mt) .mt) (.nd Ak .mt .mt))) (.nd Ak (.nd b43 (.nd b75 (.nd Ak .mt .mt) .mt) (.nd UX .mt .mt)) (.nd b59 (.nd b91 .mt .mt) (.nd Ak .mt .mt))))) (.nd Ak (.nd (Mv Mb) (.nd b17 (.nd Ak (.nd b65 (.nd Ak .mt .mt) .mt) (.nd b97 .mt .mt)) (.nd b49 (.nd b81 (.nd Ak .mt .mt) .mt) (.nd Ak .mt .mt))) (.nd Ak (.nd b41 (.nd b73 (.nd Ak .mt .mt) .mt) (.nd Ak .mt .mt)) (.nd b57 (.nd b89 .mt .mt) (.nd Ak .mt .mt)))) (.nd Ak (.nd b21 (.nd b37 (.nd b69 (.nd Ak .mt .mt) .mt) (.nd Ak .mt .mt)) (.nd b53 (.nd b85 .mt .mt) (.nd Ak .mt .mt))) (.nd b29 (.nd b45 (.nd b77 (.nd Ak .mt .mt) .mt) (.nd UZ .mt .mt)) (.nd b61 (.nd Ak .mt .mt) (.nd Ue .mt .mt)))))) (.nd Ak (.nd b4 (.nd JU (.nd b16 (.nd Ak (.nd b64 (.nd Ak .mt .mt) .mt) (.nd b96 .mt .mt)) (.nd b48 (.nd b80 (.nd Ak .mt .mt) .mt) (.nd Uc .mt .mt))) (.nd b24 (.nd b40 (.nd b72 (.nd Ak .mt .mt) .mt) (.nd Ak .mt .mt)) (.nd b56 (.nd b88 .mt .mt) (.nd Ak .mt .mt)))) (.nd b12 (.nd b20 (.nd b36 (.nd b68 (.nd Ak .mt .mt) .mt) (.nd Ak .mt .mt)) (.nd b52 (.nd b84 (.nd Ak .mt .mt) .mt) (.nd Ak .mt .mt))) (.nd Ak (.nd b44 (.nd b76 (.nd Ak .mt .mt) .mt) (.nd UY .mt .mt)) (.nd b60 (.nd b92 .mt .mt) (.nd Ak .mt .mt))))) (.nd Ak (.nd b10 (.nd b18 (.nd Ak (.nd Ak (.nd Ak .mt .mt) .mt) (.nd Ak .mt .mt)) (.nd b50 (.nd b82 (.nd Ak .mt .mt) .mt) (.nd Ak .mt .mt))) (.nd Ak (.nd b42 (.nd b74 (.nd Ak .mt .mt) .mt) (.nd UW .mt .mt)) (.nd b58 (.nd b90 .mt .mt) (.nd Ak .mt .mt)))) (.nd Ak (.nd b22 (.nd b38 (.nd b70 (.nd Ak .mt .mt) .mt) (.nd Ak .mt .mt)) (.nd b54 (.nd b86 .mt .mt) (.nd Ak .mt .mt))) (.nd b30 (.nd b46 (.nd b78 (.nd Ak .mt .mt) .mt) (.nd Ua .mt .mt)) (.nd b62 (.nd Ak .mt .mt) (.nd Ak .mt .mt)))))))
set_option maxRecDepth 100000 in
theorem Uh:FT.All (BV Tryz.prog ty) AD id:=⟨An _,⟨An _,⟨An _,⟨An _,⟨o15,⟨An _,⟨o63,⟨An _,trivial,trivial⟩,trivial⟩,⟨o95,trivial,trivial⟩⟩,⟨o47,⟨o79,⟨An _,trivial,trivial⟩,trivial⟩,⟨oM,trivial,trivial⟩⟩⟩,⟨o23,⟨o39,⟨o71,⟨An _,trivial,trivial⟩,trivial⟩,⟨An _,trivial,trivial⟩⟩,⟨o55,⟨o87,trivial,trivial⟩,⟨oO,trivial,trivial⟩⟩⟩⟩,⟨o11,⟨o19,⟨o35,⟨An _,⟨An _,trivial,trivial⟩,trivial⟩,⟨An _,trivial,trivial⟩⟩,⟨o51,⟨o83,⟨An _,trivial,trivial⟩,trivial⟩,⟨An _,trivial,trivial⟩⟩⟩,⟨An _,⟨o43,⟨o75,⟨An _,trivial,trivial⟩,trivial⟩,⟨oI,trivial,trivial⟩⟩,⟨o59,⟨o91,trivial,trivial⟩,⟨An _,trivial,trivial⟩⟩⟩⟩⟩,⟨An _,⟨oT,⟨o17,⟨An _,⟨o65,⟨An _,trivial,trivial⟩,trivial⟩,⟨o97,trivial,trivial⟩⟩,⟨o49,⟨o81,⟨An _,trivial,trivial⟩,trivial⟩,⟨An _,trivial,trivial⟩⟩⟩,⟨An _,⟨o41,⟨o73,⟨An _,trivial,trivial⟩,trivial⟩,⟨An _,trivial,trivial⟩⟩,⟨o57,⟨o89,trivial,trivial⟩,⟨An _,trivial,trivial⟩⟩⟩⟩,⟨An _,⟨o21,⟨o37,⟨o69,⟨An _,trivial,trivial⟩,trivial⟩,⟨An _,trivial,trivial⟩⟩,⟨o53,⟨o85,trivial,trivial⟩,⟨An _,trivial,trivial⟩⟩⟩,⟨o29,⟨o45,⟨o77,⟨An _,trivial,trivial⟩,trivial⟩,⟨oK,trivial,trivial⟩⟩,⟨o61,⟨An _,trivial,trivial⟩,⟨oP,trivial,trivial⟩⟩⟩⟩⟩⟩,⟨An _,⟨o4,⟨oA,⟨o16,⟨An _,⟨o64,⟨An _,trivial,trivial⟩,trivial⟩,⟨o96,trivial,trivial⟩⟩,⟨o48,⟨o80,⟨An _,trivial,trivial⟩,trivial⟩,⟨oN,trivial,trivial⟩⟩⟩,⟨o24,⟨o40,⟨o72,⟨An _,trivial,trivial⟩,trivial⟩,⟨An _,trivial,trivial⟩⟩,⟨o56,⟨o88,trivial,trivial⟩,⟨An _,trivial,trivial⟩⟩⟩⟩,⟨o12,⟨o20,⟨o36,⟨o68,⟨An _,trivial,trivial⟩,trivial⟩,⟨An _,trivial,trivial⟩⟩,⟨o52,⟨o84,⟨An _,trivial,trivial⟩,trivial⟩,⟨An _,trivial,trivial⟩⟩⟩,⟨An _,⟨o44,⟨o76,⟨An _,trivial,trivial⟩,trivial⟩,⟨oJ,trivial,trivial⟩⟩,⟨o60,⟨o92,trivial,trivial⟩,⟨An _,trivial,trivial⟩⟩⟩⟩⟩,⟨An _,⟨o10,⟨o18,⟨An _,⟨An _,⟨An _,trivial,trivial⟩,trivial⟩,⟨An _,trivial,trivial⟩⟩,⟨o50,⟨o82,⟨An _,trivial,trivial⟩,trivial⟩,⟨An _,trivial,trivial⟩⟩⟩,⟨An _,⟨o42,⟨o74,⟨An _,trivial,trivial⟩,trivial⟩,⟨oH,trivial,trivial⟩⟩,⟨o58,⟨o90,trivial,trivial⟩,⟨An _,trivial,trivial⟩⟩⟩⟩,⟨An _,⟨o22,⟨o38,⟨o70,⟨An _,trivial,trivial⟩,trivial⟩,⟨An _,trivial,trivial⟩⟩,⟨o54,⟨o86,trivial,trivial⟩,⟨An _,trivial,trivial⟩⟩⟩,⟨o30,⟨o46,⟨o78,⟨An _,trivial,trivial⟩,trivial⟩,⟨oL,trivial,trivial⟩⟩,⟨o62,⟨An _,trivial,trivial⟩,⟨An _,trivial,trivial⟩⟩⟩⟩⟩⟩⟩
theorem Wk(n:Nat):Cw Tryz.prog ty (call AD n):=Ib eV (by kernel_rfl) Uh n
theorem Oz:AD.get 8=some JU:=by kernel_rfl
theorem ZD:AD.get 9=some (Mv Mb):=by kernel_rfl
end
noncomputable section
open Go
set_option maxRecDepth 100000
theorem WY{n:Nat}{args:List Value}{h:Hp}(hl:Nat.ble (A9 args) 160=true):call AD (Nat.succ n) 4 args h=A2 [.t (AB 6)] (d4 (call AD n) (AQ e0 0 args) h):=by
 have hb:AD.get 4=some b4:=by kernel_rfl
 rw[Ai hb]
 have hd:b4=⟨[.t (AB 6)],d4⟩:=by kernel_rfl
 rw[hd,AW hl]
theorem iC{n:Nat}{args:List Value}{h:Hp}(hl:Nat.ble (A9 args) 160=true):call AD (Nat.succ n) 10 args h=A2 [.t (AB 4),.t (AB 5),.t (AB 6)] (d10 (call AD n) (AQ e0 0 args) h):=by
 have hb:AD.get 10=some b10:=by kernel_rfl
 rw[Ai hb]
 have hd:b10=⟨[.t (AB 4),.t (AB 5),.t (AB 6)],d10⟩:=by kernel_rfl
 rw[hd,AW hl]
theorem H4{n:Nat}{args:List Value}{h:Hp}(hl:Nat.ble (A9 args) 160=true):call AD (Nat.succ n) 11 args h=A2 [.t (AB 10)] (d11 (call AD n) (AQ e0 0 args) h):=by
 have hb:AD.get 11=some b11:=by kernel_rfl
 rw[Ai hb]
 have hd:b11=⟨[.t (AB 10)],d11⟩:=by kernel_rfl
 rw[hd,AW hl]
theorem LO{n:Nat}{args:List Value}{h:Hp}(hl:Nat.ble (A9 args) 160=true):call AD (Nat.succ n) 12 args h=A2 [.t (AB 8)] (d12 (call AD n) (AQ e0 0 args) h):=by
 have hb:AD.get 12=some b12:=by kernel_rfl
 rw[Ai hb]
 have hd:b12=⟨[.t (AB 8)],d12⟩:=by kernel_rfl
 rw[hd,AW hl]
theorem WX{n:Nat}{args:List Value}{h:Hp}(hl:Nat.ble (A9 args) 160=true):call AD (Nat.succ n) 15 args h=A2 [.t (AB 8)] (d15 (call AD n) (AQ e0 0 args) h):=by
 have hb:AD.get 15=some b15:=by kernel_rfl
 rw[Ai hb]
 have hd:b15=⟨[.t (AB 8)],d15⟩:=by kernel_rfl
 rw[hd,AW hl]
theorem iD{n:Nat}{args:List Value}{h:Hp}(hl:Nat.ble (A9 args) 160=true):call AD (Nat.succ n) 16 args h=A2 [.t (AB 6),.t (AB 7)] (d16 (call AD n) (AQ e0 0 args) h):=by
 have hb:AD.get 16=some b16:=by kernel_rfl
 rw[Ai hb]
 have hd:b16=⟨[.t (AB 6),.t (AB 7)],d16⟩:=by kernel_rfl
 rw[hd,AW hl]
theorem iE{n:Nat}{args:List Value}{h:Hp}(hl:Nat.ble (A9 args) 160=true):call AD (Nat.succ n) 17 args h=A2 [.cN (AB 6) 5,.t (AB 7)] (d17 (call AD n) (AQ e0 0 args) h):=by
 have hb:AD.get 17=some b17:=by kernel_rfl
 rw[Ai hb]
 have hd:b17=⟨[.cN (AB 6) 5,.t (AB 7)],d17⟩:=by kernel_rfl
 rw[hd,AW hl]
theorem iF{n:Nat}{args:List Value}{h:Hp}(hl:Nat.ble (A9 args) 160=true):call AD (Nat.succ n) 18 args h=A2 [.cN (AB 8) 5,.t (AB 9)] (d18 (call AD n) (AQ e0 0 args) h):=by
 have hb:AD.get 18=some b18:=by kernel_rfl
 rw[Ai hb]
 have hd:b18=⟨[.cN (AB 8) 5,.t (AB 9)],d18⟩:=by kernel_rfl
 rw[hd,AW hl]
theorem LP{n:Nat}{args:List Value}{h:Hp}(hl:Nat.ble (A9 args) 160=true):call AD (Nat.succ n) 22 args h=A2 [.t (AB 4)] (d22 (call AD n) (AQ e0 0 args) h):=by
 have hb:AD.get 22=some b22:=by kernel_rfl
 rw[Ai hb]
 have hd:b22=⟨[.t (AB 4)],d22⟩:=by kernel_rfl
 rw[hd,AW hl]
theorem iG{n:Nat}{args:List Value}{h:Hp}(hl:Nat.ble (A9 args) 160=true):call AD (Nat.succ n) 23 args h=A2 [.t (AB 4)] (d23 (call AD n) (AQ e0 0 args) h):=by
 have hb:AD.get 23=some b23:=by kernel_rfl
 rw[Ai hb]
 have hd:b23=⟨[.t (AB 4)],d23⟩:=by kernel_rfl
 rw[hd,AW hl]
theorem iH{n:Nat}{args:List Value}{h:Hp}(hl:Nat.ble (A9 args) 160=true):call AD (Nat.succ n) 24 args h=A2 [.t (AB 4)] (d24 (call AD n) (AQ e0 0 args) h):=by
 have hb:AD.get 24=some b24:=by kernel_rfl
 rw[Ai hb]
 have hd:b24=⟨[.t (AB 4)],d24⟩:=by kernel_rfl
 rw[hd,AW hl]
theorem RQ{n:Nat}{args:List Value}{h:Hp}(hl:Nat.ble (A9 args) 160=true):call AD (Nat.succ n) 29 args h=A2 [.t (AB 8)] (d29 (call AD n) (AQ e0 0 args) h):=by
 have hb:AD.get 29=some b29:=by kernel_rfl
 rw[Ai hb]
 have hd:b29=⟨[.t (AB 8)],d29⟩:=by kernel_rfl
 rw[hd,AW hl]
theorem iI{n:Nat}{args:List Value}{h:Hp}(hl:Nat.ble (A9 args) 160=true):call AD (Nat.succ n) 30 args h=A2 [.t (AB 8)] (d30 (call AD n) (AQ e0 0 args) h):=by
 have hb:AD.get 30=some b30:=by kernel_rfl
 rw[Ai hb]
 have hd:b30=⟨[.t (AB 8)],d30⟩:=by kernel_rfl
 rw[hd,AW hl]
theorem iJ{n:Nat}{args:List Value}{h:Hp}(hl:Nat.ble (A9 args) 160=true):call AD (Nat.succ n) 35 args h=A2 [.t (AB 2),.t (AB 3)] (d35 (call AD n) (AQ e0 0 args) h):=by
 have hb:AD.get 35=some b35:=by kernel_rfl
 rw[Ai hb]
 have hd:b35=⟨[.t (AB 2),.t (AB 3)],d35⟩:=by kernel_rfl
 rw[hd,AW hl]
theorem iK{n:Nat}{args:List Value}{h:Hp}(hl:Nat.ble (A9 args) 160=true):call AD (Nat.succ n) 38 args h=A2 [.t (AB 2)] (d38 (call AD n) (AQ e0 0 args) h):=by
 have hb:AD.get 38=some b38:=by kernel_rfl
 rw[Ai hb]
 have hd:b38=⟨[.t (AB 2)],d38⟩:=by kernel_rfl
 rw[hd,AW hl]
theorem H5{n:Nat}{args:List Value}{h:Hp}(hl:Nat.ble (A9 args) 160=true):call AD (Nat.succ n) 39 args h=A2 [.t (AB 2)] (d39 (call AD n) (AQ e0 0 args) h):=by
 have hb:AD.get 39=some b39:=by kernel_rfl
 rw[Ai hb]
 have hd:b39=⟨[.t (AB 2)],d39⟩:=by kernel_rfl
 rw[hd,AW hl]
theorem iL{n:Nat}{args:List Value}{h:Hp}(hl:Nat.ble (A9 args) 160=true):call AD (Nat.succ n) 40 args h=A2 [.t (AB 2)] (d40 (call AD n) (AQ e0 0 args) h):=by
 have hb:AD.get 40=some b40:=by kernel_rfl
 rw[Ai hb]
 have hd:b40=⟨[.t (AB 2)],d40⟩:=by kernel_rfl
 rw[hd,AW hl]
theorem iM{n:Nat}{args:List Value}{h:Hp}(hl:Nat.ble (A9 args) 160=true):call AD (Nat.succ n) 41 args h=A2 [.t (AB 8)] (d41 (call AD n) (AQ e0 0 args) h):=by
 have hb:AD.get 41=some b41:=by kernel_rfl
 rw[Ai hb]
 have hd:b41=⟨[.t (AB 8)],d41⟩:=by kernel_rfl
 rw[hd,AW hl]
theorem RR{n:Nat}{args:List Value}{h:Hp}(hl:Nat.ble (A9 args) 160=true):call AD (Nat.succ n) 42 args h=A2 [.t (AB 4)] (d42 (call AD n) (AQ e0 0 args) h):=by
 have hb:AD.get 42=some b42:=by kernel_rfl
 rw[Ai hb]
 have hd:b42=⟨[.t (AB 4)],d42⟩:=by kernel_rfl
 rw[hd,AW hl]
theorem iO{n:Nat}{args:List Value}{h:Hp}(hl:Nat.ble (A9 args) 160=true):call AD (Nat.succ n) 43 args h=A2 [.t (AB 8)] (d43 (call AD n) (AQ e0 0 args) h):=by
 have hb:AD.get 43=some b43:=by kernel_rfl
 rw[Ai hb]
 have hd:b43=⟨[.t (AB 8)],d43⟩:=by kernel_rfl
 rw[hd,AW hl]
theorem WZ{n:Nat}{args:List Value}{h:Hp}(hl:Nat.ble (A9 args) 160=true):call AD (Nat.succ n) 44 args h=A2 [.t (AB 4),.t (AB 5)] (d44 (call AD n) (AQ e0 0 args) h):=by
 have hb:AD.get 44=some b44:=by kernel_rfl
 rw[Ai hb]
 have hd:b44=⟨[.t (AB 4),.t (AB 5)],d44⟩:=by kernel_rfl
 rw[hd,AW hl]
theorem iP{n:Nat}{args:List Value}{h:Hp}(hl:Nat.ble (A9 args) 160=true):call AD (Nat.succ n) 45 args h=A2 [.t (AB 6)] (d45 (call AD n) (AQ e0 0 args) h):=by
 have hb:AD.get 45=some b45:=by kernel_rfl
 rw[Ai hb]
 have hd:b45=⟨[.t (AB 6)],d45⟩:=by kernel_rfl
 rw[hd,AW hl]
theorem iQ{n:Nat}{args:List Value}{h:Hp}(hl:Nat.ble (A9 args) 160=true):call AD (Nat.succ n) 46 args h=A2 [.t (AB 4)] (d46 (call AD n) (AQ e0 0 args) h):=by
 have hb:AD.get 46=some b46:=by kernel_rfl
 rw[Ai hb]
 have hd:b46=⟨[.t (AB 4)],d46⟩:=by kernel_rfl
 rw[hd,AW hl]
theorem iR{n:Nat}{args:List Value}{h:Hp}(hl:Nat.ble (A9 args) 160=true):call AD (Nat.succ n) 47 args h=A2 [.t (AB 4)] (d47 (call AD n) (AQ e0 0 args) h):=by
 have hb:AD.get 47=some b47:=by kernel_rfl
 rw[Ai hb]
 have hd:b47=⟨[.t (AB 4)],d47⟩:=by kernel_rfl
 rw[hd,AW hl]
theorem Ja{n:Nat}{args:List Value}{h:Hp}(hl:Nat.ble (A9 args) 160=true):call AD (Nat.succ n) 48 args h=A2 [.t (AB 2)] (d48 (call AD n) (AQ e0 0 args) h):=by
 have hb:AD.get 48=some b48:=by kernel_rfl
 rw[Ai hb]
 have hd:b48=⟨[.t (AB 2)],d48⟩:=by kernel_rfl
 rw[hd,AW hl]
theorem RS{n:Nat}{args:List Value}{h:Hp}(hl:Nat.ble (A9 args) 160=true):call AD (Nat.succ n) 49 args h=A2 [.t (AB 2)] (d49 (call AD n) (AQ e0 0 args) h):=by
 have hb:AD.get 49=some b49:=by kernel_rfl
 rw[Ai hb]
 have hd:b49=⟨[.t (AB 2)],d49⟩:=by kernel_rfl
 rw[hd,AW hl]
theorem Wa{n:Nat}{args:List Value}{h:Hp}(hl:Nat.ble (A9 args) 160=true):call AD (Nat.succ n) 50 args h=A2 [] (d50 (call AD n) (AQ e0 0 args) h):=by
 have hb:AD.get 50=some b50:=by kernel_rfl
 rw[Ai hb]
 have hd:b50=⟨[],d50⟩:=by kernel_rfl
 rw[hd,AW hl]
theorem iS{n:Nat}{args:List Value}{h:Hp}(hl:Nat.ble (A9 args) 160=true):call AD (Nat.succ n) 51 args h=A2 [.t (AB 4)] (d51 (call AD n) (AQ e0 0 args) h):=by
 have hb:AD.get 51=some b51:=by kernel_rfl
 rw[Ai hb]
 have hd:b51=⟨[.t (AB 4)],d51⟩:=by kernel_rfl
 rw[hd,AW hl]
theorem iT{n:Nat}{args:List Value}{h:Hp}(hl:Nat.ble (A9 args) 160=true):call AD (Nat.succ n) 52 args h=A2 [.t (AB 4)] (d52 (call AD n) (AQ e0 0 args) h):=by
 have hb:AD.get 52=some b52:=by kernel_rfl
 rw[Ai hb]
 have hd:b52=⟨[.t (AB 4)],d52⟩:=by kernel_rfl
 rw[hd,AW hl]
theorem Wb{n:Nat}{args:List Value}{h:Hp}(hl:Nat.ble (A9 args) 160=true):call AD (Nat.succ n) 53 args h=A2 [.t (AB 4)] (d53 (call AD n) (AQ e0 0 args) h):=by
 have hb:AD.get 53=some b53:=by kernel_rfl
 rw[Ai hb]
 have hd:b53=⟨[.t (AB 4)],d53⟩:=by kernel_rfl
 rw[hd,AW hl]
theorem iU{n:Nat}{args:List Value}{h:Hp}(hl:Nat.ble (A9 args) 160=true):call AD (Nat.succ n) 54 args h=A2 [.t (AB 2)] (d54 (call AD n) (AQ e0 0 args) h):=by
 have hb:AD.get 54=some b54:=by kernel_rfl
 rw[Ai hb]
 have hd:b54=⟨[.t (AB 2)],d54⟩:=by kernel_rfl
 rw[hd,AW hl]
theorem iV{n:Nat}{args:List Value}{h:Hp}(hl:Nat.ble (A9 args) 160=true):call AD (Nat.succ n) 55 args h=A2 [.cN (AB 4) 6,.t (AB 5),.t (AB 6),.t (AB 7)] (d55 (call AD n) (AQ e0 0 args) h):=by
 have hb:AD.get 55=some b55:=by kernel_rfl
 rw[Ai hb]
 have hd:b55=⟨[.cN (AB 4) 6,.t (AB 5),.t (AB 6),.t (AB 7)],d55⟩:=by kernel_rfl
 rw[hd,AW hl]
theorem iW{n:Nat}{args:List Value}{h:Hp}(hl:Nat.ble (A9 args) 160=true):call AD (Nat.succ n) 56 args h=A2 [.t (AB 2)] (d56 (call AD n) (AQ e0 0 args) h):=by
 have hb:AD.get 56=some b56:=by kernel_rfl
 rw[Ai hb]
 have hd:b56=⟨[.t (AB 2)],d56⟩:=by kernel_rfl
 rw[hd,AW hl]
theorem iX{n:Nat}{args:List Value}{h:Hp}(hl:Nat.ble (A9 args) 160=true):call AD (Nat.succ n) 57 args h=A2 [.t (AB 2)] (d57 (call AD n) (AQ e0 0 args) h):=by
 have hb:AD.get 57=some b57:=by kernel_rfl
 rw[Ai hb]
 have hd:b57=⟨[.t (AB 2)],d57⟩:=by kernel_rfl
 rw[hd,AW hl]
theorem iY{n:Nat}{args:List Value}{h:Hp}(hl:Nat.ble (A9 args) 160=true):call AD (Nat.succ n) 58 args h=A2 [.t (AB 2)] (d58 (call AD n) (AQ e0 0 args) h):=by
 have hb:AD.get 58=some b58:=by kernel_rfl
 rw[Ai hb]
 have hd:b58=⟨[.t (AB 2)],d58⟩:=by kernel_rfl
 rw[hd,AW hl]
theorem iZ{n:Nat}{args:List Value}{h:Hp}(hl:Nat.ble (A9 args) 160=true):call AD (Nat.succ n) 59 args h=A2 [.t (AB 2)] (d59 (call AD n) (AQ e0 0 args) h):=by
 have hb:AD.get 59=some b59:=by kernel_rfl
 rw[Ai hb]
 have hd:b59=⟨[.t (AB 2)],d59⟩:=by kernel_rfl
 rw[hd,AW hl]
theorem ia{n:Nat}{args:List Value}{h:Hp}(hl:Nat.ble (A9 args) 160=true):call AD (Nat.succ n) 60 args h=A2 [.t (AB 3)] (d60 (call AD n) (AQ e0 0 args) h):=by
 have hb:AD.get 60=some b60:=by kernel_rfl
 rw[Ai hb]
 have hd:b60=⟨[.t (AB 3)],d60⟩:=by kernel_rfl
 rw[hd,AW hl]
theorem ib{n:Nat}{args:List Value}{h:Hp}(hl:Nat.ble (A9 args) 160=true):call AD (Nat.succ n) 61 args h=A2 [.t (AB 4)] (d61 (call AD n) (AQ e0 0 args) h):=by
 have hb:AD.get 61=some b61:=by kernel_rfl
 rw[Ai hb]
 have hd:b61=⟨[.t (AB 4)],d61⟩:=by kernel_rfl
 rw[hd,AW hl]
theorem ic{n:Nat}{args:List Value}{h:Hp}(hl:Nat.ble (A9 args) 160=true):call AD (Nat.succ n) 62 args h=A2 [.t (AB 3)] (d62 (call AD n) (AQ e0 0 args) h):=by
 have hb:AD.get 62=some b62:=by kernel_rfl
 rw[Ai hb]
 have hd:b62=⟨[.t (AB 3)],d62⟩:=by kernel_rfl
 rw[hd,AW hl]
theorem ie{n:Nat}{args:List Value}{h:Hp}(hl:Nat.ble (A9 args) 160=true):call AD (Nat.succ n) 63 args h=A2 [.t (AB 4)] (d63 (call AD n) (AQ e0 0 args) h):=by
 have hb:AD.get 63=some b63:=by kernel_rfl
 rw[Ai hb]
 have hd:b63=⟨[.t (AB 4)],d63⟩:=by kernel_rfl
 rw[hd,AW hl]
theorem ig{n:Nat}{args:List Value}{h:Hp}(hl:Nat.ble (A9 args) 160=true):call AD (Nat.succ n) 64 args h=A2 [.t (AB 6)] (d64 (call AD n) (AQ e0 0 args) h):=by
 have hb:AD.get 64=some b64:=by kernel_rfl
 rw[Ai hb]
 have hd:b64=⟨[.t (AB 6)],d64⟩:=by kernel_rfl
 rw[hd,AW hl]
theorem ii{n:Nat}{args:List Value}{h:Hp}(hl:Nat.ble (A9 args) 160=true):call AD (Nat.succ n) 65 args h=A2 [.cN (AB 2) 5] (d65 (call AD n) (AQ e0 0 args) h):=by
 have hb:AD.get 65=some b65:=by kernel_rfl
 rw[Ai hb]
 have hd:b65=⟨[.cN (AB 2) 5],d65⟩:=by kernel_rfl
 rw[hd,AW hl]
theorem ij{n:Nat}{args:List Value}{h:Hp}(hl:Nat.ble (A9 args) 160=true):call AD (Nat.succ n) 68 args h=A2 [.t (AB 4)] (d68 (call AD n) (AQ e0 0 args) h):=by
 have hb:AD.get 68=some b68:=by kernel_rfl
 rw[Ai hb]
 have hd:b68=⟨[.t (AB 4)],d68⟩:=by kernel_rfl
 rw[hd,AW hl]
theorem Wc{n:Nat}{args:List Value}{h:Hp}(hl:Nat.ble (A9 args) 160=true):call AD (Nat.succ n) 69 args h=A2 [.t (AB 4)] (d69 (call AD n) (AQ e0 0 args) h):=by
 have hb:AD.get 69=some b69:=by kernel_rfl
 rw[Ai hb]
 have hd:b69=⟨[.t (AB 4)],d69⟩:=by kernel_rfl
 rw[hd,AW hl]
theorem ik{n:Nat}{args:List Value}{h:Hp}(hl:Nat.ble (A9 args) 160=true):call AD (Nat.succ n) 70 args h=A2 [.t (AB 5)] (d70 (call AD n) (AQ e0 0 args) h):=by
 have hb:AD.get 70=some b70:=by kernel_rfl
 rw[Ai hb]
 have hd:b70=⟨[.t (AB 5)],d70⟩:=by kernel_rfl
 rw[hd,AW hl]
theorem im{n:Nat}{args:List Value}{h:Hp}(hl:Nat.ble (A9 args) 160=true):call AD (Nat.succ n) 71 args h=A2 [.t (AB 4)] (d71 (call AD n) (AQ e0 0 args) h):=by
 have hb:AD.get 71=some b71:=by kernel_rfl
 rw[Ai hb]
 have hd:b71=⟨[.t (AB 4)],d71⟩:=by kernel_rfl
 rw[hd,AW hl]
theorem io{n:Nat}{args:List Value}{h:Hp}(hl:Nat.ble (A9 args) 160=true):call AD (Nat.succ n) 72 args h=A2 [.t (AB 4)] (d72 (call AD n) (AQ e0 0 args) h):=by
 have hb:AD.get 72=some b72:=by kernel_rfl
 rw[Ai hb]
 have hd:b72=⟨[.t (AB 4)],d72⟩:=by kernel_rfl
 rw[hd,AW hl]
theorem ip{n:Nat}{args:List Value}{h:Hp}(hl:Nat.ble (A9 args) 160=true):call AD (Nat.succ n) 73 args h=A2 [.t (AB 4)] (d73 (call AD n) (AQ e0 0 args) h):=by
 have hb:AD.get 73=some b73:=by kernel_rfl
 rw[Ai hb]
 have hd:b73=⟨[.t (AB 4)],d73⟩:=by kernel_rfl
 rw[hd,AW hl]
theorem iq{n:Nat}{args:List Value}{h:Hp}(hl:Nat.ble (A9 args) 160=true):call AD (Nat.succ n) 74 args h=A2 [.t (AB 3)] (d74 (call AD n) (AQ e0 0 args) h):=by
 have hb:AD.get 74=some b74:=by kernel_rfl
 rw[Ai hb]
 have hd:b74=⟨[.t (AB 3)],d74⟩:=by kernel_rfl
 rw[hd,AW hl]
theorem ir{n:Nat}{args:List Value}{h:Hp}(hl:Nat.ble (A9 args) 160=true):call AD (Nat.succ n) 75 args h=A2 [.t (AB 6)] (d75 (call AD n) (AQ e0 0 args) h):=by
 have hb:AD.get 75=some b75:=by kernel_rfl
 rw[Ai hb]
 have hd:b75=⟨[.t (AB 6)],d75⟩:=by kernel_rfl
 rw[hd,AW hl]
theorem iu{n:Nat}{args:List Value}{h:Hp}(hl:Nat.ble (A9 args) 160=true):call AD (Nat.succ n) 76 args h=A2 [.t (AB 2)] (d76 (call AD n) (AQ e0 0 args) h):=by
 have hb:AD.get 76=some b76:=by kernel_rfl
 rw[Ai hb]
 have hd:b76=⟨[.t (AB 2)],d76⟩:=by kernel_rfl
 rw[hd,AW hl]
theorem Wd{n:Nat}{args:List Value}{h:Hp}(hl:Nat.ble (A9 args) 160=true):call AD (Nat.succ n) 77 args h=A2 [] (d77 (call AD n) (AQ e0 0 args) h):=by
 have hb:AD.get 77=some b77:=by kernel_rfl
 rw[Ai hb]
 have hd:b77=⟨[],d77⟩:=by kernel_rfl
 rw[hd,AW hl]
theorem iw{n:Nat}{args:List Value}{h:Hp}(hl:Nat.ble (A9 args) 160=true):call AD (Nat.succ n) 78 args h=A2 [.t (AB 2)] (d78 (call AD n) (AQ e0 0 args) h):=by
 have hb:AD.get 78=some b78:=by kernel_rfl
 rw[Ai hb]
 have hd:b78=⟨[.t (AB 2)],d78⟩:=by kernel_rfl
 rw[hd,AW hl]
theorem We{n:Nat}{args:List Value}{h:Hp}(hl:Nat.ble (A9 args) 160=true):call AD (Nat.succ n) 79 args h=A2 [.t (AB 2)] (d79 (call AD n) (AQ e0 0 args) h):=by
 have hb:AD.get 79=some b79:=by kernel_rfl
 rw[Ai hb]
 have hd:b79=⟨[.t (AB 2)],d79⟩:=by kernel_rfl
 rw[hd,AW hl]
theorem iz{n:Nat}{args:List Value}{h:Hp}(hl:Nat.ble (A9 args) 160=true):call AD (Nat.succ n) 80 args h=A2 [.t (AB 4)] (d80 (call AD n) (AQ e0 0 args) h):=by
 have hb:AD.get 80=some b80:=by kernel_rfl
 rw[Ai hb]
 have hd:b80=⟨[.t (AB 4)],d80⟩:=by kernel_rfl
 rw[hd,AW hl]
theorem i6{n:Nat}{args:List Value}{h:Hp}(hl:Nat.ble (A9 args) 160=true):call AD (Nat.succ n) 81 args h=A2 [.t (AB 6)] (d81 (call AD n) (AQ e0 0 args) h):=by
 have hb:AD.get 81=some b81:=by kernel_rfl
 rw[Ai hb]
 have hd:b81=⟨[.t (AB 6)],d81⟩:=by kernel_rfl
 rw[hd,AW hl]
theorem i9{n:Nat}{args:List Value}{h:Hp}(hl:Nat.ble (A9 args) 160=true):call AD (Nat.succ n) 83 args h=A2 [.t (AB 2)] (d83 (call AD n) (AQ e0 0 args) h):=by
 have hb:AD.get 83=some b83:=by kernel_rfl
 rw[Ai hb]
 have hd:b83=⟨[.t (AB 2)],d83⟩:=by kernel_rfl
 rw[hd,AW hl]
theorem jA{n:Nat}{args:List Value}{h:Hp}(hl:Nat.ble (A9 args) 160=true):call AD (Nat.succ n) 84 args h=A2 [.t (AB 4),.t (AB 5)] (d84 (call AD n) (AQ e0 0 args) h):=by
 have hb:AD.get 84=some b84:=by kernel_rfl
 rw[Ai hb]
 have hd:b84=⟨[.t (AB 4),.t (AB 5)],d84⟩:=by kernel_rfl
 rw[hd,AW hl]
theorem Nz{n:Nat}{args:List Value}{h:Hp}(hl:Nat.ble (A9 args) 160=true):call AD (Nat.succ n) 85 args h=A2 [.t (AB 4)] (d85 (call AD n) (AQ e0 0 args) h):=by
 have hb:AD.get 85=some b85:=by kernel_rfl
 rw[Ai hb]
 have hd:b85=⟨[.t (AB 4)],d85⟩:=by kernel_rfl
 rw[hd,AW hl]
theorem jB{n:Nat}{args:List Value}{h:Hp}(hl:Nat.ble (A9 args) 160=true):call AD (Nat.succ n) 86 args h=A2 [.t (AB 2)] (d86 (call AD n) (AQ e0 0 args) h):=by
 have hb:AD.get 86=some b86:=by kernel_rfl
 rw[Ai hb]
 have hd:b86=⟨[.t (AB 2)],d86⟩:=by kernel_rfl
 rw[hd,AW hl]
theorem LQ{n:Nat}{args:List Value}{h:Hp}(hl:Nat.ble (A9 args) 160=true):call AD (Nat.succ n) 87 args h=A2 [.cN (AB 4) 5,.t (AB 5),.t (AB 6),.t (AB 7)] (d87 (call AD n) (AQ e0 0 args) h):=by
 have hb:AD.get 87=some b87:=by kernel_rfl
 rw[Ai hb]
 have hd:b87=⟨[.cN (AB 4) 5,.t (AB 5),.t (AB 6),.t (AB 7)],d87⟩:=by kernel_rfl
 rw[hd,AW hl]
theorem Wi{n:Nat}{args:List Value}{h:Hp}(hl:Nat.ble (A9 args) 160=true):call AD (Nat.succ n) 88 args h=A2 [.t (AB 6),.t (AB 7)] (d88 (call AD n) (AQ e0 0 args) h):=by
 have hb:AD.get 88=some b88:=by kernel_rfl
 rw[Ai hb]
 have hd:b88=⟨[.t (AB 6),.t (AB 7)],d88⟩:=by kernel_rfl
 rw[hd,AW hl]
theorem jC{n:Nat}{args:List Value}{h:Hp}(hl:Nat.ble (A9 args) 160=true):call AD (Nat.succ n) 89 args h=A2 [.t (AB 3)] (d89 (call AD n) (AQ e0 0 args) h):=by
 have hb:AD.get 89=some b89:=by kernel_rfl
 rw[Ai hb]
 have hd:b89=⟨[.t (AB 3)],d89⟩:=by kernel_rfl
 rw[hd,AW hl]
theorem jD{n:Nat}{args:List Value}{h:Hp}(hl:Nat.ble (A9 args) 160=true):call AD (Nat.succ n) 90 args h=A2 [.t (AB 3)] (d90 (call AD n) (AQ e0 0 args) h):=by
 have hb:AD.get 90=some b90:=by kernel_rfl
 rw[Ai hb]
 have hd:b90=⟨[.t (AB 3)],d90⟩:=by kernel_rfl
 rw[hd,AW hl]
theorem jE{n:Nat}{args:List Value}{h:Hp}(hl:Nat.ble (A9 args) 160=true):call AD (Nat.succ n) 91 args h=A2 [.t (AB 4)] (d91 (call AD n) (AQ e0 0 args) h):=by
 have hb:AD.get 91=some b91:=by kernel_rfl
 rw[Ai hb]
 have hd:b91=⟨[.t (AB 4)],d91⟩:=by kernel_rfl
 rw[hd,AW hl]
theorem jF{n:Nat}{args:List Value}{h:Hp}(hl:Nat.ble (A9 args) 160=true):call AD (Nat.succ n) 92 args h=A2 [.t (AB 4)] (d92 (call AD n) (AQ e0 0 args) h):=by
 have hb:AD.get 92=some b92:=by kernel_rfl
 rw[Ai hb]
 have hd:b92=⟨[.t (AB 4)],d92⟩:=by kernel_rfl
 rw[hd,AW hl]
theorem jG{n:Nat}{args:List Value}{h:Hp}(hl:Nat.ble (A9 args) 160=true):call AD (Nat.succ n) 95 args h=A2 [.t (AB 4)] (d95 (call AD n) (AQ e0 0 args) h):=by
 have hb:AD.get 95=some b95:=by kernel_rfl
 rw[Ai hb]
 have hd:b95=⟨[.t (AB 4)],d95⟩:=by kernel_rfl
 rw[hd,AW hl]
theorem jH{n:Nat}{args:List Value}{h:Hp}(hl:Nat.ble (A9 args) 160=true):call AD (Nat.succ n) 96 args h=A2 [.t (AB 2)] (d96 (call AD n) (AQ e0 0 args) h):=by
 have hb:AD.get 96=some b96:=by kernel_rfl
 rw[Ai hb]
 have hd:b96=⟨[.t (AB 2)],d96⟩:=by kernel_rfl
 rw[hd,AW hl]
theorem Wj{n:Nat}{args:List Value}{h:Hp}(hl:Nat.ble (A9 args) 160=true):call AD (Nat.succ n) 97 args h=A2 [] (d97 (call AD n) (AQ e0 0 args) h):=by
 have hb:AD.get 97=some b97:=by kernel_rfl
 rw[Ai hb]
 have hd:b97=⟨[],d97⟩:=by kernel_rfl
 rw[hd,AW hl]
theorem Zw{n:Nat}{args:List Value}{h:Hp}(hl:Nat.ble (A9 args) 160=true):call AD (Nat.succ n) 106 args h=A2 [.t (AB 2)] (aD (call AD n) (AQ e0 0 args) h):=by
 have hb:AD.get 106=some UW:=by kernel_rfl
 rw[Ai hb]
 have hd:UW=⟨[.t (AB 2)],aD⟩:=by kernel_rfl
 rw[hd,AW hl]
theorem St{n:Nat}{args:List Value}{h:Hp}(hl:Nat.ble (A9 args) 160=true):call AD (Nat.succ n) 107 args h=A2 [.t (AB 2)] (Ww (call AD n) (AQ e0 0 args) h):=by
 have hb:AD.get 107=some UX:=by kernel_rfl
 rw[Ai hb]
 have hd:UX=⟨[.t (AB 2)],Ww⟩:=by kernel_rfl
 rw[hd,AW hl]
theorem Kl{n:Nat}{args:List Value}{h:Hp}(hl:Nat.ble (A9 args) 160=true):call AD (Nat.succ n) 109 args h=A2 [.t (AB 4)] (aG (call AD n) (AQ e0 0 args) h):=by
 have hb:AD.get 109=some UZ:=by kernel_rfl
 rw[Ai hb]
 have hd:UZ=⟨[.t (AB 4)],aG⟩:=by kernel_rfl
 rw[hd,AW hl]
theorem Ny{n:Nat}{args:List Value}{h:Hp}(hl:Nat.ble (A9 args) 160=true):call AD (Nat.succ n) 110 args h=A2 [.t (AB 4),.t (AB 5)] (Un (call AD n) (AQ e0 0 args) h):=by
 have hb:AD.get 110=some Ua:=by kernel_rfl
 rw[Ai hb]
 have hd:Ua=⟨[.t (AB 4),.t (AB 5)],Un⟩:=by kernel_rfl
 rw[hd,AW hl]
theorem Su{n:Nat}{args:List Value}{h:Hp}(hl:Nat.ble (A9 args) 160=true):call AD (Nat.succ n) 111 args h=A2 [.t (AB 4),.t (AB 5),.t (AB 6)] (aH (call AD n) (AQ e0 0 args) h):=by
 have hb:AD.get 111=some Ub:=by kernel_rfl
 rw[Ai hb]
 have hd:Ub=⟨[.t (AB 4),.t (AB 5),.t (AB 6)],aH⟩:=by kernel_rfl
 rw[hd,AW hl]
theorem Zy{n:Nat}{args:List Value}{h:Hp}(hl:Nat.ble (A9 args) 160=true):call AD (Nat.succ n) 112 args h=A2 [.t (AB 2)] (aI (call AD n) (AQ e0 0 args) h):=by
 have hb:AD.get 112=some Uc:=by kernel_rfl
 rw[Ai hb]
 have hd:Uc=⟨[.t (AB 2)],aI⟩:=by kernel_rfl
 rw[hd,AW hl]
end
set_option linter.unusedVariables false
set_option linter.unusedSimpArgs false
noncomputable section
open Go
set_option maxRecDepth 100000
theorem ee:BJ ty5.zero 1=[.int .u8 0]:=by kernel_rfl
theorem jb:d72=AH (AC 4) (AE (kV (.slice none 0 0))) (BG (Ac 0 (Ax Md)) ZM):=rfl
theorem Vx{F:CallF}{h0 h:Hp}{k:Nat}(x0:h0.Ext h)(hk:h0.next≤k)(hk2:k≤h.next){v:Value}{l:List Nat}(o:h.Own k 5 v (l.map bv))(hl:l.length≤1000000){N:Nat}(hN:N<18446744073709551616){e:Env}(s0:AB 0 e=v)(s1:AB 1 e=.int .u64 (N:Int)):
  ∃ e' h' v' xs m,Ax Md F e h=.exit 0 e' h'∧AB 0 e'=v'∧AB 1 e'=.int .u64 ((m:Nat):Int)∧m<128∧l++Bz N=xs++[m]∧h0.Ext h'∧h'.Own k 5 v' (xs.map bv)∧h.next≤h'.next∧(∀ b el L,¬ blkV v b→h.Row b el L→h'.Row b el L∧¬ blkV v' b):=by
 have hten:=J6 hN
 refine BZ (I:=fun i e' h'=>∃ v' xs m,AB 0 e'=v'∧AB 1 e'=.int .u64 ((m:Nat):Int)∧m<18446744073709551616∧l++Bz N=xs++Bz m∧i+(Bz m).length=(Bz N).length∧h0.Ext h'∧h'.Own k 5 v' (xs.map bv)∧h.next≤h'.next∧(∀ b el L,¬ blkV v b→h.Row b el L→h'.Row b el L∧¬ blkV v' b))
  (Q:=fun x=>∃ e' h' v' xs m,x=.exit 0 e' h'∧AB 0 e'=v'∧AB 1 e'=.int .u64 ((m:Nat):Int)∧m<128∧l++Bz N=xs++[m]∧h0.Ext h'∧h'.Own k 5 v' (xs.map bv)∧h.next≤h'.next∧(∀ b el L,¬ blkV v b→h.Row b el L→h'.Row b el L∧¬ blkV v' b)) 20 (by omega) (fun i e' h' ⟨v',xs,m,t0,t1,hm,hx,hi,x1,o1,hn,fr⟩=>?_)
  ⟨v,l,N,s0,s1,hN,rfl,Nat.zero_add _,x0,o,Nat.le_refl _,fun b el L hb r=>⟨r,hb⟩⟩
 have hlen:=congrArg List.length hx
 rw[List.length_append,List.length_append]at hlen
 by_cases h1:m<128
 ·right
  have c1:iGt (m:Int) 127=false:=by rw[Gx];simp;omega
  have hrun:Md F e' h'=.exit 0 (Env.set 6 (.bool false) e') h':=by
   unfold Md
   simp only[sT,Nat.reduceLT,Nat.reduceEqDiff,reduceIte,AL,AK,t1,c1]
  rw[hrun]
  refine⟨rfl,_,_,v',xs,m,rfl,by simp[AG,t0],by simp[AG,t1],h1,?_,x1,o1,hn,fr⟩
  rw[hx,Eh h1]
 ·left
  have W:=x1.wf
  have c1:iGt (m:Int) 127=true:=by rw[Gx];simp;omega
  have r1:Yt .u64 (.int .u64 (m:Int)) (.int .u64 128) h'=.ok (.int .u64 ((m % 128:Nat):Int)) h':=by rw[Tw (by omega)];rfl
  have a1:FK .u64 (.int .u64 ((m % 128:Nat):Int)) (.int .u64 128) h'=.ok (.int .u64 ((m % 128+128:Nat):Int)) h':=by
   have:IntKind.u64.wrap (((m % 128:Nat):Int)+128)=((m % 128+128:Nat):Int):=by
    rw[show((m % 128:Nat):Int)+128=((m % 128+128:Nat):Int)by omega];exact D7 (by omega)
   rw[ES,this]
  have v1:DR .u8 (.int .u64 ((m % 128+128:Nat):Int)) h'=.ok (.int .u8 ((m % 128+128:Nat):Int)) h':=by
   rw[Ck,Hn,Nat.mod_eq_of_lt (show m % 128+128<256 by omega)]
  have os:∀ e,AB 11 e=.int .u8 ((m % 128+128:Nat):Int)→Ah 1 (BJ ty5.zero 1) [(0,1,AB 11)] F e h'=.ok (.slice (some ⟨h'.next,0,none⟩) 1 1) (h'.pushRow 0 [.int .u8 ((m % 128+128:Nat):Int)]):=fun e he=>by rw[ee];exact Hh W he rfl rfl
  have hpos:=Vv (m / 128)
  rw[GF (n:=m) (by omega)]at hi hlen hx
  rw[List.length_cons]at hi hlen
  obtain⟨h2,v2,a2,x2,o2,hn2,fr2⟩:=I8 (eb:=1) (n:=((m % 128+128:Nat):Int)) (kd:=.u8) x1 hk (Nat.le_trans hk2 hn) o1 (by rw[List.length_map];omega)
  have d1:Re .u64 (.int .u64 (m:Int)) (.int .u64 128) h2=.ok (.int .u64 ((m / 128:Nat):Int)) h2:=by
   have:IntKind.u64.wrap ((m:Int).tdiv 128)=((m / 128:Nat):Int):=D7 (n:=m / 128) (by omega)
   rw[Kn (by omega),this]
  have hrun:∃ e2,Md F e' h'=.norm e2 h2∧AB 0 e2=v2∧AB 1 e2=.int .u64 ((m / 128:Nat):Int):=by
   unfold Md
   simp only[sT,Nat.reduceLT,Nat.reduceEqDiff,reduceIte,AL,AK,t1,c1,OW,r1,BK,a1,CJ,v1,os,BE,t0,a2,I5,d1]
   exact⟨_,rfl,by simp[AG]⟩
  obtain⟨e2,b1,b2,b3⟩:=hrun
  refine⟨by omega,e2,h2,b1,v2,xs++[m % 128+128],m / 128,b2,b3,by omega,?_,by omega,x2,?_,by omega,fun b el L hb r=>?_⟩
  ·rw[hx];simp
  ·rw[List.map_append];exact o2
  ·obtain⟨r1,r2⟩:=fr b el L hb r
   exact fr2 b el L r2 r1
theorem dq{n:Nat}{h0 h:Hp}{k:Nat}(x0:h0.Ext h)(hk:h0.next≤k)(hk2:k≤h.next){v:Value}{l:List Nat}(o:h.Own k 5 v (l.map bv))(hl:l.length≤1000000){N:Nat}(hN:N<18446744073709551616):
  ∃ h' v',call AD (n+1) 72 [v,.int .u64 (N:Int)] h=.ok v' h'∧h0.Ext h'∧h'.Own k 5 v' ((l++Bz N).map bv)∧h.next≤h'.next∧(∀ b el L,¬ blkV v b→h.Row b el L→h'.Row b el L∧¬ blkV v' b):=by
 obtain⟨e1,h1,v1,xs,m,q1,s0,s1,hm,hx,x1,o1,hn,fr⟩:=Vx (F:=call AD n) x0 hk hk2 o hl hN (e:=Env.set 4 (.slice none 0 0) (Env.set 1 (.int .u64 (N:Int)) (Env.set 0 v e0))) (by simp[AG]) (by simp[AG])
 have W:=x1.wf
 have hten:=J6 hN
 have hlen:=congrArg List.length hx
 rw[List.length_append,List.length_append,List.length_singleton]at hlen
 have c1:DR .u8 (.int .u64 (m:Int)) h1=.ok (.int .u8 (m:Int)) h1:=by
  rw[Ck,Hn,Nat.mod_eq_of_lt (show m<256 by omega)]
 have os:∀ e,AB 18 e=.int .u8 (m:Int)→Ah 1 (BJ ty5.zero 1) [(0,1,AB 18)] (call AD n) e h1=.ok (.slice (some ⟨h1.next,0,none⟩) 1 1) (h1.pushRow 0 [.int .u8 (m:Int)]):=fun e he=>by rw[ee];exact Hh W he rfl rfl
 obtain⟨h2,v2,a2,x2,o2,hn2,fr2⟩:=I8 (eb:=1) (n:=(m:Int)) (kd:=.u8) x1 hk (Nat.le_trans hk2 hn) o1 (by rw[List.length_map];omega)
 refine⟨h2,v2,?_,x2,?_,by omega,fun b el L hb r=>?_⟩
 ·rw[io rfl,jb]
  simp only[iN,Nat.reduceAdd,AG,Nat.reduceLT,Nat.reduceEqDiff,reduceIte,GJ,GQ,Dx,G1,BH,Aw]
  rw[q1]
  simp only[A1,BB]
  unfold ZM
  simp only[sT,Nat.reduceLT,Nat.reduceEqDiff,reduceIte,CJ,s1,c1,os,BE,s0,a2,lV0]
 ·rw[hx,List.map_append];exact o2
 ·obtain⟨r1,r2⟩:=fr b el L hb r
  exact fr2 b el L r2 r1
def ef(l:List Nat)(p:Nat)(a b c:Int):Prop:=(∃ v j:Nat,FP 0 0 (l.drop p)=some (v,j)∧a=(v:Int)∧b=((p+j:Nat):Int)∧c=0)∨(FP 0 0 (l.drop p)=none∧c≠0)
def N8:C:=(AV (AB 46)
(AH (AC 4) (AE (kV (.int .u64 0)))
(AH (AC 5) (AE (kV (.int .i64 0)))
(AH (AC 6) (AE (kV (.int .i64 10)))
Ap)))
(AH (AC 49) (QO .u8 (AB 9) (kV (.int .u8 128)))
(AH (AC 50) (Cn .u64 (AB 49))
(AH (AC 52) (Cg Int.mul .i64 (kV (.int .i64 7)) (AB 10))
(AH (AC 53) (Mo .u64 (AB 50) (AB 52))
(AH (AC 54) (CC .u64 (A7 .u64) (AB 7) (AB 53))
(AH (AC 7) (AE (AB 54))
(AH (AC 56) (Ad iLt .u8 (AB 9) (kV (.int .u8 128)))
(AV (AB 56)
(AH (AC 59) (CC .i64 (A7 .i64) (AB 8) (kV (.int .i64 1)))
(AH (AC 4) (AE (AB 7))
(AH (AC 5) (AE (AB 59))
(AH (AC 6) (AE (kV (.int .i64 0)))
Ap))))
Ar)))))))))
def jv(K:C):C:=(AH (AC 34) (Ad iGt .i64 (AB 10) (kV (.int .i64 0)))
(cG (AB 34) true (AC 36) (AE (AB 9))
(cG (AB 34) true (AC 37) (Ad iEq .u8 (AB 36) (kV (.int .u8 0)))
(AH (AC 38) (Av (AB 34) (AB 37) (kV (.bool false)))
(cG (AB 38) false (AC 40) (AE (AB 10))
(cG (AB 38) false (AC 41) (Ad iGt .i64 (AB 40) (kV (.int .i64 8)))
(cG (AB 38) false (AC 42) (AE (AB 41))
(cG (AB 42) true (AC 43) (AE (AB 9))
(cG (AB 42) true (AC 44) (Ad iGt .u8 (AB 43) (kV (.int .u8 1)))
(cG (AB 38) false (AC 45) (Av (AB 42) (AB 44) (kV (.bool false)))
(AH (AC 46) (Av (AB 38) (kV (.bool true)) (AB 45))
K)))))))))))
theorem TC:Pa=AH (AC 22) (Bi (AB 0)) (AH (AC 23) (Ad iLt .i64 (AB 8) (AB 22)) (AV (AB 23) (BG (Ac 1 (AH (AC 28) (CA 1 (AB 0) (AB 8)) (AH (AC 29) (AO (AB 28)) (AH (AC 32) (Cg Int.sub .i64 (AB 8) (AB 1)) (AH (AC 9) (AE (AB 29)) (AH (AC 10) (AE (AB 32)) (jv N8))))))) (AH (AC 25) (CC .i64 (A7 .i64) (AB 8) (kV (.int .i64 1))) (AH (AC 8) (AE (AB 25)) Ar))) (B9 0))):=rfl
theorem bG{K:C}{F:CallF}{h:Hp}{e:Env}{c i:Nat}{b1 b2 b3 b4:Bool}(s9:AB 9 e=.int .u8 (c:Int))(s10:AB 10 e=.int .i64 (i:Int))(i1:iGt (i:Int) 0=b1)(i2:iEq (c:Int) 0=b2)(i3:iGt (i:Int) 8=b3)(i4:iGt (c:Int) 1=b4):
  ∃ e',jv K F e h=K F e' h∧AB 46 e'=.bool ((b1 && b2) || (b3 && b4))∧AB 0 e'=AB 0 e∧AB 1 e'=AB 1 e∧AB 7 e'=AB 7 e∧AB 8 e'=AB 8 e∧AB 9 e'=AB 9 e∧AB 10 e'=AB 10 e:=by
 unfold jv
 cases b1<;>cases b2<;>cases b3<;>cases b4<;>
 ·simp only[sT,Nat.reduceLT,Nat.reduceEqDiff,reduceIte,gD,AL,AK,s9,s10,i1,i2,i3,i4]
  exact⟨_,rfl,by simp[AG],by simp[AG],by simp[AG],by simp[AG],by simp[AG],by simp only[AG,Nat.reduceLT,Nat.reduceEqDiff,reduceIte,s9],by simp only[AG,Nat.reduceLT,Nat.reduceEqDiff,reduceIte,s10]⟩
theorem Qd{i:Nat}(hi:i≤9):2 ^ (7 * i)≤9223372036854775808:=by
 have:2 ^ (7 * i)≤2 ^ 63:=Nat.pow_le_pow_right (by omega) (by omega)
 have e:(2:Nat) ^ 63=9223372036854775808:=rfl
 omega
theorem Xb{F:CallF}{h:Hp}{u:Value}{l:List Nat}{p:Nat}(V:h.Vals u (l.map bv))(hb:∀ x∈l,x<256)(hp:p≤l.length)(hl:l.length≤1000000){e:Env}(s0:AB 0 e=u)(s1:AB 1 e=.int .i64 (p:Int))(s7:AB 7 e=.int .u64 0)(s8:AB 8 e=.int .i64 (p:Int)):
  (∃ e',Ax Pa F e h=.exit 0 e' h∧FP 0 0 (l.drop p)=none)∨(∃ e' a b c,Ax Pa F e h=.ret e' h∧AB 4 e'=.int .u64 a∧AB 5 e'=.int .i64 b∧AB 6 e'=.int .i64 c∧ef l p a b c):=by
 have Vl:lenSR u h=.ok (.int .i64 (l.length:Int)) h:=by have:=V.len;rwa [List.length_map]at this
 refine BZ (I:=fun i e' h'=>h'=h∧∃ acc:Nat,AB 0 e'=u∧AB 1 e'=.int .i64 (p:Int)∧AB 7 e'=.int .u64 (acc:Int)∧AB 8 e'=.int .i64 ((p+i:Nat):Int)∧acc<2 ^ (7 * i)∧i≤9∧p+i≤l.length∧FP 0 0 (l.drop p)=FP i acc (l.drop (p+i)))
  (Q:=fun x=>(∃ e',x=.exit 0 e' h∧FP 0 0 (l.drop p)=none)∨(∃ e' a b c,x=.ret e' h∧AB 4 e'=.int .u64 a∧AB 5 e'=.int .i64 b∧AB 6 e'=.int .i64 c∧ef l p a b c)) 20 (by omega) (fun i e' h' ⟨hh,acc,t0,t1,t7,t8,hacc,hi9,hpi,hu⟩=>?_)
  ⟨rfl,0,s0,s1,s7,s8,by decide,by omega,hp,rfl⟩
 subst hh
 by_cases hlt:p+i<l.length
 ·have hc:l.getD (p+i) 0<256:=hb _ (by rw[List.getD_eq_getElem?_getD,List.getElem?_eq_getElem hlt];exact List.getElem_mem hlt)
  have hd:l.drop (p+i)=l.getD (p+i) 0::l.drop (p+i+1):=by
   rw[List.drop_eq_getElem_cons hlt,List.getD_eq_getElem?_getD,List.getElem?_eq_getElem hlt];rfl
  have hel:(l.map bv).getD (p+i) noRes=.int .u8 ((l.getD (p+i) 0:Nat):Int):=by
   rw[List.getD_eq_getElem?_getD,List.getElem?_map,List.getD_eq_getElem?_getD,List.getElem?_eq_getElem hlt];rfl
  obtain⟨a,g1,g2⟩:=V.at (i:=p+i) (by rw[List.length_map];exact hlt)
  rw[hel]at g2
  rw[hd]at hu
  generalize l.getD (p+i) 0=c at hc g2 hu
  have c1:iLt ((p+i:Nat):Int) (l.length:Int)=true:=by rw[Cr];simp;omega
  have a2:Fl Int.sub .i64 (.int .i64 ((p+i:Nat):Int)) (.int .i64 (p:Int)) h'=.ok (.int .i64 (i:Int)) h':=by
   have:Int.sub ((p+i:Nat):Int) (p:Int)=(i:Int):=by show((p+i:Nat):Int) - (p:Int)=i;omega
   rw[CT,this,Ba (by omega)]
  have a3:FK .i64 (.int .i64 ((p+i:Nat):Int)) (.int .i64 1) h'=.ok (.int .i64 ((p+(i+1):Nat):Int)) h':=by
   have:((p+i:Nat):Int)+1=((p+(i+1):Nat):Int):=by omega
   rw[ES,this,Ba (by omega)]
  have pre:∃ e2,Pa F e' h'=Vh (GH 1 (N8 F e2 h')) (AH (AC 25) (CC .i64 (A7 .i64) (AB 8) (kV (.int .i64 1))) (AH (AC 8) (AE (AB 25)) Ar)) F∧AB 46 e2=.bool ((decide (0<i) && decide (c=0)) || (decide (8<i) && decide (1<c)))∧AB 0 e2=u∧AB 1 e2=.int .i64 (p:Int)∧AB 7 e2=.int .u64 (acc:Int)∧AB 8 e2=.int .i64 ((p+i:Nat):Int)∧AB 9 e2=.int .u8 (c:Int)∧AB 10 e2=.int .i64 (i:Int):=by
   obtain⟨e2,q1,q2,q3,q4,q5,q6,q7,q8⟩:=bG (K:=N8) (F:=F) (h:=h') (e:=Env.set 10 (.int .i64 (i:Int)) (Env.set 9 (.int .u8 (c:Int)) (Env.set 32 (.int .i64 (i:Int)) (Env.set 29 (.int .u8 (c:Int)) (Env.set 28 (.pointer (some a)) (Env.set 23 (.bool true) (Env.set 22 (.int .i64 (l.length:Int)) e'))))))) (c:=c) (i:=i) (b1:=decide (0<i)) (b2:=decide (c=0)) (b3:=decide (8<i)) (b4:=decide (1<c))
    (by simp[AG]) (by simp[AG]) (by rw[Gx,decide_eq_decide];omega) (by rw[Dp,Bool.eq_iff_iff,beq_iff_eq,decide_eq_true_eq];omega) (by rw[Gx,decide_eq_decide];omega) (by rw[Gx,decide_eq_decide];omega)
   refine⟨e2,?_,q2,?_,?_,?_,?_,?_,?_⟩
   ·rw[TC]
    simp only[GJ,IY,BH,Aw,GQ,H8,Dx,G1,AG,Nat.reduceLT,Nat.reduceEqDiff,reduceIte,Ae,t0,Vl,AL,AK,t8,c1,Az,g1,AM,g2,Bs,t1,a2,q1]
   ·rw[q3];simp only[AG,Nat.reduceLT,Nat.reduceEqDiff,reduceIte];exact t0
   ·rw[q4];simp only[AG,Nat.reduceLT,Nat.reduceEqDiff,reduceIte];exact t1
   ·rw[q5];simp only[AG,Nat.reduceLT,Nat.reduceEqDiff,reduceIte];exact t7
   ·rw[q6];simp only[AG,Nat.reduceLT,Nat.reduceEqDiff,reduceIte];exact t8
   ·rw[q7];simp only[AG,Nat.reduceLT,Nat.reduceEqDiff,reduceIte]
   ·rw[q8];simp only[AG,Nat.reduceLT,Nat.reduceEqDiff,reduceIte]
  obtain⟨e2,p1,p46,p0,pp1,p7,p8,p9,p10⟩:=pre
  rw[FP]at hu
  by_cases hbad:(0<i∧c=0)∨(8<i∧1<c)
  ·right
   have hB:((decide (0<i) && decide (c=0)) || (decide (8<i) && decide (1<c)))=true:=by simpa using hbad
   rw[hB]at p46
   rw[if_pos hbad]at hu
   have hrun:∃ e3,N8 F e2 h'=.ret e3 h'∧AB 4 e3=.int .u64 0∧AB 5 e3=.int .i64 0∧AB 6 e3=.int .i64 10:=by
    unfold N8
    simp only[sT,Nat.reduceLT,Nat.reduceEqDiff,reduceIte,p46]
    exact⟨_,rfl,by simp[AG]⟩
   obtain⟨e3,r1,r4,r5,r6⟩:=hrun
   rw[p1,r1,B8,Co]
   exact⟨rfl,.inr ⟨e3,0,0,10,rfl,r4,r5,r6,.inr ⟨hu,by omega⟩⟩⟩
  ·have hB:((decide (0<i) && decide (c=0)) || (decide (8<i) && decide (1<c)))=false:=by
    rw[← Bool.not_eq_true];simpa using hbad
   rw[hB]at p46
   rw[if_neg hbad]at hu
   have hle:acc+c % 128 * 2 ^ (7 * i)<2 ^ (7 * (i+1)):=by
    rw[MO]
    have h1:c % 128≤127:=by omega
    have h2:=Nat.mul_le_mul_right (2 ^ (7 * i)) h1
    omega
   have htop:c % 128 * 2 ^ (7 * i)≤9223372036854775808∧acc<9223372036854775808:=by
    have h3:=Qd hi9
    refine⟨?_,by omega⟩
    rcases Nat.lt_or_ge i 9 with h4|h4
    ·have h5:2 ^ (7 * (i+1))≤9223372036854775808:=Qd (by omega)
     omega
    ·have h5:c % 128≤1:=by omega
     have h6:=Nat.mul_le_mul_right (2 ^ (7 * i)) h5
     omega
   have m1:Yt .u8 (.int .u8 (c:Int)) (.int .u8 128) h'=.ok (.int .u8 ((c % 128:Nat):Int)) h':=by rw[Tw (by omega)];rfl
   have m2:DR .u64 (.int .u8 ((c % 128:Nat):Int)) h'=.ok (.int .u64 ((c % 128:Nat):Int)) h':=by rw[Ck,D7 (by omega)]
   have m3:Fl Int.mul .i64 (.int .i64 7) (.int .i64 (i:Int)) h'=.ok (.int .i64 ((7 * i:Nat):Int)) h':=by
    have:Int.mul 7 (i:Int)=((7 * i:Nat):Int):=by show(7:Int) * (i:Int)=_;omega
    rw[CT,this,Ba (by omega)]
   have m4:dS .u64 (.int .u64 ((c % 128:Nat):Int)) (.int .i64 ((7 * i:Nat):Int)) h'=.ok (.int .u64 ((c % 128 * 2 ^ (7 * i):Nat):Int)) h':=by
    have:min (7 * i) IntKind.u64.bits=7 * i:=Nat.min_eq_left (by show 7 * i≤64;omega)
    rw[dT,this,D7 (by omega)]
   have m5:FK .u64 (.int .u64 (acc:Int)) (.int .u64 ((c % 128 * 2 ^ (7 * i):Nat):Int)) h'=.ok (.int .u64 ((acc+c % 128 * 2 ^ (7 * i):Nat):Int)) h':=by
    rw[ES,← Int.natCast_add,D7 (by omega)]
   by_cases hsm:c<128
   ·right
    rw[if_pos hsm]at hu
    have c2:iLt (c:Int) 128=true:=by rw[Cr];simp;omega
    have hrun:∃ e3,N8 F e2 h'=.ret e3 h'∧AB 4 e3=.int .u64 ((acc+c % 128 * 2 ^ (7 * i):Nat):Int)∧AB 5 e3=.int .i64 ((p+(i+1):Nat):Int)∧AB 6 e3=.int .i64 0:=by
     unfold N8
     simp only[sT,Nat.reduceLT,Nat.reduceEqDiff,reduceIte,p46,OW,p9,m1,CJ,m2,Bs,p10,m3,Tl,m4,BK,p7,m5,AL,AK,c2,p8,a3]
     exact⟨_,rfl,by simp[AG]⟩
    obtain⟨e3,r1,r4,r5,r6⟩:=hrun
    rw[p1,r1,B8,Co]
    refine⟨rfl,.inr ⟨e3,_,_,_,rfl,r4,r5,r6,.inl ⟨_,_,hu,?_,rfl,rfl⟩⟩⟩
    rw[Nat.mod_eq_of_lt hsm]
   ·left
    rw[if_neg hsm]at hu
    have hi8:i≤8:=by omega
    have c2:iLt (c:Int) 128=false:=by rw[Cr];simp;omega
    have hrun:∃ e3,N8 F e2 h'=.norm e3 h'∧AB 0 e3=u∧AB 1 e3=.int .i64 (p:Int)∧AB 7 e3=.int .u64 ((acc+c % 128 * 2 ^ (7 * i):Nat):Int)∧AB 8 e3=.int .i64 ((p+i:Nat):Int):=by
     unfold N8
     simp only[sT,Nat.reduceLT,Nat.reduceEqDiff,reduceIte,p46,OW,p9,m1,CJ,m2,Bs,p10,m3,Tl,m4,BK,p7,m5,AL,AK,c2,p8,a3]
     exact⟨_,rfl,by simp[AG,p0,pp1,p8]⟩
    obtain⟨e3,r1,r0,rr1,r7,r8⟩:=hrun
    have hrun2:∃ e4,Pa F e' h'=.norm e4 h'∧AB 0 e4=u∧AB 1 e4=.int .i64 (p:Int)∧AB 7 e4=.int .u64 ((acc+c % 128 * 2 ^ (7 * i):Nat):Int)∧AB 8 e4=.int .i64 ((p+(i+1):Nat):Int):=by
     rw[p1,r1]
     simp only[DE,BB,GJ,GQ,BK,r8,G1,a3,Dx,LN,AG,Nat.reduceLT,Nat.reduceEqDiff,reduceIte]
     exact⟨_,rfl,by simp[AG,r0,rr1,r7]⟩
    obtain⟨e4,k1,k2,k3,k4,k5⟩:=hrun2
    exact⟨by omega,e4,h',k1,rfl,_,k2,k3,k4,k5,hle,by omega,by omega,hu⟩
 ·right
  have c1:iLt ((p+i:Nat):Int) (l.length:Int)=false:=by rw[Cr];simp;omega
  have hrun:∃ e2,Pa F e' h'=.exit 0 e2 h':=by
   rw[TC]
   simp only[sT,Nat.reduceLT,Nat.reduceEqDiff,reduceIte,Ae,t0,Vl,AL,AK,t8,c1]
   exact⟨_,rfl⟩
  obtain⟨e2,r1⟩:=hrun
  rw[r1]
  refine⟨rfl,.inl ⟨e2,rfl,?_⟩⟩
  rw[hu,List.drop_of_length_le (by omega)];rfl
theorem TH:Lm=AH (AC 7) (AE (kV (.int .u64 0))) (AH (AC 8) (AE (AB 1)) (BG (Ac 0 (Ax Pa)) ju)):=rfl
theorem Sy:aH=Sz:=rfl
theorem jx{n:Nat}{h:Hp}{u:Value}{l:List Nat}{p:Nat}(V:h.Vals u (l.map bv))(hb:∀ x∈l,x<256)(hp:p≤l.length)(hl:l.length≤1000000):
  ∃ a b c,call AD (n+1) 111 [u,.int .i64 (p:Int)] h=.ok (.tuple ⟨[.int .u64 a,.int .i64 b,.int .i64 c]⟩) h∧ef l p a b c:=by
 have Vl:lenSR u h=.ok (.int .i64 (l.length:Int)) h:=by have:=V.len;rwa [List.length_map]at this
 have c0:iLt (p:Int) 0=false:=by rw[Cr];simp
 have c1:iGt (p:Int) (l.length:Int)=false:=by rw[Gx];simp;omega
 have pre:∃ e1,Sz (call AD n) (AQ e0 0 [u,.int .i64 (p:Int)]) h=Lm (call AD n) e1 h∧AB 0 e1=u∧AB 1 e1=.int .i64 (p:Int):=by
  unfold Sz
  simp only[iN,Nat.reduceAdd,GJ,IY,GQ,Gp,Dx,G1,AG,Nat.reduceLT,Nat.reduceEqDiff,reduceIte,gD,AL,AK,c0,Ae,Vl,c1]
  exact⟨_,rfl,by simp[AG]⟩
 obtain⟨e1,p1,p2,p3⟩:=pre
 have H:=Xb (F:=call AD n) (e:=Env.set 8 (.int .i64 (p:Int)) (Env.set 7 (.int .u64 0) e1)) V hb hp hl (by simp[AG,p2]) (by simp[AG,p3]) (by simp[AG]) (by simp[AG])
 rcases H with ⟨e2,q1,q2⟩|⟨e2,a,b,c,q1,q4,q5,q6,q7⟩
 ·refine⟨0,0,11,?_,.inr ⟨q2,by omega⟩⟩
  rw[Su rfl,Sy,p1,TH]
  simp only[GJ,GQ,Dx,G1,AG,Nat.reduceLT,Nat.reduceEqDiff,reduceIte,p3,BH,Aw]
  rw[q1]
  simp only[A1,BB]
  unfold ju
  simp only[sT,Nat.reduceLT,Nat.reduceEqDiff,reduceIte,BX,Lj]
 ·refine⟨a,b,c,?_,q7⟩
  rw[Su rfl,Sy,p1,TH]
  simp only[GJ,GQ,Dx,G1,AG,Nat.reduceLT,Nat.reduceEqDiff,reduceIte,p3,BH,Aw]
  rw[q1]
  simp only[B8,Co]
  simp only[BX,Lj,q4,q5,q6]
end
noncomputable section
open Go
def Oj(T:List Nat):Nat→List Nat→Nat
 |s,[]=>s
 |s,b::l=>Oj T (Nat.xor (T.getD (Nat.xor (s % 256) b) 0) (s / 256)) l
def B3(T l:List Nat):Nat:=4294967295 - Oj T 4294967295 l
def TblOk(T:List Nat):Prop:=T.length=256∧∀ i,T.getD i 0<4294967296
theorem du{a b:Nat}(ha:a<256)(hb:b<256):Nat.xor a b<256:=Nat.xor_lt_two_pow (n:=8) ha hb
theorem ZR{a b:Nat}(ha:a<4294967296)(hb:b<4294967296):Nat.xor a b<4294967296:=Nat.xor_lt_two_pow (n:=32) ha hb
theorem Nn{T:List Nat}(hT:TblOk T){s:Nat}(hs:s<4294967296)(b:Nat):Nat.xor (T.getD (Nat.xor (s % 256) b) 0) (s / 256)<4294967296:=ZR (hT.2 _) (by omega)
theorem UH{T:List Nat}(hT:TblOk T):∀ (l:List Nat) (s:Nat),s<4294967296→Oj T s l<4294967296
 |[],s,hs=>hs
 |b::l,s,hs=>UH hT l _ (Nn hT hs b)
theorem Hm(T l:List Nat):B3 T l<4294967296:=by unfold B3;omega
def GZ(s:Nat):List Nat:=[s / 16777216 % 256,s / 65536 % 256,s / 256 % 256,s % 256]
def EA(T l:List Nat):List Nat:=l++GZ (B3 T l)
theorem Hi(T l:List Nat):(EA T l).length=l.length+4:=by unfold EA;rw[List.length_append];rfl
theorem da(s x:Nat)(h:x∈GZ s):x<256:=by
 unfold GZ at h
 simp only[List.mem_cons,List.mem_nil_iff,or_false]at h
 omega
theorem Qt{T l:List Nat}(h:∀ x∈l,x<256):∀ x∈EA T l,x<256:=fun x hx=>by
 rcases List.mem_append.1 hx with h1|h1
 ·exact h x h1
 ·exact da _ x h1
def Bq(ns:List Nat):List Nat:=ns.flatMap Bz
theorem Ei(n:Nat)(ns:List Nat):Bq (n::ns)=Bz n++Bq ns:=rfl
theorem Sf(a b:List Nat):Bq (a++b)=Bq a++Bq b:=List.flatMap_append
theorem Np{ns:List Nat}:∀ x∈Bq ns,x<256:=fun x hx=>by
 obtain⟨n,_,h⟩:=List.mem_flatMap.1 hx
 exact ZL n x h
theorem IU:∀ {ns:List Nat},(∀ v∈ns,v<18446744073709551616)→(Bq ns).length≤10 * ns.length
 |[],_=>Nat.le_refl _
 |n::ns,h=>by
  have h1:=J6 (h n List.mem_cons_self)
  have h2:=IU fun v hv=>h v (List.mem_cons_of_mem _ hv)
  rw[Ei,List.length_append,List.length_cons]
  omega
def Oc(l:List Nat):List Nat:=l++List.replicate (60 - l.length) 0
theorem MJ{l:List Nat}(h:l.length≤60):(Oc l).length=60:=by unfold Oc;rw[List.length_append,List.length_replicate];omega
theorem Tt{l:List Nat}(h:∀ x∈l,x<256):∀ x∈Oc l,x<256:=fun x hx=>by
 rcases List.mem_append.1 hx with h1|h1
 ·exact h x h1
 ·rw[List.eq_of_mem_replicate h1];decide
def KZ(ns:List Nat):List Nat:=Oc (Bq ns)
def rdN:Nat→List Nat→Nat→Option (List Nat×Nat)
 |0,_,p=>some ([],p)
 |k+1,l,p=>match FP 0 0 (l.drop p)with
  |none=>none
  |some (v,j)=>if v≤1099511627776 then(match rdN k l (p+j)with
   |none=>none
   |some (vs,q)=>some (v::vs,q))else none
theorem K3:∀ (ns:List Nat) (a r:List Nat),(∀ v∈ns,v≤1099511627776)→rdN ns.length (a++(Bq ns++r)) a.length=some (ns,a.length+(Bq ns).length)
 |[],a,r,_=>rfl
 |v::ns,a,r,h=>by
  have hv:=h v List.mem_cons_self
  rw[List.length_cons,rdN,List.drop_left,Ei,List.append_assoc,lV (by omega)]
  simp only
  have:=K3 ns (a++Bz v) r fun x hx=>h x (List.mem_cons_of_mem _ hx)
  rw[List.append_assoc,List.length_append]at this
  rw[if_pos hv,this]
  simp only[List.length_append,Nat.add_assoc]
theorem Kz:∀ (k:Nat) (l:List Nat) (p:Nat) (ns:List Nat) (q:Nat),(∀ x∈l,x<256)→p≤l.length→rdN k l p=some (ns,q)→ns.length=k∧l.drop p=Bq ns++l.drop q∧q=p+(Bq ns).length∧q≤l.length∧∀ v∈ns,v≤1099511627776
 |0,l,p,ns,q,hb,hp,h=>by
  cases h
  exact⟨rfl,rfl,rfl,hp,fun v hv=>by cases hv⟩
 |k+1,l,p,ns,q,hb,hp,h=>by
  rw[rdN]at h
  cases hu:FP 0 0 (l.drop p)with
  |none=>rw[hu]at h;cases h
  |some vj=>
   obtain⟨v,j⟩:=vj
   rw[hu]at h
   simp only at h
   by_cases hv:v≤1099511627776
   ·rw[if_pos hv]at h
    have hbd:∀ x∈l.drop p,x<256:=fun x hx=>hb x (List.mem_of_mem_drop hx)
    have hj:=ed hbd hu
    rw[List.length_drop]at hj
    obtain⟨g1,g2,g3⟩:=ZJ hbd hu
    cases hr:rdN k l (p+j)with
    |none=>rw[hr]at h;cases h
    |some y=>
     obtain⟨vs,q'⟩:=y
     rw[hr]at h
     cases h
     obtain⟨i1,i2,i3,i4,i5⟩:=Kz k l (p+j) vs q hb (by omega) hr
     refine⟨by rw[List.length_cons,i1],?_,?_,i4,fun x hx=>?_⟩
     ·rw[g1,List.drop_drop,i2,Ei,List.append_assoc]
     ·rw[i3,Ei,List.length_append];omega
     ·rcases List.mem_cons.1 hx with rfl|hx
      ·exact hv
      ·exact i5 x hx
   ·rw[if_neg hv]at h;cases h
def rightS(a b c:Int)(s n:Nat):Bool:=decide (0≤a∧a≤1099511627776∧0≤b∧b<255∧1≤c∧c≤1099511627776∧(s=1∨s=2)∧n≤65536)
def at6(ns:List Nat)(i:Nat):Nat:=ns.getD i 0
def EW(T l:List Nat):Option (List Nat):=if l.length<4 then none else if EA T (l.take (l.length - 4))=l then some (l.take (l.length - 4))else none
def OY(ns:List Nat):Prop:=rightS (at6 ns 1) (at6 ns 2) (at6 ns 3) (min (at6 ns 0) 9) 0=true∧at6 ns 4≤65536∧at6 ns 5≤4294967295
def cu(ns:List Nat):Prop:=at6 ns 0≤2∧at6 ns 4≤65536∧at6 ns 5≤4294967295∧rightS (at6 ns 1) (at6 ns 2) (at6 ns 3) (at6 ns 0) 0=true
theorem cw{ns:List Nat}:OY ns↔cu ns:=by
 unfold OY cu rightS
 simp only[decide_eq_true_eq]
 generalize at6 ns 0=s
 constructor
 ·rintro⟨⟨h1,h2,h3,h4,h5,h6,h7,h8⟩,h9,h10⟩
  exact⟨by omega,h9,h10,h1,h2,h3,h4,h5,h6,by omega,h8⟩
 ·rintro⟨h0,h9,h10,h1,h2,h3,h4,h5,h6,h7,h8⟩
  exact⟨⟨h1,h2,h3,h4,h5,h6,by omega,h8⟩,h9,h10⟩
def KU(T l ns:List Nat):Prop:=∃ body q,EW T l=some body∧body.length=60∧rdN 6 body 0=some (ns,q)∧OY ns∧∀ x∈body.drop q,x=0
def qi(T l ns:List Nat):Prop:=∃ q,rdN 6 l 0=some (ns,q)∧cu ns∧EA T (KZ ns)=l
theorem JN{T l body:List Nat}(h:EW T l=some body):EA T body=l∧body=l.take (l.length - 4):=by
 unfold EW at h
 split at h
 ·cases h
 ·split at h
  ·rename_i h2
   cases h
   exact⟨h2,rfl⟩
  ·cases h
theorem On(T body:List Nat):EW T (EA T body)=some body:=by
 have h1:(EA T body).take ((EA T body).length - 4)=body:=by
  rw[Hi,Nat.add_sub_cancel]
  unfold EA
  exact List.take_left
 unfold EW
 rw[h1,if_neg (by rw[Hi];omega),if_pos rfl]
theorem ZV{l:List Nat}(h:∀ x∈l,x=0):l=List.replicate l.length 0:=List.eq_replicate_iff.2 ⟨rfl,h⟩
theorem QZ{T l ns:List Nat}(hb:∀ x∈l,x<256):KU T l ns↔qi T l ns:=by
 constructor
 ·rintro⟨body,q,h1,h2,h3,h4,h5⟩
  obtain⟨k1,k2⟩:=JN h1
  have hbb:∀ x∈body,x<256:=fun x hx=>hb x (by rw[k2]at hx;exact List.mem_of_mem_take hx)
  obtain⟨g1,g2,g3,g4,g5⟩:=Kz 6 body 0 ns q hbb (Nat.zero_le _) h3
  rw[List.drop_zero]at g2
  have hz:=ZV h5
  have hh:KZ ns=body:=by
   unfold KZ Oc
   rw[show 60 - (Bq ns).length=(body.drop q).length by rw[List.length_drop];omega,← hz,← g2]
  refine⟨(Bq ns).length,?_,cw.1 h4,by rw[hh];exact k1⟩
  have:=K3 ns [] (body.drop q++GZ (B3 T body)) g5
  rw[g1]at this
  rw[← k1]
  unfold EA
  rw[List.nil_append,← List.append_assoc,← g2]at this
  simpa using this
 ·rintro⟨q,h1,h2,h3⟩
  obtain⟨g1,g2,g3,g4,g5⟩:=Kz 6 l 0 ns q hb (Nat.zero_le _) h1
  have hlen:(Bq ns).length≤60:=by
   have:=IU (ns:=ns) fun v hv=>by have:=g5 v hv;omega
   omega
  refine⟨KZ ns,(Bq ns).length,by rw[← h3];exact On T _,MJ hlen,?_,cw.2 h2,fun x hx=>?_⟩
  ·have:=K3 ns [] (List.replicate (60 - (Bq ns).length) 0) g5
   rw[g1]at this
   unfold KZ Oc
   simpa using this
  ·unfold KZ Oc at hx
   rw[List.drop_left]at hx
   exact List.eq_of_mem_replicate hx
end
noncomputable section
open Go
set_option maxRecDepth 100000
abbrev pt(b:Nat):Value:=.pointer (some ⟨b,0,none⟩)
def wv(n:Nat):Value:=.int .u32 (n:Int)
theorem Aj{a:Addr}{h:Hp}:VA (.pointer (some a)) h=.ok (.pointer (some a)) h:=rfl
theorem Au{F:CallF}{e:Env}{h:Hp}{x:O}:Bj x F e h=VA (x e) h:=rfl
theorem eZ:Q8.k=.ptr 27:=by kernel_rfl
theorem lH{F:CallF}{e:Env}{h:Hp}{a:Addr}{g:O}(hg:g e=.pointer (some a)):oEq Q8.k false g (kV (.pointer none)) F e h=.ok (.bool false) h:=by
 show(match eqV Q8.k (g e) (.pointer none)with|some r=>okB (false != r) h|none=>.no)=_
 rw[eZ,hg]
 exact Fp
theorem lQ{h:Hp}{tb:Nat}{T:List Nat}(R:h.Row tb 0 (T.map wv))(hT:TblOk T){k:IntKind}{x:Nat}(hx:x<256):Mh 256 1 (pt tb) (.int k (x:Int)) h=.ok (.pointer (some ⟨tb,x,none⟩)) h∧G7 (.pointer (some ⟨tb,x,none⟩)) h=.ok (wv (T.getD x 0)) h:=by
 refine⟨?_,?_⟩
 ·have:=TR (h:=h) (n:=256) (es:=1) (b:=tb) (off:=0) (i:=x) (k:=k) hx
  rwa [Nat.zero_add,Nat.mul_one]at this
 ·have hx':x<T.length:=by rw[hT.1];exact hx
  rw[AP,R.load1 (off:=x) (by rw[List.length_map];exact hx'),List.getD_eq_getElem?_getD,List.getElem?_map,List.getD_eq_getElem?_getD,List.getElem?_eq_getElem hx'];rfl
theorem IX{h:Hp}{u:Value}{l:List Nat}(V:h.Vals u (l.map bv)){i:Nat}(hi:i<l.length):∃ a,idxSR 1 u (.int .i64 (i:Int)) h=.ok (.pointer (some a)) h∧G7 (.pointer (some a)) h=.ok (.int .u8 ((l.getD i 0:Nat):Int)) h:=by
 obtain⟨a,g1,g2⟩:=V.at (i:=i) (by rw[List.length_map];exact hi)
 refine⟨a,g1,?_⟩
 rw[g2,List.getD_eq_getElem?_getD,List.getElem?_map,List.getD_eq_getElem?_getD,List.getElem?_eq_getElem hi];rfl
theorem bF{l:List Nat}(hb:∀ x∈l,x<256)(i:Nat):l.getD i 0<256:=by
 rw[List.getD_eq_getElem?_getD]
 cases h:l[i]? with
 |none=>decide
 |some x=>exact hb x (List.mem_of_getElem? h)
theorem Fw{l:List Nat}{i:Nat}(hi:i<l.length):l.drop i=l.getD i 0::l.drop (i+1):=by
 rw[List.drop_eq_getElem_cons hi,List.getD_eq_getElem?_getD,List.getElem?_eq_getElem hi];rfl
theorem Hp.Vals.bl{h:Hp}{u:Value}{l:List Nat}(V:h.Vals u (l.map bv))(g:Hp):lenSR u g=.ok (.int .i64 (l.length:Int)) g:=by
 obtain⟨a,c,hu⟩:=V.shape
 rw[hu,List.length_map];rfl
theorem se{a b:Nat}(ha:a<256)(hb:b<256){h:Hp}:WO Nat.xor .u8 (.int .u8 (a:Int)) (.int .u8 (b:Int)) h=.ok (.int .u8 ((Nat.xor a b:Nat):Int)) h:=Sp (by show a≤255;omega) (by show b≤255;omega)
theorem qe{a b:Nat}(ha:a<4294967296)(hb:b<4294967296){h:Hp}:WO Nat.xor .u32 (.int .u32 (a:Int)) (.int .u32 (b:Int)) h=.ok (.int .u32 ((Nat.xor a b:Nat):Int)) h:=Sp (by show a≤4294967295;omega) (by show b≤4294967295;omega)
theorem RD{n:Nat}(h:n≤4294967295):IntKind.u32.wrap (n:Int)=n:=C1 .u32 n h
theorem CQ{i:Nat}(hi:i≤1000000000){h:Hp}:FK .i64 (.int .i64 (i:Int)) (.int .i64 1) h=.ok (.int .i64 ((i+1:Nat):Int)) h:=by
 have:(i:Int)+1=((i+1:Nat):Int):=by omega
 rw[ES,this,Ba (by omega)]
theorem E8{a b:Nat}(h:a<b):iLt (a:Int) (b:Int)=true:=by rw[Cr];simp;omega
theorem DI{a b:Nat}(h:b≤a):iLt (a:Int) (b:Int)=false:=by rw[Cr];simp;omega
theorem lO:suS=BG (Ac 0 (Ax suB)) suE:=rfl
theorem ja:d71=aS:=rfl
theorem dZ{F:CallF}{h:Hp}{tb:Nat}{T:List Nat}(R:h.Row tb 0 (T.map wv))(hT:TblOk T){u:Value}{l:List Nat}(V:h.Vals u (l.map bv))(hb:∀ x∈l,x<256)(hl:l.length≤900000){e:Env}(s0:AB 0 e=pt tb)(s1:AB 1 e=u)(s5:AB 5 e=.int .u32 ((4294967295:Nat):Int))(s10:AB 10 e=.int .i64 (l.length:Int))(s11:AB 11 e=.int .i64 ((0:Nat):Int)):
  ∃ e' h',Ax suB F e h=.exit 0 e' h'∧(h'=h∨h'=h.marked)∧AB 5 e'=.int .u32 ((Oj T 4294967295 l:Nat):Int):=by
 refine BZ (I:=fun i e' h'=>(h'=h∨h'=h.marked)∧∃ s:Nat,AB 0 e'=pt tb∧AB 1 e'=u∧AB 5 e'=.int .u32 (s:Int)∧AB 10 e'=.int .i64 (l.length:Int)∧AB 11 e'=.int .i64 (i:Int)∧i≤l.length∧s<4294967296∧Oj T 4294967295 l=Oj T s (l.drop i))
  (Q:=fun x=>∃ e' h',x=.exit 0 e' h'∧(h'=h∨h'=h.marked)∧AB 5 e'=.int .u32 ((Oj T 4294967295 l:Nat):Int)) l.length (by omega) (fun i e' h' ⟨hh,s,t0,t1,t5,t10,t11,hi,hs,hr⟩=>?_) ⟨.inl rfl,4294967295,s0,s1,s5,s10,s11,Nat.zero_le _,by decide,rfl⟩
 have hm:h'.marked=h.marked:=by rcases hh with rfl|rfl<;>rfl
 by_cases hlt:i<l.length
 ·left
  have V2:h.marked.Vals u (l.map bv):=V.same rfl
  have R2:h.marked.Row tb 0 (T.map wv):=R.same rfl
  obtain⟨a,g1,g2⟩:=IX V2 hlt
  have hc:=bF hb i
  rw[Fw hlt]at hr
  generalize l.getD i 0=c at g2 hc hr
  have c1:=E8 hlt
  have v1:DR .u8 (.int .u32 (s:Int)) h.marked=.ok (.int .u8 ((s % 256:Nat):Int)) h.marked:=by rw[Ck,Hn]
  have x1:=se (h:=h.marked) (show s % 256<256 by omega) hc
  have hx:=du (show s % 256<256 by omega) hc
  obtain⟨i1,l1⟩:=lQ R2 hT (k:=.u8) hx
  have r1:Y2 .u32 (.int .u32 (s:Int)) (.int .u64 8) h.marked=.ok (.int .u32 ((s / 256:Nat):Int)) h.marked:=Ty (j:=.u32) (q:=.u64) (m:=s) (n:=8)
  have x2:=qe (h:=h.marked) (hT.2 (Nat.xor (s % 256) c)) (show s / 256<4294967296 by omega)
  have l1:G7 (.pointer (some ⟨tb,Nat.xor (s % 256) c,none⟩)) h.marked=.ok (.int .u32 ((T.getD (Nat.xor (s % 256) c) 0:Nat):Int)) h.marked:=l1
  have hst:=Nn hT hs c
  have a3:=CQ (i:=i) (h:=h.marked) (by omega)
  have hrun:∃ e2,suB F e' h'=.norm e2 h.marked∧AB 0 e2=pt tb∧AB 1 e2=u∧AB 5 e2=.int .u32 ((Nat.xor (T.getD (Nat.xor (s % 256) c) 0) (s / 256):Nat):Int)∧AB 10 e2=.int .i64 (l.length:Int)∧AB 11 e2=.int .i64 ((i+1:Nat):Int):=by
   unfold suB
   simp only[sT,Nat.reduceLT,Nat.reduceEqDiff,reduceIte,AL,AK,t11,t10,c1,Ay,hm,CJ,t5,v1,Az,t1,g1,AM,g2,cB,x1,Au,t0,Aj,C0,i1,l1,Tm,r1,x2,BK,a3]
   exact⟨_,rfl,by simp[AG,t0,t1,t10]⟩
  obtain⟨e2,q1,q2,q3,q4,q5,q6⟩:=hrun
  exact⟨hlt,e2,h.marked,q1,.inr rfl,_,q2,q3,q4,q5,q6,hlt,hst,hr⟩
 ·right
  have c1:=DI (show l.length≤i by omega)
  have hrun:∃ e2,suB F e' h'=.exit 0 e2 h'∧AB 5 e2=.int .u32 (s:Int):=by
   unfold suB
   simp only[sT,Nat.reduceLT,Nat.reduceEqDiff,reduceIte,AL,AK,t11,t10,c1]
   exact⟨_,rfl,by simp[AG,t5]⟩
  obtain⟨e2,q1,q2⟩:=hrun
  rw[q1]
  refine⟨rfl,e2,h',rfl,hh,?_⟩
  rw[q2,hr,List.drop_of_length_le (by omega)];rfl
theorem Sa{n:Nat}{h:Hp}{tb:Nat}{T:List Nat}(R:h.Row tb 0 (T.map wv))(hT:TblOk T){u:Value}{l:List Nat}(V:h.Vals u (l.map bv))(hb:∀ x∈l,x<256)(hl:l.length≤900000):
  ∃ h',call AD (n+1) 71 [pt tb,u] h=.ok (.int .u32 ((B3 T l:Nat):Int)) h'∧(h'=h∨h'=h.marked):=by
 have ne:∀ e:Env,AB 0 e=pt tb→oEq Q8.k false (AB 0) (kV (.pointer none)) (call AD n) e h=.ok (.bool false) h:=fun e he=>lH he
 have Vl:=V.bl h
 have pre:∃ e1,aS (call AD n) (AQ e0 0 [pt tb,u]) h=suS (call AD n) e1 h∧AB 0 e1=pt tb∧AB 1 e1=u∧AB 5 e1=.int .u32 ((4294967295:Nat):Int)∧AB 10 e1=.int .i64 (l.length:Int)∧AB 11 e1=.int .i64 ((0:Nat):Int):=by
  unfold aS
  simp only[iN,Nat.reduceAdd,sT,Nat.reduceLT,Nat.reduceEqDiff,reduceIte,ne,Ae,Vl]
  exact⟨_,rfl,by simp[AG]⟩
 obtain⟨e1,p1,p2,p3,p4,p5,p6⟩:=pre
 obtain⟨e2,h',q1,q2,q3⟩:=dZ (F:=call AD n) R hT V hb hl p2 p3 p4 p5 p6
 have a1:Fl Int.sub .u32 (.int .u32 4294967295) (.int .u32 ((Oj T 4294967295 l:Nat):Int)) h'=.ok (.int .u32 ((B3 T l:Nat):Int)) h':=by
  have hs:=UH hT l 4294967295 (by decide)
  have:Int.sub 4294967295 ((Oj T 4294967295 l:Nat):Int)=((B3 T l:Nat):Int):=by
   show(4294967295:Int) - _=_
   unfold B3;omega
  rw[CT,this,RD (by unfold B3;omega)]
 refine⟨h',?_,q2⟩
 rw[im rfl,ja,p1,lO]
 simp only[BH,Aw,q1,A1,BB]
 unfold suE
 simp only[sT,Nat.reduceLT,Nat.reduceEqDiff,reduceIte,Bs,q3,a1,lV0]
end
noncomputable section
open Go
set_option maxRecDepth 100000
def Mk(h:Hp)(k:Nat)(v:Value)(l:List Nat):Prop:=∃ b el,v=.slice (some ⟨b,0,none⟩) l.length l.length∧(el=0∨el=6)∧h.Row b el (l.map bv)∧k≤b
theorem Mk.vals{h:Hp}{k:Nat}{v:Value}{l:List Nat}(m:Mk h k v l):h.Vals v (l.map bv):=by
 obtain⟨b,el,h1,h2,h3,h4⟩:=m
 exact .inr ⟨b,0,l.length,el,_,by rw[List.length_map];exact h1,h3,by simp,by rw[List.drop_zero,List.take_length]⟩
theorem Mk.ext{h h':Hp}{k:Nat}{v:Value}{l:List Nat}(m:Mk h k v l)(W:h.Wf)(x:h.Ext h'):Mk h' k v l:=by
 obtain⟨b,el,h1,h2,h3,h4⟩:=m
 exact⟨b,el,h1,h2,h3.ext W x,h4⟩
theorem Mk.same{h h':Hp}{k:Nat}{v:Value}{l:List Nat}(m:Mk h k v l)(hb:h'.bl=h.bl):Mk h' k v l:=by
 obtain⟨b,el,h1,h2,h3,h4⟩:=m
 exact⟨b,el,h1,h2,h3.same hb,h4⟩
theorem Mk.le{h:Hp}{k k':Nat}{v:Value}{l:List Nat}(m:Mk h k v l)(hk:k'≤k):Mk h k' v l:=by
 obtain⟨b,el,h1,h2,h3,h4⟩:=m
 exact⟨b,el,h1,h2,h3,by omega⟩
theorem Hp.Own.mk{h:Hp}{k:Nat}{v:Value}{l:List Nat}(o:h.Own k 5 v (l.map bv))(hl:0<l.length):Mk h k v l:=by
 rcases o with ⟨_,h2⟩|⟨b,h1,h2,h3,h4⟩
 ·have:=congrArg List.length h2
  rw[List.length_map,List.length_nil]at this;omega
 ·rw[List.length_map]at h1
  exact⟨b,6,h1,.inr rfl,h2,h3⟩
theorem K5:∀ n:Nat,BJ ty5.zero n=(List.replicate n 0).map bv:=fun n=>by
 have hz:ty5.zero=[bv 0]:=by kernel_rfl
 rw[hz]
 induction n with
 |zero=>rfl
 |succ n ih=>show [bv 0]++BJ [bv 0] n=_;rw[ih];rfl
theorem QW{A B:List Value}{x y:Value}:over (A++x::B) A.length [y]=A++y::B:=by
 unfold over
 have e:A++x::B=(A++[x])++B:=by simp
 rw[List.take_left,e,show A.length+[y].length=(A++[x]).length by simp,List.drop_left]
 simp
theorem MI{A B V:List Value}(h:A.length=V.length):over (A++B) 0 V=V++B:=by
 unfold over
 rw[Nat.zero_add,← h,List.drop_left];simp
theorem Vn{s i:Nat}(hi:i<4):(GZ s).drop (3 - i)=(s / 2 ^ min (8 * i) 32) % 256::(GZ s).drop (4 - i):=by
 have:i=0∨i=1∨i=2∨i=3:=by omega
 rcases this with rfl|rfl|rfl|rfl
 ·show [s % 256]=s / 1 % 256::[]
  rw[Nat.div_one]
 ·rfl
 ·rfl
 ·rfl
theorem O0{a b:List Nat}(ha:∀ x∈a,x<256)(hb:∀ x∈b,x<256):bEq (a.map UInt8.ofNat) (b.map UInt8.ofNat)=decide (a=b):=by
 rw[LG,Bool.eq_iff_iff,beq_iff_eq,decide_eq_true_eq]
 refine⟨fun h=>?_,fun h=>by rw[h]⟩
 have h1:=congrArg (List.map UInt8.toNat) h
 rw[List.map_map,List.map_map]at h1
 have e:∀ l:List Nat,(∀ x∈l,x<256)→l.map (UInt8.toNat∘UInt8.ofNat)=l:=fun l hl=>by
  have:l.map (UInt8.toNat∘UInt8.ofNat)=l.map id:=List.map_congr_left fun x hx=>by
   show(UInt8.ofNat x).toNat=x
   rw[UInt8.toNat_ofNat',Nat.mod_eq_of_lt (hl x hx)]
  rw[this,List.map_id]
 rwa [e a ha,e b hb]at h1
theorem eU{n:Nat}{h:Hp}{u v:Value}{a b:List Nat}(U:h.Vals u (a.map bv))(V:h.Vals v (b.map bv))(ha:∀ x∈a,x<256)(hb:∀ x∈b,x<256):call AD (n+1) 24 [u,v] h=.ok (.bool (decide (a=b))) h:=by
 have hbe:=O0 ha hb
 rw[iH rfl]
 unfold d24
 simp only[iN,Nat.reduceAdd,sT,Nat.reduceLT,Nat.reduceEqDiff,reduceIte,Jz,U.bytes.str,V.bytes.str,OX,N3,hbe,lV0]
theorem lN:slS=BG (Ac 0 (Ax slB)) slE:=rfl
theorem jc:d73=aT:=rfl
theorem dV{F:CallF}{h h0:Hp}(W0:h0.Wf)(x:h0.Ext h){r s N:Nat}(hr:h0.next≤r){u:Value}{l:List Nat}(V:h0.Vals u (l.map bv))(hN:N=l.length+4)(hl:l.length≤900000)(hs:s<4294967296)(R:h.Row r 0 ((List.replicate N 0).map bv)){e:Env}
  (s1:AB 1 e=u)(s5:AB 5 e=.slice (some ⟨r,0,none⟩) N N)(s6:AB 6 e=.int .u32 (s:Int))(s15:AB 15 e=.int .i64 ((0:Nat):Int)):
  ∃ e' h',Ax slB F e h=.exit 0 e' h'∧h0.Ext h'∧h'.Row r 0 ((List.replicate l.length 0++GZ s).map bv)∧AB 1 e'=u∧AB 5 e'=.slice (some ⟨r,0,none⟩) N N:=by
 refine BZ (I:=fun i e' h'=>h0.Ext h'∧h'.Row r 0 ((List.replicate (N - i) 0++(GZ s).drop (4 - i)).map bv)∧AB 1 e'=u∧AB 5 e'=.slice (some ⟨r,0,none⟩) N N∧AB 6 e'=.int .u32 (s:Int)∧AB 15 e'=.int .i64 (i:Int)∧i≤4)
  (Q:=fun x=>∃ e' h',x=.exit 0 e' h'∧h0.Ext h'∧h'.Row r 0 ((List.replicate l.length 0++GZ s).map bv)∧AB 1 e'=u∧AB 5 e'=.slice (some ⟨r,0,none⟩) N N) 4 (by omega) (fun i e' h' ⟨x',R',t1,t5,t6,t15,hi⟩=>?_)
  ⟨x,by rw[Nat.sub_zero,List.drop_of_length_le (show(GZ s).length≤4 - 0 from Nat.le_refl _),List.append_nil];exact R,s1,s5,s6,s15,by omega⟩
 by_cases hlt:i<4
 ·left
  have W:=x'.wf
  have Vl:=V.bl h'
  have c1:iLt (i:Int) 4=true:=E8 hlt
  have a1:FK .i64 (.int .i64 (l.length:Int)) (.int .i64 4) h'=.ok (.int .i64 (N:Int)) h':=by
   rw[ES,show(l.length:Int)+4=(N:Int)by omega,Ba (by omega)]
  have a2:Fl Int.sub .i64 (.int .i64 (N:Int)) (.int .i64 1) h'=.ok (.int .i64 ((N - 1:Nat):Int)) h':=by
   have:Int.sub (N:Int) 1=((N - 1:Nat):Int):=by show(N:Int) - 1=_;omega
   rw[CT,this,Ba (by omega)]
  have a3:Fl Int.sub .i64 (.int .i64 ((N - 1:Nat):Int)) (.int .i64 (i:Int)) h'=.ok (.int .i64 ((N - (i+1):Nat):Int)) h':=by
   have:Int.sub ((N - 1:Nat):Int) (i:Int)=((N - (i+1):Nat):Int):=by show((N - 1:Nat):Int) - (i:Int)=_;omega
   rw[CT,this,Ba (by omega)]
  have a4:Fl Int.mul .i64 (.int .i64 8) (.int .i64 (i:Int)) h'=.ok (.int .i64 ((8 * i:Nat):Int)) h':=by
   have:Int.mul 8 (i:Int)=((8 * i:Nat):Int):=by show(8:Int) * (i:Int)=_;omega
   rw[CT,this,Ba (by omega)]
  have r1:Y2 .u32 (.int .u32 (s:Int)) (.int .i64 ((8 * i:Nat):Int)) h'=.ok (.int .u32 ((s / 2 ^ min (8 * i) 32:Nat):Int)) h':=Ty (j:=.u32) (q:=.i64) (m:=s) (n:=8 * i)
  have v1:DR .u8 (.int .u32 ((s / 2 ^ min (8 * i) 32:Nat):Int)) h'=.ok (.int .u8 ((s / 2 ^ min (8 * i) 32 % 256:Nat):Int)) h':=by rw[Ck,Hn]
  have i1:idxSR 1 (.slice (some ⟨r,0,none⟩) N N) (.int .i64 ((N - (i+1):Nat):Int)) h'=.ok (.pointer (some ⟨r,N - (i+1),none⟩)) h':=by
   have:=DX (h:=h') (n:=N) (c:=N) (es:=1) (b:=r) (off:=0) (i:=N - (i+1)) (k:=.i64) (by omega)
   rwa [Nat.zero_add,Nat.mul_one]at this
  have hsuf:=Vn (s:=s) hlt
  generalize s / 2 ^ min (8 * i) 32 % 256=c at v1 hsuf
  have hlist:(List.replicate (N - i) 0++(GZ s).drop (4 - i)).map bv=(List.replicate (N - (i+1)) 0).map bv++bv 0::((GZ s).drop (4 - i)).map bv:=by
   rw[show N - i=(N - (i+1))+1 by omega,List.replicate_succ',List.map_append,List.map_append,List.append_assoc];rfl
  rw[hlist]at R'
  have hAl:((List.replicate (N - (i+1)) 0).map bv).length=N - (i+1):=by simp
  have ho:N - (i+1)+[Value.int .u8 (c:Int)].length≤((List.replicate (N - (i+1)) 0).map bv++bv 0::((GZ s).drop (4 - i)).map bv).length:=by
   simp only[List.length_append,List.length_cons,List.length_nil,hAl];omega
  have h256:256≤r:=by have:=W0.big;omega
  have st:=R'.storeR (n:=1) (off:=N - (i+1)) W h256 (v:=.int .u8 (c:Int)) rfl ho rfl
  have wr:=R'.wr_self W (off:=N - (i+1)) (vs:=[.int .u8 (c:Int)]) ho
  have xw:=R'.wr_ext x' hr (off:=N - (i+1)) (vs:=[.int .u8 (c:Int)]) ho
  have a5:=CQ (i:=i) (h:=h'.wr r (N - (i+1)) [.int .u8 (c:Int)]) (by omega)
  have hov:over ((List.replicate (N - (i+1)) 0).map bv++bv 0::((GZ s).drop (4 - i)).map bv) (N - (i+1)) [.int .u8 (c:Int)]=(List.replicate (N - (i+1)) 0++(GZ s).drop (4 - (i+1))).map bv:=by
   have:=QW (A:=(List.replicate (N - (i+1)) 0).map bv) (B:=((GZ s).drop (4 - i)).map bv) (x:=bv 0) (y:=bv c)
   rw[hAl]at this
   rw[show 4 - (i+1)=3 - i by omega,hsuf,List.map_append,List.map_cons]
   exact this
  rw[hov]at wr
  rw[DO]at st
  have hrun:∃ e2,slB F e' h'=.norm e2 (h'.wr r (N - (i+1)) [.int .u8 (c:Int)])∧AB 1 e2=u∧AB 5 e2=.slice (some ⟨r,0,none⟩) N N∧AB 6 e2=.int .u32 (s:Int)∧AB 15 e2=.int .i64 ((i+1:Nat):Int):=by
   unfold slB
   simp only[sT,Nat.reduceLT,Nat.reduceEqDiff,reduceIte,AL,AK,t15,c1,Ae,t1,Vl,BK,a1,Bs,a2,a3,a4,Tm,t6,r1,CJ,v1,Az,t5,i1,AX,st,a5]
   exact⟨_,rfl,by simp[AG,t1,t5,t6]⟩
  obtain⟨e2,q1,q2,q3,q4,q5⟩:=hrun
  exact⟨hlt,e2,_,q1,xw,wr,q2,q3,q4,q5,hlt⟩
 ·right
  have hi4:i=4:=by omega
  subst hi4
  have c1:=DI (show 4≤4 by omega)
  have hrun:∃ e2,slB F e' h'=.exit 0 e2 h'∧AB 1 e2=u∧AB 5 e2=.slice (some ⟨r,0,none⟩) N N:=by
   unfold slB
   have c1:iLt ((4:Nat):Int) 4=false:=c1
   simp only[sT,Nat.reduceLT,Nat.reduceEqDiff,reduceIte,AL,AK,t15,c1]
   exact⟨_,rfl,by simp[AG,t1,t5]⟩
  obtain⟨e2,q1,q2,q3⟩:=hrun
  rw[q1]
  refine⟨rfl,e2,h',rfl,x',?_,q2,q3⟩
  have e1:N - 4=l.length:=by omega
  have e2:4 - 4=0:=rfl
  rw[e1,e2,List.drop_zero]at R'
  exact R'
theorem OV{F:CallF}{e:Env}{h:Hp}(W:h.Wf){x y:O}{N:Nat}(hx:x e=.int .i64 (N:Int))(hy:y e=.int .i64 (N:Int))(hN:N≤1000000):Gi 1 ty5.zero x y F e h=.ok (.slice (some ⟨h.next,0,none⟩) N N) (h.pushRow 0 ((List.replicate N 0).map bv)):=by
 unfold Gi
 rw[hx,hy,Cs]
 unfold P5
 have e1:Nat.ble N N=true:=Af.2 (Nat.le_refl N)
 have e2:Nat.ble (Nat.mul (Nat.succ N) (Nat.succ 1)) most=true:=Af.2 (by
  show(N+1) * 2≤1099511627776
  omega)
 simp only[e1,e2,cond_true]
 rw[DA W,K5];rfl
theorem Z7{F:CallF}{e:Env}{h:Hp}(W:h.Wf){x y:O}{r N:Nat}{u:Value}{l A B:List Nat}(hx:x e=.slice (some ⟨r,0,none⟩) N N)(hy:y e=u)(V:h.Vals u (l.map bv))(h256:256≤r)(hA:A.length=l.length)(hN:N=(A++B).length)(R:h.Row r 0 ((A++B).map bv)):
  I4 1 x y F e h=.ok (.int .i64 (l.length:Int)) (h.wr r 0 (l.map bv))∧(h.wr r 0 (l.map bv)).Row r 0 ((l++B).map bv):=by
 have ho:0+(l.map bv).length≤((A++B).map bv).length:=by simp;omega
 have h1:BO (l.map bv)=true:=C7 l
 refine⟨?_,?_⟩
 ·unfold I4 PD
  rw[hx,hy]
  simp only[V.lenV,Aa,BC,List.length_map]
  rw[Nat.min_eq_left (show l.length≤N by rw[hN,List.length_append];omega)]
  rw[V.src (n:=l.length) (by rw[List.length_map])]
  rw[R.store W h256 ho h1];rfl
 ·have:=R.wr_self W ho
  rw[List.map_append,MI (by simp[hA])]at this
  rw[List.map_append];exact this
theorem Tx{n:Nat}{h:Hp}(W:h.Wf){tb:Nat}{T:List Nat}(R:h.Row tb 0 (T.map wv))(hT:TblOk T){u:Value}{l:List Nat}(V:h.Vals u (l.map bv))(hb:∀ x∈l,x<256)(hl:l.length≤900000):
  ∃ h' v,call AD (n+2) 73 [pt tb,u] h=.ok v h'∧h.Ext h'∧Mk h' h.next v (EA T l):=by
 have x1:=(Hp.Ext.refl W).pushRow 0 ((List.replicate (l.length+4) 0).map bv)
 have R1:=Hp.Row.new W 0 ((List.replicate (l.length+4) 0).map bv)
 have mk:=fun (e:Env) (hx:AB 10 e=.int .i64 ((l.length+4:Nat):Int))=>OV (F:=call AD (n+1)) (e:=e) W (x:=AB 10) (y:=AB 10) hx hx (by omega)
 generalize h.pushRow 0 ((List.replicate (l.length+4) 0).map bv)=h1 at x1 R1 mk
 obtain⟨h2,k1,k2⟩:=Sa (n:=n) (R.ext W x1) hT (V.ext W x1) hb hl
 have hbl:h2.bl=h1.bl:=by rcases k2 with rfl|rfl<;>rfl
 have x2:h.Ext h2:=by
  rcases k2 with rfl|rfl
  ·exact x1
  ·exact x1.marked
 have Vl:=V.bl h
 have a1:FK .i64 (.int .i64 (l.length:Int)) (.int .i64 4) h=.ok (.int .i64 ((l.length+4:Nat):Int)) h:=by
  rw[ES,show(l.length:Int)+4=((l.length+4:Nat):Int)by omega,Ba (by omega)]
 have pre:∃ e1,aT (call AD (n+1)) (AQ e0 0 [pt tb,u]) h=slS (call AD (n+1)) e1 h2∧AB 1 e1=u∧AB 5 e1=.slice (some ⟨h.next,0,none⟩) (l.length+4) (l.length+4)∧AB 6 e1=.int .u32 ((B3 T l:Nat):Int)∧AB 15 e1=.int .i64 ((0:Nat):Int):=by
  unfold aT
  simp only[iN,Nat.reduceAdd,sT,Nat.reduceLT,Nat.reduceEqDiff,reduceIte,Ae,Vl,BK,a1,mk,cA0,k1]
  exact⟨_,rfl,by simp[AG]⟩
 obtain⟨e1,p1,p2,p3,p4,p5⟩:=pre
 obtain⟨e2,h3,q1,x3,R3,q2,q3⟩:=dV (F:=call AD (n+1)) W x2 (Nat.le_refl _) V rfl hl (Hm T l) (R1.same hbl) p2 p3 p4 p5
 have h256:=W.big
 obtain⟨c1,c2⟩:=Z7 (F:=call AD (n+1)) (e:=e2) x3.wf (x:=AB 5) (y:=AB 1) q3 q2 (V.ext W x3) h256 (A:=List.replicate l.length 0) (B:=GZ (B3 T l)) (by simp) (by rw[List.length_append,List.length_replicate];rfl) R3
 have x4:=R3.wr_ext x3 (Nat.le_refl _) (off:=0) (vs:=l.map bv) (by rw[List.length_map,List.length_map,List.length_append,List.length_replicate];omega)
 refine⟨_,.slice (some ⟨h.next,0,none⟩) (l.length+4) (l.length+4),?_,x4,⟨h.next,0,by rw[Hi],.inl rfl,c2,Nat.le_refl _⟩⟩
 rw[ip rfl,jc,p1,lN]
 simp only[BH,Aw,q1,A1,BB]
 unfold slE
 simp only[sT,Nat.reduceLT,Nat.reduceEqDiff,reduceIte,c1,q3,lV0]
end
noncomputable section
open Go
set_option maxRecDepth 100000
theorem ZF:Ki.k=.slice 5:=by kernel_rfl
theorem kT{F:CallF}{e:Env}{h:Hp}{a:Addr}{n c:Nat}{g:O}(hg:g e=.slice (some a) n c):oEq Ki.k false g (kV (.slice none 0 0)) F e h=.ok (.bool false) h:=by
 show(match eqV Ki.k (g e) (.slice none 0 0)with|some r=>okB (false != r) h|none=>.no)=_
 rw[ZF,hg]
 exact Fp
theorem N7{h0 h:Hp}{eb en k b:Nat}{u:Value}{ys:List Value}(x0:h0.Ext h)(hk2:k≤h.next)(r:h.Row b 0 [])(y:h.Vals u ys)(hy:0<ys.length)(ha:BO ys=true)(hm:(ys.length+1) * (eb+1)≤1099511627776):
  ∃ h' v',DM 1 eb en (.slice (some ⟨b,0,none⟩) 0 0) u h=.ok v' h'∧h0.Ext h'∧h'.Own k en v' ys:=by
 have W:=x0.wf
 obtain⟨cc,hcc,hl⟩:=r.rowOf
 obtain⟨t,h2,h3⟩:=Dh ys cc [] 0 hl (.inr rfl)
 have h3:t.Is ys:=by simpa using h3
 refine⟨h.push (.cells t ys.length (en+1)),.slice (some ⟨h.next,0,none⟩) ys.length ys.length,?_,x0.push _,.inr ⟨h.next,rfl,⟨t,by rw[W.push_get,if_pos rfl],h3⟩,hk2,W.big⟩⟩
 unfold DM DN
 simp only[y.lenV,y.src rfl,Aa,Nat.add_eq,Nat.zero_add]
 have e1:Nat.ble ys.length 0=false:=by
  cases e:Nat.ble ys.length 0
  ·rfl
  ·have:=Af.1 e;omega
 have e2:Nat.ble (Nat.mul (Nat.succ ys.length) (Nat.succ eb)) Ix=true:=Af.2 (Hb hm)
 rw[e1]
 simp only[e2,cond_true,ha]
 unfold Gh
 have hcc:rowOf h b=.ok cc 0 0:=hcc
 have e3:Nat.beq 0 (Nat.mul 0 1)=true:=rfl
 simp only[hcc,e3,h2]
 unfold Ed
 simp only[hcc,BN,Nat.add_eq,Nat.zero_add]
 unfold CG
 rw[Aa,Ci W];rfl
theorem PK{F:CallF}{e:Env}{h:Hp}(W:h.Wf):Ah 0 (BJ ty5.zero 0) [] F e h=.ok (.slice (some ⟨h.next,0,none⟩) 0 0) (h.pushRow 0 []):=by
 have:BJ ty5.zero 0=[]:=rfl
 rw[this,Ca,CL,DA W];rfl
theorem O9{n:Nat}{h:Hp}(W:h.Wf){a:Addr}{c:Nat}{l:List Nat}(V:h.Vals (.slice (some a) l.length c) (l.map bv))(hl:l.length≤900000):∃ h' v,call AD (n+1) 39 [.slice (some a) l.length c] h=.ok v h'∧h.Ext h'∧Mk h' h.next v l:=by
 have y1:=(Hp.Ext.refl W).pushRow 0 []
 have R:=Hp.Row.new W 0 []
 have es:=fun (e:Env)=>PK (F:=call AD n) (e:=e) W
 have n1:(h.pushRow 0 []).next=h.next+1:=rfl
 generalize h.pushRow 0 []=h1 at y1 R es n1
 have ne:∀ e:Env,AB 0 e=.slice (some a) l.length c→oEq Ki.k false (AB 0) (kV (.slice none 0 0)) (call AD n) e h=.ok (.bool false) h:=fun e he=>kT he
 rcases Nat.eq_zero_or_pos l.length with hz|hz
 ·have hl0:l=[]:=List.eq_nil_of_length_eq_zero hz
  subst hl0
  have h256:=W.big
  have ap:DM 1 1 5 (.slice (some ⟨h.next,0,none⟩) 0 0) (.slice (some a) 0 c) h1=.ok (.slice (some ⟨h.next,0,none⟩) 0 0) (h1.wr h.next 0 []):=Ow (l:=[]) y1.wf h256 R (V.ext W y1).bytes (Nat.le_refl _) (Nat.le_refl _)
  have R2:=R.wr_self y1.wf (off:=0) (vs:=[]) (Nat.le_refl _)
  have x2:=R.wr_ext y1 (Nat.le_refl _) (off:=0) (vs:=[]) (Nat.le_refl _)
  refine⟨_,.slice (some ⟨h.next,0,none⟩) 0 0,?_,x2,⟨h.next,0,rfl,.inl rfl,R2,Nat.le_refl _⟩⟩
  rw[H5 rfl]
  unfold d39
  have ne:∀ e:Env,AB 0 e=.slice (some a) 0 c→oEq Ki.k false (AB 0) (kV (.slice none 0 0)) (call AD n) e h=.ok (.bool false) h:=ne
  simp only[iN,Nat.reduceAdd,sT,Nat.reduceLT,Nat.reduceEqDiff,reduceIte,List.length_nil,ne,es,BE,ap,lV0]
 ·obtain⟨h2,v,a1,a2,a3⟩:=N7 (eb:=1) (en:=5) (k:=h.next) y1 (by omega) R (V.ext W y1) (by rw[List.length_map];exact hz) (C7 l) (by rw[List.length_map];omega)
  refine⟨h2,v,?_,a2,a3.mk hz⟩
  rw[H5 rfl]
  unfold d39
  simp only[iN,Nat.reduceAdd,sT,Nat.reduceLT,Nat.reduceEqDiff,reduceIte,ne,es,BE,a1,lV0]
theorem Wv{F:CallF}{e:Env}{h:Hp}{x y:O}{a:Addr}{el N C m:Nat}(hx:x e=.slice (some a) N C)(hy:y e=.int .i64 (m:Int))(hm:m≤C):Db el 1 x none (some y) none F e h=.ok (.slice (some a) m C) h:=by
 show(match x e with|.slice a n c=>DB e n c none (some y) none (fun l hh m=>Dn el 1 a false l hh m h)|_=>.no)=_
 rw[hx]
 show CY e (some y) N C (fun hh=>CY e none 0 hh fun l=>Dn el 1 (some a) false l hh C h)=_
 have hb:∀ K:Nat→R,CY e (some y) N C K=K m:=fun K=>by
  show(match Cu (y e)with|.ok n=>(bif Nat.ble n C then K n else .no)|.no=>.no)=_
  rw[hy,Cs]
  simp only
  rw[Af.2 hm];rfl
 rw[hb]
 show Bc (some a) 1 0 m C h=_
 unfold Bc
 simp only[Aa]
 cases C with
 |zero=>rfl
 |succ C=>rfl
theorem YW{F:CallF}{e:Env}{h:Hp}{k:C}{o:Addr}{n c:Nat}(hb:o.block<h.mark):J1 (.slice (some o) n c) k F e h=k F e h:=by
 show(bif Nat.blt o.block h.mark then k F e h else .no)=_
 rw[BD.2 hb];rfl
theorem Hp.Vals.blt{h:Hp}(W:h.Wf){o:Addr}{n c:Nat}{xs:List Value}(V:h.Vals (.slice (some o) n c) xs):o.block<h.next:=by
 rcases V with ⟨h1,_⟩|⟨b,off,c',el,L,h1,h2,_⟩
 ·cases h1
 ·cases h1;exact h2.lt W
def V3(u:Value):Prop:=∀ o n c,u=.slice o n c→n≤c
theorem Mk.cap{h:Hp}{k:Nat}{v:Value}{l:List Nat}(m:Mk h k v l):V3 v:=fun o n c e=>by
 obtain⟨b,el,h1,_⟩:=m
 rw[h1]at e;cases e;exact Nat.le_refl _
def qj(T l:List Nat)(h h':Hp)(r:R):Prop:=(∃ body v,EW T l=some body∧r=.ok (.tuple ⟨[v,.int .i64 0]⟩) h'∧Mk h' h.next v body)∨(EW T l=none∧∃ c:Int,c≠0∧r=.ok (.tuple ⟨[.slice none 0 0,.int .i64 c]⟩) h')
theorem Vy{n:Nat}{h:Hp}(W:h.Wf){tb:Nat}{T:List Nat}(R:h.Row tb 0 (T.map wv))(hT:TblOk T){u:Value}{l:List Nat}(V:h.Vals u (l.map bv))(hC:V3 u)(hb:∀ x∈l,x<256)(hl:l.length≤900000):
  ∃ h',h.Ext h'∧qj T l h h' (call AD (n+3) 110 [pt tb,u] h):=by
 have Vl:=V.bl h
 by_cases h4:l.length<4
 ·have c1:iLt (l.length:Int) 4=true:=E8 h4
  refine⟨h,.refl W,.inr ⟨by unfold EW;rw[if_pos h4],11,by omega,?_⟩⟩
  rw[Ny rfl]
  unfold Un
  simp only[iN,Nat.reduceAdd,sT,Nat.reduceLT,Nat.reduceEqDiff,reduceIte,Ae,Vl,AL,AK,c1,BX,DH]
 ·have c1:iLt (l.length:Int) 4=false:=DI (a:=l.length) (b:=4) (by omega)
  have a1:Fl Int.sub .i64 (.int .i64 (l.length:Int)) (.int .i64 4) h=.ok (.int .i64 ((l.length - 4:Nat):Int)) h:=by
   have:Int.sub (l.length:Int) 4=((l.length - 4:Nat):Int):=by show(l.length:Int) - 4=_;omega
   rw[CT,this,Ba (by omega)]
  have hlm:(l.map bv).length=l.length:=List.length_map ..
  obtain⟨o,c,hu,V1⟩:=V.cut (n:=l.length - 4) (by rw[hlm];omega)
  rw[hlm]at hu
  have hlen:(l.take (l.length - 4)).length=l.length - 4:=by rw[List.length_take];omega
  have V1:h.Vals (.slice (some o) (l.take (l.length - 4)).length c) ((l.take (l.length - 4)).map bv):=by rw[hlen,List.map_take];exact V1
  obtain⟨h1,v,k1,x1,m1⟩:=O9 (n:=n+1) W V1 (by omega)
  rw[hlen]at k1
  have hbb:∀ x∈l.take (l.length - 4),x<256:=fun x hx=>hb x (List.mem_of_mem_take hx)
  have xm:=x1.marked
  have Wm:=xm.wf
  have xq:h.Ext h1.marked.quiet:=xm.quiet
  obtain⟨h2,w,k2,x2,m2⟩:=Tx (n:=n) xq.wf (R.ext W xq) hT ((m1.same (h':=h1.marked.quiet) rfl).vals) hbb (by omega)
  have q1:∀ (F:CallF) (e:Env),F=call AD (n+2)→AB 0 e=pt tb→AB 6 e=v→Am .weak (AS 73 [AB 0,AB 6]) F e h1.marked=.ok w (h1.marked.back h2):=fun F e hF h0 h6=>by
   subst hF
   refine DJ ?_ x2 (Nat.le_refl _)
   rw[Bb,AY,AY,A3,h0,h6]
   exact k2
  have x3:h1.marked.Ext (h1.marked.back h2):=Hp.Ext.back x2
  have xb:=xm.trans x3
  have m3:Mk (h1.marked.back h2) h1.marked.quiet.next w (EA T (l.take (l.length - 4))):=m2.same rfl
  have m4:Mk (h1.marked.back h2) h.next v (l.take (l.length - 4)):=(m1.same (h':=h1.marked) rfl).ext Wm x3
  have Ve:=V.ext W xb
  have st1:=m3.vals.bytes.str
  have st2:=Ve.bytes.str
  have hbs:=O0 (Qt (T:=T) hbb) hb
  have hmk:o.block<(h1.marked.back h2).mark:=by
   have h5:o.block<h.next:=by rw[hu]at V;exact V.blt W
   have h6:=x1.next
   show o.block<h1.next
   omega
  have old:∀ (k:C) (F:CallF) (e:Env),J1 u k F e (h1.marked.back h2)=k F e (h1.marked.back h2):=fun k F e=>by rw[hu];exact YW hmk
  have ct:∀ (F:CallF) (e:Env),AB 1 e=u→AB 13 e=.int .i64 ((l.length - 4:Nat):Int)→Db 5 1 (AB 1) none (some (AB 13)) none F e h=.ok (.slice (some o) (l.length - 4) c) h:=fun F e e1 e2=>by
   have:=hC _ _ _ hu
   exact Wv (e1.trans hu) e2 (by omega)
  by_cases hs:EA T (l.take (l.length - 4))=l
  ·refine⟨_,xb,.inl ⟨_,v,by unfold EW;rw[if_neg h4,if_pos hs],?_,m4⟩⟩
   rw[decide_eq_true hs]at hbs
   rw[Ny rfl]
   unfold Un
   simp only[iN,Nat.reduceAdd,sT,Nat.reduceLT,Nat.reduceEqDiff,reduceIte,Ae,Vl,AL,AK,c1,Bs,a1,ct,cA0,k1,Ay,q1,Jz,st1,EU,old,DW,st2,OX,N3,hbs,Bool.not_true,BX,DH]
  ·refine⟨_,xb,.inr ⟨by unfold EW;rw[if_neg h4,if_neg hs],12,by omega,?_⟩⟩
   rw[decide_eq_false hs]at hbs
   rw[Ny rfl]
   unfold Un
   simp only[iN,Nat.reduceAdd,sT,Nat.reduceLT,Nat.reduceEqDiff,reduceIte,Ae,Vl,AL,AK,c1,Bs,a1,ct,cA0,k1,Ay,q1,Jz,st1,EU,old,DW,st2,OX,N3,hbs,Bool.not_false,BX,DH]
end
end Go.Proofs.YtedbmmfebjfibaaGreat

/-
  Part ZJ of what Lawan stands on: printed by program, names and spaces cut.
-/
import Derived.Test.YtbjadbhkogcfeaaGreatZI
open Go.Value renaming int→AI
open Go.IntKind renaming i64→AT
open Nat renaming reduceEqDiff→BY,reduceLT→By,reduceAdd→IT,le_refl→If,zero_add→sh,succ→tk,ble→tz,zero_le→uD,le_trans→uO,mul→ur,add_eq→vH,mul_one→wD,xor→wH,mod_eq_of_lt→wz,mul_le_mul_right→yW,min_eq_left→yj,xor_lt_two_pow→AAH
open Go renaming Value→IN
open List renaming length_append→No,length_map→OF,getElem?_eq_getElem→tW,getD_eq_getElem?_getD→tY,length_cons→tZ,mem_cons_of_mem→td,mem_cons_self→te,replicate→th,mem_cons→uA,append_assoc→uC,mem_append→uP,length_nil→uR,length_drop→ua,map_append→ud,length_replicate→uh,getElem?_map→uq,drop_zero→uv,drop_of_length_le→vC,mem_of_mem_take→vQ,drop_eq_getElem_cons→vr,eq_of_mem_replicate→xV,length→xc,drop_left→xx,mem_nil_iff→zD,take_left→zf,map_map→AAK
open Go.Proofs.Tryz renaming prog→tc,func16→AA7,func8→ABG
open Bool renaming and_eq_true→uB,eq_iff_iff→vY
open Int renaming sub→uZ,eq_ofNat_of_zero_le→wU,mul→zG
open Go.Value renaming int→ue
open UInt8 renaming ofNat→wa,toNat→zi
open Go.IntKind renaming u64→za
namespace Go.Proofs.YtbjadbhkogcfeaaGreat
noncomputable section
open Go
theorem PL{a b:String}(h:(a == b)=false):a≠b:=by simpa using h
theorem oFn{g:Nat}{f:Func}{b:Body}(A:List Nat)(hf:tc.funcs[g]? =some f)(hn:(f.name == "runtime.NumGoroutine")=false)(hb:YO ty A f=some b):BG tc ty g b:=Or.inl ⟨f,A,hf,PL hn,hb⟩
theorem o6:BG tc ty 6 b6:=oFn [20,25,27,31,38,41,42,50,52,54,55,59,60,61,65,66,68] Tryz.func6 (by kernel_rfl) (by kernel_rfl)
theorem o8:BG tc ty 8 b8:=oFn [8,9,11,13,18,19,23,24,26,28,32] ABG (by kernel_rfl) (by kernel_rfl)
theorem o9:BG tc ty 9 b9:=oFn [9,13,14,15,19,20,21,23] Tryz.func9 (by kernel_rfl) (by kernel_rfl)
theorem o10:BG tc ty 10 b10:=oFn [5,6,9,13,15,16,22,23,24,29] Tryz.func10 (by kernel_rfl) (by kernel_rfl)
theorem o11:BG tc ty 11 b11:=oFn [7,9,12,21,28,35,42,49,54] Tryz.func11 (by kernel_rfl) (by kernel_rfl)
theorem o12:BG tc ty 12 b12:=oFn [3,5] Tryz.func12 (by kernel_rfl) (by kernel_rfl)
theorem o13:BG tc ty 13 b13:=oFn [3,5] Tryz.func13 (by kernel_rfl) (by kernel_rfl)
theorem o15:BG tc ty 15 b15:=oFn [6,8,11,12,15,17,18,21,22] Tryz.func15 (by kernel_rfl) (by kernel_rfl)
theorem o16:BG tc ty 16 b16:=oFn [11,15,16,20,22,26,29,34,39,44,45,50,52,59,60,63,68,73] AA7 (by kernel_rfl) (by kernel_rfl)
theorem o18:BG tc ty 18 b18:=oFn [5,7] Tryz.func18 (by kernel_rfl) (by kernel_rfl)
theorem o19:BG tc ty 19 b19:=oFn [3,6] Tryz.func19 (by kernel_rfl) (by kernel_rfl)
theorem o21:BG tc ty 21 b21:=oFn [10,11,12,13,17,19,20,21,22] Tryz.func21 (by kernel_rfl) (by kernel_rfl)
theorem o22:BG tc ty 22 b22:=oFn [8,12,13,17,18,19,23,25,26,32,33,35] Tryz.func22 (by kernel_rfl) (by kernel_rfl)
theorem o23:BG tc ty 23 b23:=oFn [12,13,14,19,22,23,25,27,30,32,34,37,38,42,44,46] Tryz.func23 (by kernel_rfl) (by kernel_rfl)
theorem o24:BG tc ty 24 b24:=oFn [10,12,14,15,16,20,24,26,27,28,33,35,36] Tryz.func24 (by kernel_rfl) (by kernel_rfl)
theorem o29:BG tc ty 29 b29:=oFn [3,5] Tryz.func29 (by kernel_rfl) (by kernel_rfl)
theorem o30:BG tc ty 30 b30:=oFn [4,6,10] Tryz.func30 (by kernel_rfl) (by kernel_rfl)
theorem o31:BG tc ty 31 b31:=oFn [4,6,14,20] Tryz.func31 (by kernel_rfl) (by kernel_rfl)
theorem o32:BG tc ty 32 b32:=oFn [7,21] Tryz.func32 (by kernel_rfl) (by kernel_rfl)
theorem o33:BG tc ty 33 b33:=oFn [12,17,22,23,26,40] Tryz.func33 (by kernel_rfl) (by kernel_rfl)
theorem o34:BG tc ty 34 b34:=oFn [5] Tryz.func34 (by kernel_rfl) (by kernel_rfl)
theorem o35:BG tc ty 35 b35:=oFn [5] Tryz.func35 (by kernel_rfl) (by kernel_rfl)
theorem o36:BG tc ty 36 b36:=oFn [5] Tryz.func36 (by kernel_rfl) (by kernel_rfl)
theorem o37:BG tc ty 37 b37:=oFn [10,14,15,29,33] Tryz.func37 (by kernel_rfl) (by kernel_rfl)
theorem o38:BG tc ty 38 b38:=oFn [5] Tryz.func38 (by kernel_rfl) (by kernel_rfl)
theorem o39:BG tc ty 39 b39:=oFn [5] Tryz.func39 (by kernel_rfl) (by kernel_rfl)
theorem o40:BG tc ty 40 b40:=oFn [6,8,17,23] Tryz.func40 (by kernel_rfl) (by kernel_rfl)
theorem o41:BG tc ty 41 b41:=oFn [10,17,24,31] Tryz.func41 (by kernel_rfl) (by kernel_rfl)
theorem o42:BG tc ty 42 b42:=oFn [15,16,21,23,29,36,43,49,56,63] Tryz.func42 (by kernel_rfl) (by kernel_rfl)
theorem o43:BG tc ty 43 b43:=oFn [12,13,14,15,17,20] Tryz.func43 (by kernel_rfl) (by kernel_rfl)
theorem o44:BG tc ty 44 b44:=oFn [6,8,11,12,15,17,18,21,22] Tryz.func44 (by kernel_rfl) (by kernel_rfl)
theorem o45:BG tc ty 45 b45:=oFn [3,5] Tryz.func45 (by kernel_rfl) (by kernel_rfl)
theorem o47:BG tc ty 47 b47:=oFn [21,24,26,31,34,41,43,44,45,48,49,54,55,57,64,66,68,69,74,82,83,86,87,91,94,99,100,105,106,107,115,120,121,123,124,129,131,133] Tryz.func47 (by kernel_rfl) (by kernel_rfl)
theorem o48:BG tc ty 48 b48:=oFn [7,9,13,14,15,17,18,25,29] Tryz.func48 (by kernel_rfl) (by kernel_rfl)
theorem o49:BG tc ty 49 b49:=oFn [15,16,17,21,23,27,36,37] Tryz.func49 (by kernel_rfl) (by kernel_rfl)
theorem o50:BG tc ty 50 b50:=oFn [36,49,50] Tryz.func50 (by kernel_rfl) (by kernel_rfl)
theorem o51:BG tc ty 51 b51:=oFn [13,14,18] Tryz.func51 (by kernel_rfl) (by kernel_rfl)
theorem o52:BG tc ty 52 b52:=oFn [5,6,10] Tryz.func52 (by kernel_rfl) (by kernel_rfl)
theorem o53:BG tc ty 53 b53:=oFn [3,5] Tryz.func53 (by kernel_rfl) (by kernel_rfl)
theorem o54:BG tc ty 54 b54:=oFn [11,16,22,28,34,39,40] Tryz.func54 (by kernel_rfl) (by kernel_rfl)
theorem o55:BG tc ty 55 b55:=oFn [7,9,13,17] Tryz.func55 (by kernel_rfl) (by kernel_rfl)
theorem o56:BG tc ty 56 b56:=oFn [9,11,15] Tryz.func56 (by kernel_rfl) (by kernel_rfl)
theorem o57:BG tc ty 57 b57:=oFn [3,5] Tryz.func57 (by kernel_rfl) (by kernel_rfl)
theorem o58:BG tc ty 58 b58:=oFn [19,21,23,24,25,26,27,33,42,43,44,45,47,49,53,58,61,62,63,64,67,73,79,80,88,91,92,93,99,100,101,102,103,105,109,111,112,113,121,122,128,134] Tryz.func58 (by kernel_rfl) (by kernel_rfl)
theorem o59:BG tc ty 59 b59:=oFn [18,20,22,23,24,25,26,29,31,44,45,46,47,50,52,56,61,62,71,72,73,77,80,82,83,84,91,95,98,99,105,109,115,117,124,131,132,133,137,139,140] Tryz.func59 (by kernel_rfl) (by kernel_rfl)
theorem o60:BG tc ty 60 b60:=oFn [11,13,15,16,17,18,19,22,23,24,25,28,30,31] Tryz.func60 (by kernel_rfl) (by kernel_rfl)
theorem o61:BG tc ty 61 b61:=oFn [8,18,21,26,32] Tryz.func61 (by kernel_rfl) (by kernel_rfl)
theorem o62:BG tc ty 62 b62:=oFn [9] Tryz.func62 (by kernel_rfl) (by kernel_rfl)
theorem o63:BG tc ty 63 b63:=oFn [11,14,15,16,17,19,22,26] Tryz.func63 (by kernel_rfl) (by kernel_rfl)
theorem o64:BG tc ty 64 b64:=oFn [14,16,17,18,19,21,23,24,25,29,38,40,43,50,57,64,79] Tryz.func64 (by kernel_rfl) (by kernel_rfl)
theorem o65:BG tc ty 65 b65:=oFn [] Tryz.func65 (by kernel_rfl) (by kernel_rfl)
theorem o66:BG tc ty 66 b66:=oFn [] Tryz.func66 (by kernel_rfl) (by kernel_rfl)
theorem o67:BG tc ty 67 b67:=oFn [13,15,17,18,24,26,28,32,38,40,47,54,55,57,59] Tryz.func67 (by kernel_rfl) (by kernel_rfl)
theorem o68:BG tc ty 68 b68:=oFn [] Tryz.func68 (by kernel_rfl) (by kernel_rfl)
theorem o71:BG tc ty 71 b71:=oFn [3,5] Tryz.func71 (by kernel_rfl) (by kernel_rfl)
theorem o72:BG tc ty 72 b72:=oFn [3,5,9] Tryz.func72 (by kernel_rfl) (by kernel_rfl)
theorem o73:BG tc ty 73 b73:=oFn [15,16,20,21,26,29,30,33,34,38,44,46,55,57,58,59,60,65,68,69,76,80] Tryz.func73 (by kernel_rfl) (by kernel_rfl)
theorem o74:BG tc ty 74 b74:=oFn [5,7,8,9,12] Tryz.func74 (by kernel_rfl) (by kernel_rfl)
theorem o75:BG tc ty 75 b75:=oFn [] Tryz.func75 (by kernel_rfl) (by kernel_rfl)
theorem o76:BG tc ty 76 b76:=oFn [12,17,18,21,29,34] Tryz.func76 (by kernel_rfl) (by kernel_rfl)
theorem o77:BG tc ty 77 b77:=oFn [] Tryz.func77 (by kernel_rfl) (by kernel_rfl)
theorem o78:BG tc ty 78 b78:=oFn [5,6] Tryz.func78 (by kernel_rfl) (by kernel_rfl)
theorem o80:BG tc ty 80 b80:=oFn [5,6] Tryz.func80 (by kernel_rfl) (by kernel_rfl)
theorem o81:BG tc ty 81 b81:=oFn [8,17,23] Tryz.func81 (by kernel_rfl) (by kernel_rfl)
theorem o82:BG tc ty 82 b82:=oFn [7,10,11,16,17,20,23] Tryz.func82 (by kernel_rfl) (by kernel_rfl)
theorem o83:BG tc ty 83 b83:=oFn [10,17,19,26,27] Tryz.func83 (by kernel_rfl) (by kernel_rfl)
theorem o84:BG tc ty 84 b84:=oFn [11,13,19,20,21,24,26,27,30,31,33,35,39,47,48,51,55,57,58] Tryz.func84 (by kernel_rfl) (by kernel_rfl)
theorem o85:BG tc ty 85 b85:=oFn [9,16,17,19] Tryz.func85 (by kernel_rfl) (by kernel_rfl)
theorem o86:BG tc ty 86 b86:=oFn [14,15,16,21,23,27,29,31,33,34,38,39,41,42,44,46,48,49] Tryz.func86 (by kernel_rfl) (by kernel_rfl)
theorem o87:BG tc ty 87 b87:=oFn [5,7,8,14,16,17] Tryz.func87 (by kernel_rfl) (by kernel_rfl)
theorem o88:BG tc ty 88 b88:=oFn [15,16,19,23,31,32,35] Tryz.func88 (by kernel_rfl) (by kernel_rfl)
theorem o89:BG tc ty 89 b89:=oFn [7,8,10] Tryz.func89 (by kernel_rfl) (by kernel_rfl)
theorem o90:BG tc ty 90 b90:=oFn [5,6] Tryz.func90 (by kernel_rfl) (by kernel_rfl)
theorem o91:BG tc ty 91 b91:=oFn [11] Tryz.func91 (by kernel_rfl) (by kernel_rfl)
theorem o92:BG tc ty 92 b92:=oFn [4,6,14] Tryz.func92 (by kernel_rfl) (by kernel_rfl)
theorem o93:BG tc ty 93 b93:=oFn [3,6] Tryz.func93 (by kernel_rfl) (by kernel_rfl)
theorem o94:BG tc ty 94 b94:=oFn [6,11,16,21,26,31,41] Tryz.func94 (by kernel_rfl) (by kernel_rfl)
theorem o95:BG tc ty 95 b95:=oFn [9] Tryz.func95 (by kernel_rfl) (by kernel_rfl)
theorem o96:BG tc ty 96 b96:=oFn [6,8,11,15,16,17,20,21] Tryz.func96 (by kernel_rfl) (by kernel_rfl)
theorem o97:BG tc ty 97 b97:=oFn [10,11,12,14,16] Tryz.func97 (by kernel_rfl) (by kernel_rfl)
theorem o98:BG tc ty 98 b98:=oFn [28,39,40,43,44,45] Tryz.func98 (by kernel_rfl) (by kernel_rfl)
theorem o99:BG tc ty 99 b99:=oFn [11,12,15,19,20,23,24,27,31] Tryz.func99 (by kernel_rfl) (by kernel_rfl)
theorem rL:BG tc ty 100 jQ:=oFn [5,6] Tryz.func100 (by kernel_rfl) (by kernel_rfl)
theorem rM:BG tc ty 101 jR:=oFn [14,16,18,21] Tryz.func101 (by kernel_rfl) (by kernel_rfl)
theorem rN:BG tc ty 102 jS:=oFn [3,6] Tryz.func102 (by kernel_rfl) (by kernel_rfl)
theorem rO:BG tc ty 103 jT:=oFn [3,6] Tryz.func103 (by kernel_rfl) (by kernel_rfl)
theorem rP:BG tc ty 104 jU:=oFn [6,10,14,15,20,21,26,27,32,37,42] Tryz.func104 (by kernel_rfl) (by kernel_rfl)
theorem rQ:BG tc ty 105 jV:=oFn [6,7,11,17,19,20,21] Tryz.func105 (by kernel_rfl) (by kernel_rfl)
theorem rR:BG tc ty 107 jW:=oFn [3,5,6,7] Tryz.func107 (by kernel_rfl) (by kernel_rfl)
theorem rS:BG tc ty 109 jX:=oFn [9,10,12,14,15,16,20,24,26,30] Tryz.func109 (by kernel_rfl) (by kernel_rfl)
theorem rT:BG tc ty 110 jY:=oFn [5,6] Tryz.func110 (by kernel_rfl) (by kernel_rfl)
theorem rU:BG tc ty 111 jZ:=oFn [3] Tryz.func111 (by kernel_rfl) (by kernel_rfl)
theorem rV:BG tc ty 112 ja:=oFn [15,16,17,21,23,31,32,33,34,35,41,43,68,73,78] Tryz.func112 (by kernel_rfl) (by kernel_rfl)
theorem rW:BG tc ty 113 jb:=oFn [12,14,16,18,19,23,24,27,32,34,35,36,38,39,40] Tryz.func113 (by kernel_rfl) (by kernel_rfl)
theorem rX:BG tc ty 114 jc:=oFn [21,22,24,26,27,28,29,31,33,34,35,36,38,40,41,42,43,45,47,48,49,50,51,55,57,58,59,60,62,64,65,68,69,72,76,77,78,79,81,83,98,99,100,101,102,104,105,106,107,108,109,110,114,115,116,118,119,121,123,124,126,127,129,130,131,132,133,135,137,138,140,141,143,144,145,147] Tryz.func114 (by kernel_rfl) (by kernel_rfl)
theorem rY:BG tc ty 115 jd:=oFn [3,6] Tryz.func115 (by kernel_rfl) (by kernel_rfl)
theorem rZ:BG tc ty 116 je:=oFn [12,13,15,17] Tryz.func116 (by kernel_rfl) (by kernel_rfl)
theorem ra:BG tc ty 117 jf:=oFn [7,9,11,12,13,14,15,17,18] Tryz.func117 (by kernel_rfl) (by kernel_rfl)
theorem rc:BG tc ty 120 jg:=oFn [6,10,11,12,13,17] Tryz.func120 (by kernel_rfl) (by kernel_rfl)
theorem re:BG tc ty 121 jh:=oFn [6,10,11,12,13,17] Tryz.func121 (by kernel_rfl) (by kernel_rfl)
theorem rh:BG tc ty 122 ji:=oFn [] Tryz.func122 (by kernel_rfl) (by kernel_rfl)
theorem ri:BG tc ty 123 jj:=oFn [9,10,12,14,15,18,20,22,23,27,28] Tryz.func123 (by kernel_rfl) (by kernel_rfl)
theorem rj:BG tc ty 124 jk:=oFn [7,9,11,12,14,16,17,27,31,34] Tryz.func124 (by kernel_rfl) (by kernel_rfl)
theorem rk:BG tc ty 125 jl:=oFn [5,8,9,11,15,17,18,21,23,26] Tryz.func125 (by kernel_rfl) (by kernel_rfl)
theorem rl:BG tc ty 126 jm:=oFn [6,10,11,12,13,17] Tryz.func126 (by kernel_rfl) (by kernel_rfl)
theorem rn:BG tc ty 127 jn:=oFn [11,18] Tryz.func127 (by kernel_rfl) (by kernel_rfl)
theorem ro:BG tc ty 128 jo:=oFn [7] Tryz.func128 (by kernel_rfl) (by kernel_rfl)
theorem rp:BG tc ty 129 jp:=oFn [] Tryz.func129 (by kernel_rfl) (by kernel_rfl)
theorem rq:BG tc ty 130 jq:=oFn [8,9,10,11,14,15,17,18,20,21,23,24,27,28,30,32] Tryz.func130 (by kernel_rfl) (by kernel_rfl)
theorem rt:BG tc ty 132 jr:=oFn [19,20,22,24,25,26,28,30,31,32,34,36,37,38,40,42,43,44,45,49,51,52,53,55,57,58,61,62,65,69,70,71,73,75,88,89,90,91,93,94,95,96,97,98,102,103,104,106,107,109,111,112,114,115,117,118,119,120,122,124,125,127,128,130,131,133] Tryz.func132 (by kernel_rfl) (by kernel_rfl)
theorem ru:BG tc ty 133 js:=oFn [6,9,14,16] Tryz.func133 (by kernel_rfl) (by kernel_rfl)
theorem rv:BG tc ty 134 jt:=oFn [6,10,11,12,13,17] Tryz.func134 (by kernel_rfl) (by kernel_rfl)
theorem rx:BG tc ty 135 ju:=oFn [3] Tryz.func135 (by kernel_rfl) (by kernel_rfl)
theorem ry:BG tc ty 136 jv:=oFn [10,12,13,15,17,18,19,21,35,37,38,39,40,42,43,47,48] Tryz.func136 (by kernel_rfl) (by kernel_rfl)
theorem rz:BG tc ty 145 jw:=oFn [3,5,7,9,11,13,15,17,19,20] Tryz.func145 (by kernel_rfl) (by kernel_rfl)
theorem sA:BG tc ty 146 jx:=oFn [3,4] Tryz.func146 (by kernel_rfl) (by kernel_rfl)
theorem sB:BG tc ty 147 jy:=oFn [3,8,9,14,15] Tryz.func147 (by kernel_rfl) (by kernel_rfl)
theorem sC:BG tc ty 148 jz:=oFn [10,17] Tryz.func148 (by kernel_rfl) (by kernel_rfl)
theorem sD:BG tc ty 149 j0:=oFn [8,10,11,13,15,16,17,19,31,33,34,35,36,38,39,43,44] Tryz.func149 (by kernel_rfl) (by kernel_rfl)
theorem sE:BG tc ty 155 j6:=oFn [5,7,12] Tryz.func155 (by kernel_rfl) (by kernel_rfl)
theorem Aw(i:Nat):BG tc ty i Av:=Or.inr (.inl rfl)
set_option maxRecDepth 100000 in
def Gn:FT:=(.nd Av (.nd Av (.nd Av (.nd Av (.nd b15 (.nd b31 (.nd b63 (.nd jn .mt .mt) .mt) (.nd b95 (.nd Av .mt .mt) .mt)) (.nd b47 (.nd Av (.nd Av .mt .mt) .mt) (.nd jZ (.nd Av .mt .mt) .mt))) (.nd b23 (.nd b39 (.nd b71 (.nd ju .mt .mt) .mt) (.nd jT (.nd Av .mt .mt) .mt)) (.nd b55 (.nd b87 (.nd Av .mt .mt) .mt) (.nd Av (.nd Av .mt .mt) .mt)))) (.nd b11 (.nd b19 (.nd b35 (.nd b67 (.nd Av .mt .mt) .mt) (.nd b99 (.nd Av .mt .mt) .mt)) (.nd b51 (.nd b83 (.nd jy .mt .mt) .mt) (.nd jd (.nd Av .mt .mt) .mt))) (.nd Av (.nd b43 (.nd b75 (.nd Av .mt .mt) .mt) (.nd jW (.nd Av .mt .mt) .mt)) (.nd b59 (.nd b91 (.nd j6 .mt .mt) .mt) (.nd jj .mt .mt))))) (.nd Av (.nd b9 (.nd Av (.nd b33 (.nd b65 (.nd jp .mt .mt) .mt) (.nd b97 (.nd Av .mt .mt) .mt)) (.nd b49 (.nd b81 (.nd jw .mt .mt) .mt) (.nd jb (.nd Av .mt .mt) .mt))) (.nd Av (.nd b41 (.nd b73 (.nd Av .mt .mt) .mt) (.nd jV (.nd Av .mt .mt) .mt)) (.nd b57 (.nd b89 (.nd Av .mt .mt) .mt) (.nd jh .mt .mt)))) (.nd b13 (.nd b21 (.nd b37 (.nd Av (.nd js .mt .mt) .mt) (.nd jR (.nd Av .mt .mt) .mt)) (.nd b53 (.nd b85 (.nd j0 .mt .mt) .mt) (.nd jf (.nd Av .mt .mt) .mt))) (.nd b29 (.nd b45 (.nd b77 (.nd Av .mt .mt) .mt) (.nd jX (.nd Av .mt .mt) .mt)) (.nd b61 (.nd b93 (.nd Av .mt .mt) .mt) (.nd jl .mt .mt)))))) (.nd Av (.nd Av (.nd b8 (.nd b16 (.nd b32 (.nd b64 (.nd jo .mt .mt) .mt) (.nd b96 (.nd Av .mt .mt) .mt)) (.nd b48 (.nd b80 (.nd Av .mt .mt) .mt) (.nd ja (.nd Av .mt .mt) .mt))) (.nd b24 (.nd b40 (.nd b72 (.nd jv .mt .mt) .mt) (.nd jU (.nd Av .mt .mt) .mt)) (.nd b56 (.nd b88 (.nd Av .mt .mt) .mt) (.nd jg (.nd Av .mt .mt) .mt)))) (.nd b12 (.nd Av (.nd b36 (.nd b68 (.nd jr .mt .mt) .mt) (.nd jQ (.nd Av .mt .mt) .mt)) (.nd b52 (.nd b84 (.nd jz .mt .mt) .mt) (.nd je (.nd Av .mt .mt) .mt))) (.nd Av (.nd b44 (.nd b76 (.nd Av .mt .mt) .mt) (.nd Av (.nd Av .mt .mt) .mt)) (.nd b60 (.nd b92 (.nd Av .mt .mt) .mt) (.nd jk .mt .mt))))) (.nd b6 (.nd b10 (.nd b18 (.nd b34 (.nd b66 (.nd jq .mt .mt) .mt) (.nd b98 (.nd Av .mt .mt) .mt)) (.nd b50 (.nd b82 (.nd jx .mt .mt) .mt) (.nd jc (.nd Av .mt .mt) .mt))) (.nd Av (.nd b42 (.nd b74 (.nd Av .mt .mt) .mt) (.nd Av (.nd Av .mt .mt) .mt)) (.nd b58 (.nd b90 (.nd Av .mt .mt) .mt) (.nd ji .mt .mt)))) (.nd Av (.nd b22 (.nd b38 (.nd Av (.nd jt .mt .mt) .mt) (.nd jS (.nd Av .mt .mt) .mt)) (.nd b54 (.nd b86 (.nd Av .mt .mt) .mt) (.nd Av (.nd Av .mt .mt) .mt))) (.nd b30 (.nd Av (.nd b78 (.nd Av .mt .mt) .mt) (.nd jY (.nd Av .mt .mt) .mt)) (.nd b62 (.nd b94 (.nd Av .mt .mt) .mt) (.nd jm .mt .mt)))))))
set_option maxRecDepth 100000 in
theorem SZ:FT.All (BG tc ty) Gn id:=⟨Aw _,⟨Aw _,⟨Aw _,⟨Aw _,⟨o15,⟨o31,⟨o63,⟨rn,trivial,trivial⟩,trivial⟩,⟨o95,⟨Aw _,trivial,trivial⟩,trivial⟩⟩,⟨o47,⟨Aw _,⟨Aw _,trivial,trivial⟩,trivial⟩,⟨rU,⟨Aw _,trivial,trivial⟩,trivial⟩⟩⟩,⟨o23,⟨o39,⟨o71,⟨rx,trivial,trivial⟩,trivial⟩,⟨rO,⟨Aw _,trivial,trivial⟩,trivial⟩⟩,⟨o55,⟨o87,⟨Aw _,trivial,trivial⟩,trivial⟩,⟨Aw _,⟨Aw _,trivial,trivial⟩,trivial⟩⟩⟩⟩,⟨o11,⟨o19,⟨o35,⟨o67,⟨Aw _,trivial,trivial⟩,trivial⟩,⟨o99,⟨Aw _,trivial,trivial⟩,trivial⟩⟩,⟨o51,⟨o83,⟨sB,trivial,trivial⟩,trivial⟩,⟨rY,⟨Aw _,trivial,trivial⟩,trivial⟩⟩⟩,⟨Aw _,⟨o43,⟨o75,⟨Aw _,trivial,trivial⟩,trivial⟩,⟨rR,⟨Aw _,trivial,trivial⟩,trivial⟩⟩,⟨o59,⟨o91,⟨sE,trivial,trivial⟩,trivial⟩,⟨ri,trivial,trivial⟩⟩⟩⟩⟩,⟨Aw _,⟨o9,⟨Aw _,⟨o33,⟨o65,⟨rp,trivial,trivial⟩,trivial⟩,⟨o97,⟨Aw _,trivial,trivial⟩,trivial⟩⟩,⟨o49,⟨o81,⟨rz,trivial,trivial⟩,trivial⟩,⟨rW,⟨Aw _,trivial,trivial⟩,trivial⟩⟩⟩,⟨Aw _,⟨o41,⟨o73,⟨Aw _,trivial,trivial⟩,trivial⟩,⟨rQ,⟨Aw _,trivial,trivial⟩,trivial⟩⟩,⟨o57,⟨o89,⟨Aw _,trivial,trivial⟩,trivial⟩,⟨re,trivial,trivial⟩⟩⟩⟩,⟨o13,⟨o21,⟨o37,⟨Aw _,⟨ru,trivial,trivial⟩,trivial⟩,⟨rM,⟨Aw _,trivial,trivial⟩,trivial⟩⟩,⟨o53,⟨o85,⟨sD,trivial,trivial⟩,trivial⟩,⟨ra,⟨Aw _,trivial,trivial⟩,trivial⟩⟩⟩,⟨o29,⟨o45,⟨o77,⟨Aw _,trivial,trivial⟩,trivial⟩,⟨rS,⟨Aw _,trivial,trivial⟩,trivial⟩⟩,⟨o61,⟨o93,⟨Aw _,trivial,trivial⟩,trivial⟩,⟨rk,trivial,trivial⟩⟩⟩⟩⟩⟩,⟨Aw _,⟨Aw _,⟨o8,⟨o16,⟨o32,⟨o64,⟨ro,trivial,trivial⟩,trivial⟩,⟨o96,⟨Aw _,trivial,trivial⟩,trivial⟩⟩,⟨o48,⟨o80,⟨Aw _,trivial,trivial⟩,trivial⟩,⟨rV,⟨Aw _,trivial,trivial⟩,trivial⟩⟩⟩,⟨o24,⟨o40,⟨o72,⟨ry,trivial,trivial⟩,trivial⟩,⟨rP,⟨Aw _,trivial,trivial⟩,trivial⟩⟩,⟨o56,⟨o88,⟨Aw _,trivial,trivial⟩,trivial⟩,⟨rc,⟨Aw _,trivial,trivial⟩,trivial⟩⟩⟩⟩,⟨o12,⟨Aw _,⟨o36,⟨o68,⟨rt,trivial,trivial⟩,trivial⟩,⟨rL,⟨Aw _,trivial,trivial⟩,trivial⟩⟩,⟨o52,⟨o84,⟨sC,trivial,trivial⟩,trivial⟩,⟨rZ,⟨Aw _,trivial,trivial⟩,trivial⟩⟩⟩,⟨Aw _,⟨o44,⟨o76,⟨Aw _,trivial,trivial⟩,trivial⟩,⟨Aw _,⟨Aw _,trivial,trivial⟩,trivial⟩⟩,⟨o60,⟨o92,⟨Aw _,trivial,trivial⟩,trivial⟩,⟨rj,trivial,trivial⟩⟩⟩⟩⟩,⟨o6,⟨o10,⟨o18,⟨o34,⟨o66,⟨rq,trivial,trivial⟩,trivial⟩,⟨o98,⟨Aw _,trivial,trivial⟩,trivial⟩⟩,⟨o50,⟨o82,⟨sA,trivial,trivial⟩,trivial⟩,⟨rX,⟨Aw _,trivial,trivial⟩,trivial⟩⟩⟩,⟨Aw _,⟨o42,⟨o74,⟨Aw _,trivial,trivial⟩,trivial⟩,⟨Aw _,⟨Aw _,trivial,trivial⟩,trivial⟩⟩,⟨o58,⟨o90,⟨Aw _,trivial,trivial⟩,trivial⟩,⟨rh,trivial,trivial⟩⟩⟩⟩,⟨Aw _,⟨o22,⟨o38,⟨Aw _,⟨rv,trivial,trivial⟩,trivial⟩,⟨rN,⟨Aw _,trivial,trivial⟩,trivial⟩⟩,⟨o54,⟨o86,⟨Aw _,trivial,trivial⟩,trivial⟩,⟨Aw _,⟨Aw _,trivial,trivial⟩,trivial⟩⟩⟩,⟨o30,⟨Aw _,⟨o78,⟨Aw _,trivial,trivial⟩,trivial⟩,⟨rT,⟨Aw _,trivial,trivial⟩,trivial⟩⟩,⟨o62,⟨o94,⟨Aw _,trivial,trivial⟩,trivial⟩,⟨rl,trivial,trivial⟩⟩⟩⟩⟩⟩⟩
theorem jE:DI tc ty:=qH (by kernel_rfl) (by kernel_rfl)
theorem Nh(n:Nat):Dc tc ty (call Gn n):=JI jE (by kernel_rfl) SZ n
end
noncomputable section
open Go
set_option maxHeartbeats 0 in
theorem Wj:aQ (call Gn 64 16 [] IZ)=true:=by kernel_rfl
theorem SW:Lm tc ty 16 J7:=Xx ⟨Tryz.f16,AA7,PL (by kernel_rfl),by kernel_rfl⟩ (bM Nh Wj)
theorem oA:BG tc ty 16 J7:=Or.inr (.inr SW)
open Go.RowKit Go.WideShapes Go.ChangeShapes
set_option maxRecDepth 100000
def jD(L:List IN)(args:List IN)(h:Hp):R:=match args with
 |[]=>.ok (.agg ⟨L⟩) h
 |_::_=>.no
def Nd(L:List IN):Body:=⟨[.x (fun _=>jD L)],cNo⟩
def isW:IN->Bool
 |.int .u32 n=>decide (0<=n) && decide (n<4294967296)
 |_=>false
def aP:R->Bool
 |.ok (.agg ⟨l⟩) _=>l.all isW && Nat.beq l.length 256
 |_=>false
def pM:R->List IN
 |.ok (.agg ⟨l⟩) _=>l
 |_=>[]
def ND:List IN:=pM (call Gn 64 8 [] IZ)
set_option maxHeartbeats 0 in
theorem iK:aP (call Gn 64 8 [] IZ)=true:=by kernel_rfl
theorem PH{v:IN}(h:isW v=true):∃ n:Nat,v=.int .u32 (n:Int)/\n<4294967296:=by
 unfold isW at h;split at h
 ·rename_i n
  simp only[uB,decide_eq_true_eq]at h;obtain⟨m,rfl⟩:=wU h.1;exact⟨m,rfl,by omega⟩
 ·cases h
theorem Tn:∃ h',call Gn 64 8 [] IZ=.ok (.agg ⟨ND⟩) h'/\ND.length=256/\∀ v∈ND,isW v=true:=by
 have h:=iK;unfold ND;generalize call Gn 64 8 [] IZ=r at h;unfold aP at h;split at h
 ·rename_i l h'
  simp only[uB,List.all_eq_true]at h;exact⟨h',rfl,Nat.eq_of_beq_eq_true h.2,h.1⟩
 ·cases h
theorem Q4{φ:Phi}:∀ {L L':List IN},ABv φ L L'->(∀ v∈L,isW v=true)->L'=L
 |_,_,.nil,_=>rfl
 |_,_,.cons (v:=v) h t,hL=>by
  rw[Q4 t fun x hx=>hL x (td _ hx)];obtain⟨n,rfl,_⟩:=PH (hL v te);cases h;rfl
theorem Q5(φ:Phi):∀ {L:List IN},(∀ v∈L,isW v=true)->ABv φ L L
 |[],_=>.nil
 |v::L,h=>by
  obtain⟨n,rfl,_⟩:=PH (h v te);exact .cons (.int _ _) (Q5 φ fun x hx=>h x (td _ hx))
theorem Xw(w:World):Calls tc 8 #[] w fun e w'=>e=.returned (.agg ⟨ND⟩)/\Below w.heap.size w w':=by
 obtain⟨h',hr,_,hw⟩:=Tn;obtain⟨_,hc⟩:=Nh _ 8 [] IZ _ h' hr;refine(hc pX w [] .nil (OV ty w)).mono fun e w' ⟨v',ψ,he,hv,_,ev⟩=>?_
 cases hv with
 |agg hl=>
  rw[Q4 hl hw]at he;exact⟨he,⟨ev.os,ev.tape,ev.output,ev.size,fun k hk=>ev.frame k hk fun i p hp=>by cases hp⟩⟩
theorem XM{P:Program}{ty:TTy}{f:Nat}{L:List IN}(hL:∀ v∈L,isW v=true)(hS:∃ fn,P.funcs[f]? =some fn/\fn.name≠"runtime.NumGoroutine" /\fn.body.isNone=false)(hc:∀ w:World,Calls P f #[] w fun e w'=>e=.returned (.agg ⟨L⟩)/\Below w.heap.size w w'):Lm P ty f (Nd L):=fun F args h v h' _ hr=>⟨hS,fun φ w args' ACE H=>by
 have hr:jD L args h=.ok v h':=hr;cases args with
 |cons a l=>cases hr
 |nil=>
  cases hr;cases ACE;exact(hc w).mono fun e w' ⟨he,hb⟩=>⟨_,φ,he,.agg (Q5 φ hL),(G0 H hb).1,(G0 H hb).2⟩⟩
theorem bj:Lm tc ty 8 (Nd ND):=XM (Tn.choose_spec.2.2) ⟨Tryz.f8,ABG,PL (by kernel_rfl),by kernel_rfl⟩ Xw
theorem oT:BG tc ty 8 (Nd ND):=Or.inr (.inr bj)
theorem Wp{bs:FT}{n f:Nat}{L:List IN}(hb:bs.get f=some (Nd L)){h:Hp}:call bs (tk n) f [] h=.ok (.agg ⟨L⟩) h:=by
 rw[On hb];rfl
end
noncomputable section
open Go
set_option maxRecDepth 100000 in
def AC:FT:=(.nd Av (.nd Av (.nd Av (.nd Av (.nd b15 (.nd b31 (.nd b63 (.nd jn .mt .mt) .mt) (.nd b95 (.nd Av .mt .mt) .mt)) (.nd b47 (.nd Av (.nd Av .mt .mt) .mt) (.nd jZ (.nd Av .mt .mt) .mt))) (.nd b23 (.nd b39 (.nd b71 (.nd ju .mt .mt) .mt) (.nd jT (.nd Av .mt .mt) .mt)) (.nd b55 (.nd b87 (.nd Av .mt .mt) .mt) (.nd Av (.nd Av .mt .mt) .mt)))) (.nd b11 (.nd b19 (.nd b35 (.nd b67 (.nd Av .mt .mt) .mt) (.nd b99 (.nd Av .mt .mt) .mt)) (.nd b51 (.nd b83 (.nd jy .mt .mt) .mt) (.nd jd (.nd Av .mt .mt) .mt))) (.nd Av (.nd b43 (.nd b75 (.nd Av .mt .mt) .mt) (.nd jW (.nd Av .mt .mt) .mt)) (.nd b59 (.nd b91 (.nd j6 .mt .mt) .mt) (.nd jj .mt .mt))))) (.nd Av (.nd b9 (.nd Av (.nd b33 (.nd b65 (.nd jp .mt .mt) .mt) (.nd b97 (.nd Av .mt .mt) .mt)) (.nd b49 (.nd b81 (.nd jw .mt .mt) .mt) (.nd jb (.nd Av .mt .mt) .mt))) (.nd Av (.nd b41 (.nd b73 (.nd Av .mt .mt) .mt) (.nd jV (.nd Av .mt .mt) .mt)) (.nd b57 (.nd b89 (.nd Av .mt .mt) .mt) (.nd jh .mt .mt)))) (.nd b13 (.nd b21 (.nd b37 (.nd Av (.nd js .mt .mt) .mt) (.nd jR (.nd Av .mt .mt) .mt)) (.nd b53 (.nd b85 (.nd j0 .mt .mt) .mt) (.nd jf (.nd Av .mt .mt) .mt))) (.nd b29 (.nd b45 (.nd b77 (.nd Av .mt .mt) .mt) (.nd jX (.nd Av .mt .mt) .mt)) (.nd b61 (.nd b93 (.nd Av .mt .mt) .mt) (.nd jl .mt .mt)))))) (.nd Av (.nd Av (.nd (Nd ND) (.nd J7 (.nd b32 (.nd b64 (.nd jo .mt .mt) .mt) (.nd b96 (.nd Av .mt .mt) .mt)) (.nd b48 (.nd b80 (.nd Av .mt .mt) .mt) (.nd ja (.nd Av .mt .mt) .mt))) (.nd b24 (.nd b40 (.nd b72 (.nd jv .mt .mt) .mt) (.nd jU (.nd Av .mt .mt) .mt)) (.nd b56 (.nd b88 (.nd Av .mt .mt) .mt) (.nd jg (.nd Av .mt .mt) .mt)))) (.nd b12 (.nd Av (.nd b36 (.nd b68 (.nd jr .mt .mt) .mt) (.nd jQ (.nd Av .mt .mt) .mt)) (.nd b52 (.nd b84 (.nd jz .mt .mt) .mt) (.nd je (.nd Av .mt .mt) .mt))) (.nd Av (.nd b44 (.nd b76 (.nd Av .mt .mt) .mt) (.nd Av (.nd Av .mt .mt) .mt)) (.nd b60 (.nd b92 (.nd Av .mt .mt) .mt) (.nd jk .mt .mt))))) (.nd b6 (.nd b10 (.nd b18 (.nd b34 (.nd b66 (.nd jq .mt .mt) .mt) (.nd b98 (.nd Av .mt .mt) .mt)) (.nd b50 (.nd b82 (.nd jx .mt .mt) .mt) (.nd jc (.nd Av .mt .mt) .mt))) (.nd Av (.nd b42 (.nd b74 (.nd Av .mt .mt) .mt) (.nd Av (.nd Av .mt .mt) .mt)) (.nd b58 (.nd b90 (.nd Av .mt .mt) .mt) (.nd ji .mt .mt)))) (.nd Av (.nd b22 (.nd b38 (.nd Av (.nd jt .mt .mt) .mt) (.nd jS (.nd Av .mt .mt) .mt)) (.nd b54 (.nd b86 (.nd Av .mt .mt) .mt) (.nd Av (.nd Av .mt .mt) .mt))) (.nd b30 (.nd Av (.nd b78 (.nd Av .mt .mt) .mt) (.nd jY (.nd Av .mt .mt) .mt)) (.nd b62 (.nd b94 (.nd Av .mt .mt) .mt) (.nd jm .mt .mt)))))))
set_option maxRecDepth 100000 in
theorem Wn:FT.All (BG tc ty) AC id:=⟨Aw _,⟨Aw _,⟨Aw _,⟨Aw _,⟨o15,⟨o31,⟨o63,⟨rn,trivial,trivial⟩,trivial⟩,⟨o95,⟨Aw _,trivial,trivial⟩,trivial⟩⟩,⟨o47,⟨Aw _,⟨Aw _,trivial,trivial⟩,trivial⟩,⟨rU,⟨Aw _,trivial,trivial⟩,trivial⟩⟩⟩,⟨o23,⟨o39,⟨o71,⟨rx,trivial,trivial⟩,trivial⟩,⟨rO,⟨Aw _,trivial,trivial⟩,trivial⟩⟩,⟨o55,⟨o87,⟨Aw _,trivial,trivial⟩,trivial⟩,⟨Aw _,⟨Aw _,trivial,trivial⟩,trivial⟩⟩⟩⟩,⟨o11,⟨o19,⟨o35,⟨o67,⟨Aw _,trivial,trivial⟩,trivial⟩,⟨o99,⟨Aw _,trivial,trivial⟩,trivial⟩⟩,⟨o51,⟨o83,⟨sB,trivial,trivial⟩,trivial⟩,⟨rY,⟨Aw _,trivial,trivial⟩,trivial⟩⟩⟩,⟨Aw _,⟨o43,⟨o75,⟨Aw _,trivial,trivial⟩,trivial⟩,⟨rR,⟨Aw _,trivial,trivial⟩,trivial⟩⟩,⟨o59,⟨o91,⟨sE,trivial,trivial⟩,trivial⟩,⟨ri,trivial,trivial⟩⟩⟩⟩⟩,⟨Aw _,⟨o9,⟨Aw _,⟨o33,⟨o65,⟨rp,trivial,trivial⟩,trivial⟩,⟨o97,⟨Aw _,trivial,trivial⟩,trivial⟩⟩,⟨o49,⟨o81,⟨rz,trivial,trivial⟩,trivial⟩,⟨rW,⟨Aw _,trivial,trivial⟩,trivial⟩⟩⟩,⟨Aw _,⟨o41,⟨o73,⟨Aw _,trivial,trivial⟩,trivial⟩,⟨rQ,⟨Aw _,trivial,trivial⟩,trivial⟩⟩,⟨o57,⟨o89,⟨Aw _,trivial,trivial⟩,trivial⟩,⟨re,trivial,trivial⟩⟩⟩⟩,⟨o13,⟨o21,⟨o37,⟨Aw _,⟨ru,trivial,trivial⟩,trivial⟩,⟨rM,⟨Aw _,trivial,trivial⟩,trivial⟩⟩,⟨o53,⟨o85,⟨sD,trivial,trivial⟩,trivial⟩,⟨ra,⟨Aw _,trivial,trivial⟩,trivial⟩⟩⟩,⟨o29,⟨o45,⟨o77,⟨Aw _,trivial,trivial⟩,trivial⟩,⟨rS,⟨Aw _,trivial,trivial⟩,trivial⟩⟩,⟨o61,⟨o93,⟨Aw _,trivial,trivial⟩,trivial⟩,⟨rk,trivial,trivial⟩⟩⟩⟩⟩⟩,⟨Aw _,⟨Aw _,⟨oT,⟨oA,⟨o32,⟨o64,⟨ro,trivial,trivial⟩,trivial⟩,⟨o96,⟨Aw _,trivial,trivial⟩,trivial⟩⟩,⟨o48,⟨o80,⟨Aw _,trivial,trivial⟩,trivial⟩,⟨rV,⟨Aw _,trivial,trivial⟩,trivial⟩⟩⟩,⟨o24,⟨o40,⟨o72,⟨ry,trivial,trivial⟩,trivial⟩,⟨rP,⟨Aw _,trivial,trivial⟩,trivial⟩⟩,⟨o56,⟨o88,⟨Aw _,trivial,trivial⟩,trivial⟩,⟨rc,⟨Aw _,trivial,trivial⟩,trivial⟩⟩⟩⟩,⟨o12,⟨Aw _,⟨o36,⟨o68,⟨rt,trivial,trivial⟩,trivial⟩,⟨rL,⟨Aw _,trivial,trivial⟩,trivial⟩⟩,⟨o52,⟨o84,⟨sC,trivial,trivial⟩,trivial⟩,⟨rZ,⟨Aw _,trivial,trivial⟩,trivial⟩⟩⟩,⟨Aw _,⟨o44,⟨o76,⟨Aw _,trivial,trivial⟩,trivial⟩,⟨Aw _,⟨Aw _,trivial,trivial⟩,trivial⟩⟩,⟨o60,⟨o92,⟨Aw _,trivial,trivial⟩,trivial⟩,⟨rj,trivial,trivial⟩⟩⟩⟩⟩,⟨o6,⟨o10,⟨o18,⟨o34,⟨o66,⟨rq,trivial,trivial⟩,trivial⟩,⟨o98,⟨Aw _,trivial,trivial⟩,trivial⟩⟩,⟨o50,⟨o82,⟨sA,trivial,trivial⟩,trivial⟩,⟨rX,⟨Aw _,trivial,trivial⟩,trivial⟩⟩⟩,⟨Aw _,⟨o42,⟨o74,⟨Aw _,trivial,trivial⟩,trivial⟩,⟨Aw _,⟨Aw _,trivial,trivial⟩,trivial⟩⟩,⟨o58,⟨o90,⟨Aw _,trivial,trivial⟩,trivial⟩,⟨rh,trivial,trivial⟩⟩⟩⟩,⟨Aw _,⟨o22,⟨o38,⟨Aw _,⟨rv,trivial,trivial⟩,trivial⟩,⟨rN,⟨Aw _,trivial,trivial⟩,trivial⟩⟩,⟨o54,⟨o86,⟨Aw _,trivial,trivial⟩,trivial⟩,⟨Aw _,⟨Aw _,trivial,trivial⟩,trivial⟩⟩⟩,⟨o30,⟨Aw _,⟨o78,⟨Aw _,trivial,trivial⟩,trivial⟩,⟨rT,⟨Aw _,trivial,trivial⟩,trivial⟩⟩,⟨o62,⟨o94,⟨Aw _,trivial,trivial⟩,trivial⟩,⟨rl,trivial,trivial⟩⟩⟩⟩⟩⟩⟩
theorem Yf(n:Nat):Dc tc ty (call AC n):=JI jE (by kernel_rfl) Wn n
theorem P6:AC.get 16=some J7:=by kernel_rfl
theorem bo:AC.get 8=some (Nd ND):=by kernel_rfl
end
noncomputable section
open Go
set_option maxRecDepth 100000
def BU(f:Nat)(rs:List RV)(d:C):Prop:=∀ {n:Nat} {args:List IN} {h:Hp},tz (Di args) 240=true->call AC (tk n) f args h=He rs (d (call AC n) (As e0 0 args) h)
theorem BV{f:Nat}{rs:List RV}{d:C}(hb:AC.get f=some ⟨rs,d⟩)(hx:Pn rs=none):BU f rs d:=fun hl=>by rw[On hb,ZO hl hx]
theorem kL:BU 15 [.t (J 4)] d15:=BV (by kernel_rfl) rfl
theorem kM:BU 18 [.t (J 4)] d18:=BV (by kernel_rfl) rfl
theorem kN:BU 19 [.t (J 2)] d19:=BV (by kernel_rfl) rfl
theorem kP:BU 22 [.t (J 4)] d22:=BV (by kernel_rfl) rfl
theorem kQ:BU 30 [.t (J 2),.t (J 3)] d30:=BV (by kernel_rfl) rfl
theorem kZ:BU 40 [.t (J 2)] d40:=BV (by kernel_rfl) rfl
theorem kh:BU 41 [.t (J 4)] d41:=BV (by kernel_rfl) rfl
theorem kj:BU 45 [.t (J 2)] d45:=BV (by kernel_rfl) rfl
theorem km:BU 47 [.t (J 6),.t (J 7)] d47:=BV (by kernel_rfl) rfl
theorem kr:BU 48 [.t (J 4)] d48:=BV (by kernel_rfl) rfl
theorem lC:BU 53 [.t (J 2)] d53:=BV (by kernel_rfl) rfl
theorem lG:BU 57 [.t (J 2)] d57:=BV (by kernel_rfl) rfl
theorem Ie:BU 58 [.t (J 10)] d58:=BV (by kernel_rfl) rfl
theorem Lx:BU 59 [.t (J 8)] d59:=BV (by kernel_rfl) rfl
theorem Si:BU 60 [.t (J 8)] d60:=BV (by kernel_rfl) rfl
theorem lJ:BU 63 [.cN (J 8) 5,.t (J 9)] d63:=BV (by kernel_rfl) rfl
theorem Ya:BU 64 [.t (J 8)] d64:=BV (by kernel_rfl) rfl
theorem lN:BU 67 [.t (J 8)] d67:=BV (by kernel_rfl) rfl
theorem lO:BU 68 [.cN (J 2) 5] d68:=BV (by kernel_rfl) rfl
theorem lQ:BU 71 [.t (J 2)] d71:=BV (by kernel_rfl) rfl
theorem lR:BU 72 [.t (J 2)] d72:=BV (by kernel_rfl) rfl
theorem lS:BU 73 [.cN (J 4) 6,.t (J 5),.t (J 6),.t (J 7)] d73:=BV (by kernel_rfl) rfl
theorem Yb:BU 74 [] d74:=BV (by kernel_rfl) rfl
theorem lT:BU 75 [.t (J 4)] d75:=BV (by kernel_rfl) rfl
theorem lU:BU 76 [.t (J 2)] d76:=BV (by kernel_rfl) rfl
theorem lV:BU 77 [.t (J 3)] d77:=BV (by kernel_rfl) rfl
theorem lW:BU 78 [.t (J 4)] d78:=BV (by kernel_rfl) rfl
theorem lX:BU 80 [.t (J 4)] d80:=BV (by kernel_rfl) rfl
theorem Yc:BU 81 [.t (J 4)] d81:=BV (by kernel_rfl) rfl
theorem Ol:BU 82 [.t (J 4),.t (J 5)] d82:=BV (by kernel_rfl) rfl
theorem Yd:BU 84 [.t (J 4),.t (J 5),.t (J 6)] d84:=BV (by kernel_rfl) rfl
theorem lY:BU 87 [.t (J 4)] d87:=BV (by kernel_rfl) rfl
theorem lm:BU 92 [.t (J 2)] d92:=BV (by kernel_rfl) rfl
theorem Ig:BU 93 [.t (J 2)] d93:=BV (by kernel_rfl) rfl
theorem lq:BU 94 [.t (J 2)] d94:=BV (by kernel_rfl) rfl
theorem lr:BU 95 [.t (J 8)] d95:=BV (by kernel_rfl) rfl
theorem Sm:BU 96 [.t (J 4)] d96:=BV (by kernel_rfl) rfl
theorem lw:BU 97 [.t (J 8)] d97:=BV (by kernel_rfl) rfl
theorem Ye:BU 98 [.t (J 4),.t (J 5)] d98:=BV (by kernel_rfl) rfl
theorem ly:BU 99 [.t (J 6)] d99:=BV (by kernel_rfl) rfl
theorem cz:BU 100 [.t (J 4)] mN:=BV (by kernel_rfl) rfl
theorem dA:BU 101 [.t (J 4)] mO:=BV (by kernel_rfl) rfl
theorem H0:BU 102 [.t (J 2)] QK:=BV (by kernel_rfl) rfl
theorem Ok:BU 103 [.t (J 2)] Yr:=BV (by kernel_rfl) rfl
theorem dB:BU 104 [.t (J 4)] mP:=BV (by kernel_rfl) rfl
theorem dC:BU 105 [.t (J 4)] mQ:=BV (by kernel_rfl) rfl
theorem dE:BU 109 [.t (J 4),.t (J 5)] mS:=BV (by kernel_rfl) rfl
theorem LT:BU 110 [.t (J 4)] Wr:=BV (by kernel_rfl) rfl
theorem dF:BU 111 [.t (J 2)] mV:=BV (by kernel_rfl) rfl
theorem JH:BU 112 [.cN (J 4) 5,.t (J 5),.t (J 6),.t (J 7)] mW:=BV (by kernel_rfl) rfl
theorem UP:BU 113 [.t (J 6),.t (J 7)] mX:=BV (by kernel_rfl) rfl
theorem UQ:BU 114 [] mY:=BV (by kernel_rfl) rfl
theorem dG:BU 115 [.t (J 2)] mZ:=BV (by kernel_rfl) rfl
theorem UR:BU 116 [.t (J 2)] ma:=BV (by kernel_rfl) rfl
theorem dH:BU 117 [.t (J 4)] mc:=BV (by kernel_rfl) rfl
theorem US:BU 120 [.t (J 4)] me:=BV (by kernel_rfl) rfl
theorem dJ:BU 121 [.t (J 4)] mf:=BV (by kernel_rfl) rfl
theorem dK:BU 122 [.t (J 2)] mg:=BV (by kernel_rfl) rfl
theorem dL:BU 123 [.t (J 6)] mh:=BV (by kernel_rfl) rfl
theorem dM:BU 124 [.t (J 2)] mi:=BV (by kernel_rfl) rfl
theorem dP:BU 127 [.t (J 5)] mo:=BV (by kernel_rfl) rfl
theorem dQ:BU 128 [.t (J 6)] mq:=BV (by kernel_rfl) rfl
theorem dR:BU 129 [.t (J 3)] mr:=BV (by kernel_rfl) rfl
theorem dS:BU 130 [.t (J 6)] mu:=BV (by kernel_rfl) rfl
theorem dU:BU 133 [.t (J 4)] my:=BV (by kernel_rfl) rfl
theorem LU:BU 134 [.t (J 4)] mz:=BV (by kernel_rfl) rfl
theorem dV:BU 135 [.t (J 2)] nB:=BV (by kernel_rfl) rfl
theorem UT:BU 136 [] nC:=BV (by kernel_rfl) rfl
theorem dW:BU 145 [.t (J 2)] nE:=BV (by kernel_rfl) rfl
theorem UU:BU 146 [.t (J 2)] eC:=BV (by kernel_rfl) rfl
theorem dX:BU 147 [.t (J 2)] nF:=BV (by kernel_rfl) rfl
theorem dY:BU 148 [.t (J 4)] nG:=BV (by kernel_rfl) rfl
end
set_option linter.unusedVariables false
set_option linter.unusedSimpArgs false
noncomputable section
open Go
set_option maxRecDepth 100000
theorem cT:BO ty5.zero 1=[.int .u8 0]:=by kernel_rfl
theorem nX:d87=G 4 (AP (kV (.slice none 0 0))) (BB (AY 0 (A4 NK)) cF):=rfl
def Hp.ACj(h:Hp)(k en:Nat)(v:IN)(xs:List IN):Prop:=h.Own k en v xs\/∃ (b:Nat) (l:List Nat),xs=l.map bv/\v=.slice (some ⟨b,0,none⟩) xs.length xs.length/\h.Row b 0 xs
theorem RM{h0 h:Hp}{eb en k:Nat}{v:IN}{xs:List IN}{n:Nat}(x0:h0.Ext h)(hk:h0.next<=k)(hk2:k<=h.next)(o:h.ACj k en v xs)(hm:(xs.length+2)*(eb+1)<=1099511627776):
  ∃ h' v',DN 1 eb en v (.slice (some ⟨h.next,0,none⟩) 1 1) (h.ABY 0 [.int .u8 (n:Int)])=.ok v' h'/\h0.Ext h'/\h'.Own k en v' (xs++[.int .u8 (n:Int)])/\h'.next=h.next+2/\∀ b el L,¬ ABw v b->h.Row b el L->h'.Row b el L/\¬ ABw v' b:=by
 rcases o with o|⟨b,l,rfl,rfl,r⟩
 ·exact ge x0 hk hk2 o hm
 ·have W:=x0.wf
  have y1:=(Hp.Ext.refl W).ABY 0 [ue .u8 (n:Int)];have V:(h.ABY 0 [.int .u8 (n:Int)]).ABy (.slice (some ⟨h.next,0,none⟩) 1 1) ([n].map bv):=Mp W;obtain⟨h2,a1,a2,a3,a4⟩:=Px (eb:=eb) (en:=en) (c:=(l.map bv).length) (m:=[n]) y1.wf (r.ext W y1) V.bytes (by show _<_+1;omega) (by show(_+1+1)*_<=_;exact hm);have n1:(h.ABY 0 [.int .u8 (n:Int)]).next=h.next+1:=rfl;refine⟨h2,_,a1,(x0.ABY _ _).trans a2,.inr ⟨_,by rw[No];rfl,a3,by omega,by have:=W.big;omega⟩,by omega,fun b' el L _ r'=>⟨(r'.ext W y1).ext y1.wf a2,fun⟨o,p,q,e⟩=>?_⟩⟩;have:=r'.lt W;injection e with e
  injection e with e
  injection e with e
  omega
theorem Xz{F:ABZ}{h0 h:Hp}{k:Nat}(x0:h0.Ext h)(hk:h0.next<=k)(hk2:k<=h.next){v:IN}{l:List Nat}(o:h.ACj k 5 v (l.map bv))(hl:l.length<=1000000){N:Nat}(hN:N<18446744073709551616){e:Env}(s0:J 0 e=v)(s1:J 1 e=.int .u64 (N:Int)):
  ∃ e' h' v' xs m,A4 NK F e h=.exit 0 e' h'/\J 0 e'=v'/\J 1 e'=.int .u64 ((m:Nat):Int)/\m<128/\l++Bx N=xs++[m]/\h0.Ext h'/\h'.ACj k 5 v' (xs.map bv)/\h.next<=h'.next/\(∀ b el L,¬ ABw v b->h.Row b el L->h'.Row b el L/\¬ ABw v' b):=by
 have AFN:=Gk hN;refine Bb (I:=fun i e' h'=>∃ v' xs m,J 0 e'=v'/\J 1 e'=.int .u64 ((m:Nat):Int)/\m<18446744073709551616/\l++Bx N=xs++Bx m/\i+(Bx m).length=(Bx N).length/\h0.Ext h'/\h'.ACj k 5 v' (xs.map bv)/\h.next<=h'.next/\(∀ b el L,¬ ABw v b->h.Row b el L->h'.Row b el L/\¬ ABw v' b))
  (Q:=fun x=>∃ e' h' v' xs m,x=.exit 0 e' h'/\J 0 e'=v'/\J 1 e'=.int .u64 ((m:Nat):Int)/\m<128/\l++Bx N=xs++[m]/\h0.Ext h'/\h'.ACj k 5 v' (xs.map bv)/\h.next<=h'.next/\(∀ b el L,¬ ABw v b->h.Row b el L->h'.Row b el L/\¬ ABw v' b)) 20 (by omega) (fun i e' h' ⟨v',xs,m,t0,t1,hm,hx,hi,x1,o1,hn,fr⟩=>?_)
  ⟨v,l,N,s0,s1,hN,rfl,sh _,x0,o,If _,fun b el L hb r=>⟨r,hb⟩⟩
 have hlen:=congrArg xc hx;rw[No,No]at hlen;by_cases h1:m<128
 ·right
  have c1:iGt (m:Int) 127=false:=by rw[Gs];simp;omega
  have hrun:NK F e' h'=.exit 0 (Env.set 6 (.bool false) e') h':=by
   unfold NK;simp only[sT,By,BY,reduceIte,AK,AJ,t1,c1]
  rw[hrun];refine⟨rfl,_,_,v',xs,m,rfl,by simp[AG,t0],by simp[AG,t1],h1,?_,x1,o1,hn,fr⟩;rw[hx,FB h1]
 ·left
  have W:=x1.wf;have c1:iGt (m:Int) 127=true:=by rw[Gs];simp;omega
  have r1:bH .u64 (.int .u64 (m:Int)) (.int .u64 128) h'=.ok (.int .u64 ((m % 128:Nat):Int)) h':=by rw[V6 (by omega)];rfl
  have a1:Fs .u64 (.int .u64 ((m % 128:Nat):Int)) (.int .u64 128) h'=.ok (.int .u64 ((m % 128+128:Nat):Int)) h':=by
   have:za.wrap (((m % 128:Nat):Int)+128)=((m % 128+128:Nat):Int):=by
    rw[show((m % 128:Nat):Int)+128=((m % 128+128:Nat):Int)by omega];exact DG (by omega)
   rw[EF,this]
  have v1:C3 .u8 (.int .u64 ((m % 128+128:Nat):Int)) h'=.ok (.int .u8 ((m % 128+128:Nat):Int)) h':=by
   rw[B4,G9,wz (show m % 128+128<256 by omega)]
  have os:∀ e,J 11 e=.int .u8 ((m % 128+128:Nat):Int)->Ab 1 (BO ty5.zero 1) [(0,1,J 11)] F e h'=.ok (.slice (some ⟨h'.next,0,none⟩) 1 1) (h'.ABY 0 [.int .u8 ((m % 128+128:Nat):Int)]):=fun e he=>by rw[cT];exact Gb W he rfl rfl
  have hpos:=OZ (m/128);rw[Gj (n:=m) (by omega)]at hi hlen hx;rw[tZ]at hi hlen;obtain⟨h2,v2,a2,x2,o2,hn2,fr2⟩:=RM (eb:=1) (n:=m % 128+128) x1 hk (uO hk2 hn) o1 (by rw[OF];omega);have d1:Sw .u64 (.int .u64 (m:Int)) (.int .u64 128) h2=.ok (.int .u64 ((m/128:Nat):Int)) h2:=by
   have:za.wrap ((m:Int).tdiv 128)=((m/128:Nat):Int):=DG (n:=m/128) (by omega);rw[LX (by omega),this]
  have hrun:∃ e2,NK F e' h'=.norm e2 h2/\J 0 e2=v2/\J 1 e2=.int .u64 ((m/128:Nat):Int):=by
   unfold NK;simp only[sT,By,BY,reduceIte,AK,AJ,t1,c1,PS,r1,BR,a1,Bl,v1,os,BZ,t0,a2,Ji,d1];exact⟨_,rfl,by simp[AG]⟩
  obtain⟨e2,b1,b2,b3⟩:=hrun;refine⟨by omega,e2,h2,b1,v2,xs++[m % 128+128],m/128,b2,b3,by omega,?_,by omega,x2,?_,by omega,fun b el L hb r=>?_⟩
  ·rw[hx];simp
  ·rw[ud];exact .inl o2
  ·obtain⟨r1,r2⟩:=fr b el L hb r
   exact fr2 b el L r2 r1
theorem NM{n:Nat}{h0 h:Hp}{k:Nat}(x0:h0.Ext h)(hk:h0.next<=k)(hk2:k<=h.next){v:IN}{l:List Nat}(o:h.ACj k 5 v (l.map bv))(hl:l.length<=1000000){N:Nat}(hN:N<18446744073709551616):
  ∃ h' v',call AC (n+1) 87 [v,.int .u64 (N:Int)] h=.ok v' h'/\h0.Ext h'/\h'.Own k 5 v' ((l++Bx N).map bv)/\h.next<=h'.next/\(∀ b el L,¬ ABw v b->h.Row b el L->h'.Row b el L/\¬ ABw v' b):=by
 obtain⟨e1,h1,v1,xs,m,q1,s0,s1,hm,hx,x1,o1,hn,fr⟩:=Xz (F:=call AC n) x0 hk hk2 o hl hN (e:=Env.set 4 (.slice none 0 0) (Env.set 1 (.int .u64 (N:Int)) (Env.set 0 v e0))) (by simp[AG]) (by simp[AG]);have W:=x1.wf;have AFN:=Gk hN;have hlen:=congrArg xc hx;rw[No,No,List.length_singleton]at hlen;have c1:C3 .u8 (.int .u64 (m:Int)) h1=.ok (.int .u8 (m:Int)) h1:=by
  rw[B4,G9,wz (show m<256 by omega)]
 have os:∀ e,J 18 e=.int .u8 (m:Int)->Ab 1 (BO ty5.zero 1) [(0,1,J 18)] (call AC n) e h1=.ok (.slice (some ⟨h1.next,0,none⟩) 1 1) (h1.ABY 0 [.int .u8 (m:Int)]):=fun e he=>by rw[cT];exact Gb W he rfl rfl
 obtain⟨h2,v2,a2,x2,o2,hn2,fr2⟩:=RM (eb:=1) (n:=m) x1 hk (uO hk2 hn) o1 (by rw[OF];omega);refine⟨h2,v2,?_,x2,?_,by omega,fun b el L hb r=>?_⟩
 ·rw[lY rfl,nX]
  simp only[iN,IT,AG,By,BY,reduceIte,HQ,Hl,EY,Hi,E6,A9,An];rw[q1];simp only[A8,A3];unfold cF;simp only[sT,By,BY,reduceIte,Bl,s1,c1,os,BZ,s0,a2,lV0]
 ·rw[hx,ud];exact o2
 ·obtain⟨r1,r2⟩:=fr b el L hb r
  exact fr2 b el L r2 r1
theorem iS{n:Nat}{h0 h:Hp}{k:Nat}(x0:h0.Ext h)(hk:h0.next<=k)(hk2:k<=h.next){v:IN}{l:List Nat}(o:h.Own k 5 v (l.map bv))(hl:l.length<=1000000){N:Nat}(hN:N<18446744073709551616):
 ∃ h' v',call AC (n+1) 87 [v,.int .u64 (N:Int)] h=.ok v' h'/\h0.Ext h'/\h'.Own k 5 v' ((l++Bx N).map bv)/\h.next<=h'.next/\(∀ b el L,¬ ABw v b->h.Row b el L->h'.Row b el L/\¬ ABw v' b):=NM x0 hk hk2 (.inl o) hl hN
def jH(l:List Nat)(p:Nat)(a b c:Int):Prop:=(∃ v j:Nat,FP 0 0 (l.drop p)=some (v,j)/\a=(v:Int)/\b=((p+j:Nat):Int)/\c=0)\/(FP 0 0 (l.drop p)=none/\c≠0)
def O7:C:=(Bd 46
(G 4 (AP (kV (.int .u64 0)))
(G 5 (AP (kV (AI AT 0)))
(G 6 (AP (kV (AI AT 10)))
Ah)))
(G 49 (RC .u8 (J 9) (kV (.int .u8 128)))
(G 50 (CR .u64 (J 49))
(G 52 (C1 zG .i64 (kV (AI AT 7)) (J 10))
(G 53 (NX .u64 (J 50) (J 52))
(G 54 (CD .u64 (BC .u64) (J 7) (J 53))
(G 7 (AZ 54)
(G 56 (Ae iLt .u8 (J 9) (kV (.int .u8 128)))
(Bd 56
(G 59 (CD .i64 (BC .i64) (J 8) (kV (AI AT 1)))
(G 4 (AZ 7)
(G 5 (AZ 59)
(G 6 (AP (kV (AI AT 0)))
Ah))))
Aq)))))))))
def oP(K:C):C:=(G 34 (Ae iGt .i64 (J 10) (kV (AI AT 0)))
(Al 34 true 36 (AZ 9)
(Al 34 true 37 (Ae iEq .u8 (J 36) (kV (.int .u8 0)))
(G 38 (A6 (J 34) (J 37) (kV (.bool false)))
(Al 38 false 40 (AZ 10)
(Al 38 false 41 (Ae iGt .i64 (J 40) (kV (AI AT 8)))
(Al 38 false 42 (AZ 41)
(Al 42 true 43 (AZ 9)
(Al 42 true 44 (Ae iGt .u8 (J 43) (kV (.int .u8 1)))
(Al 38 false 45 (A6 (J 42) (J 44) (kV (.bool false)))
(G 46 (A6 (J 38) (kV (.bool true)) (J 45))
K)))))))))))
theorem U9:Qe=G 22 (BJ (J 0)) (G 23 (Ae iLt .i64 (J 8) (J 22)) (Bd 23 (BB (AY 1 (G 28 (CB 1 (J 0) (J 8)) (G 29 (AM (J 28)) (G 32 (C1 uZ .i64 (J 8) (J 1)) (G 9 (AZ 29) (G 10 (AZ 32) (oP O7))))))) (G 25 (CD .i64 (BC .i64) (J 8) (kV (AI AT 1))) (G 8 (AZ 25) Aq))) (B8 0))):=rfl
theorem ez{K:C}{F:ABZ}{h:Hp}{e:Env}{c i:Nat}{b1 b2 b3 b4:Bool}(s9:J 9 e=.int .u8 (c:Int))(s10:J 10 e=AI AT (i:Int))(i1:iGt (i:Int) 0=b1)(i2:iEq (c:Int) 0=b2)(i3:iGt (i:Int) 8=b3)(i4:iGt (c:Int) 1=b4):
  ∃ e',oP K F e h=K F e' h/\J 46 e'=.bool ((b1 && b2) || (b3 && b4))/\J 0 e'=J 0 e/\J 1 e'=J 1 e/\J 7 e'=J 7 e/\J 8 e'=J 8 e/\J 9 e'=J 9 e/\J 10 e'=J 10 e:=by
 unfold oP;cases b1<;>cases b2<;>cases b3<;>cases b4<;>
 ·simp only[sT,By,BY,reduceIte,gD,AK,AJ,s9,s10,i1,i2,i3,i4]
  exact⟨_,rfl,by simp[AG],by simp[AG],by simp[AG],by simp[AG],by simp[AG],by simp only[AG,By,BY,reduceIte,s9],by simp only[AG,By,BY,reduceIte,s10]⟩
theorem RP{i:Nat}(hi:i<=9):2 ^ (7*i)<=9223372036854775808:=by
 have:2 ^ (7*i)<=2 ^ 63:=Nat.pow_le_pow_right (by omega) (by omega);have e:(2:Nat) ^ 63=9223372036854775808:=rfl;omega
theorem ZX{F:ABZ}{h:Hp}{u:IN}{l:List Nat}{p:Nat}(V:h.ABy u (l.map bv))(hb:∀ x∈l,x<256)(hp:p<=l.length)(hl:l.length<=1000000){e:Env}(s0:J 0 e=u)(s1:J 1 e=AI AT (p:Int))(s7:J 7 e=.int .u64 0)(s8:J 8 e=AI AT (p:Int)):
  (∃ e',A4 Qe F e h=.exit 0 e' h/\FP 0 0 (l.drop p)=none)\/(∃ e' a b c,A4 Qe F e h=.ret e' h/\J 4 e'=.int .u64 a/\J 5 e'=AI AT b/\J 6 e'=AI AT c/\jH l p a b c):=by
 have Vl:AB2 u h=.ok (AI AT (l.length:Int)) h:=by have:=V.len;rwa [OF]at this
 refine Bb (I:=fun i e' h'=>h'=h/\∃ acc:Nat,J 0 e'=u/\J 1 e'=AI AT (p:Int)/\J 7 e'=.int .u64 (acc:Int)/\J 8 e'=AI AT ((p+i:Nat):Int)/\acc<2 ^ (7*i)/\i<=9/\p+i<=l.length/\FP 0 0 (l.drop p)=FP i acc (l.drop (p+i)))
  (Q:=fun x=>(∃ e',x=.exit 0 e' h/\FP 0 0 (l.drop p)=none)\/(∃ e' a b c,x=.ret e' h/\J 4 e'=.int .u64 a/\J 5 e'=AI AT b/\J 6 e'=AI AT c/\jH l p a b c)) 20 (by omega) (fun i e' h' ⟨hh,acc,t0,t1,t7,t8,hacc,hi9,hpi,hu⟩=>?_)
  ⟨rfl,0,s0,s1,s7,s8,by decide,by omega,hp,rfl⟩
 subst hh;by_cases hlt:p+i<l.length
 ·have hc:l.getD (p+i) 0<256:=hb _ (by rw[tY,tW hlt];exact List.getElem_mem hlt)
  have hd:l.drop (p+i)=l.getD (p+i) 0::l.drop (p+i+1):=by
   rw[vr hlt,tY,tW hlt];rfl
  have hel:(l.map bv).getD (p+i) ABd=.int .u8 ((l.getD (p+i) 0:Nat):Int):=by
   rw[tY,uq,tY,tW hlt];rfl
  obtain⟨a,g1,g2⟩:=V.at (i:=p+i) (by rw[OF];exact hlt);rw[hel]at g2;rw[hd]at hu;generalize l.getD (p+i) 0=c at hc g2 hu;have c1:iLt ((p+i:Nat):Int) (l.length:Int)=true:=by rw[DR];simp;omega
  have a2:FX uZ .i64 (AI AT ((p+i:Nat):Int)) (AI AT (p:Int)) h'=.ok (AI AT (i:Int)) h':=by
   have:uZ ((p+i:Nat):Int) (p:Int)=(i:Int):=by show((p+i:Nat):Int) - (p:Int)=i;omega
   rw[Ce,this,Bc (by omega)]
  have a3:Fs .i64 (AI AT ((p+i:Nat):Int)) (AI AT 1) h'=.ok (AI AT ((p+(i+1):Nat):Int)) h':=by
   have:((p+i:Nat):Int)+1=((p+(i+1):Nat):Int):=by omega
   rw[EF,this,Bc (by omega)]
  have pre:∃ e2,Qe F e' h'=Xo (J8 1 (O7 F e2 h')) (G 25 (CD .i64 (BC .i64) (J 8) (kV (AI AT 1))) (G 8 (AZ 25) Aq)) F/\J 46 e2=.bool ((decide (0<i) && decide (c=0)) || (decide (8<i) && decide (1<c)))/\J 0 e2=u/\J 1 e2=AI AT (p:Int)/\J 7 e2=.int .u64 (acc:Int)/\J 8 e2=AI AT ((p+i:Nat):Int)/\J 9 e2=.int .u8 (c:Int)/\J 10 e2=AI AT (i:Int):=by
   obtain⟨e2,q1,q2,q3,q4,q5,q6,q7,q8⟩:=ez (K:=O7) (F:=F) (h:=h') (e:=Env.set 10 (AI AT (i:Int)) (Env.set 9 (.int .u8 (c:Int)) (Env.set 32 (AI AT (i:Int)) (Env.set 29 (.int .u8 (c:Int)) (Env.set 28 (.pointer (some a)) (Env.set 23 (.bool true) (Env.set 22 (AI AT (l.length:Int)) e'))))))) (c:=c) (i:=i) (b1:=decide (0<i)) (b2:=decide (c=0)) (b3:=decide (8<i)) (b4:=decide (1<c))
    (by simp[AG]) (by simp[AG]) (by rw[Gs,decide_eq_decide];omega) (by rw[Dh,vY,beq_iff_eq,decide_eq_true_eq];omega) (by rw[Gs,decide_eq_decide];omega) (by rw[Gs,decide_eq_decide];omega)
   refine⟨e2,?_,q2,?_,?_,?_,?_,?_,?_⟩
   ·rw[U9]
    simp only[HQ,HP,Oi,A9,An,Hl,Ij,EY,Hi,E6,AG,By,BY,reduceIte,AX,t0,Vl,AK,AJ,t8,c1,BA,g1,AN,g2,Bz,t1,a2,q1]
   ·rw[q3];simp only[AG,By,BY,reduceIte];exact t0
   ·rw[q4];simp only[AG,By,BY,reduceIte];exact t1
   ·rw[q5];simp only[AG,By,BY,reduceIte];exact t7
   ·rw[q6];simp only[AG,By,BY,reduceIte];exact t8
   ·rw[q7];simp only[AG,By,BY,reduceIte]
   ·rw[q8];simp only[AG,By,BY,reduceIte]
  obtain⟨e2,p1,p46,p0,pp1,p7,p8,p9,p10⟩:=pre;rw[FP]at hu;by_cases AD5:(0<i/\c=0)\/(8<i/\1<c)
  ·right
   have hB:((decide (0<i) && decide (c=0)) || (decide (8<i) && decide (1<c)))=true:=by simpa using AD5
   rw[hB]at p46;rw[if_pos AD5]at hu;have hrun:∃ e3,O7 F e2 h'=.ret e3 h'/\J 4 e3=.int .u64 0/\J 5 e3=AI AT 0/\J 6 e3=AI AT 10:=by
    unfold O7;simp only[sT,By,BY,reduceIte,p46];exact⟨_,rfl,by simp[AG]⟩
   obtain⟨e3,r1,r4,r5,r6⟩:=hrun;rw[p1,r1,CE,Cq];exact⟨rfl,.inr ⟨e3,0,0,10,rfl,r4,r5,r6,.inr ⟨hu,by omega⟩⟩⟩
  ·have hB:((decide (0<i) && decide (c=0)) || (decide (8<i) && decide (1<c)))=false:=by
    rw[<- Bool.not_eq_true];simpa using AD5
   rw[hB]at p46;rw[if_neg AD5]at hu;have hle:acc+c % 128*2 ^ (7*i)<2 ^ (7*(i+1)):=by
    rw[Mw];have h1:c % 128<=127:=by omega
    have h2:=yW (2 ^ (7*i)) h1;omega
   have AHv:c % 128*2 ^ (7*i)<=9223372036854775808/\acc<9223372036854775808:=by
    have h3:=RP hi9;refine⟨?_,by omega⟩;rcases Nat.lt_or_ge i 9 with h4|h4
    ·have h5:2 ^ (7*(i+1))<=9223372036854775808:=RP (by omega)
     omega
    ·have h5:c % 128<=1:=by omega
     have h6:=yW (2 ^ (7*i)) h5;omega
   have m1:bH .u8 (.int .u8 (c:Int)) (.int .u8 128) h'=.ok (.int .u8 ((c % 128:Nat):Int)) h':=by rw[V6 (by omega)];rfl
   have m2:C3 .u64 (.int .u8 ((c % 128:Nat):Int)) h'=.ok (.int .u64 ((c % 128:Nat):Int)) h':=by rw[B4,DG (by omega)]
   have m3:FX zG .i64 (AI AT 7) (AI AT (i:Int)) h'=.ok (AI AT ((7*i:Nat):Int)) h':=by
    have:zG 7 (i:Int)=((7*i:Nat):Int):=by show(7:Int)*(i:Int)=_;omega
    rw[Ce,this,Bc (by omega)]
   have m4:iB .u64 (.int .u64 ((c % 128:Nat):Int)) (AI AT ((7*i:Nat):Int)) h'=.ok (.int .u64 ((c % 128*2 ^ (7*i):Nat):Int)) h':=by
    have:min (7*i) za.bits=7*i:=yj (by show 7*i<=64;omega);rw[iC,this,DG (by omega)]
   have m5:Fs .u64 (.int .u64 (acc:Int)) (.int .u64 ((c % 128*2 ^ (7*i):Nat):Int)) h'=.ok (.int .u64 ((acc+c % 128*2 ^ (7*i):Nat):Int)) h':=by
    rw[EF,<- Int.natCast_add,DG (by omega)]
   by_cases hsm:c<128
   ·right
    rw[if_pos hsm]at hu;have c2:iLt (c:Int) 128=true:=by rw[DR];simp;omega
    have hrun:∃ e3,O7 F e2 h'=.ret e3 h'/\J 4 e3=.int .u64 ((acc+c % 128*2 ^ (7*i):Nat):Int)/\J 5 e3=AI AT ((p+(i+1):Nat):Int)/\J 6 e3=AI AT 0:=by
     unfold O7;simp only[sT,By,BY,reduceIte,p46,PS,p9,m1,Bl,m2,Bz,p10,m3,Vm,m4,BR,p7,m5,AK,AJ,c2,p8,a3];exact⟨_,rfl,by simp[AG]⟩
    obtain⟨e3,r1,r4,r5,r6⟩:=hrun;rw[p1,r1,CE,Cq];refine⟨rfl,.inr ⟨e3,_,_,_,rfl,r4,r5,r6,.inl ⟨_,_,hu,?_,rfl,rfl⟩⟩⟩;rw[wz hsm]
   ·left
    rw[if_neg hsm]at hu;have hi8:i<=8:=by omega
    have c2:iLt (c:Int) 128=false:=by rw[DR];simp;omega
    have hrun:∃ e3,O7 F e2 h'=.norm e3 h'/\J 0 e3=u/\J 1 e3=AI AT (p:Int)/\J 7 e3=.int .u64 ((acc+c % 128*2 ^ (7*i):Nat):Int)/\J 8 e3=AI AT ((p+i:Nat):Int):=by
     unfold O7;simp only[sT,By,BY,reduceIte,p46,PS,p9,m1,Bl,m2,Bz,p10,m3,Vm,m4,BR,p7,m5,AK,AJ,c2,p8,a3];exact⟨_,rfl,by simp[AG,p0,pp1,p8]⟩
    obtain⟨e3,r1,r0,rr1,r7,r8⟩:=hrun;have ADx:∃ e4,Qe F e' h'=.norm e4 h'/\J 0 e4=u/\J 1 e4=AI AT (p:Int)/\J 7 e4=.int .u64 ((acc+c % 128*2 ^ (7*i):Nat):Int)/\J 8 e4=AI AT ((p+(i+1):Nat):Int):=by
     rw[p1,r1];simp only[Bt,A3,HQ,Hl,BR,r8,E6,a3,EY,Hi,Lw,AG,By,BY,reduceIte];exact⟨_,rfl,by simp[AG,r0,rr1,r7]⟩
    obtain⟨e4,k1,k2,k3,k4,k5⟩:=ADx;exact⟨by omega,e4,h',k1,rfl,_,k2,k3,k4,k5,hle,by omega,by omega,hu⟩
 ·right
  have c1:iLt ((p+i:Nat):Int) (l.length:Int)=false:=by rw[DR];simp;omega
  have hrun:∃ e2,Qe F e' h'=.exit 0 e2 h':=by
   rw[U9];simp only[sT,By,BY,reduceIte,AX,t0,Vl,AK,AJ,t8,c1];exact⟨_,rfl⟩
  obtain⟨e2,r1⟩:=hrun;rw[r1];refine⟨rfl,.inl ⟨e2,rfl,?_⟩⟩;rw[hu,vC (by omega)];rfl
theorem VB:MN=G 7 (AP (kV (.int .u64 0))) (G 8 (AZ 1) (BB (AY 0 (A4 Qe)) oO)):=rfl
theorem Y2:d84=eO:=rfl
theorem S4{n:Nat}{h:Hp}{u:IN}{l:List Nat}{p:Nat}(V:h.ABy u (l.map bv))(hb:∀ x∈l,x<256)(hp:p<=l.length)(hl:l.length<=1000000):
  ∃ a b c,call AC (n+1) 84 [u,AI AT (p:Int)] h=.ok (.tuple ⟨[.int .u64 a,AI AT b,AI AT c]⟩) h/\jH l p a b c:=by
 have Vl:AB2 u h=.ok (AI AT (l.length:Int)) h:=by have:=V.len;rwa [OF]at this
 have c0:iLt (p:Int) 0=false:=by rw[DR];simp
 have c1:iGt (p:Int) (l.length:Int)=false:=by rw[Gs];simp;omega
 have pre:∃ e1,eO (call AC n) (As e0 0 [u,AI AT (p:Int)]) h=MN (call AC n) e1 h/\J 0 e1=u/\J 1 e1=AI AT (p:Int):=by
  unfold eO;simp only[iN,IT,HQ,HP,Oi,Hl,HS,EY,Hi,E6,AG,By,BY,reduceIte,gD,AK,AJ,c0,AX,Vl,c1];exact⟨_,rfl,by simp[AG]⟩
 obtain⟨e1,p1,p2,p3⟩:=pre;have H:=ZX (F:=call AC n) (e:=Env.set 8 (AI AT (p:Int)) (Env.set 7 (.int .u64 0) e1)) V hb hp hl (by simp[AG,p2]) (by simp[AG,p3]) (by simp[AG]) (by simp[AG]);rcases H with ⟨e2,q1,q2⟩|⟨e2,a,b,c,q1,q4,q5,q6,q7⟩
 ·refine⟨0,0,11,?_,.inr ⟨q2,by omega⟩⟩
  rw[Yd rfl,Y2,p1,VB];simp only[HQ,Hl,EY,Hi,E6,AG,By,BY,reduceIte,p3,A9,An];rw[q1];simp only[A8,A3];unfold oO;simp only[sT,By,BY,reduceIte,Ay,EV]
 ·refine⟨a,b,c,?_,q7⟩
  rw[Yd rfl,Y2,p1,VB];simp only[HQ,Hl,EY,Hi,E6,AG,By,BY,reduceIte,p3,A9,An];rw[q1];simp only[CE,Cq];simp only[Ay,EV,q4,q5,q6]
end
noncomputable section
open Go
def Pi(T:List Nat):Nat->List Nat->Nat
 |s,[]=>s
 |s,b::l=>Pi T (wH (T.getD (wH (s % 256) b) 0) (s/256)) l
def CG(T l:List Nat):Nat:=4294967295 - Pi T 4294967295 l
def ACM(T:List Nat):Prop:=T.length=256/\∀ i,T.getD i 0<4294967296
theorem iV{a b:Nat}(ha:a<256)(hb:b<256):wH a b<256:=AAH (n:=8) ha hb
theorem cM{a b:Nat}(ha:a<4294967296)(hb:b<4294967296):wH a b<4294967296:=AAH (n:=32) ha hb
theorem OX{T:List Nat}(hT:ACM T){s:Nat}(hs:s<4294967296)(b:Nat):wH (T.getD (wH (s % 256) b) 0) (s/256)<4294967296:=cM (hT.2 _) (by omega)
theorem WM{T:List Nat}(hT:ACM T):∀ (l:List Nat) (s:Nat),s<4294967296->Pi T s l<4294967296
 |[],s,hs=>hs
 |b::l,s,hs=>WM hT l _ (OX hT hs b)
theorem IJ(T l:List Nat):CG T l<4294967296:=by unfold CG;omega
def G7(s:Nat):List Nat:=[s/16777216 % 256,s/65536 % 256,s/256 % 256,s % 256]
def Ec(T l:List Nat):List Nat:=l++G7 (CG T l)
theorem Gg(T l:List Nat):(Ec T l).length=l.length+4:=by unfold Ec;rw[No];rfl
theorem iH(s x:Nat)(h:x∈G7 s):x<256:=by
 unfold G7 at h;simp only[uA,zD,or_false]at h;omega
theorem M5{T l:List Nat}(h:∀ x∈l,x<256):∀ x∈Ec T l,x<256:=fun x hx=>by
 rcases uP.1 hx with h1|h1
 ·exact h x h1
 ·exact iH _ x h1
def B6(ns:List Nat):List Nat:=ns.flatMap Bx
theorem FC(n:Nat)(ns:List Nat):B6 (n::ns)=Bx n++B6 ns:=rfl
theorem Ts(a b:List Nat):B6 (a++b)=B6 a++B6 b:=List.flatMap_append
theorem Oa{ns:List Nat}:∀ x∈B6 ns,x<256:=fun x hx=>by
 obtain⟨n,_,h⟩:=List.mem_flatMap.1 hx;exact NL n x h
theorem JA:∀ {ns:List Nat},(∀ v∈ns,v<18446744073709551616)->(B6 ns).length<=10*ns.length
 |[],_=>If _
 |n::ns,h=>by
  have h1:=Gk (h n te);have h2:=JA fun v hv=>h v (td _ hv)
  rw[FC,No,tZ];omega
def PY(l:List Nat):List Nat:=l++th (60 - l.length) 0
theorem Mr{l:List Nat}(h:l.length<=60):(PY l).length=60:=by unfold PY;rw[No,uh];omega
theorem Vv{l:List Nat}(h:∀ x∈l,x<256):∀ x∈PY l,x<256:=fun x hx=>by
 rcases uP.1 hx with h1|h1
 ·exact h x h1
 ·rw[xV h1];decide
def LJ(ns:List Nat):List Nat:=PY (B6 ns)
def rdN:Nat->List Nat->Nat->Option (List Nat×Nat)
 |0,_,p=>some ([],p)
 |k+1,l,p=>match FP 0 0 (l.drop p)with
  |none=>none
  |some (v,j)=>if v<=1099511627776 then(match rdN k l (p+j)with
   |none=>none
   |some (vs,q)=>some (v::vs,q))else none
theorem Ld:∀ (ns:List Nat) (a r:List Nat),(∀ v∈ns,v<=1099511627776)->rdN ns.length (a++(B6 ns++r)) a.length=some (ns,a.length+(B6 ns).length)
 |[],a,r,_=>rfl
 |v::ns,a,r,h=>by
  have hv:=h v te;rw[tZ,rdN,xx,FC,uC,qK (by omega)];simp only;have:=Ld ns (a++Bx v) r fun x hx=>h x (td _ hx)
  rw[uC,No]at this;rw[if_pos hv,this];simp only[No,Nat.add_assoc]
theorem Lc:∀ (k:Nat) (l:List Nat) (p:Nat) (ns:List Nat) (q:Nat),(∀ x∈l,x<256)->p<=l.length->rdN k l p=some (ns,q)->ns.length=k/\l.drop p=B6 ns++l.drop q/\q=p+(B6 ns).length/\q<=l.length/\∀ v∈ns,v<=1099511627776
 |0,l,p,ns,q,hb,hp,h=>by
  cases h;exact⟨rfl,rfl,rfl,hp,fun v hv=>by cases hv⟩
 |k+1,l,p,ns,q,hb,hp,h=>by
  rw[rdN]at h;cases hu:FP 0 0 (l.drop p)with
  |none=>rw[hu]at h;cases h
  |some vj=>
   obtain⟨v,j⟩:=vj;rw[hu]at h;simp only at h;by_cases hv:v<=1099511627776
   ·rw[if_pos hv]at h
    have hbd:∀ x∈l.drop p,x<256:=fun x hx=>hb x (List.mem_of_mem_drop hx)
    have hj:=WV hbd hu;rw[ua]at hj;obtain⟨g1,g2,g3⟩:=cD hbd hu;cases hr:rdN k l (p+j)with
    |none=>rw[hr]at h;cases h
    |some y=>
     obtain⟨vs,q'⟩:=y;rw[hr]at h;cases h;obtain⟨i1,i2,i3,i4,i5⟩:=Lc k l (p+j) vs q hb (by omega) hr;refine⟨by rw[tZ,i1],?_,?_,i4,fun x hx=>?_⟩
     ·rw[g1,List.drop_drop,i2,FC,uC]
     ·rw[i3,FC,No];omega
     ·rcases uA.1 hx with rfl|hx
      ·exact hv
      ·exact i5 x hx
   ·rw[if_neg hv]at h;cases h
def ABp(a b c:Int)(s n:Nat):Bool:=decide (0<=a/\a<=1099511627776/\0<=b/\b<255/\1<=c/\c<=1099511627776/\(s=1\/s=2)/\n<=65536)
def at6(ns:List Nat)(i:Nat):Nat:=ns.getD i 0
def DF(T l:List Nat):Option (List Nat):=if l.length<4 then none else if Ec T (l.take (l.length - 4))=l then some (l.take (l.length - 4))else none
def PU(ns:List Nat):Prop:=ABp (at6 ns 1) (at6 ns 2) (at6 ns 3) (min (at6 ns 0) 9) 0=true/\at6 ns 4<=65536/\at6 ns 5<=4294967295
def gT(ns:List Nat):Prop:=at6 ns 0<=2/\at6 ns 4<=65536/\at6 ns 5<=4294967295/\ABp (at6 ns 1) (at6 ns 2) (at6 ns 3) (at6 ns 0) 0=true
theorem gU{ns:List Nat}:PU ns↔gT ns:=by
 unfold PU gT ABp;simp only[decide_eq_true_eq];generalize at6 ns 0=s;constructor
 ·rintro⟨⟨h1,h2,h3,h4,h5,h6,h7,h8⟩,h9,h10⟩
  exact⟨by omega,h9,h10,h1,h2,h3,h4,h5,h6,by omega,h8⟩
 ·rintro⟨h0,h9,h10,h1,h2,h3,h4,h5,h6,h7,h8⟩
  exact⟨⟨h1,h2,h3,h4,h5,h6,by omega,h8⟩,h9,h10⟩
def LF(T l ns:List Nat):Prop:=∃ body q,DF T l=some body/\body.length=60/\rdN 6 body 0=some (ns,q)/\PU ns/\∀ x∈body.drop q,x=0
def su(T l ns:List Nat):Prop:=∃ q,rdN 6 l 0=some (ns,q)/\gT ns/\Ec T (LJ ns)=l
theorem Jy{T l body:List Nat}(h:DF T l=some body):Ec T body=l/\body=l.take (l.length - 4):=by
 unfold DF at h;split at h
 ·cases h
 ·split at h
  ·rename_i h2
   cases h;exact⟨h2,rfl⟩
  ·cases h
theorem Pm(T body:List Nat):DF T (Ec T body)=some body:=by
 have h1:(Ec T body).take ((Ec T body).length - 4)=body:=by
  rw[Gg,Nat.add_sub_cancel];unfold Ec;exact zf
 unfold DF;rw[h1,if_neg (by rw[Gg];omega),if_pos rfl]
theorem cX{l:List Nat}(h:∀ x∈l,x=0):l=th l.length 0:=List.eq_replicate_iff.2 ⟨rfl,h⟩
theorem RN{T l ns:List Nat}(hb:∀ x∈l,x<256):LF T l ns↔su T l ns:=by
 constructor
 ·rintro⟨body,q,h1,h2,h3,h4,h5⟩
  obtain⟨k1,k2⟩:=Jy h1;have hbb:∀ x∈body,x<256:=fun x hx=>hb x (by rw[k2]at hx;exact vQ hx)
  obtain⟨g1,g2,g3,g4,g5⟩:=Lc 6 body 0 ns q hbb (uD _) h3;rw[uv]at g2;have hz:=cX h5;have hh:LJ ns=body:=by
   unfold LJ PY;rw[show 60 - (B6 ns).length=(body.drop q).length by rw[ua];omega,<- hz,<- g2]
  refine⟨(B6 ns).length,?_,gU.1 h4,by rw[hh];exact k1⟩;have:=Ld ns [] (body.drop q++G7 (CG T body)) g5;rw[g1]at this;rw[<- k1];unfold Ec;rw[List.nil_append,<- uC,<- g2]at this
  simpa using this
 ·rintro⟨q,h1,h2,h3⟩
  obtain⟨g1,g2,g3,g4,g5⟩:=Lc 6 l 0 ns q hb (uD _) h1;have hlen:(B6 ns).length<=60:=by
   have:=JA (ns:=ns) fun v hv=>by have:=g5 v hv;omega
   omega
  refine⟨LJ ns,(B6 ns).length,by rw[<- h3];exact Pm T _,Mr hlen,?_,gU.2 h2,fun x hx=>?_⟩
  ·have:=Ld ns [] (th (60 - (B6 ns).length) 0) g5
   rw[g1]at this;unfold LJ PY
   simpa using this
  ·unfold LJ PY at hx
   rw[xx]at hx;exact xV hx
end
noncomputable section
open Go
set_option maxRecDepth 100000
abbrev pt(b:Nat):IN:=.pointer (some ⟨b,0,none⟩)
def wv(n:Nat):IN:=.int .u32 (n:Int)
theorem Ai{a:Addr}{h:Hp}:XL (.pointer (some a)) h=.ok (.pointer (some a)) h:=rfl
theorem Au{F:ABZ}{e:Env}{h:Hp}{x:O}:Be x F e h=XL (x e) h:=rfl
theorem jG:SL.k=.ptr 25:=by kernel_rfl
theorem pj{F:ABZ}{e:Env}{h:Hp}{a:Addr}{g:O}(hg:g e=.pointer (some a)):oEq SL.k false g (kV (.pointer none)) F e h=.ok (.bool false) h:=by
 show(match eqV SL.k (g e) (.pointer none)with|some r=>okB (false != r) h|none=>.no)=_;rw[jG,hg];exact Ff
theorem qG{h:Hp}{tb:Nat}{T:List Nat}(R:h.Row tb 0 (T.map wv))(hT:ACM T){k:IntKind}{x:Nat}(hx:x<256):NS 256 1 (pt tb) (.int k (x:Int)) h=.ok (.pointer (some ⟨tb,x,none⟩)) h/\IY (.pointer (some ⟨tb,x,none⟩)) h=.ok (wv (T.getD x 0)) h:=by
 refine⟨?_,?_⟩
 ·have:=VK (h:=h) (n:=256) (es:=1) (b:=tb) (off:=0) (i:=x) (k:=k) hx
  rwa [sh,wD]at this
 ·have hx':x<T.length:=by rw[hT.1];exact hx
  rw[AQ,R.ABa (off:=x) (by rw[OF];exact hx'),tY,uq,tY,tW hx'];rfl
theorem JE{h:Hp}{u:IN}{l:List Nat}(V:h.ABy u (l.map bv)){i:Nat}(hi:i<l.length):∃ a,ACN 1 u (AI AT (i:Int)) h=.ok (.pointer (some a)) h/\IY (.pointer (some a)) h=.ok (.int .u8 ((l.getD i 0:Nat):Int)) h:=by
 obtain⟨a,g1,g2⟩:=V.at (i:=i) (by rw[OF];exact hi);refine⟨a,g1,?_⟩;rw[g2,tY,uq,tY,tW hi];rfl
theorem ex{l:List Nat}(hb:∀ x∈l,x<256)(i:Nat):l.getD i 0<256:=by
 rw[tY];cases h:l[i]? with
 |none=>decide
 |some x=>exact hb x (List.mem_of_getElem? h)
theorem GO{l:List Nat}{i:Nat}(hi:i<l.length):l.drop i=l.getD i 0::l.drop (i+1):=by
 rw[vr hi,tY,tW hi];rfl
theorem Hp.ABy.bl{h:Hp}{u:IN}{l:List Nat}(V:h.ABy u (l.map bv))(g:Hp):AB2 u g=.ok (AI AT (l.length:Int)) g:=by
 obtain⟨a,c,hu⟩:=V.shape;rw[hu,OF];rfl
theorem tV{a b:Nat}(ha:a<256)(hb:b<256){h:Hp}:YL wH .u8 (.int .u8 (a:Int)) (.int .u8 (b:Int)) h=.ok (.int .u8 ((wH a b:Nat):Int)) h:=UK (by show a<=255;omega) (by show b<=255;omega)
theorem sV{a b:Nat}(ha:a<4294967296)(hb:b<4294967296){h:Hp}:YL wH .u32 (.int .u32 (a:Int)) (.int .u32 (b:Int)) h=.ok (.int .u32 ((wH a b:Nat):Int)) h:=UK (by show a<=4294967295;omega) (by show b<=4294967295;omega)
theorem SQ{n:Nat}(h:n<=4294967295):IntKind.u32.wrap (n:Int)=n:=Ds .u32 n h
theorem Cd{i:Nat}(hi:i<=1000000000){h:Hp}:Fs .i64 (AI AT (i:Int)) (AI AT 1) h=.ok (AI AT ((i+1:Nat):Int)) h:=by
 have:(i:Int)+1=((i+1:Nat):Int):=by omega
 rw[EF,this,Bc (by omega)]
theorem EP{a b:Nat}(h:a<b):iLt (a:Int) (b:Int)=true:=by rw[DR];simp;omega
theorem Cv{a b:Nat}(h:b<=a):iLt (a:Int) (b:Int)=false:=by rw[DR];simp;omega
def Hp.VR(h:Hp)(u:IN)(l:List Nat):Prop:=h.ABy u (l.map bv)\/((∃ r,u=.chan (some r))/\l=[])
theorem Hp.VR.bl{h:Hp}{u:IN}{l:List Nat}(V:h.VR u l)(g:Hp):AB2 u g=.ok (AI AT (l.length:Int)) g:=by
 rcases V with V|⟨⟨r,rfl⟩,rfl⟩
 ·exact V.bl g
 ·rfl
theorem Hp.VR.here{h:Hp}{u:IN}{l:List Nat}{i:Nat}(V:h.VR u l)(hi:i<l.length):h.ABy u (l.map bv):=by
 rcases V with V|⟨_,rfl⟩
 ·exact V
 ·exact absurd hi (Nat.not_lt_zero _)
theorem Hp.VR.ext{h h':Hp}{u:IN}{l:List Nat}(V:h.VR u l)(W:h.Wf)(x:h.Ext h'):h'.VR u l:=V.imp (fun V=>V.ext W x) id
theorem Hp.VR.lenV{h:Hp}{u:IN}{l:List Nat}(V:h.VR u l):lenV u=.ok (l.map bv).length:=by
 rcases V with V|⟨⟨r,rfl⟩,rfl⟩
 ·exact V.lenV
 ·rfl
theorem Hp.VR.src{h:Hp}{u:IN}{l:List Nat}(V:h.VR u l){n:Nat}(hn:n=(l.map bv).length)(k:List IN->R):BI h 1 u n k=k (l.map bv):=by
 rcases V with V|⟨⟨r,rfl⟩,rfl⟩
 ·exact V.src hn k
 ·rfl
theorem qF:suS=BB (AY 0 (A4 suB)) suE:=rfl
theorem nQ:d48=eI:=rfl
theorem iG{F:ABZ}{h:Hp}{tb:Nat}{T:List Nat}(R:h.Row tb 0 (T.map wv))(hT:ACM T){u:IN}{l:List Nat}(V:h.VR u l)(hb:∀ x∈l,x<256)(hl:l.length<=900000){e:Env}(s0:J 0 e=pt tb)(s1:J 1 e=u)(s5:J 5 e=.int .u32 ((4294967295:Nat):Int))(s10:J 10 e=AI AT (l.length:Int))(s11:J 11 e=AI AT ((0:Nat):Int)):
  ∃ e' h',A4 suB F e h=.exit 0 e' h'/\(h'=h\/h'=h.marked)/\J 5 e'=.int .u32 ((Pi T 4294967295 l:Nat):Int):=by
 refine Bb (I:=fun i e' h'=>(h'=h\/h'=h.marked)/\∃ s:Nat,J 0 e'=pt tb/\J 1 e'=u/\J 5 e'=.int .u32 (s:Int)/\J 10 e'=AI AT (l.length:Int)/\J 11 e'=AI AT (i:Int)/\i<=l.length/\s<4294967296/\Pi T 4294967295 l=Pi T s (l.drop i))
  (Q:=fun x=>∃ e' h',x=.exit 0 e' h'/\(h'=h\/h'=h.marked)/\J 5 e'=.int .u32 ((Pi T 4294967295 l:Nat):Int)) l.length (by omega) (fun i e' h' ⟨hh,s,t0,t1,t5,t10,t11,hi,hs,hr⟩=>?_) ⟨.inl rfl,4294967295,s0,s1,s5,s10,s11,uD _,by decide,rfl⟩
 have hm:h'.marked=h.marked:=by rcases hh with rfl|rfl<;>rfl
 by_cases hlt:i<l.length
 ·left
  have V2:h.marked.ABy u (l.map bv):=(V.here hlt).same rfl;have R2:h.marked.Row tb 0 (T.map wv):=R.same rfl;obtain⟨a,g1,g2⟩:=JE V2 hlt;have hc:=ex hb i;rw[GO hlt]at hr;generalize l.getD i 0=c at g2 hc hr;have c1:=EP hlt;have v1:C3 .u8 (.int .u32 (s:Int)) h.marked=.ok (.int .u8 ((s % 256:Nat):Int)) h.marked:=by rw[B4,G9]
  have x1:=tV (h:=h.marked) (show s % 256<256 by omega) hc;have hx:=iV (show s % 256<256 by omega) hc;obtain⟨i1,l1⟩:=qG R2 hT (k:=.u8) hx;have r1:bS .u32 (.int .u32 (s:Int)) (.int .u64 8) h.marked=.ok (.int .u32 ((s/256:Nat):Int)) h.marked:=WA (j:=.u32) (q:=.u64) (m:=s) (n:=8);have x2:=sV (h:=h.marked) (hT.2 (wH (s % 256) c)) (show s/256<4294967296 by omega);have l1:IY (.pointer (some ⟨tb,wH (s % 256) c,none⟩)) h.marked=.ok (.int .u32 ((T.getD (wH (s % 256) c) 0:Nat):Int)) h.marked:=l1;have hst:=OX hT hs c;have a3:=Cd (i:=i) (h:=h.marked) (by omega);have hrun:∃ e2,suB F e' h'=.norm e2 h.marked/\J 0 e2=pt tb/\J 1 e2=u/\J 5 e2=.int .u32 ((wH (T.getD (wH (s % 256) c) 0) (s/256):Nat):Int)/\J 10 e2=AI AT (l.length:Int)/\J 11 e2=AI AT ((i+1:Nat):Int):=by
   unfold suB;simp only[sT,By,BY,reduceIte,AK,AJ,t11,t10,c1,Az,hm,Bl,t5,v1,BA,t1,g1,AN,g2,fl,x1,Au,t0,Ai,DT,i1,l1,Vn,r1,x2,BR,a3];exact⟨_,rfl,by simp[AG,t0,t1,t10]⟩
  obtain⟨e2,q1,q2,q3,q4,q5,q6⟩:=hrun;exact⟨hlt,e2,h.marked,q1,.inr rfl,_,q2,q3,q4,q5,q6,hlt,hst,hr⟩
 ·right
  have c1:=Cv (show l.length<=i by omega);have hrun:∃ e2,suB F e' h'=.exit 0 e2 h'/\J 5 e2=.int .u32 (s:Int):=by
   unfold suB;simp only[sT,By,BY,reduceIte,AK,AJ,t11,t10,c1];exact⟨_,rfl,by simp[AG,t5]⟩
  obtain⟨e2,q1,q2⟩:=hrun;rw[q1];refine⟨rfl,e2,h',rfl,hh,?_⟩;rw[q2,hr,vC (by omega)];rfl
theorem WN{n:Nat}{h:Hp}{tb:Nat}{T:List Nat}(R:h.Row tb 0 (T.map wv))(hT:ACM T){u:IN}{l:List Nat}(V:h.VR u l)(hb:∀ x∈l,x<256)(hl:l.length<=900000):
  ∃ h',call AC (n+1) 48 [pt tb,u] h=.ok (.int .u32 ((CG T l:Nat):Int)) h'/\(h'=h\/h'=h.marked):=by
 have ne:∀ e:Env,J 0 e=pt tb->oEq SL.k false (J 0) (kV (.pointer none)) (call AC n) e h=.ok (.bool false) h:=fun e he=>pj he
 have Vl:=V.bl h;have pre:∃ e1,eI (call AC n) (As e0 0 [pt tb,u]) h=suS (call AC n) e1 h/\J 0 e1=pt tb/\J 1 e1=u/\J 5 e1=.int .u32 ((4294967295:Nat):Int)/\J 10 e1=AI AT (l.length:Int)/\J 11 e1=AI AT ((0:Nat):Int):=by
  unfold eI;simp only[iN,IT,sT,By,BY,reduceIte,ne,AX,Vl];exact⟨_,rfl,by simp[AG]⟩
 obtain⟨e1,p1,p2,p3,p4,p5,p6⟩:=pre;obtain⟨e2,h',q1,q2,q3⟩:=iG (F:=call AC n) R hT V hb hl p2 p3 p4 p5 p6;have a1:FX uZ .u32 (.int .u32 4294967295) (.int .u32 ((Pi T 4294967295 l:Nat):Int)) h'=.ok (.int .u32 ((CG T l:Nat):Int)) h':=by
  have hs:=WM hT l 4294967295 (by decide);have:uZ 4294967295 ((Pi T 4294967295 l:Nat):Int)=((CG T l:Nat):Int):=by
   show(4294967295:Int) - _=_;unfold CG;omega
  rw[Ce,this,SQ (by unfold CG;omega)]
 refine⟨h',?_,q2⟩;rw[kr rfl,nQ,p1,qF];simp only[A9,An,q1,A8,A3];unfold suE;simp only[sT,By,BY,reduceIte,Bz,q3,a1,lV0]
theorem bg{n:Nat}{h:Hp}{tb:Nat}{T:List Nat}(R:h.Row tb 0 (T.map wv))(hT:ACM T){u:IN}{l:List Nat}(V:h.ABy u (l.map bv))(hb:∀ x∈l,x<256)(hl:l.length<=900000):
 ∃ h',call AC (n+1) 48 [pt tb,u] h=.ok (.int .u32 ((CG T l:Nat):Int)) h'/\(h'=h\/h'=h.marked):=WN R hT (.inl V) hb hl
end
noncomputable section
open Go
set_option maxRecDepth 100000
def Mk(h:Hp)(k:Nat)(v:IN)(l:List Nat):Prop:=∃ b el,v=.slice (some ⟨b,0,none⟩) l.length l.length/\(el=0\/el=6)/\h.Row b el (l.map bv)/\k<=b
theorem Mk.vals{h:Hp}{k:Nat}{v:IN}{l:List Nat}(m:Mk h k v l):h.ABy v (l.map bv):=by
 obtain⟨b,el,h1,h2,h3,h4⟩:=m;exact .inr ⟨b,0,l.length,el,_,by rw[OF];exact h1,h3,by simp,by rw[uv,List.take_length]⟩
theorem Mk.ext{h h':Hp}{k:Nat}{v:IN}{l:List Nat}(m:Mk h k v l)(W:h.Wf)(x:h.Ext h'):Mk h' k v l:=by
 obtain⟨b,el,h1,h2,h3,h4⟩:=m;exact⟨b,el,h1,h2,h3.ext W x,h4⟩
theorem Mk.same{h h':Hp}{k:Nat}{v:IN}{l:List Nat}(m:Mk h k v l)(hb:h'.bl=h.bl):Mk h' k v l:=by
 obtain⟨b,el,h1,h2,h3,h4⟩:=m;exact⟨b,el,h1,h2,h3.same hb,h4⟩
theorem Mk.le{h:Hp}{k k':Nat}{v:IN}{l:List Nat}(m:Mk h k v l)(hk:k'<=k):Mk h k' v l:=by
 obtain⟨b,el,h1,h2,h3,h4⟩:=m;exact⟨b,el,h1,h2,h3,by omega⟩
theorem Hp.Own.mk{h:Hp}{k:Nat}{v:IN}{l:List Nat}(o:h.Own k 5 v (l.map bv))(hl:0<l.length):Mk h k v l:=by
 rcases o with ⟨_,h2⟩|⟨b,h1,h2,h3,h4⟩
 ·have:=congrArg xc h2
  rw[OF,uR]at this;omega
 ·rw[OF]at h1
  exact⟨b,6,h1,.inr rfl,h2,h3⟩
theorem Lg:∀ n:Nat,BO ty5.zero n=(th n 0).map bv:=fun n=>by
 have hz:ty5.zero=[bv 0]:=by kernel_rfl
 rw[hz]
 induction n with
 |zero=>rfl
 |succ n ih=>show [bv 0]++BO [bv 0] n=_;rw[ih];rfl
theorem RJ{A B:List IN}{x y:IN}:over (A++x::B) A.length [y]=A++y::B:=by
 unfold over;have e:A++x::B=(A++[x])++B:=by simp
 rw[zf,e,show A.length+[y].length=(A++[x]).length by simp,xx];simp
theorem Mq{A B V:List IN}(h:A.length=V.length):over (A++B) 0 V=V++B:=by
 unfold over;rw[sh,<- h,xx];simp
theorem Xt{s i:Nat}(hi:i<4):(G7 s).drop (3 - i)=(s/2 ^ min (8*i) 32) % 256::(G7 s).drop (4 - i):=by
 have:i=0\/i=1\/i=2\/i=3:=by omega
 rcases this with rfl|rfl|rfl|rfl
 ·show [s % 256]=s/1 % 256::[]
  rw[Nat.div_one]
 ·rfl
 ·rfl
 ·rfl
theorem P7{a b:List Nat}(ha:∀ x∈a,x<256)(hb:∀ x∈b,x<256):bEq (a.map wa) (b.map wa)=decide (a=b):=by
 rw[Lq,vY,beq_iff_eq,decide_eq_true_eq];refine⟨fun h=>?_,fun h=>by rw[h]⟩;have h1:=congrArg (List.map zi) h;rw[AAK,AAK]at h1;have e:∀ l:List Nat,(∀ x∈l,x<256)->l.map (zi∘wa)=l:=fun l hl=>by
  have:l.map (zi∘wa)=l.map id:=List.map_congr_left fun x hx=>by
   show(wa x).toNat=x;rw[UInt8.toNat_ofNat',wz (hl x hx)]
  rw[this,List.map_id]
 rwa [e a ha,e b hb]at h1
theorem sJ{n:Nat}{h:Hp}{u v:IN}{a b:List Nat}(U:h.ABy u (a.map bv))(V:h.ABy v (b.map bv))(ha:∀ x∈a,x<256)(hb:∀ x∈b,x<256):call AC (n+1) 18 [u,v] h=.ok (.bool (decide (a=b))) h:=by
 have hbe:=P7 ha hb;rw[kM rfl];unfold d18;simp only[iN,IT,sT,By,BY,reduceIte,Kg,U.bytes.str,V.bytes.str,PT,Ov,hbe,lV0]
theorem qD:slS=BB (AY 0 (A4 slB)) slE:=rfl
theorem nL:d22=eF:=rfl
theorem iE{F:ABZ}{h h0:Hp}(W0:h0.Wf)(x:h0.Ext h){r s N:Nat}(hr:h0.next<=r){u:IN}{l:List Nat}(V:h0.VR u l)(hN:N=l.length+4)(hl:l.length<=900000)(hs:s<4294967296)(R:h.Row r 0 ((th N 0).map bv)){e:Env}
  (s1:J 1 e=u)(s5:J 5 e=.slice (some ⟨r,0,none⟩) N N)(s6:J 6 e=.int .u32 (s:Int))(s15:J 15 e=AI AT ((0:Nat):Int)):
  ∃ e' h',A4 slB F e h=.exit 0 e' h'/\h0.Ext h'/\h'.Row r 0 ((th l.length 0++G7 s).map bv)/\J 1 e'=u/\J 5 e'=.slice (some ⟨r,0,none⟩) N N:=by
 refine Bb (I:=fun i e' h'=>h0.Ext h'/\h'.Row r 0 ((th (N - i) 0++(G7 s).drop (4 - i)).map bv)/\J 1 e'=u/\J 5 e'=.slice (some ⟨r,0,none⟩) N N/\J 6 e'=.int .u32 (s:Int)/\J 15 e'=AI AT (i:Int)/\i<=4)
  (Q:=fun x=>∃ e' h',x=.exit 0 e' h'/\h0.Ext h'/\h'.Row r 0 ((th l.length 0++G7 s).map bv)/\J 1 e'=u/\J 5 e'=.slice (some ⟨r,0,none⟩) N N) 4 (by omega) (fun i e' h' ⟨x',R',t1,t5,t6,t15,hi⟩=>?_)
  ⟨x,by rw[Nat.sub_zero,vC (show(G7 s).length<=4 - 0 from If _),List.append_nil];exact R,s1,s5,s6,s15,by omega⟩
 by_cases hlt:i<4
 ·left
  have W:=x'.wf;have Vl:=V.bl h';have c1:iLt (i:Int) 4=true:=EP hlt;have a1:Fs .i64 (AI AT (l.length:Int)) (AI AT 4) h'=.ok (AI AT (N:Int)) h':=by
   rw[EF,show(l.length:Int)+4=(N:Int)by omega,Bc (by omega)]
  have a2:FX uZ .i64 (AI AT (N:Int)) (AI AT 1) h'=.ok (AI AT ((N - 1:Nat):Int)) h':=by
   have:uZ (N:Int) 1=((N - 1:Nat):Int):=by show(N:Int) - 1=_;omega
   rw[Ce,this,Bc (by omega)]
  have a3:FX uZ .i64 (AI AT ((N - 1:Nat):Int)) (AI AT (i:Int)) h'=.ok (AI AT ((N - (i+1):Nat):Int)) h':=by
   have:uZ ((N - 1:Nat):Int) (i:Int)=((N - (i+1):Nat):Int):=by show((N - 1:Nat):Int) - (i:Int)=_;omega
   rw[Ce,this,Bc (by omega)]
  have a4:FX zG .i64 (AI AT 8) (AI AT (i:Int)) h'=.ok (AI AT ((8*i:Nat):Int)) h':=by
   have:zG 8 (i:Int)=((8*i:Nat):Int):=by show(8:Int)*(i:Int)=_;omega
   rw[Ce,this,Bc (by omega)]
  have r1:bS .u32 (.int .u32 (s:Int)) (AI AT ((8*i:Nat):Int)) h'=.ok (.int .u32 ((s/2 ^ min (8*i) 32:Nat):Int)) h':=WA (j:=.u32) (q:=.i64) (m:=s) (n:=8*i);have v1:C3 .u8 (.int .u32 ((s/2 ^ min (8*i) 32:Nat):Int)) h'=.ok (.int .u8 ((s/2 ^ min (8*i) 32 % 256:Nat):Int)) h':=by rw[B4,G9]
  have i1:ACN 1 (.slice (some ⟨r,0,none⟩) N N) (AI AT ((N - (i+1):Nat):Int)) h'=.ok (.pointer (some ⟨r,N - (i+1),none⟩)) h':=by
   have:=Ch (h:=h') (n:=N) (c:=N) (es:=1) (b:=r) (off:=0) (i:=N - (i+1)) (k:=.i64) (by omega)
   rwa [sh,wD]at this
  have AF7:=Xt (s:=s) hlt;generalize s / 2 ^ min (8 * i) 32 % 256=c at v1 AF7;have AFO:(th (N - i) 0++(G7 s).drop (4 - i)).map bv=(th (N - (i+1)) 0).map bv++bv 0::((G7 s).drop (4 - i)).map bv:=by
   rw[show N - i=(N - (i+1))+1 by omega,List.replicate_succ',ud,ud,uC];rfl
  rw[AFO]at R';have hAl:((th (N - (i+1)) 0).map bv).length=N - (i+1):=by simp
  have ho:N - (i+1)+[ue .u8 (c:Int)].length<=((th (N - (i+1)) 0).map bv++bv 0::((G7 s).drop (4 - i)).map bv).length:=by
   simp only[No,tZ,uR,hAl];omega
  have ABj:256<=r:=by have:=W0.big;omega
  have st:=R'.ABg (n:=1) (off:=N - (i+1)) W ABj (v:=.int .u8 (c:Int)) rfl ho rfl;have wr:=R'.ABl W (off:=N - (i+1)) (vs:=[.int .u8 (c:Int)]) ho;have xw:=R'.AB3 x' hr (off:=N - (i+1)) (vs:=[.int .u8 (c:Int)]) ho;have a5:=Cd (i:=i) (h:=h'.wr r (N - (i+1)) [.int .u8 (c:Int)]) (by omega);have hov:over ((th (N - (i+1)) 0).map bv++bv 0::((G7 s).drop (4 - i)).map bv) (N - (i+1)) [.int .u8 (c:Int)]=(th (N - (i+1)) 0++(G7 s).drop (4 - (i+1))).map bv:=by
   have:=RJ (A:=(th (N - (i+1)) 0).map bv) (B:=((G7 s).drop (4 - i)).map bv) (x:=bv 0) (y:=bv c);rw[hAl]at this;rw[show 4 - (i+1)=3 - i by omega,AF7,ud,List.map_cons];exact this
  rw[hov]at wr;rw[CZ]at st;have hrun:∃ e2,slB F e' h'=.norm e2 (h'.wr r (N - (i+1)) [.int .u8 (c:Int)])/\J 1 e2=u/\J 5 e2=.slice (some ⟨r,0,none⟩) N N/\J 6 e2=.int .u32 (s:Int)/\J 15 e2=AI AT ((i+1:Nat):Int):=by
   unfold slB;simp only[sT,By,BY,reduceIte,AK,AJ,t15,c1,AX,t1,Vl,BR,a1,Bz,a2,a3,a4,Vn,t6,r1,Bl,v1,BA,t5,i1,AW,st,a5];exact⟨_,rfl,by simp[AG,t1,t5,t6]⟩
  obtain⟨e2,q1,q2,q3,q4,q5⟩:=hrun;exact⟨hlt,e2,_,q1,xw,wr,q2,q3,q4,q5,hlt⟩
 ·right
  have hi4:i=4:=by omega
  subst hi4;have c1:=Cv (show 4<=4 by omega);have hrun:∃ e2,slB F e' h'=.exit 0 e2 h'/\J 1 e2=u/\J 5 e2=.slice (some ⟨r,0,none⟩) N N:=by
   unfold slB;have c1:iLt ((4:Nat):Int) 4=false:=c1;simp only[sT,By,BY,reduceIte,AK,AJ,t15,c1];exact⟨_,rfl,by simp[AG,t1,t5]⟩
  obtain⟨e2,q1,q2,q3⟩:=hrun;rw[q1];refine⟨rfl,e2,h',rfl,x',?_,q2,q3⟩;have e1:N - 4=l.length:=by omega
  have e2:4 - 4=0:=rfl;rw[e1,e2,uv]at R';exact R'
theorem PR{F:ABZ}{e:Env}{h:Hp}(W:h.Wf){x y:O}{N:Nat}(hx:x e=AI AT (N:Int))(hy:y e=AI AT (N:Int))(hN:N<=1000000):HH 1 ty5.zero x y F e h=.ok (.slice (some ⟨h.next,0,none⟩) N N) (h.ABY 0 ((th N 0).map bv)):=by
 unfold HH;rw[hx,hy,Db];unfold Q0;have e1:tz N N=true:=Ar.2 (If N);have e2:tz (ur (tk N) (tk 1)) most=true:=Ar.2 (by
  show(N+1)*2<=1099511627776;omega)
 simp only[e1,e2,cond_true];rw[CQ W,Lg];rfl
theorem dh{F:ABZ}{e:Env}{h:Hp}(W:h.Wf){x y:O}{r N:Nat}{u:IN}{l A B:List Nat}(hx:x e=.slice (some ⟨r,0,none⟩) N N)(hy:y e=u)(V:h.VR u l)(ABj:256<=r)(hA:A.length=l.length)(hN:N=(A++B).length)(R:h.Row r 0 ((A++B).map bv)):
  Jh 1 x y F e h=.ok (AI AT (l.length:Int)) (h.wr r 0 (l.map bv))/\(h.wr r 0 (l.map bv)).Row r 0 ((l++B).map bv):=by
 have ho:0+(l.map bv).length<=((A++B).map bv).length:=by simp;omega
 have h1:BX (l.map bv)=true:=DB l;refine⟨?_,?_⟩
 ·unfold Jh QH
  rw[hx,hy];simp only[V.lenV,Am,BW,OF];rw[yj (show l.length<=N by rw[hN,No];omega)];rw[V.src (n:=l.length) (by rw[OF])];rw[R.store W ABj ho h1];rfl
 ·have:=R.ABl W ho
  rw[ud,Mq (by simp[hA])]at this;rw[ud];exact this
theorem Rr{n:Nat}{h:Hp}(W:h.Wf){tb:Nat}{T:List Nat}(R:h.Row tb 0 (T.map wv))(hT:ACM T){u:IN}{l:List Nat}(V:h.VR u l)(hb:∀ x∈l,x<256)(hl:l.length<=900000):
  ∃ h' v,call AC (n+2) 22 [pt tb,u] h=.ok v h'/\h.Ext h'/\Mk h' h.next v (Ec T l):=by
 have x1:=(Hp.Ext.refl W).ABY 0 ((th (l.length+4) 0).map bv);have R1:=Hp.Row.new W 0 ((th (l.length+4) 0).map bv);have mk:=fun (e:Env) (hx:J 10 e=AI AT ((l.length+4:Nat):Int))=>PR (F:=call AC (n+1)) (e:=e) W (x:=J 10) (y:=J 10) hx hx (by omega)
 generalize h.ABY 0 ((th (l.length+4) 0).map bv)=h1 at x1 R1 mk;obtain⟨h2,k1,k2⟩:=WN (n:=n) (R.ext W x1) hT (V.ext W x1) hb hl;have hbl:h2.bl=h1.bl:=by rcases k2 with rfl|rfl<;>rfl
 have x2:h.Ext h2:=by
  rcases k2 with rfl|rfl
  ·exact x1
  ·exact x1.marked
 have Vl:=V.bl h;have a1:Fs .i64 (AI AT (l.length:Int)) (AI AT 4) h=.ok (AI AT ((l.length+4:Nat):Int)) h:=by
  rw[EF,show(l.length:Int)+4=((l.length+4:Nat):Int)by omega,Bc (by omega)]
 have pre:∃ e1,eF (call AC (n+1)) (As e0 0 [pt tb,u]) h=slS (call AC (n+1)) e1 h2/\J 1 e1=u/\J 5 e1=.slice (some ⟨h.next,0,none⟩) (l.length+4) (l.length+4)/\J 6 e1=.int .u32 ((CG T l:Nat):Int)/\J 15 e1=AI AT ((0:Nat):Int):=by
  unfold eF;simp only[iN,IT,sT,By,BY,reduceIte,AX,Vl,BR,a1,mk,cA0,k1];exact⟨_,rfl,by simp[AG]⟩
 obtain⟨e1,p1,p2,p3,p4,p5⟩:=pre;obtain⟨e2,h3,q1,x3,R3,q2,q3⟩:=iE (F:=call AC (n+1)) W x2 (If _) V rfl hl (IJ T l) (R1.same hbl) p2 p3 p4 p5;have ABj:=W.big;obtain⟨c1,c2⟩:=dh (F:=call AC (n+1)) (e:=e2) x3.wf (x:=J 5) (y:=J 1) q3 q2 (V.ext W x3) ABj (A:=th l.length 0) (B:=G7 (CG T l)) (by simp) (by rw[No,uh];rfl) R3;have x4:=R3.AB3 x3 (If _) (off:=0) (vs:=l.map bv) (by rw[OF,OF,No,uh];omega);refine⟨_,.slice (some ⟨h.next,0,none⟩) (l.length+4) (l.length+4),?_,x4,⟨h.next,0,by rw[Gg],.inl rfl,c2,If _⟩⟩;rw[kP rfl,nL,p1,qD];simp only[A9,An,q1,A8,A3];unfold slE;simp only[sT,By,BY,reduceIte,c1,q3,lV0]
theorem Pe{n:Nat}{h:Hp}(W:h.Wf){tb:Nat}{T:List Nat}(R:h.Row tb 0 (T.map wv))(hT:ACM T){u:IN}{l:List Nat}(V:h.ABy u (l.map bv))(hb:∀ x∈l,x<256)(hl:l.length<=900000):
 ∃ h' v,call AC (n+2) 22 [pt tb,u] h=.ok v h'/\h.Ext h'/\Mk h' h.next v (Ec T l):=Rr W R hT (.inl V) hb hl
end
noncomputable section
open Go
set_option maxRecDepth 100000
theorem cC:Ht.k=.slice 5:=by kernel_rfl
theorem pI{F:ABZ}{e:Env}{h:Hp}{a:Addr}{n c:Nat}{g:O}(hg:g e=.slice (some a) n c):oEq Ht.k false g (kV (.slice none 0 0)) F e h=.ok (.bool false) h:=by
 show(match eqV Ht.k (g e) (.slice none 0 0)with|some r=>okB (false != r) h|none=>.no)=_;rw[cC,hg];exact Ff
theorem O5{h0 h:Hp}{eb en k b:Nat}{u:IN}{ys:List IN}(x0:h0.Ext h)(hk2:k<=h.next)(r:h.Row b 0 [])(y:h.ABy u ys)(hy:0<ys.length)(ha:BX ys=true)(hm:(ys.length+1)*(eb+1)<=1099511627776):
  ∃ h' v',DN 1 eb en (.slice (some ⟨b,0,none⟩) 0 0) u h=.ok v' h'/\h0.Ext h'/\h'.Own k en v' ys:=by
 have W:=x0.wf;obtain⟨cc,hcc,hl⟩:=r.rowOf;obtain⟨t,h2,h3⟩:=Dy ys cc [] 0 hl (.inr rfl);have h3:t.Is ys:=by simpa using h3
 refine⟨h.push (.cells t ys.length (en+1)),.slice (some ⟨h.next,0,none⟩) ys.length ys.length,?_,x0.push _,.inr ⟨h.next,rfl,⟨t,by rw[W.ABx,if_pos rfl],h3⟩,hk2,W.big⟩⟩;unfold DN DH;simp only[y.lenV,y.src rfl,Am,vH,sh];have e1:tz ys.length 0=false:=by
  cases e:tz ys.length 0
  ·rfl
  ·have:=Ar.1 e;omega
 have e2:tz (ur (tk ys.length) (tk eb)) It=true:=Ar.2 (Gv hm);rw[e1];simp only[e2,cond_true,ha];unfold GU;have hcc:rowOf h b=.ok cc 0 0:=hcc;have e3:Nat.beq 0 (ur 0 1)=true:=rfl;simp only[hcc,e3,h2];unfold Ee;simp only[hcc,Bi,vH,sh];unfold CT;rw[Am,Cz W];rfl
theorem QN{F:ABZ}{e:Env}{h:Hp}(W:h.Wf):Ab 0 (BO ty5.zero 0) [] F e h=.ok (.slice (some ⟨h.next,0,none⟩) 0 0) (h.ABY 0 []):=by
 have:BO ty5.zero 0=[]:=rfl;rw[this,Bq,Bg,CQ W];rfl
theorem L8{n:Nat}{h:Hp}(W:h.Wf){a:Addr}{c:Nat}{l:List Nat}(V:h.ABy (.slice (some a) l.length c) (l.map bv))(hl:l.length<=900000):∃ h' v,call AC (n+1) 93 [.slice (some a) l.length c] h=.ok v h'/\h.Ext h'/\Mk h' h.next v l:=by
 have y1:=(Hp.Ext.refl W).ABY 0 [];have R:=Hp.Row.new W 0 [];have es:=fun (e:Env)=>QN (F:=call AC n) (e:=e) W
 have n1:(h.ABY 0 []).next=h.next+1:=rfl;generalize h.ABY 0 []=h1 at y1 R es n1;have ne:∀ e:Env,J 0 e=.slice (some a) l.length c->oEq Ht.k false (J 0) (kV (.slice none 0 0)) (call AC n) e h=.ok (.bool false) h:=fun e he=>pI he
 rcases Nat.eq_zero_or_pos l.length with hz|hz
 ·have hl0:l=[]:=List.eq_nil_of_length_eq_zero hz
  subst hl0;have ABj:=W.big;have ap:DN 1 1 5 (.slice (some ⟨h.next,0,none⟩) 0 0) (.slice (some a) 0 c) h1=.ok (.slice (some ⟨h.next,0,none⟩) 0 0) (h1.wr h.next 0 []):=Py (l:=[]) y1.wf ABj R (V.ext W y1).bytes (If _) (If _);have R2:=R.ABl y1.wf (off:=0) (vs:=[]) (If _);have x2:=R.AB3 y1 (If _) (off:=0) (vs:=[]) (If _);refine⟨_,.slice (some ⟨h.next,0,none⟩) 0 0,?_,x2,⟨h.next,0,rfl,.inl rfl,R2,If _⟩⟩;rw[Ig rfl];unfold d93;have ne:∀ e:Env,J 0 e=.slice (some a) 0 c->oEq Ht.k false (J 0) (kV (.slice none 0 0)) (call AC n) e h=.ok (.bool false) h:=ne;simp only[iN,IT,sT,By,BY,reduceIte,uR,ne,es,BZ,ap,lV0]
 ·obtain⟨h2,v,a1,a2,a3⟩:=O5 (eb:=1) (en:=5) (k:=h.next) y1 (by omega) R (V.ext W y1) (by rw[OF];exact hz) (DB l) (by rw[OF];omega)
  refine⟨h2,v,?_,a2,a3.mk hz⟩;rw[Ig rfl];unfold d93;simp only[iN,IT,sT,By,BY,reduceIte,ne,es,BZ,a1,lV0]
theorem MA{F:ABZ}{e:Env}{h:Hp}{x y:O}{a:Addr}{el N C m:Nat}(hx:x e=.slice (some a) N C)(hy:y e=AI AT (m:Int))(hm:m<=C):Dd el 1 x none (some y) none F e h=.ok (.slice (some a) m C) h:=by
 show(match x e with|.slice a n c=>DO e n c none (some y) none (fun l hh m=>EH el 1 a false l hh m h)|_=>.no)=_;rw[hx];show Ci e (some y) N C (fun hh=>Ci e none 0 hh fun l=>EH el 1 (some a) false l hh C h)=_;have hb:∀ K:Nat->R,Ci e (some y) N C K=K m:=fun K=>by
  show(match DS (y e)with|.ok n=>(bif tz n C then K n else .no)|.no=>.no)=_;rw[hy,Db];simp only;rw[Ar.2 hm];rfl
 rw[hb];show Bv (some a) 1 0 m C h=_;unfold Bv;simp only[Am];cases C with
 |zero=>rfl
 |succ C=>rfl
theorem aS{F:ABZ}{e:Env}{h:Hp}{k:C}{o:Addr}{n c:Nat}(hb:o.block<h.mark):I5 (.slice (some o) n c) k F e h=k F e h:=by
 show(bif Nat.blt o.block h.mark then k F e h else .no)=_;rw[Ba.2 hb];rfl
theorem Hp.ABy.blt{h:Hp}(W:h.Wf){o:Addr}{n c:Nat}{xs:List IN}(V:h.ABy (.slice (some o) n c) xs):o.block<h.next:=by
 rcases V with ⟨h1,_⟩|⟨b,off,c',el,L,h1,h2,_⟩
 ·cases h1
 ·cases h1;exact h2.lt W
def GL(u:IN):Prop:=∀ o n c,u=.slice o n c->n<=c
theorem Mk.cap{h:Hp}{k:Nat}{v:IN}{l:List Nat}(m:Mk h k v l):GL v:=fun o n c e=>by
 obtain⟨b,el,h1,_⟩:=m;rw[h1]at e;cases e;exact If _
def unC(l:List Nat):Int:=if l.length<4 then 11 else 12
def ql(T l:List Nat)(h h':Hp)(r:R):Prop:=(∃ body v,DF T l=some body/\r=.ok (.tuple ⟨[v,AI AT 0]⟩) h'/\Mk h' h.next v body)\/(DF T l=none/\∃ c:Int,(c≠0/\c=unC l)/\r=.ok (.tuple ⟨[.slice none 0 0,AI AT c]⟩) h')
theorem Ob{n:Nat}{h:Hp}(W:h.Wf){tb:Nat}{T:List Nat}(R:h.Row tb 0 (T.map wv))(hT:ACM T){u:IN}{l:List Nat}(V:h.ABy u (l.map bv))(hC:GL u)(hb:∀ x∈l,x<256)(hl:l.length<=900000):
  ∃ h',h.Ext h'/\ql T l h h' (call AC (n+3) 82 [pt tb,u] h):=by
 have Vl:=V.bl h;by_cases h4:l.length<4
 ·have c1:iLt (l.length:Int) 4=true:=EP h4
  refine⟨h,.refl W,.inr ⟨by unfold DF;rw[if_pos h4],11,⟨by omega,by unfold unC;rw[if_pos h4]⟩,?_⟩⟩;rw[Ol rfl];unfold d82;simp only[iN,IT,sT,By,BY,reduceIte,AX,Vl,AK,AJ,c1,Ay,CP]
 ·have c1:iLt (l.length:Int) 4=false:=Cv (a:=l.length) (b:=4) (by omega)
  have a1:FX uZ .i64 (AI AT (l.length:Int)) (AI AT 4) h=.ok (AI AT ((l.length - 4:Nat):Int)) h:=by
   have:uZ (l.length:Int) 4=((l.length - 4:Nat):Int):=by show(l.length:Int) - 4=_;omega
   rw[Ce,this,Bc (by omega)]
  have hlm:(l.map bv).length=l.length:=OF ..;obtain⟨o,c,hu,V1⟩:=V.cut (n:=l.length - 4) (by rw[hlm];omega);rw[hlm]at hu;have hlen:(l.take (l.length - 4)).length=l.length - 4:=by rw[List.length_take];omega
  have V1:h.ABy (.slice (some o) (l.take (l.length - 4)).length c) ((l.take (l.length - 4)).map bv):=by rw[hlen,List.map_take];exact V1
  obtain⟨h1,v,k1,x1,m1⟩:=L8 (n:=n+1) W V1 (by omega);rw[hlen]at k1;have hbb:∀ x∈l.take (l.length - 4),x<256:=fun x hx=>hb x (vQ hx)
  have xm:=x1.marked;have Wm:=xm.wf;have xq:h.Ext h1.marked.quiet:=xm.quiet;obtain⟨h2,w,k2,x2,m2⟩:=Pe (n:=n) xq.wf (R.ext W xq) hT ((m1.same (h':=h1.marked.quiet) rfl).vals) hbb (by omega);have q1:∀ (F:ABZ) (e:Env),F=call AC (n+2)->J 0 e=pt tb->J 6 e=v->Aa .weak (AS 22 [J 0,J 6]) F e h1.marked=.ok w (h1.marked.back h2):=fun F e hF h0 h6=>by
   subst hF;refine Cp ?_ x2 (If _);rw[BP,AU,AU,A5,h0,h6];exact k2
  have x3:h1.marked.Ext (h1.marked.back h2):=Hp.Ext.back x2;have xb:=xm.trans x3;have m3:Mk (h1.marked.back h2) h1.marked.quiet.next w (Ec T (l.take (l.length - 4))):=m2.same rfl;have m4:Mk (h1.marked.back h2) h.next v (l.take (l.length - 4)):=(m1.same (h':=h1.marked) rfl).ext Wm x3;have Ve:=V.ext W xb;have st1:=m3.vals.bytes.str;have st2:=Ve.bytes.str;have hbs:=P7 (M5 (T:=T) hbb) hb;have hmk:o.block<(h1.marked.back h2).mark:=by
   have h5:o.block<h.next:=by rw[hu]at V;exact V.blt W
   have h6:=x1.next;show o.block<h1.next;omega
  have old:∀ (k:C) (F:ABZ) (e:Env),I5 u k F e (h1.marked.back h2)=k F e (h1.marked.back h2):=fun k F e=>by rw[hu];exact aS hmk
  have ct:∀ (F:ABZ) (e:Env),J 1 e=u->J 13 e=AI AT ((l.length - 4:Nat):Int)->Dd 5 1 (J 1) none (some (J 13)) none F e h=.ok (.slice (some o) (l.length - 4) c) h:=fun F e e1 e2=>by
   have:=hC _ _ _ hu;exact MA (e1.trans hu) e2 (by omega)
  by_cases hs:Ec T (l.take (l.length - 4))=l
  ·refine⟨_,xb,.inl ⟨_,v,by unfold DF;rw[if_neg h4,if_pos hs],?_,m4⟩⟩
   rw[decide_eq_true hs]at hbs;rw[Ol rfl];unfold d82;simp only[iN,IT,sT,By,BY,reduceIte,AX,Vl,AK,AJ,c1,Bz,a1,ct,cA0,k1,Az,q1,Kg,st1,EG,old,DU,st2,PT,Ov,hbs,Bool.not_true,Ay,CP]
  ·refine⟨_,xb,.inr ⟨by unfold DF;rw[if_neg h4,if_neg hs],12,⟨by omega,by unfold unC;rw[if_neg h4]⟩,?_⟩⟩
   rw[decide_eq_false hs]at hbs;rw[Ol rfl];unfold d82;simp only[iN,IT,sT,By,BY,reduceIte,AX,Vl,AK,AJ,c1,Bz,a1,ct,cA0,k1,Az,q1,Kg,st1,EG,old,DU,st2,PT,Ov,hbs,Bool.not_false,Ay,CP]
end
noncomputable section
open Go
set_option maxRecDepth 100000
def Bn(a b c:Int)(s:Nat)(u:IN):IN:=.agg ⟨[AI AT a,AI AT b,AI AT c,.int .u8 (s:Int),u]⟩
def A7(a b c:Int)(s:Nat)(u:IN):List IN:=[AI AT a,AI AT b,AI AT c,.int .u8 (s:Int),u]
theorem SA{F:ABZ}{h:Hp}(W:h.Wf){a b c:Int}{s:Nat}{u:IN}{g:O}{e:Env}(he:g e=Bn a b c s u):CW g F e h=.ok (.pointer (some ⟨h.next,0,none⟩)) (h.ABY 0 (A7 a b c s u)):=by
 rw[Dx,he,Dt W];rfl
theorem Br{h:Hp}{r:Nat}{a b c:Int}{s:Nat}{u:IN}(R:h.Row r 0 (A7 a b c s u)):ABa ⟨r,0,none⟩ h=.ok (AI AT a) h/\ABa ⟨r,1,none⟩ h=.ok (AI AT b) h/\ABa ⟨r,2,none⟩ h=.ok (AI AT c) h/\ABa ⟨r,3,none⟩ h=.ok (.int .u8 (s:Int)) h/\ABa ⟨r,4,none⟩ h=.ok u h/\loadN 5 ⟨r,0,none⟩ h=.ok (Bn a b c s u) h:=
 ⟨R.ABa (off:=0) (by show 0<5;omega),R.ABa (off:=1) (by show 1<5;omega),R.ABa (off:=2) (by show 2<5;omega),R.ABa (off:=3) (by show 3<5;omega),R.ABa (off:=4) (by show 4<5;omega),R.loadN (off:=0) (n:=5) (by show 0+5<=5;omega)⟩
theorem F2{a b:Int}(h:b<=a):iGe a b=true:=(S6 a b).trans (decide_eq_true h)
theorem EK{a b:Int}(h:¬ b<=a):iGe a b=false:=(S6 a b).trans (decide_eq_false h)
theorem GW{a b:Int}(h:a<=b):iLe a b=true:=(O8 a b).trans (decide_eq_true h)
theorem K2{a b:Int}(h:¬ a<=b):iLe a b=false:=(O8 a b).trans (decide_eq_false h)
theorem HZ{a b:Int}(h:a<b):iLt a b=true:=(DR a b).trans (decide_eq_true h)
theorem E5{a b:Int}(h:¬ a<b):iLt a b=false:=(DR a b).trans (decide_eq_false h)
theorem Fc{a b:Int}(h:b<a):iGt a b=true:=(Gs a b).trans (decide_eq_true h)
theorem E4{a b:Int}(h:¬ b<a):iGt a b=false:=(Gs a b).trans (decide_eq_false h)
theorem CU{a b:Int}(h:a=b):iEq a b=true:=by rw[Dh];simpa using h
theorem B9{a b:Int}(h:¬ a=b):iEq a b=false:=by rw[Dh];simpa using h
theorem EB{a b:Int}(h:¬ a=b):iNe a b=true:=by rw[Ha];simpa using h
theorem B5{a b:Int}(h:a=b):iNe a b=false:=by rw[Ha];simpa using h
theorem Tg{F:ABZ}{h:Hp}(W:h.Wf){a b c:Int}{s n:Nat}{u:IN}(hu:∀ g,AB2 u g=.ok (AI AT (n:Int)) g):He [.t (J 2)] (d94 F (As e0 0 [Bn a b c s u]) h)=.ok (.bool (ABp a b c s n)) (h.ABY 0 (A7 a b c s u)):=by
 have R:=Hp.Row.new W 0 (A7 a b c s u);have bx:∀ e:Env,J 0 e=Bn a b c s u->CW (J 0) F e h=.ok (.pointer (some ⟨h.next,0,none⟩)) (h.ABY 0 (A7 a b c s u)):=fun e he=>SA W he
 generalize h.ABY 0 (A7 a b c s u)=h1 at R bx;obtain⟨l0,l1,l2,l3,l4,_⟩:=Br R;unfold d94;by_cases k1:0<=a
 ·have c1:iGe a 0=true:=F2 k1
  by_cases k2:a<=1099511627776
  ·have c2:iLe a 1099511627776=true:=GW k2
   by_cases k3:0<=b
   ·have c3:iGe b 0=true:=F2 k3
    by_cases k4:b<255
    ·have c4:iLt b 255=true:=HZ k4
     by_cases k5:1<=c
     ·have c5:iGe c 1=true:=F2 k5
      by_cases k6:c<=1099511627776
      ·have c6:iLe c 1099511627776=true:=GW k6
       by_cases k7:(s:Int)=1
       ·have c7:iEq (s:Int) 1=true:=CU k7
        by_cases k9:(n:Int)<=65536
        ·have c9:iLe (n:Int) 65536=true:=GW k9
         rw[show ABp a b c s n=true from decide_eq_true (by omega)];simp only[iN,IT,sT,By,BY,reduceIte,gD,bx,AH,AO,AN,AQ,l0,l1,l2,l3,l4,AK,AJ,AX,hu,c1,c2,c3,c4,c5,c6,c7,c9,lV0]
        ·have c9:iLe (n:Int) 65536=false:=K2 k9
         rw[show ABp a b c s n=false from decide_eq_false (by omega)];simp only[iN,IT,sT,By,BY,reduceIte,gD,bx,AH,AO,AN,AQ,l0,l1,l2,l3,l4,AK,AJ,AX,hu,c1,c2,c3,c4,c5,c6,c7,c9,lV0]
       ·have c7:iEq (s:Int) 1=false:=B9 k7
        by_cases k8:(s:Int)=2
        ·have c8:iEq (s:Int) 2=true:=CU k8
         by_cases k9:(n:Int)<=65536
         ·have c9:iLe (n:Int) 65536=true:=GW k9
          rw[show ABp a b c s n=true from decide_eq_true (by omega)];simp only[iN,IT,sT,By,BY,reduceIte,gD,bx,AH,AO,AN,AQ,l0,l1,l2,l3,l4,AK,AJ,AX,hu,c1,c2,c3,c4,c5,c6,c7,c8,c9,lV0]
         ·have c9:iLe (n:Int) 65536=false:=K2 k9
          rw[show ABp a b c s n=false from decide_eq_false (by omega)];simp only[iN,IT,sT,By,BY,reduceIte,gD,bx,AH,AO,AN,AQ,l0,l1,l2,l3,l4,AK,AJ,AX,hu,c1,c2,c3,c4,c5,c6,c7,c8,c9,lV0]
        ·have c8:iEq (s:Int) 2=false:=B9 k8
         rw[show ABp a b c s n=false from decide_eq_false (by omega)];simp only[iN,IT,sT,By,BY,reduceIte,gD,bx,AH,AO,AN,AQ,l0,l1,l2,l3,l4,AK,AJ,AX,hu,c1,c2,c3,c4,c5,c6,c7,c8,lV0]
      ·have c6:iLe c 1099511627776=false:=K2 k6
       rw[show ABp a b c s n=false from decide_eq_false (by omega)];simp only[iN,IT,sT,By,BY,reduceIte,gD,bx,AH,AO,AN,AQ,l0,l1,l2,l3,l4,AK,AJ,AX,hu,c1,c2,c3,c4,c5,c6,lV0]
     ·have c5:iGe c 1=false:=EK k5
      rw[show ABp a b c s n=false from decide_eq_false (by omega)];simp only[iN,IT,sT,By,BY,reduceIte,gD,bx,AH,AO,AN,AQ,l0,l1,l2,l3,l4,AK,AJ,AX,hu,c1,c2,c3,c4,c5,lV0]
    ·have c4:iLt b 255=false:=E5 k4
     rw[show ABp a b c s n=false from decide_eq_false (by omega)];simp only[iN,IT,sT,By,BY,reduceIte,gD,bx,AH,AO,AN,AQ,l0,l1,l2,l3,l4,AK,AJ,AX,hu,c1,c2,c3,c4,lV0]
   ·have c3:iGe b 0=false:=EK k3
    rw[show ABp a b c s n=false from decide_eq_false (by omega)];simp only[iN,IT,sT,By,BY,reduceIte,gD,bx,AH,AO,AN,AQ,l0,l1,l2,l3,l4,AK,AJ,AX,hu,c1,c2,c3,lV0]
  ·have c2:iLe a 1099511627776=false:=K2 k2
   rw[show ABp a b c s n=false from decide_eq_false (by omega)];simp only[iN,IT,sT,By,BY,reduceIte,gD,bx,AH,AO,AN,AQ,l0,l1,l2,l3,l4,AK,AJ,AX,hu,c1,c2,lV0]
 ·have c1:iGe a 0=false:=EK k1
  rw[show ABp a b c s n=false from decide_eq_false (by omega)];simp only[iN,IT,sT,By,BY,reduceIte,gD,bx,AH,AO,AN,AQ,l0,l1,l2,l3,l4,AK,AJ,AX,hu,c1,lV0]
theorem Jn{n:Nat}{h:Hp}(W:h.Wf){a b c:Int}{s m:Nat}{u:IN}(hu:∀ g,AB2 u g=.ok (AI AT (m:Int)) g):call AC (n+1) 94 [Bn a b c s u] h=.ok (.bool (ABp a b c s m)) (h.ABY 0 (A7 a b c s u)):=by
 rw[lq rfl];exact Tg W hu
def OR(z:Int):Nat:=if z<0\/65536<z then 0 else 1+(z.toNat+63)/64
theorem pC{F:ABZ}{e:Env}{h:Hp}{x y:O}{k j:IntKind}{a b:Int}(hx:x e=.int k a)(hy:y e=.int j b):Xb x y F e h=.ok (.int k (min a b)) h:=by
 show Hg true (x e) (y e) h=_;rw[hx,hy];show(bif iLt b a then R.ok (.int k b) h else .ok (.int k a) h)=_;rw[DR];rcases Int.lt_or_le b a with hlt|hle
 ·rw[decide_eq_true hlt,Int.min_eq_right (by omega)];rfl
 ·rw[decide_eq_false (by omega),Int.min_eq_left hle];rfl
theorem WF{n:Nat}{h:Hp}{z:Int}:call AC (n+1) 72 [AI AT z] h=.ok (AI AT (OR z:Nat)) h:=by
 rw[lR rfl];unfold d72;by_cases k1:z<0
 ·have c1:iLt z 0=true:=HZ k1
  rw[show OR z=0 from if_pos (by omega)];simp only[iN,IT,sT,By,BY,reduceIte,gD,AK,AJ,c1,lV0];rfl
 ·have c1:iLt z 0=false:=E5 k1
  by_cases k2:65536<z
  ·have c2:iGt z 65536=true:=Fc k2
   rw[show OR z=0 from if_pos (by omega)];simp only[iN,IT,sT,By,BY,reduceIte,gD,AK,AJ,c1,c2,lV0];rfl
  ·have c2:iGt z 65536=false:=E4 k2
   obtain⟨m,rfl⟩:=wU (show 0<=z by omega);have a1:Fs .i64 (AI AT (m:Int)) (AI AT 64) h=.ok (AI AT ((m+64:Nat):Int)) h:=by
    rw[EF,show(m:Int)+64=((m+64:Nat):Int)by omega,Bc (by omega)]
   have a2:FX uZ .i64 (AI AT ((m+64:Nat):Int)) (AI AT 1) h=.ok (AI AT ((m+63:Nat):Int)) h:=by
    have:uZ ((m+64:Nat):Int) 1=((m+63:Nat):Int):=by show((m+64:Nat):Int) - 1=_;omega
    rw[Ce,this,Bc (by omega)]
   have a3:Sw .i64 (AI AT ((m+63:Nat):Int)) (AI AT 64) h=.ok (AI AT (((m+63)/64:Nat):Int)) h:=by
    have:IntKind.i64.wrap (((m+63:Nat):Int).tdiv 64)=(((m+63)/64:Nat):Int):=Bc (n:=(m+63)/64) (by omega);rw[LX (by omega),this]
   have a4:Fs .i64 (AI AT 1) (AI AT (((m+63)/64:Nat):Int)) h=.ok (AI AT ((OR (m:Int):Nat):Int)) h:=by
    rw[show OR (m:Int)=1+((m:Int).toNat+63)/64 from if_neg (by omega),Int.toNat_natCast,EF,show(1:Int)+(((m+63)/64:Nat):Int)=((1+(m+63)/64:Nat):Int)by omega,Bc (by omega)]
   simp only[iN,IT,sT,By,BY,reduceIte,gD,AK,AJ,c1,c2,BR,a1,Bz,a2,Ji,a3,a4,lV0]
end
noncomputable section
open Go
set_option maxRecDepth 100000
def CN(a b c s m t:Nat):List Nat:=[s,a,b,c,m,t]
theorem Z5{a b c s m t:Nat}(ha:a<=1099511627776)(hb:b<255)(hc:c<=1099511627776)(hs:s<256)(hm:m<=65536)(ht:t<4294967296):∀ v∈CN a b c s m t,v<18446744073709551616:=fun v hv=>by
 unfold CN at hv;simp only[uA,zD,or_false]at hv;omega
theorem OE{a b c s m t:Nat}(ha:a<=1099511627776)(hb:b<255)(hc:c<=1099511627776)(hs:s<256)(hm:m<=65536)(ht:t<4294967296):(B6 (CN a b c s m t)).length<=40:=by
 have h1:=EO 1 s (by show s<16384;omega);have h2:=EO 5 a (by show a<4398046511104;omega);have h3:=EO 1 b (by show b<16384;omega);have h4:=EO 5 c (by show c<4398046511104;omega);have h5:=EO 2 m (by show m<2097152;omega);have h6:=EO 4 t (by show t<34359738368;omega);show(Bx s++(Bx a++(Bx b++(Bx c++(Bx m++(Bx t++[])))))).length<=40;simp only[No,uR];omega
theorem KG{k:IntKind}{n:Nat}(hn:n<=18446744073709551615){h:Hp}:C3 .u64 (.int k (n:Int)) h=.ok (.int .u64 (n:Int)) h:=by rw[B4,DG hn]
def se(T:List Nat)(a b c:Int)(s:Nat)(l:List Nat)(h h':Hp)(r:R):Prop:=(ABp a b c s l.length=true/\∃ v,r=.ok (.tuple ⟨[v,AI AT 0]⟩) h'/\Mk h' h.next v (Ec T (LJ (CN a.toNat b.toNat c.toNat s l.length (CG T l)))))\/(ABp a b c s l.length=false/\r=.ok (.tuple ⟨[.slice none 0 0,AI AT 2]⟩) h')
end
end Go.Proofs.YtbjadbhkogcfeaaGreat

/-
  Part ZD of what Lawnk stands on: printed by program, names and spaces cut.
-/
import Derived.Test.YtldjiljipddebaaGreatZC
import Derived.Shelf.SlIterI.Nil
import Derived.Shelf.SortM.Plain
import Derived.Shelf.SortM.SortNone
open Option renaming none→By,some→BY
open Bool renaming true→IN,false→IS
open Go.Value renaming int→AI
open Go.IntKind renaming i64→AT
open Nat renaming reduceEqDiff→OF,reduceLT→sh,reduceAdd→wA,le_refl→wB,zero_add→wC,succ→wQ,beq→wU,ble→wY,lt_or_ge→wh,zero_le→wl,le_trans→wy,blt→xQ,mul→xW,beq_refl→yG,add_eq→yH,reduceLeDiff→yn,mul_one→yp,min_eq_left→yz,xor→zD,mod_eq_of_lt→zg,mul_le_mul_right→ABL,sub_self→ABv,xor_lt_two_pow→ACp,sub_zero→ADB,le_succ→ADZ
open Go renaming Value→vz,Program→xU,intOf→AD4
open List renaming length_append→wD,getElem?_eq_getElem→wE,length_map→wF,getD_eq_getElem?_getD→wG,mem_cons_of_mem→wI,mem_cons_self→wJ,length_cons→wK,replicate→wR,mem_cons→wS,append_nil→wT,append_assoc→wa,mem_append→wd,length_take→wu,map_append→w9,mem_map→xA,length_nil→xD,eq_nil_of_length_eq_zero→xH,nil_append→xI,length_singleton→xM,length_drop→xT,drop_of_length_le→xV,drop_zero→xa,getElem?_map→xc,mem_of_mem_take→xk,map_cons→yA,length_replicate→yI,drop_eq_getElem_cons→yP,cons_append→yS,take_of_length_le→yU,pairwise_cons→yV,mem_of_mem_drop→yx,append_eq→zK,pairwise_map→zS,getElem_mem→zY,eq_of_mem_replicate→zb,length→zo,map_map→zw,drop→AAZ,mem_nil_iff→AAr,take→AAw,drop_left→AA1,drop_length→ABY,take_left→ACL,map_congr_left→ACb
open Go.Proofs.Tryz renaming prog→wL,underlying3→yd,zeroValue3→AAm,underlying4→AAo,underlying79→ABJ,sizeOf3→ABQ,zeroValue79→ABU,underlying0→ABV,zeroValue0→ABd,isAgg3→ABe,sizeOf79→AB3,sizeOf0→ACG,isAgg79→ACH,func104→ACI,isAgg0→ACX,underlying121→ACf,zeroValue121→ACk,zeroValue4→AC7,sizeOf121→ADM,isAgg121→ADX,sizeOf4→ADf,func152→ADg,func146→ADh,func143→ADi,func142→ADj,func129→ADk,func112→ADl,func105→ADm,isAgg4→ADx,func66→ADy,func65→ADz,func18→AD0,func5→AD5,f65→AEL
open Bool renaming and_eq_true→wV,not_true→xK,not_false→xP,eq_iff_iff→yW
open Int renaming sub→xO,ofNat→xR,toNat_natCast→yC,eq_ofNat_of_zero_le→yw,mul→AA8
open Go.Value renaming int→xd
open Array renaming ext'→yD
open Go.WideElems renaming rg→ya,rd→AB5
open UInt8 renaming ofNat→zr,toNat→ACQ
open Go.Fence renaming wide→AAP
open Go.DataW renaming insert→AAk,map→AEE
open Go.WideShapes renaming sorted_perm→AA9
open Go.IntKind renaming u64→ACF
open Go.Proofs.AnyZI renaming sorted_in→AC5,SortsIn→ADV
open Go.Proofs.SlLaysZI renaming n6→AC8
open Or renaming inr→AD8
namespace Go.Proofs.YtldjiljipddebaaGreat
set_option maxRecDepth 100000
noncomputable section
open Go
def zt3:VT:=(.nd (AI AT 0) .mt .mt)
def Qq:VT:=(.nd (.int .u32 0) .mt .mt)
def Vh:VT:=(.nd (.int .u32 0) Qq Qq)
def Vi:VT:=(.nd (.int .u32 0) Vh Vh)
def Vj:VT:=(.nd (.int .u32 0) Vi Vi)
def Vm:VT:=(.nd (.int .u32 0) Vj Vj)
def Vn:VT:=(.nd (.int .u32 0) Vm Vm)
def Qp:VT:=(.nd (.int .u32 0) (.nd (.int .u32 0) (.nd (.int .u32 0) (.nd (.int .u32 0) (.nd (.int .u32 0) (.nd (.int .u32 0) (.nd (.int .u32 0) (.nd (.int .u32 0) Qq .mt) Qq) Vh) Vi) Vj) Vm) Vn) (.nd (.int .u32 0) Vn Vn))
def vI:VT:=(.nd (.slice By 0 0) .mt .mt)
def ON:VT:=(.nd (AI AT 0) (.nd (AI AT 0) (.nd (AI AT 0) .mt .mt) (.nd (AI AT 0) .mt .mt)) (.nd (.int .u8 0) (.nd (AI AT 0) .mt .mt) (.nd (.slice By 0 0) .mt .mt)))
def Cq:VT:=(.nd (AI AT 0) (.nd (AI AT 0) (.nd (AI AT 0) .mt .mt) (.nd (.slice By 0 0) .mt .mt)) (.nd (.int .u8 0) (.nd (.slice By 0 0) .mt .mt) (.nd (AI AT 0) .mt .mt)))
def vJ:VT:=(.nd (.pointer By) .mt .mt)
def Qs:VT:=(.nd (.int .u8 0) .mt .mt)
def Vo:VT:=(.nd (.int .u8 0) Qs Qs)
def Vq:VT:=(.nd (.int .u8 0) Vo Vo)
def Vr:VT:=(.nd (.int .u8 0) Vq Vq)
def Jk:VT:=(.nd (.int .u8 0) (.nd (.int .u8 0) (.nd (.int .u8 0) (.nd (.int .u8 0) (.nd (.int .u8 0) (.nd (.int .u8 0) Qs .mt) Qs) Vo) Vq) Vr) (.nd (.int .u8 0) Vr Vr))
def fz:VT:=(.nd (AI AT 0) (.nd (AI AT 0) (.nd (.int .u8 0) .mt .mt) .mt) (.nd (AI AT 0) .mt .mt))
def DT:VT:=(.nd (AI AT 0) (.nd (AI AT 0) (.nd (.int .u8 0) .mt .mt) .mt) (.nd (AI AT 0) (.nd (.slice By 0 0) .mt .mt) .mt))
def CR:VT:=(.nd (AI AT 0) (.nd (AI AT 0) (.nd (.int .u8 0) .mt .mt) (.nd (AI AT 0) .mt .mt)) (.nd (AI AT 0) (.nd (.slice By 0 0) .mt .mt) .mt))
def PU:VT:=(.nd (.int .u64 0) (.nd (.int .u64 0) (.nd (.int .u64 0) .mt .mt) (.nd (.int .u64 0) .mt .mt)) (.nd (.int .u64 0) (.nd (.int .u64 0) .mt .mt) .mt))
def kjW:C:=(G 111 (AU 17 [(J 22)])
(G 24 (Af 111)
(Ah 13 IN 114 (AE 2 (J 12))
(Ah 13 IN 115 (AO (J 114))
(Ah 13 IN 116 (Aj iEq .u8 (J 115) (W (.int .u8 6)))
(G 117 (A0 (J 13) (J 116) (W (.bool IS)))
(Bj 117
(G 119 (Bh (J 24))
(G 121 (Bh (J 20))
(G 122 (Aj iGe .i64 (J 119) (J 121))
(Ah 122 IN 124 (Af 24)
(Ah 122 IN 125 (Bh (J 124))
(Ah 122 IN 126 (Af 18)
(Ah 122 IN 127 (Bh (J 126))
(Ah 122 IN 128 (Aj iLe .i64 (J 125) (J 127))
(G 129 (A0 (J 122) (J 128) (W (.bool IS)))
(Ah 129 IN 131 (AU 18 [])
(G 132 (A0 (J 129) (J 131) (W (.bool IS)))
(G 6 (Af 132)
Ao))))))))))))
(G 135 (AU 19 [(J 24),(J 18)])
(Ah 135 IS 137 (Af 24)
(Ah 135 IS 138 (Af 20)
(Ah 135 IS 139 (AU 19 [(J 137),(J 138)])
(G 140 (A0 (J 135) (W (.bool IN)) (J 139))
(Ah 140 IN 142 (AU 18 [])
(G 143 (A0 (J 140) (J 142) (W (.bool IS)))
(G 6 (Af 143)
Ao)))))))))))))))
def rK:C:=(G 89 (AU 14 [(J 8),(J 2)])
(G 92 (AU 15 [(J 8),(J 7),(W (AI AT 100))])
(G 93 (AW 0 (J 92))
(G 94 (AW 1 (J 92))
(G 22 (Af 93)
(G 23 (Af 94)
(G 96 (Dq (J 19))
(Ah 96 IS 98 (Af 21)
(Ah 96 IS 99 (Dq (J 98))
(G 100 (A0 (J 96) (W (.bool IN)) (J 99))
(Ah 100 IS 102 (Af 23)
(Ah 100 IS 103 (Aj iNe .i64 (J 102) (W (AI AT 0)))
(G 104 (A0 (J 100) (W (.bool IN)) (J 103))
(Ah 104 IS 106 (Af 22)
(Ah 104 IS 107 (AU 16 [(J 106)])
(Ah 104 IS 108 (Aj iNe .i64 (J 107) (W (AI AT 0)))
(G 109 (A0 (J 104) (W (.bool IN)) (J 108))
(Bj 109
(G 6 (AQ (W (.bool IS)))
Ao)
kjW))))))))))))))))))
def kjV:C:=rK
def rI:C:=(G 73 (AU 13 [(J 7),(J 11)])
(G 74 (AW 0 (J 73))
(G 75 (AW 1 (J 73))
(G 18 (Af 74)
(G 19 (Af 75)
(G 78 (BK 7 (J 12))
(G 79 (Ap 1 (BX Va.zero 1) [(0,7,(J 78))])
(G 80 (Bm 7 72 37 (J 11) (J 79))
(G 81 (AU 13 [(J 7),(J 80)])
(G 82 (AW 0 (J 81))
(G 83 (AW 1 (J 81))
(G 20 (Af 82)
(G 21 (Af 83)
(G 85 (Dq (J 13))
(BJ (Bj 85
(G 20 (Af 18)
Aq)
Aq)
kjV)))))))))))))))
def kjT:C:=rI
def mlC:C:=(G 62 (Aj iEq .i64 (J 17) (W (AI AT 0)))
(G 63 (BK 7 (J 15))
(G 64 (AU 12 [(J 63)])
(G 65 (oEq ty4.k IN (J 62) (J 64))
(Bj 65
(G 6 (AQ (W (.bool IS)))
Ao)
(G 67 (BK 7 (J 15))
(G 68 (Ap 1 (BX Va.zero 1) [(0,7,(J 67))])
(G 69 (Bm 7 72 37 (J 11) (J 68))
(G 11 (Af 69)
Aq)))))))))
def mlD:C:=(G 13 (AQ (W (.bool IN)))
(G 55 (Aj iNe .i64 (J 17) (W (AI AT 15)))
(Ah 55 IS 57 (Af 9)
(Ah 55 IS 58 (AU 11 [(J 57)])
(Ah 55 IS 59 (Dq (J 58))
(G 60 (A0 (J 55) (W (.bool IN)) (J 59))
(Bj 60
(G 6 (AQ (W (.bool IS)))
Ao)
(CD 0))))))))
def jN:C:=(G 43 (CF 7 (J 39) (J 41))
(G 44 (BK 7 (J 43))
(G 15 (Bc 7 ON)
(cDo (Ad 7 (J 15) (J 44))
(G 45 (BK 7 (J 15))
(cDo (Ad 7 (J 12) (J 45))
(G 48 (BK 7 (J 15))
(G 49 (AU 9 [(J 9),(J 48)])
(G 50 (AW 0 (J 49))
(G 51 (AW 1 (J 49))
(G 16 (Bc 7 Cq)
(cDo (Ad 7 (J 16) (J 50))
(G 17 (Af 51)
(G 53 (AU 10 [(J 8)])
(Bj 53
mlD
mlC)))))))))))))))
def mlB:C:=jN
def mlI:C:=(G 70 (CO .i64 (BH .i64) (J 41) (W (AI AT 1)))
(G 41 (Af 70)
Aq))
def mlK:C:=BJ (Ab 1 mlB) mlI
def jO:C:=(G 42 (Aj iLt .i64 (J 41) (J 40))
(Bj 42
mlK
(CD 0)))
def mlL:C:=jO
def mlS:C:=BJ (Ab 0 (A4 mlL)) kjT
def d3h:C:=(G 6 (AQ (W (.bool IS)))
(G 25 (AU 5 [])
(G 7 (Bc 256 Qp)
(cDo (Ad 256 (J 7) (J 25))
(G 27 (AU 6 [(J 7)])
(G 28 (AW 0 (J 27))
(G 29 (AW 1 (J 27))
(G 30 (AW 2 (J 27))
(G 8 (Af 28)
(G 9 (Af 29)
(G 10 (Af 30)
(G 32 (Dq (J 10))
(Bj 32
(G 6 (AQ (W (.bool IS)))
Ao)
(G 35 (QP .u8 (J 1) (W (.int .u8 60)))
(G 36 (C5 .i64 (J 35))
(G 37 (AU 7 [(J 8),(J 36)])
(G 11 (AQ (W (.slice By 0 0)))
(G 12 (Bc 7 ON)
(G 13 (AQ (W (.bool IS)))
(G 39 (AU 8 [(J 0)])
(G 40 (Bh (J 39))
(G 41 (AQ (W (AI AT 0)))
mlS))))))))))))))))))))))
def d3:C:=d3h
def b3:Body:=⟨[.t (J 6)],d3⟩
def al3:List Nat:=[26,31,33,34,38,46,47,52,54,56,61,66,71,72,76,77,84,86,87,88,90,91,95,97,101,105,110,112,113,118,120,123,130,133,134,136,141]
def c5:C:=
(G 0 (Bc 256 Qp)
(G 1 (Bc 256 Qp)
(G 2 (AQ (W (.int .u32 2197175160)))
(G 6 (AQ (W (AI AT 0)))
(BJ (Ab 0 (A4 (G 7 (Aj iLt .i64 (J 6) (W (AI AT 8)))
(Bj 7
(BJ (Ab 1 (G 3 (Af 6)
(G 10 (MD .i64 (W (AI AT 128)) (J 3))
(G 12 (Ci 256 1 (J 1) (J 10))
(cDo (Ad 1 (J 12) (J 2))
(G 14 (AU 24 [(J 2)])
(G 2 (Af 14)
Aq)))))))
(G 15 (CO .i64 (BH .i64) (J 6) (W (AI AT 1)))
(G 6 (Af 15)
Aq)))
(CD 0)))))
(G 16 (AQ (W (AI AT 0)))
(BJ (Ab 2 (A4 (G 17 (Aj iLt .i64 (J 16) (W (AI AT 8)))
(Bj 17
(BJ (Ab 3 (G 4 (Af 16)
(G 20 (OJ .i64 (W (AI AT 1)) (J 4))
(G 21 (AQ (W (AI AT 0)))
(Ab 4 (A4 (G 22 (Aj iLt .i64 (J 21) (J 20))
(Bj 22
(BJ (Ab 5 (G 5 (Af 21)
(B4 (G 25 (OJ .i64 (W (AI AT 1)) (J 4))
(G 27 (LY Nat.lor .i64 (J 25) (J 5))
(G 29 (OJ .i64 (W (AI AT 1)) (J 4))
(G 30 (Ci 256 1 (J 1) (J 29))
(G 31 (AO (J 30))
(G 33 (Ci 256 1 (J 1) (J 5))
(G 34 (AO (J 33))
(G 35 (LY zD .u32 (J 31) (J 34))
(G 36 (Ci 256 1 (J 1) (J 27))
(cDo (AZ .free (Ad 1 (J 36) (J 35)))
Aq)))))))))))))
(G 37 (CO .i64 (BH .i64) (J 21) (W (AI AT 1)))
(G 21 (Af 37)
Aq)))
(CD 4)))))))))
(G 38 (CO .i64 (BH .i64) (J 16) (W (AI AT 1)))
(G 16 (Af 38)
Aq)))
(CD 2)))))
(G 39 (BK 256 (J 1))
(cDo (Ad 256 (J 0) (J 39))
Ao)))))))))
def b5:Body:=⟨[.cN (J 0) 256],c5⟩
def al5:List Nat:=[8,9,11,13,18,19,23,24,26,28,32]
def d6:C:=
(G 2 (AQ (W (.pointer By)))
(G 3 (AQ (W (.pointer By)))
(G 4 (AQ (W (.bool IS)))
(G 10 (AU 25 [(W (AI AT 24))])
(G 11 (AW 0 (J 10))
(G 12 (AW 1 (J 10))
(G 5 (Af 11)
(G 6 (Af 12)
(G 16 (AU 15 [(J 5),(J 0),(W (AI AT 100))])
(G 17 (AW 0 (J 16))
(G 18 (AW 1 (J 16))
(G 7 (Af 17)
(G 8 (Af 18)
(G 22 (Aj iEq .i64 (J 6) (W (AI AT 0)))
(Ah 22 IN 24 (Af 8)
(Ah 22 IN 25 (Aj iEq .i64 (J 24) (W (AI AT 0)))
(G 26 (A0 (J 22) (J 25) (W (.bool IS)))
(G 2 (Af 5)
(G 3 (Af 7)
(G 4 (Af 26)
Ao))))))))))))))))))))
def b6:Body:=⟨[.t (J 2),.t (J 3),.t (J 4)],d6⟩
def al6:List Nat:=[9,13,14,15,19,20,21,23]
def d7:C:=
(G 5 (AU 26 [(J 0)])
(G 6 (Dq (J 5))
(Ah 6 IN 8 (Af 0)
(Ah 6 IN 9 (Bg (J 8))
(Ah 6 IN 10 (AE 3 (J 9))
(Ah 6 IN 11 (AO (J 10))
(Ah 6 IN 12 (Dq (J 11))
(G 13 (A0 (J 6) (J 12) (W (.bool IS)))
(Bj 13
(G 16 (VG (J 1) (W (AI AT 0)))
(G 17 (Bg (J 0))
(G 18 (AE 2 (J 17))
(cDo (Ad 1 (J 18) (J 16))
Aq))))
Aq)))))))))
def b7:Body:=⟨[],d7⟩
def fwE:C:=(G 2 (Af 3)
Ao)
def fwB:C:=(G 17 (CF 7 (J 0) (J 4))
(G 18 (AE 6 (J 17))
(G 19 (AO (J 18))
(G 20 (Bh (J 19))
(G 21 (Aj iLe .i64 (J 20) (W (AI AT 150)))
(Bj 21
(G 25 (CF 7 (J 0) (J 4))
(G 26 (BK 7 (J 25))
(G 27 (Ap 1 (BX Va.zero 1) [(0,7,(J 26))])
(G 28 (Bm 7 72 37 (J 3) (J 27))
(G 3 (Af 28)
Aq)))))
Aq))))))
def fwI:C:=(G 14 (CO .i64 (BH .i64) (J 4) (W (AI AT 1)))
(G 4 (Af 14)
Aq))
def fwK:C:=BJ (Ab 1 fwB) fwI
def cA:C:=(G 7 (Bh (J 0))
(G 8 (Aj iLt .i64 (J 4) (J 7))
(Ah 8 IN 10 (Af 4)
(Ah 8 IN 11 (Aj iLt .i64 (J 10) (W (AI AT 25)))
(G 12 (A0 (J 8) (J 11) (W (.bool IS)))
(Bj 12
fwK
(CD 0)))))))
def fwL:C:=cA
def fwS:C:=BJ (Ab 0 (A4 fwL)) fwE
def d8h:C:=(G 2 (AQ (W (.slice By 0 0)))
(G 3 (AQ (W (.slice By 0 0)))
(G 4 (AQ (W (AI AT 0)))
fwS)))
def d8:C:=d8h
def b8:Body:=⟨[.t (J 2)],d8⟩
def doM:C:=(G 17 (AE 2 (J 3))
(G 18 (AO (J 17))
(BJ (Ab 0 (G 20 (Aj iEq .u8 (J 18) (W (.int .u8 1)))
(G 19 (Af 20)
(Bj 19
(G 22 (BK 7 (J 3))
(G 23 (AU 28 [(J 0),(J 22),(W (.func (.func 29) #[] #[]))])
(G 24 (AW 0 (J 23))
(G 25 (AW 1 (J 23))
(cDo (Ad 7 (J 4) (J 24))
(G 5 (Af 25)
Ao))))))
(G 27 (Aj iEq .u8 (J 18) (W (.int .u8 2)))
(G 26 (Af 27)
(Bj 26
(G 29 (BK 7 (J 3))
(G 30 (AU 28 [(J 0),(J 29),(W (.func (.func 30) #[] #[]))])
(G 31 (AW 0 (J 30))
(G 32 (AW 1 (J 30))
(cDo (Ad 7 (J 4) (J 31))
(G 5 (Af 32)
Ao))))))
(G 34 (Aj iEq .u8 (J 18) (W (.int .u8 3)))
(G 33 (Af 34)
(Bj 33
(G 36 (BK 7 (J 3))
(G 37 (AU 28 [(J 0),(J 36),(W (.func (.func 31) #[] #[]))])
(G 38 (AW 0 (J 37))
(G 39 (AW 1 (J 37))
(cDo (Ad 7 (J 4) (J 38))
(G 5 (Af 39)
Ao))))))
(G 41 (Aj iEq .u8 (J 18) (W (.int .u8 4)))
(G 40 (Af 41)
(Bj 40
(G 43 (BK 7 (J 3))
(G 44 (AU 28 [(J 0),(J 43),(W (.func (.func 32) #[] #[]))])
(G 45 (AW 0 (J 44))
(G 46 (AW 1 (J 44))
(cDo (Ad 7 (J 4) (J 45))
(G 5 (Af 46)
Ao))))))
(G 48 (Aj iEq .u8 (J 18) (W (.int .u8 5)))
(G 47 (Af 48)
(Bj 47
(G 50 (BK 7 (J 3))
(G 51 (AU 28 [(J 0),(J 50),(W (.func (.func 33) #[] #[]))])
(G 52 (AW 0 (J 51))
(G 53 (AW 1 (J 51))
(cDo (Ad 7 (J 4) (J 52))
(G 5 (Af 53)
Ao))))))
Aq))))))))))))))))
(G 55 (BK 7 (J 3))
(G 56 (AU 28 [(J 0),(J 55),(W (.func (.func 34) #[] #[]))])
(G 57 (AW 0 (J 56))
(G 58 (AW 1 (J 56))
(cDo (Ad 7 (J 4) (J 57))
(G 5 (Af 58)
Ao)))))))))
def iV:C:=(G 13 (BK 7 (J 3))
(G 14 (AU 12 [(J 13)])
(G 15 (Dq (J 14))
(Bj 15
(G 16 (BW Hf.zero [])
(cDo (Ad 7 (J 4) (J 16))
(G 5 (AQ (W (AI AT 110)))
Ao)))
doM))))
def doR:C:=iV
def d9h:C:=(G 3 (CT (J 1))
(G 4 (Bc 7 Cq)
(G 5 (AQ (W (AI AT 0)))
(G 8 (AU 27 [(J 0)])
(G 6 (Af 8)
(G 10 (Aj iNe .i64 (J 6) (W (AI AT 0)))
(Bj 10
(G 11 (BW Hf.zero [])
(cDo (Ad 7 (J 4) (J 11))
(G 5 (Af 6)
Ao)))
doR)))))))
def d9:C:=d9h
def b9:Body:=⟨[.cN (J 4) 7,.t (J 5)],d9⟩
def d10:C:=
(G 2 (AQ (W (.bool IS)))
(G 4 (AU 26 [(J 0)])
(G 5 (Dq (J 4))
(Ah 5 IN 7 (Af 0)
(Ah 5 IN 8 (Bg (J 7))
(Ah 5 IN 9 (AE 3 (J 8))
(Ah 5 IN 10 (AO (J 9))
(G 11 (A0 (J 5) (J 10) (W (.bool IS)))
(G 2 (Af 11)
Ao)))))))))
def b10:Body:=⟨[.t (J 2)],d10⟩
def d11:C:=
(G 2 (AQ (W (.bool IS)))
(G 4 (oEq OM.k IN (J 0) (W (.pointer By)))
(Ah 4 IN 6 (Af 0)
(Ah 4 IN 7 (Bg (J 6))
(Ah 4 IN 8 (AE 2 (J 7))
(Ah 4 IN 9 (AO (J 8))
(Ah 4 IN 10 (AU 35 [(J 9)])
(G 11 (A0 (J 4) (J 10) (W (.bool IS)))
(G 2 (Af 11)
Ao)))))))))
def b11:Body:=⟨[.t (J 2)],d11⟩
def d12:C:=
(G 1 (CT (J 0))
(G 2 (AQ (W (.bool IS)))
(G 3 (AQ (W (AI AT 0)))
(G 4 (AE 2 (J 1))
(G 5 (AO (J 4))
(G 6 (Aj iNe .u8 (J 5) (W (.int .u8 4)))
(Ah 6 IN 8 (AE 2 (J 1))
(Ah 6 IN 9 (AO (J 8))
(Ah 6 IN 10 (Aj iNe .u8 (J 9) (W (.int .u8 5)))
(G 11 (A0 (J 6) (J 10) (W (.bool IS)))
(BJ (Bj 11
(G 3 (AQ (W (AI AT 1)))
Aq)
Aq)
(BJ (Ab 0 (G 13 (AE 0 (J 1))
(G 14 (AO (J 13))
(G 15 (AE 1 (J 1))
(G 16 (AO (J 15))
(G 17 (AE 2 (J 1))
(G 18 (AO (J 17))
(G 19 (AU 36 [(J 14),(J 16),(J 18)])
(G 20 (Dq (J 19))
(Ah 20 IS 22 (AE 3 (J 1))
(Ah 20 IS 23 (AO (J 22))
(Ah 20 IS 24 (AE 4 (J 1))
(Ah 20 IS 25 (AO (J 24))
(Ah 20 IS 26 (AE 5 (J 1))
(Ah 20 IS 27 (AO (J 26))
(Ah 20 IS 28 (Af 3)
(Ah 20 IS 29 (AU 37 [(J 23),(J 25),(J 27),(J 28)])
(Ah 20 IS 30 (Dq (J 29))
(G 31 (A0 (J 20) (W (.bool IN)) (J 30))
(G 12 (Af 31)
(Bj 12
(G 2 (AQ (W (.bool IS)))
Ao)
(G 33 (AE 2 (J 1))
(G 34 (AO (J 33))
(G 35 (Aj iEq .u8 (J 34) (W (.int .u8 1)))
(G 32 (Af 35)
(Bj 32
(G 36 (AE 6 (J 1))
(G 37 (AO (J 36))
(G 38 (Bh (J 37))
(G 39 (Aj iLe .i64 (J 38) (W (AI AT 65536)))
(G 2 (Af 39)
Ao)))))
Aq))))))))))))))))))))))))))
(G 40 (AE 6 (J 1))
(G 41 (AO (J 40))
(G 42 (Bh (J 41))
(G 43 (Aj iEq .i64 (J 42) (W (AI AT 0)))
(G 2 (Af 43)
Ao)))))))))))))))))
def b12:Body:=⟨[.t (J 2)],d12⟩
def bhE:C:=(G 30 (AU 17 [(J 7)])
(G 4 (Af 30)
(G 5 (AQ (W (.bool IN)))
Ao)))
def bhB:C:=(G 23 (CF 7 (J 19) (J 21))
(G 24 (BK 7 (J 23))
(G 10 (Bc 7 ON)
(cDo (Ad 7 (J 10) (J 24))
(G 26 (BK 7 (J 10))
(G 27 (AU 9 [(J 7),(J 26)])
Aq))))))
def bhI:C:=(G 28 (CO .i64 (BH .i64) (J 21) (W (AI AT 1)))
(G 21 (Af 28)
Aq))
def bhK:C:=BJ (Ab 1 bhB) bhI
def gJ:C:=(G 22 (Aj iLt .i64 (J 21) (J 20))
(Bj 22
bhK
(CD 0)))
def bhL:C:=gJ
def bhS:C:=BJ (Ab 0 (A4 bhL)) bhE
def iG:C:=(G 4 (AQ (W (.slice By 0 0)))
(G 5 (AQ (W (.bool IS)))
(G 13 (AU 6 [(J 0)])
(G 14 (AW 0 (J 13))
(G 15 (AW 1 (J 13))
(G 16 (AW 2 (J 13))
(G 6 (Af 14)
(G 7 (Af 15)
(G 8 (Af 16)
(G 18 (Dq (J 8))
(Bj 18
(G 4 (AQ (W (.slice By 0 0)))
(G 5 (AQ (W (.bool IS)))
Ao))
(G 19 (Af 1)
(G 20 (Bh (J 19))
(G 21 (AQ (W (AI AT 0)))
bhS))))))))))))))
def d13:C:=iG
def b13:Body:=⟨[.t (J 4),.t (J 5)],d13⟩
def crB:C:=(G 12 (Aj iLt .i64 (J 11) (J 10))
(Bj 12
(BJ (Ab 1 (G 14 (CF 1 (J 9) (J 11))
(G 15 (AO (J 14))
(G 4 (Af 11)
(G 5 (Af 15)
(G 18 (Bh (J 1))
(G 19 (Aj iLt .i64 (J 4) (J 18))
(Ah 19 IN 21 (Af 1)
(Ah 19 IN 22 (Af 4)
(Ah 19 IN 23 (CF 1 (J 21) (J 22))
(Ah 19 IN 24 (AO (J 23))
(G 25 (A0 (J 19) (J 24) (W (.bool IS)))
(Bj 25
(B4 (G 27 (Bg (J 0))
(G 28 (AE 0 (J 27))
(G 29 (AO (J 28))
(G 32 (Bg (J 0))
(G 33 (AE 1 (J 32))
(G 34 (AO (J 33))
(G 36 (Fi ⟨IS,[.i .i64]⟩ (.agg ⟨Km.zero⟩) IS (J 34) (J 5))
(G 37 (CF 64 (J 29) (J 5))
(cDo (AZ .free (Ad 64 (J 37) (J 36)))
Aq))))))))))
Aq)))))))))))))
(G 38 (CO .i64 (BH .i64) (J 11) (W (AI AT 1)))
(G 11 (Af 38)
Aq)))
(CD 0)))
def crE:C:=(G 40 (Bg (J 0))
(G 41 (AE 1 (J 40))
(G 42 (AO (J 41))
(cDo (ED (J 42))
(G 45 (Bg (J 0))
(G 46 (AE 3 (J 45))
(cDo (Ad 1 (J 46) (W (.bool IS)))
(G 47 (Bg (J 0))
(G 48 (AE 2 (J 47))
(cDo (Ad 1 (J 48) (W (AI AT (-1))))
Aq))))))))))
def crS:C:=BJ (Ab 0 (A4 crB)) crE
def iK:C:=(G 7 (AU 26 [(J 0)])
(Bj 7
Ao
(G 9 (AU 38 [(J 0)])
(G 10 (Bh (J 9))
(G 11 (AQ (W (AI AT 0)))
crS)))))
def d14:C:=iK
def b14:Body:=⟨[],d14⟩
def d15:C:=
(G 6 (AQ (W (.pointer By)))
(G 7 (AQ (W (AI AT 0)))
(G 14 (AU 39 [(J 0),(J 1),(J 2)])
(G 15 (AW 0 (J 14))
(G 16 (AW 1 (J 14))
(G 8 (Af 15)
(G 9 (Af 16)
(G 18 (Aj iNe .i64 (J 9) (W (AI AT 0)))
(Bj 18
(G 6 (AQ (W (.pointer By)))
(G 7 (Af 9)
Ao))
(G 23 (BW lM.zero [(0,1,(J 0)),(1,1,(J 1)),(2,1,(J 8))])
(G 24 (CT (J 23))
(G 6 (Af 24)
(G 7 (AQ (W (AI AT 0)))
Ao)))))))))))))
def b15:Body:=⟨[.t (J 6),.t (J 7)],d15⟩
def d16:C:=
(G 2 (AQ (W (AI AT 0)))
(G 4 (oEq OM.k IS (J 0) (W (.pointer By)))
(Bj 4
(G 2 (AQ (W (AI AT 0)))
Ao)
(G 6 (Bg (J 0))
(G 7 (AE 3 (J 6))
(G 8 (AO (J 7))
(G 2 (Af 8)
Ao)))))))
def b16:Body:=⟨[.t (J 2)],d16⟩
def d17:C:=
(G 2 (AQ (W (.slice By 0 0)))
(G 4 (oEq OM.k IS (J 0) (W (.pointer By)))
(Bj 4
(G 2 (AQ (W (.slice By 0 0)))
Ao)
(G 6 (Bg (J 0))
(G 7 (AE 2 (J 6))
(G 8 (AO (J 7))
(G 9 (AU 40 [(J 8)])
(G 2 (Af 9)
Ao))))))))
def b17:Body:=⟨[.t (J 2)],d17⟩
def c18:C:=
(G 0 (AQ (W (.bool IS)))
(G 10 (AU 5 [])
(G 1 (Bc 256 Qp)
(cDo (Ad 256 (J 1) (J 10))
(G 12 (AU 25 [(W (AI AT 6))])
(G 13 (AW 0 (J 12))
(G 14 (AW 1 (J 12))
(G 2 (Af 13)
(G 3 (Af 14)
(G 17 (AU 15 [(J 2),(J 1),(W (AI AT 100))])
(G 18 (AW 0 (J 17))
(G 19 (AW 1 (J 17))
(G 4 (Af 18)
(G 5 (Af 19)
(G 21 (Aj iNe .i64 (J 3) (W (AI AT 0)))
(Ah 21 IS 23 (Af 5)
(Ah 21 IS 24 (Aj iNe .i64 (J 23) (W (AI AT 0)))
(G 25 (A0 (J 21) (W (.bool IN)) (J 24))
(Bj 25
(G 0 (AQ (W (.bool IS)))
Ao)
(G 27 (AU 42 [(W (AI AT 1)),(W (.int .u8 1)),(W (AI AT 7)),(W (AI AT 1)),(W (.string ⟨#[97,98]⟩))])
(G 28 (AU 41 [(J 4),(J 27),(W (AI AT 0)),(W (AI AT 0)),(W (.string ⟨#[]⟩)),(W (AI AT 1))])
(Ah 28 IN 30 (Af 4)
(Ah 28 IN 31 (AU 42 [(W (AI AT 1)),(W (.int .u8 2)),(W (AI AT 7)),(W (AI AT 1)),(W (.string ⟨#[]⟩))])
(Ah 28 IN 32 (AU 41 [(J 30),(J 31),(W (AI AT 0)),(W (AI AT 0)),(W (.string ⟨#[]⟩)),(W (AI AT 1))])
(G 33 (A0 (J 28) (J 32) (W (.bool IS)))
(Ah 33 IN 35 (Af 4)
(Ah 33 IN 36 (AU 42 [(W (AI AT 1)),(W (.int .u8 4)),(W (AI AT 7)),(W (AI AT 1)),(W (.string ⟨#[]⟩))])
(Ah 33 IN 37 (AU 41 [(J 35),(J 36),(W (AI AT 0)),(W (AI AT 1)),(W (.string ⟨#[97,98]⟩)),(W (AI AT 1))])
(G 38 (A0 (J 33) (J 37) (W (.bool IS)))
(Ah 38 IN 40 (Af 4)
(Ah 38 IN 41 (AU 42 [(W (AI AT 1)),(W (.int .u8 4)),(W (AI AT 7)),(W (AI AT 2)),(W (.string ⟨#[]⟩))])
(Ah 38 IN 42 (AU 41 [(J 40),(J 41),(W (AI AT 60)),(W (AI AT 0)),(W (.string ⟨#[]⟩)),(W (AI AT 1))])
(G 43 (A0 (J 38) (J 42) (W (.bool IS)))
(G 6 (Af 43)
(G 46 (AU 42 [(W (AI AT 1)),(W (.int .u8 4)),(W (AI AT 7)),(W (AI AT 0)),(W (.string ⟨#[]⟩))])
(G 47 (AU 9 [(J 4),(J 46)])
(G 48 (AW 0 (J 47))
(G 49 (AW 1 (J 47))
(G 7 (Bc 7 Cq)
(cDo (Ad 7 (J 7) (J 48))
(G 8 (Af 49)
(G 51 (Aj iEq .i64 (J 8) (W (AI AT 0)))
(Ah 51 IN 53 (AE 4 (J 7))
(Ah 51 IN 54 (AO (J 53))
(Ah 51 IN 55 (BW N8.zero [(0,1,(W (AI AT 7))),(2,1,(W (AI AT 1))),(3,1,(W (.int .u8 2)))])
(Ah 51 IN 56 (Ap 1 (BX N8.zero 1) [(0,4,(J 55))])
(Ah 51 IN 57 (AU 43 [(J 54),(J 56)])
(G 58 (A0 (J 51) (J 57) (W (.bool IS)))
(G 9 (Af 58)
(Ah 6 IN 61 (Af 9)
(G 62 (A0 (J 6) (J 61) (W (.bool IS)))
(Ah 62 IN 64 (Af 4)
(Ah 62 IN 65 (AU 42 [(W (AI AT 2)),(W (.int .u8 6)),(W (AI AT 7)),(W (AI AT 1)),(W (.string ⟨#[]⟩))])
(Ah 62 IN 66 (AU 41 [(J 64),(J 65),(W (AI AT 0)),(W (AI AT 0)),(W (.string ⟨#[]⟩)),(W (AI AT 2))])
(G 67 (A0 (J 62) (J 66) (W (.bool IS)))
(Ah 67 IN 69 (Af 4)
(Ah 67 IN 70 (AU 42 [(W (AI AT 1)),(W (.int .u8 4)),(W (AI AT 7)),(W (AI AT 0)),(W (.string ⟨#[]⟩))])
(Ah 67 IN 71 (AU 41 [(J 69),(J 70),(W (AI AT 120)),(W (AI AT 0)),(W (.string ⟨#[]⟩)),(W (AI AT 2))])
(G 72 (A0 (J 67) (J 71) (W (.bool IS)))
(Ah 72 IN 74 (Af 4)
(Ah 72 IN 75 (AU 16 [(J 74)])
(Ah 72 IN 76 (Aj iEq .i64 (J 75) (W (AI AT 2)))
(G 77 (A0 (J 72) (J 76) (W (.bool IS)))
(G 0 (Af 77)
Ao))))))))))))))))))))))))))))))))))))))))))))))))))))))))))))))))
def b18:Body:=⟨[.t (J 0)],c18⟩
def smE:C:=(G 4 (AQ (W (.bool IN)))
Ao)
def smL:C:=(G 13 (Bh (J 0))
(G 14 (Aj iLt .i64 (J 5) (J 13))
(Bj 14
(BJ (Ab 1 (B4 (G 19 (CF 5 (J 0) (J 5))
(G 20 (BK 5 (J 19))
(G 23 (CF 5 (J 1) (J 5))
(G 24 (BK 5 (J 23))
(G 25 (AZ .free (AU 44 [(J 20),(J 24)]))
(G 26 (Dq (J 25))
(Bj 26
(G 4 (AQ (W (.bool IS)))
Ao)
Aq)))))))))
(G 16 (CO .i64 (BH .i64) (J 5) (W (AI AT 1)))
(G 5 (Af 16)
Aq)))
(CD 0))))
def smS:C:=BJ (Ab 0 (A4 smL)) smE
def bC:C:=(G 4 (AQ (W (.bool IS)))
(G 7 (Bh (J 0))
(G 9 (Bh (J 1))
(G 10 (Aj iNe .i64 (J 7) (J 9))
(Bj 10
(G 4 (AQ (W (.bool IS)))
Ao)
(G 5 (AQ (W (AI AT 0)))
smS))))))
def d19:C:=bC
def b19:Body:=⟨[.t (J 4)],d19⟩
def c24:C:=
(G 2 (AQ (W (.int .u32 0)))
(G 4 (MD .u32 (J 0) (W (.int .u64 1)))
(G 6 (LY Nat.land .u32 (J 0) (W (.int .u32 1)))
(G 7 (C7 AA8 .u32 (W (.int .u32 2197175160)) (J 6))
(G 8 (LY zD .u32 (J 4) (J 7))
(G 2 (Af 8)
Ao))))))
def b24:Body:=⟨[.t (J 2)],c24⟩
def d25:C:=
(G 2 (AQ (W (.pointer By)))
(G 3 (AQ (W (AI AT 0)))
(G 5 (Aj iLt .i64 (J 0) (W (AI AT 1)))
(Ah 5 IS 7 (Af 0)
(Ah 5 IS 8 (Aj iGt .i64 (J 7) (W (AI AT 65536)))
(G 9 (A0 (J 5) (W (.bool IN)) (J 8))
(Bj 9
(G 2 (AQ (W (.pointer By)))
(G 3 (AQ (W (AI AT 2)))
Ao))
(G 11 (G0 64 Km.zero (J 0) (J 0))
(G 12 ZM
(G 13 (BW lK.zero [(0,1,(J 11)),(1,1,(J 12)),(2,1,(W (AI AT (-1))))])
(G 14 (CT (J 13))
(G 2 (Af 14)
(G 3 (AQ (W (AI AT 0)))
Ao)))))))))))))
def b25:Body:=⟨[.t (J 2),.t (J 3)],d25⟩
def d26:C:=
(G 2 (AQ (W (.bool IS)))
(G 4 (oEq VZ.k IS (J 0) (W (.pointer By)))
(Ah 4 IS 6 (Af 0)
(Ah 4 IS 7 (Bg (J 6))
(Ah 4 IS 8 (AE 1 (J 7))
(Ah 4 IS 9 (AO (J 8))
(Ah 4 IS 10 (oEq lJ.k IS (J 9) (W (.map By)))
(G 11 (A0 (J 4) (W (.bool IN)) (J 10))
(G 2 (Af 11)
Ao)))))))))
def b26:Body:=⟨[.t (J 2)],d26⟩
def d27:C:=
(G 2 (AQ (W (AI AT 0)))
(BJ (Ab 0 (G 5 (oEq OM.k IS (J 0) (W (.pointer By)))
(Ah 5 IS 7 (Af 0)
(Ah 5 IS 8 (Bg (J 7))
(Ah 5 IS 9 (AE 2 (J 8))
(Ah 5 IS 10 (AO (J 9))
(Ah 5 IS 11 (oEq Hs.k IS (J 10) (W (.pointer By)))
(G 12 (A0 (J 5) (W (.bool IN)) (J 11))
(G 3 (Af 12)
(Bj 3
(G 2 (AQ (W (AI AT 1)))
Ao)
(G 15 (Bg (J 0))
(G 16 (AE 2 (J 15))
(G 17 (AO (J 16))
(G 18 (AU 35 [(J 17)])
(G 13 (Af 18)
(Bj 13
(G 2 (AQ (W (AI AT 17)))
Ao)
(G 21 (Bg (J 0))
(G 22 (AE 0 (J 21))
(G 23 (AO (J 22))
(G 24 (AU 10 [(J 23)])
(G 19 (Af 24)
(Bj 19
(G 2 (AQ (W (AI AT 15)))
Ao)
Aq))))))))))))))))))))))
(G 2 (AQ (W (AI AT 0)))
Ao)))
def b27:Body:=⟨[.t (J 2)],d27⟩
def tdA:C:=(Bj 16
(G 18 (AE 0 (J 4))
(G 19 (AO (J 18))
(G 20 (Bg (J 0))
(G 21 (AE 3 (J 20))
(cDo (Ad 1 (J 21) (J 19))
(G 24 (BK 7 (J 4))
(G 25 (ET (J 2) [(J 0),(J 24)])
(cDo (Ad 7 (J 8) (J 25))
Aq))))))))
Aq)
def tdE:C:=(G 27 (Bg (J 0))
(G 28 (AE 2 (J 27))
(G 29 (AO (J 28))
(G 30 (AU 35 [(J 29)])
(Bj 30
(B4 (G 31 (BW Hf.zero [])
(G 32 (AE 3 (J 8))
(G 33 (AO (J 32))
(Ck (J 6) [(J 32)]
(cDo (Ja (J 6) (Ad 7 (J 6) (J 31)))
(G 7 (Af 33)
Ao)))))))
(B4 (G 34 (AE 0 (J 4))
(Ee (J 34) (Ck (J 34) []
(G 35 (AO (J 34))
(G 36 (AE 1 (J 4))
(Ee (J 36) (Ck (J 36) []
(G 37 (AO (J 36))
(G 38 (AE 2 (J 4))
(Ee (J 38) (Ck (J 38) []
(G 39 (AO (J 38))
(G 41 (Bg (J 0))
(G 42 (AE 2 (J 41))
(G 43 (AO (J 42))
(G 44 (AZ .weak (AU 53 [(J 43)]))
(G 45 (AE 0 (J 8))
(Ck (J 45) [(J 36),(J 38)]
(cDo (Ja (J 45) (Ad 1 (J 45) (J 35)))
(G 46 (AE 1 (J 8))
(Ck (J 46) [(J 38)]
(cDo (Ja (J 46) (Ad 1 (J 46) (J 37)))
(G 47 (AE 2 (J 8))
(cDo (AZ .free (Ad 1 (J 47) (J 39)))
(G 48 (AE 6 (J 8))
(cDo (AZ .free (Ad 1 (J 48) (J 44)))
(G 49 (BK 7 (J 8))
(cDo (Ad 7 (J 6) (J 49))
(G 7 (AQ (W (AI AT 0)))
Ao)))))))))))))))))))))))))))))))))))
def lF:C:=(B4 (G 10 (AE 0 (J 4))
(G 11 (AO (J 10))
(G 13 (Bg (J 0))
(G 14 (AE 3 (J 13))
(G 15 (AO (J 14))
(G 16 (Aj iGe .i64 (J 11) (J 15))
(BJ tdA
tdE))))))))
def tdM:C:=lF
def qD:C:=(G 4 (CT (J 1))
(G 6 (Bc 7 Cq)
(G 7 (AQ (W (AI AT 0)))
(G 9 (BW Hf.zero [(3,1,(W (AI AT 120)))])
(G 8 (Bc 7 Cq)
(cDo (Ad 7 (J 8) (J 9))
tdM))))))
def d28:C:=qD
def b28:Body:=⟨[.cN (J 6) 7,.t (J 7)],d28⟩
def d29:C:=
(G 3 (CT (J 1))
(G 4 (Bc 7 Cq)
(B4 (G 6 (Bg (J 0))
(G 7 (AE 2 (J 6))
(G 8 (AO (J 7))
(G 9 (AE 3 (J 3))
(G 10 (AO (J 9))
(G 11 (AE 4 (J 3))
(G 12 (AO (J 11))
(G 13 (AE 5 (J 3))
(G 14 (AO (J 13))
(G 15 (AE 6 (J 3))
(G 16 (AO (J 15))
(G 17 (AZ .free (AU 54 [(J 8),(J 10),(J 12),(J 14),(J 16)]))
(G 18 (BW Hf.zero [(3,1,(J 17))])
(cDo (AZ .free (Ad 7 (J 4) (J 18)))
Ao)))))))))))))))))
def b29:Body:=⟨[.cN (J 4) 7],d29⟩
def d30:C:=
(G 3 (CT (J 1))
(G 4 (Bc 7 Cq)
(B4 (G 6 (Bg (J 0))
(G 7 (AE 2 (J 6))
(G 8 (AO (J 7))
(G 9 (AE 3 (J 3))
(G 10 (AO (J 9))
(G 11 (AE 4 (J 3))
(G 12 (AO (J 11))
(G 13 (AE 5 (J 3))
(G 14 (AO (J 13))
(G 15 (AZ .free (AU 55 [(J 8),(J 10),(J 12),(J 14)]))
(G 16 (BW Hf.zero [(3,1,(J 15))])
(cDo (AZ .free (Ad 7 (J 4) (J 16)))
Ao)))))))))))))))
def b30:Body:=⟨[.cN (J 4) 7],d30⟩
def d31:C:=
(G 3 (CT (J 1))
(G 4 (Bc 7 Cq)
(B4 (G 6 (Bg (J 0))
(G 7 (AE 2 (J 6))
(G 8 (AO (J 7))
(G 9 (AE 3 (J 3))
(G 10 (AO (J 9))
(G 11 (AE 4 (J 3))
(G 12 (AO (J 11))
(G 13 (AE 5 (J 3))
(G 14 (AO (J 13))
(G 15 (AZ .free (AU 56 [(J 8),(J 10),(J 12),(J 14)]))
(G 16 (BW Hf.zero [(3,1,(J 15))])
(cDo (AZ .free (Ad 7 (J 4) (J 16)))
Ao)))))))))))))))
def b31:Body:=⟨[.cN (J 4) 7],d31⟩
def rdB:C:=(G 30 (Dq (J 6))
(G 28 (Af 30)
(Bj 28
(G 31 (BW Hf.zero [(3,1,(W (AI AT 60)))])
(cDo (Ad 7 (J 4) (J 31))
Ao))
(B4 (G 34 (Bg (J 0))
(G 35 (AE 2 (J 34))
(G 36 (AO (J 35))
(G 37 (AE 3 (J 3))
(G 38 (AO (J 37))
(G 39 (AE 4 (J 3))
(G 40 (AO (J 39))
(G 41 (AE 5 (J 3))
(G 42 (AO (J 41))
(G 43 (AZ .free (AU 60 [(J 36),(J 38),(J 40),(J 42)]))
(G 44 (Dq (J 43))
(G 32 (Af 44)
(Bj 32
(G 45 (BW Hf.zero [(3,1,(W (AI AT 12)))])
(cDo (Ad 7 (J 4) (J 45))
Ao))
Aq)))))))))))))))))
def rdE:C:=(B4 (G 46 (BK 5 (J 5))
(G 47 (AZ .weak (AU 61 [(J 46)]))
(G 48 (AZ .AEk (Ap 1 (BX N8.zero 1) [(0,4,(J 47))]))
(G 49 (AE 4 (J 5))
(Ee (J 49) (Ck (J 49) []
(G 50 (AO (J 49))
(G 51 (BW Hf.zero [(4,1,(J 48)),(5,1,(J 50))])
(cDo (AZ .free (Ad 7 (J 4) (J 51)))
Ao))))))))))
def rdS:C:=BJ (Ab 0 rdB) rdE
def rx:C:=(B4 (G 16 (Bg (J 0))
(G 17 (AE 2 (J 16))
(G 18 (AO (J 17))
(G 19 (AE 3 (J 3))
(G 20 (AO (J 19))
(G 21 (AE 4 (J 3))
(G 22 (AO (J 21))
(G 23 (AE 5 (J 3))
(G 24 (AO (J 23))
(G 25 (AZ .weak (AU 59 [(J 18),(J 20),(J 22),(J 24)]))
(G 26 (AW 0 (J 25))
(G 27 (AW 1 (J 25))
(G 5 (AZ .AEk (Bc 5 DT))
(cDo (AZ .free (Ad 5 (J 5) (J 26)))
(G 6 (Af 27)
rdS))))))))))))))))
def rdM:C:=rx
def Yf:C:=(G 3 (CT (J 1))
(G 4 (Bc 7 Cq)
(G 7 (AE 5 (J 3))
(G 8 (AO (J 7))
(G 9 (Aj iEq .i64 (J 8) (W (AI AT 0)))
(Bj 9
(G 11 (Em (.func 58) [] [(J 3)])
(G 12 (AU 57 [(J 0),(J 11)])
(G 13 (BW Hf.zero [(4,1,(J 12))])
(cDo (Ad 7 (J 4) (J 13))
Ao))))
rdM))))))
def d32:C:=Yf
def b32:Body:=⟨[.cN (J 4) 7],d32⟩
def d33:C:=
(G 3 (CT (J 1))
(G 4 (Bc 7 Cq)
(G 6 (Em (.func 62) [] [(J 3)])
(G 7 (AU 57 [(J 0),(J 6)])
(G 8 (BW Hf.zero [(4,1,(J 7))])
(cDo (Ad 7 (J 4) (J 8))
Ao))))))
def b33:Body:=⟨[.cN (J 4) 7],d33⟩
def d34:C:=
(G 3 (CT (J 1))
(G 4 (Bc 7 Cq)
(B4 (G 6 (Bg (J 0))
(G 7 (AE 2 (J 6))
(G 8 (AO (J 7))
(G 9 (AE 3 (J 3))
(G 10 (AO (J 9))
(G 11 (AE 4 (J 3))
(G 12 (AO (J 11))
(G 13 (AE 5 (J 3))
(G 14 (AO (J 13))
(G 15 (AZ .free (AU 63 [(J 8),(J 10),(J 12),(J 14)]))
(G 16 (BW Hf.zero [(3,1,(J 15))])
(cDo (AZ .free (Ad 7 (J 4) (J 16)))
Ao)))))))))))))))
def b34:Body:=⟨[.cN (J 4) 7],d34⟩
def d35:C:=
(G 2 (AQ (W (.bool IS)))
(G 4 (oEq Hs.k IN (J 0) (W (.pointer By)))
(Ah 4 IN 6 (Af 0)
(Ah 4 IN 7 (Bg (J 6))
(Ah 4 IN 8 (AE 6 (J 7))
(Ah 4 IN 9 (AO (J 8))
(G 10 (A0 (J 4) (J 9) (W (.bool IS)))
(G 2 (Af 10)
Ao))))))))
def b35:Body:=⟨[.t (J 2)],d35⟩
def d36:C:=
(G 6 (AQ (W (.bool IS)))
(G 8 (AU 64 [(J 0),(W (AI AT 1)),(W (AI AT 1099511627776))])
(Ah 8 IN 10 (Af 1)
(Ah 8 IN 11 (AU 64 [(J 10),(W (AI AT 1)),(W (AI AT 1099511627776))])
(G 12 (A0 (J 8) (J 11) (W (.bool IS)))
(Ah 12 IN 14 (Af 2)
(Ah 12 IN 15 (Aj iGe .u8 (J 14) (W (.int .u8 1)))
(G 16 (A0 (J 12) (J 15) (W (.bool IS)))
(Ah 16 IN 18 (Af 2)
(Ah 16 IN 19 (Aj iLe .u8 (J 18) (W (.int .u8 6)))
(G 20 (A0 (J 16) (J 19) (W (.bool IS)))
(G 6 (Af 20)
Ao))))))))))))
def b36:Body:=⟨[.t (J 6)],d36⟩
def d37:C:=
(G 8 (AQ (W (.bool IS)))
(G 10 (AU 64 [(J 0),(W (AI AT 0)),(W (AI AT 1099511627776))])
(Ah 10 IN 12 (Af 1)
(Ah 10 IN 13 (AU 64 [(J 12),(W (AI AT 0)),(W (AI AT 254))])
(G 14 (A0 (J 10) (J 13) (W (.bool IS)))
(Ah 14 IN 16 (Af 2)
(Ah 14 IN 17 (Af 3)
(Ah 14 IN 18 (AU 64 [(J 16),(J 17),(W (AI AT 1099511627776))])
(G 19 (A0 (J 14) (J 18) (W (.bool IS)))
(G 8 (Af 19)
Ao))))))))))
def b37:Body:=⟨[.t (J 8)],d37⟩
def d38:C:=
(G 2 (AQ (W (.slice By 0 0)))
(G 4 (AU 26 [(J 0)])
(Bj 4
(G 2 (AQ (W (.slice By 0 0)))
Ao)
(G 6 (Bg (J 0))
(G 7 (AE 1 (J 6))
(G 8 (AO (J 7))
(G 9 (AU 66 [(J 8)])
(G 10 (AU 65 [(J 9)])
(G 2 (Af 10)
Ao)))))))))
def b38:Body:=⟨[.t (J 2)],d38⟩
def ME:C:=(G 53 (Aj iLt .i64 (J 52) (J 51))
(Bj 53
(BJ (Ab 2 (G 12 (Af 52)
(G 56 (AO (J 9))
(G 58 (AU 69 [(J 56),(J 12)])
(G 59 (AW 0 (J 58))
(G 60 (AW 1 (J 58))
(G 61 (AW 2 (J 58))
(G 62 (AW 3 (J 58))
(G 13 (Bc 6 CR)
(cDo (Ad 6 (J 13) (J 59))
(G 14 (Af 60)
(G 15 (Af 61)
(G 16 (Af 62)
(BJ (Ab 3 (G 65 (Aj iNe .i64 (J 16) (W (AI AT 0)))
(G 63 (Af 65)
(Bj 63
(G 6 (AQ (W (.pointer By)))
(G 7 (Af 16)
Ao))
(G 67 (Af 14)
(Bj 67
(G 70 (BK 6 (J 13))
(G 71 (Ap 1 (BX D4.zero 1) [(0,6,(J 70))])
(G 72 (Bm 6 64 124 (J 10) (J 71))
(G 10 (Af 72)
Aq))))
(G 73 (Af 15)
(Bj 73
(G 75 (AO (J 9))
(G 76 (Bg (J 75))
(G 77 (AE 5 (J 76))
(G 78 (AO (J 77))
(G 79 (CO .i64 (BH .i64) (J 78) (W (AI AT 1)))
(G 80 (Bg (J 75))
(G 81 (AE 5 (J 80))
(cDo (Ad 1 (J 81) (J 79))
Aq))))))))
Aq))))))))
(Ah 14 IS 84 (Af 15)
(G 85 (A0 (J 14) (W (.bool IN)) (J 84))
(Bj 85
(G 88 (Ap 1 (BX ty3.zero 1) [(0,1,(J 12))])
(G 89 (Bm 1 8 3 (J 11) (J 88))
(G 11 (Af 89)
Aq)))
Aq)))))))))))))))))
(G 90 (CO .i64 (BH .i64) (J 52) (W (AI AT 1)))
(G 52 (Af 90)
Aq)))
(CD 1)))
def MF:C:=(G 104 (Aj iLt .i64 (J 103) (J 102))
(Bj 104
(BJ (Ab 5 (G 19 (Af 103)
(G 108 (ET (J 17) [(J 19)])
(G 109 (Dq (J 108))
(Bj 109
(B4 (G 110 (AO (J 9))
(G 111 (AO (J 9))
(G 112 (Bg (J 111))
(G 113 (AE 4 (J 112))
(G 114 (AO (J 113))
(G 116 (AZ .AEk (Ap 1 (BX ty3.zero 1) [(0,1,(J 19))]))
(Ck (J 114) [(J 9)]
(G 117 (Ja (J 114) (Bm 1 8 3 (J 114) (J 116)))
(G 118 (Bg (J 110))
(G 119 (AE 4 (J 118))
(cDo (AZ .free (Ad 1 (J 119) (J 117)))
(G 122 (AU 76 [(J 11),(J 19)])
(Bj 122
(G 125 (Ap 1 (BX ty3.zero 1) [(0,1,(J 19))])
(G 126 (Bm 1 8 3 (J 18) (J 125))
(G 18 (Af 126)
Aq)))
Aq))))))))))))))
Aq)))))
(G 127 (CO .i64 (BH .i64) (J 103) (W (AI AT 1)))
(G 103 (Af 127)
Aq)))
(CD 4)))
def kF:C:=(G 128 (AO (J 9))
(G 130 (AU 77 [(J 128),(J 18)])
(G 20 (Af 130)
(G 132 (Aj iNe .i64 (J 20) (W (AI AT 0)))
(Bj 132
(G 6 (AQ (W (.pointer By)))
(G 7 (Af 20)
Ao))
(G 134 (AO (J 9))
(G 6 (Af 134)
(G 7 (AQ (W (AI AT 0)))
Ao))))))))
def rm:C:=BJ (Ab 4 (A4 MF)) kF
def Xl:C:=(G 92 (AU 70 [(J 10),(W (.func (.func 71) #[] #[]))])
(B4 (Ee (J 9) (Ck (J 9) []
(G 93 (AO (J 9))
(G 95 (AZ .weak (AU 72 [(J 10)]))
(G 96 (Bg (J 93))
(G 97 (AE 3 (J 96))
(cDo (AZ .free (Ad 1 (J 97) (J 95)))
(G 98 (Em (.func 73) [] [(J 9)])
(G 17 (Af 98)
(G 18 (AQ (W (.slice By 0 0)))
(G 101 (AU 68 [(J 2)])
(G 102 (MC .i64 (J 8) (J 101))
(G 103 (AQ (W (AI AT 0)))
rm)))))))))))))))
def rj:C:=Xl
def rl:C:=BJ (Ab 1 (A4 ME)) rj
def iL:C:=(G 6 (AQ (W (.pointer By)))
(G 7 (AQ (W (AI AT 0)))
(G 22 (AU 67 [(J 0)])
(G 8 (Af 22)
(BJ (Ab 0 (G 25 (Aj iEq .i64 (J 8) (W (AI AT 0)))
(Ah 25 IS 27 (Af 1)
(Ah 25 IS 28 (oEq Tj.k IS (J 27) (W (.pointer By)))
(G 29 (A0 (J 25) (W (.bool IN)) (J 28))
(G 23 (Af 29)
(Bj 23
(G 6 (AQ (W (.pointer By)))
(G 7 (AQ (W (AI AT 1)))
Ao))
(G 32 (AU 68 [(J 2)])
(G 33 (Aj iEq .i64 (J 32) (W (AI AT 0)))
(Ah 33 IS 35 (Af 2)
(Ah 33 IS 36 (AU 68 [(J 35)])
(Ah 33 IS 37 (Af 8)
(Ah 33 IS 38 (Aj iGt .i64 (J 36) (J 37))
(G 39 (A0 (J 33) (W (.bool IN)) (J 38))
(G 30 (Af 39)
(Bj 30
(G 6 (AQ (W (.pointer By)))
(G 7 (AQ (W (AI AT 2)))
Ao))
(G 42 (AU 10 [(J 0)])
(G 40 (Af 42)
(Bj 40
(G 6 (AQ (W (.pointer By)))
(G 7 (AQ (W (AI AT 15)))
Ao))
Aq)))))))))))))))))))
(G 46 (BW Th.zero [(0,1,(J 0)),(1,1,(J 1)),(2,1,(J 2))])
(G 47 (CT (J 46))
(G 9 (Bc 1 vJ)
(cDo (Ad 1 (J 9) (J 47))
(G 10 (AQ (W (.slice By 0 0)))
(G 11 (AQ (W (.slice By 0 0)))
(G 50 (AU 68 [(J 2)])
(G 51 (MC .i64 (J 8) (J 50))
(G 52 (AQ (W (AI AT 0)))
rl))))))))))))))
def d39:C:=iL
def b39:Body:=⟨[.t (J 6),.t (J 7)],d39⟩
def aaB:C:=(G 14 (Aj iLt .i64 (J 13) (J 12))
(Bj 14
(BJ (Ab 1 (G 15 (CF 6 (J 11) (J 13))
(G 16 (BK 6 (J 15))
(G 5 (Bc 6 CR)
(cDo (Ad 6 (J 5) (J 16))
(G 18 (BK 6 (J 5))
(G 19 (AU 78 [(J 18)])
(G 20 (Ap 1 (BX JE.zero 1) [(0,5,(J 19))])
(G 21 (Bm 5 56 93 (J 3) (J 20))
(G 3 (Af 21)
Aq))))))))))
(G 22 (CO .i64 (BH .i64) (J 13) (W (AI AT 1)))
(G 13 (Af 22)
Aq)))
(CD 0)))
def aaE:C:=(G 2 (Af 3)
Ao)
def aaS:C:=BJ (Ab 0 (A4 aaB)) aaE
def iM:C:=(G 2 (AQ (W (.slice By 0 0)))
(G 7 (oEq Hs.k IS (J 0) (W (.pointer By)))
(Bj 7
(G 2 (AQ (W (.slice By 0 0)))
Ao)
(G 3 (AQ (W (.slice By 0 0)))
(G 9 (Bg (J 0))
(G 10 (AE 3 (J 9))
(G 11 (AO (J 10))
(G 12 (Bh (J 11))
(G 13 (AQ (W (AI AT 0)))
aaS)))))))))
def d40:C:=iM
def b40:Body:=⟨[.t (J 2)],d40⟩
def c41:C:=
(G 7 (CT (J 1))
(G 12 (AQ (W (.bool IS)))
(G 17 (BK 7 (J 7))
(G 18 (AU 9 [(J 0),(J 17)])
(G 19 (AW 0 (J 18))
(G 20 (AW 1 (J 18))
(G 13 (Bc 7 Cq)
(cDo (Ad 7 (J 13) (J 19))
(G 14 (Af 20)
(G 22 (Aj iEq .i64 (J 14) (W (AI AT 0)))
(Ah 22 IN 24 (AE 3 (J 13))
(Ah 22 IN 25 (AO (J 24))
(Ah 22 IN 26 (Af 2)
(Ah 22 IN 27 (Aj iEq .i64 (J 25) (J 26))
(G 28 (A0 (J 22) (J 27) (W (.bool IS)))
(Ah 28 IN 30 (AE 4 (J 13))
(Ah 28 IN 31 (AO (J 30))
(Ah 28 IN 32 (Bh (J 31))
(Ah 28 IN 33 (Af 3)
(Ah 28 IN 34 (Aj iEq .i64 (J 32) (J 33))
(G 35 (A0 (J 28) (J 34) (W (.bool IS)))
(Ah 35 IN 37 (AE 5 (J 13))
(Ah 35 IN 38 (AO (J 37))
(Ah 35 IN 39 (F4 (J 38))
(Ah 35 IN 40 (Af 4)
(Ah 35 IN 41 (KM bEq (J 39) (J 40))
(G 42 (A0 (J 35) (J 41) (W (.bool IS)))
(Ah 42 IN 44 (AE 6 (J 13))
(Ah 42 IN 45 (AO (J 44))
(Ah 42 IN 46 (Af 5)
(Ah 42 IN 47 (Aj iEq .i64 (J 45) (J 46))
(G 48 (A0 (J 42) (J 47) (W (.bool IS)))
(Ah 48 IN 50 (AE 0 (J 13))
(Ah 48 IN 51 (AO (J 50))
(Ah 48 IN 52 (AE 0 (J 7))
(Ah 48 IN 53 (AO (J 52))
(Ah 48 IN 54 (Aj iEq .i64 (J 51) (J 53))
(G 55 (A0 (J 48) (J 54) (W (.bool IS)))
(Ah 55 IN 57 (AE 1 (J 13))
(Ah 55 IN 58 (AO (J 57))
(Ah 55 IN 59 (AE 1 (J 7))
(Ah 55 IN 60 (AO (J 59))
(Ah 55 IN 61 (Aj iEq .i64 (J 58) (J 60))
(G 62 (A0 (J 55) (J 61) (W (.bool IS)))
(Ah 62 IN 64 (AE 2 (J 13))
(Ah 62 IN 65 (AO (J 64))
(Ah 62 IN 66 (AE 2 (J 7))
(Ah 62 IN 67 (AO (J 66))
(Ah 62 IN 68 (Aj iEq .u8 (J 65) (J 67))
(G 69 (A0 (J 62) (J 68) (W (.bool IS)))
(G 12 (Af 69)
Ao)))))))))))))))))))))))))))))))))))))))))))))))))))
def b41:Body:=⟨[.t (J 12)],c41⟩
def c42:C:=
(G 10 (Bc 7 ON)
(G 16 (BW Va.zero [(0,1,(J 0)),(1,1,(W (AI AT 9))),(2,1,(J 1)),(3,1,(J 2)),(5,1,(J 3))])
(G 11 (Bc 7 ON)
(cDo (Ad 7 (J 11) (J 16))
(G 18 (O8 (J 4))
(G 19 (Aj iGt .i64 (J 18) (W (AI AT 0)))
(BJ (Bj 19
(G 21 (KP 5 (J 4))
(G 22 (AE 6 (J 11))
(cDo (Ad 1 (J 22) (J 21))
Aq)))
Aq)
(G 23 (BK 7 (J 11))
(cDo (Ad 7 (J 10) (J 23))
Ao)))))))))
def b42:Body:=⟨[.cN (J 10) 7],c42⟩
def c43:C:=
(G 4 (AQ (W (.bool IS)))
(G 7 (Bh (J 0))
(G 9 (Bh (J 1))
(G 10 (Aj iNe .i64 (J 7) (J 9))
(Bj 10
(G 4 (AQ (W (.bool IS)))
Ao)
(G 5 (AQ (W (AI AT 0)))
(BJ (Ab 0 (A4 (G 13 (Bh (J 0))
(G 14 (Aj iLt .i64 (J 5) (J 13))
(Bj 14
(BJ (Ab 1 (B4 (G 19 (CF 4 (J 0) (J 5))
(G 20 (BK 4 (J 19))
(G 23 (CF 4 (J 1) (J 5))
(G 24 (BK 4 (J 23))
(G 25 (QN ⟨IN,[.i .i64,.i .i64,.i .i64,.i .u8]⟩ IN (J 20) (J 24))
(Bj 25
(G 4 (AQ (W (.bool IS)))
Ao)
Aq))))))))
(G 16 (CO .i64 (BH .i64) (J 5) (W (AI AT 1)))
(G 5 (Af 16)
Aq)))
(CD 0))))))
(G 4 (AQ (W (.bool IN)))
Ao))))))))
def b43:Body:=⟨[.t (J 4)],c43⟩
def d44:C:=
(G 2 (CT (J 0))
(G 3 (CT (J 1))
(G 4 (AQ (W (.bool IS)))
(G 5 (AE 0 (J 2))
(G 6 (AO (J 5))
(G 7 (AE 0 (J 3))
(G 8 (AO (J 7))
(G 9 (Aj iEq .i64 (J 6) (J 8))
(Ah 9 IN 11 (AE 1 (J 2))
(Ah 9 IN 12 (AO (J 11))
(Ah 9 IN 13 (AE 1 (J 3))
(Ah 9 IN 14 (AO (J 13))
(Ah 9 IN 15 (Aj iEq .i64 (J 12) (J 14))
(G 16 (A0 (J 9) (J 15) (W (.bool IS)))
(Ah 16 IN 18 (AE 2 (J 2))
(Ah 16 IN 19 (AO (J 18))
(Ah 16 IN 20 (AE 2 (J 3))
(Ah 16 IN 21 (AO (J 20))
(Ah 16 IN 22 (Aj iEq .i64 (J 19) (J 21))
(G 23 (A0 (J 16) (J 22) (W (.bool IS)))
(Ah 23 IN 25 (AE 3 (J 2))
(Ah 23 IN 26 (AO (J 25))
(Ah 23 IN 27 (AE 3 (J 3))
(Ah 23 IN 28 (AO (J 27))
(Ah 23 IN 29 (Aj iEq .u8 (J 26) (J 28))
(G 30 (A0 (J 23) (J 29) (W (.bool IS)))
(Ah 30 IN 32 (AE 4 (J 2))
(Ah 30 IN 33 (AO (J 32))
(Ah 30 IN 34 (AE 4 (J 3))
(Ah 30 IN 35 (AO (J 34))
(Ah 30 IN 36 (AU 50 [(J 33),(J 35)])
(G 37 (A0 (J 30) (J 36) (W (.bool IS)))
(G 4 (Af 37)
Ao)))))))))))))))))))))))))))))))))
def b44:Body:=⟨[.t (J 4)],d44⟩
def slB:C:=(G 16 (Aj iLt .i64 (J 15) (W (AI AT 4)))
(Bj 16
(BJ (Ab 1 (G 7 (Af 15)
(G 20 (Bh (J 1))
(G 21 (CO .i64 (BH .i64) (J 20) (W (AI AT 4)))
(G 22 (C7 xO .i64 (J 21) (W (AI AT 1)))
(G 24 (C7 xO .i64 (J 22) (J 7))
(G 27 (C7 AA8 .i64 (W (AI AT 8)) (J 7))
(G 28 (MD .u32 (J 6) (J 27))
(G 29 (C5 .u8 (J 28))
(G 30 (CF 1 (J 5) (J 24))
(cDo (Ad 1 (J 30) (J 29))
Aq)))))))))))
(G 31 (CO .i64 (BH .i64) (J 15) (W (AI AT 1)))
(G 15 (Af 31)
Aq)))
(CD 0)))
def slE:C:=(G 34 (KJ 1 (J 5) (J 1))
(G 4 (Af 5)
Ao))
def slS:C:=BJ (Ab 0 (A4 slB)) slE
def iO:C:=(G 4 (AQ (W (.slice By 0 0)))
(G 9 (Bh (J 1))
(G 10 (CO .i64 (BH .i64) (J 9) (W (AI AT 4)))
(G 11 (G0 1 ty5.zero (J 10) (J 10))
(G 5 (Af 11)
(G 14 (AU 80 [(J 0),(J 1)])
(G 6 (Af 14)
(G 15 (AQ (W (AI AT 0)))
slS))))))))
def d46:C:=iO
def b46:Body:=⟨[.t (J 4)],d46⟩
def d50:C:=
(G 4 (AQ (W (.bool IS)))
(G 6 (F4 (J 0))
(G 8 (F4 (J 1))
(G 9 (KM bEq (J 6) (J 8))
(G 4 (Af 9)
Ao)))))
def b50:Body:=⟨[.t (J 4)],d50⟩
def d53:C:=
(G 2 (AQ (W (AI AT 0)))
(G 4 (oEq Hs.k IS (J 0) (W (.pointer By)))
(Bj 4
(G 2 (AQ (W (AI AT 0)))
Ao)
(G 6 (Bg (J 0))
(G 7 (AE 4 (J 6))
(G 8 (AO (J 7))
(G 9 (Bh (J 8))
(G 2 (Af 9)
Ao))))))))
def b53:Body:=⟨[.t (J 2)],d53⟩
def prC:C:=(G 104 (AU 97 [(J 0),(J 14)])
(G 106 (AU 96 [(J 0),(J 104),(J 15)])
(G 107 (Bm 1 8 70 (J 17) (J 106))
(G 108 (AU 98 [(J 0),(J 107)])
(G 18 (Af 108)
(G 110 (Aj iNe .i64 (J 18) (W (AI AT 0)))
(Bj 110
(G 10 (Af 18)
Ao)
(G 114 (Bg (J 0))
(G 115 (AE 4 (J 114))
(G 116 (AO (J 115))
(G 117 (EL 3 1 (J 116) (BY (W (AI AT 1))) By By)
(G 118 (AU 99 [(J 117)])
(G 119 (Bg (J 0))
(G 120 (AE 4 (J 119))
(cDo (Ad 1 (J 120) (J 118))
(B4 (G 123 (Bg (J 0))
(G 124 (AE 3 (J 123))
(G 125 (AO (J 124))
(G 126 (AZ .weak (AU 100 [(J 125)]))
(Ee (J 12) (Ck (J 12) []
(G 127 (BK 5 (J 12))
(G 129 (BW D4.zero [(0,5,(J 127)),(5,1,(J 14))])
(G 130 (AZ .AEk (Ap 1 (BX D4.zero 1) [(0,6,(J 129))]))
(G 131 (AZ .free (Bm 6 64 124 (J 126) (J 130)))
(G 132 (Bg (J 0))
(G 133 (AE 3 (J 132))
(cDo (AZ .free (Ad 1 (J 133) (J 131)))
(G 135 (Bg (J 0))
(G 136 (AE 3 (J 135))
(G 137 (AO (J 136))
(G 138 (AU 70 [(J 137),(W (.func (.func 71) #[] #[]))])
(G 10 (AQ (W (AI AT 0)))
Ao))))))))))))))))))))))))))))))))))
def kP:C:=(B4 (G 81 (Bg (J 0))
(G 82 (AE 1 (J 81))
(G 83 (AO (J 82))
(G 84 (BK 5 (J 12))
(G 85 (AZ .free (AU 95 [(J 83),(J 84)]))
(G 86 (AW 0 (J 85))
(G 87 (AW 1 (J 85))
(G 15 (Af 86)
(G 16 (Af 87)
(G 17 (AQ (W (.slice By 0 0)))
(G 89 (Bh (J 4))
(G 90 (Aj iGt .i64 (J 89) (W (AI AT 0)))
(BJ (Bj 90
(B4 (G 94 (AZ .weak (AU 97 [(J 0),(J 14)]))
(G 95 (CO .i64 (BH .i64) (J 94) (W (AI AT 1)))
(G 96 (AE 4 (J 12))
(Ee (J 96) (Ck (J 96) []
(G 97 (AO (J 96))
(G 98 (AZ .free (AU 96 [(J 0),(J 95),(J 97)]))
(G 17 (Af 98)
Aq)))))))))
Aq)
prC))))))))))))))
def prB:C:=kP
def OC:C:=(G 10 (AQ (W (AI AT 0)))
(G 20 (AU 89 [(J 0)])
(G 11 (Af 20)
(G 22 (Aj iNe .i64 (J 11) (W (AI AT 0)))
(Bj 22
(G 10 (Af 11)
Ao)
(G 28 (AU 90 [(J 4)])
(G 29 (BW JE.zero [(0,1,(J 1)),(1,1,(J 2)),(2,1,(J 3)),(3,1,(W (.int .u8 1))),(4,1,(J 28))])
(G 12 (Bc 5 DT)
(cDo (Ad 5 (J 12) (J 29))
(G 30 (BK 5 (J 12))
(G 31 (AU 91 [(J 30)])
(G 32 (Dq (J 31))
(Ah 32 IS 34 (Af 4)
(Ah 32 IS 35 (Bh (J 34))
(Ah 32 IS 36 (Af 0)
(Ah 32 IS 37 (Bg (J 36))
(Ah 32 IS 38 (AE 2 (J 37))
(Ah 32 IS 39 (AO (J 38))
(Ah 32 IS 40 (Aj iGt .i64 (J 35) (J 39))
(G 41 (A0 (J 32) (W (.bool IN)) (J 40))
(Bj 41
(G 10 (AQ (W (AI AT 2)))
Ao)
(G 46 (AU 92 [(J 0),(J 1),(J 2),(J 3)])
(G 13 (Af 46)
(G 48 (Aj iGe .i64 (J 13) (W (AI AT 0)))
(Bj 48
(G 50 (Bg (J 0))
(G 51 (AE 3 (J 50))
(G 52 (AO (J 51))
(G 54 (CF 6 (J 52) (J 13))
(G 55 (AE 0 (J 54))
(G 56 (AE 4 (J 55))
(G 57 (AO (J 56))
(G 59 (AU 93 [(J 57),(J 4)])
(Bj 59
(G 10 (AQ (W (AI AT 0)))
Ao)
(G 10 (AQ (W (AI AT 60)))
Ao))))))))))
(BJ (Ab 0 (G 65 (AU 94 [(J 0),(J 1),(J 2),(J 3)])
(G 60 (Af 65)
(Bj 60
(G 10 (AQ (W (AI AT 61)))
Ao)
(G 68 (Bg (J 0))
(G 69 (AE 4 (J 68))
(G 70 (AO (J 69))
(G 71 (Bh (J 70))
(G 72 (Aj iEq .i64 (J 71) (W (AI AT 0)))
(G 66 (Af 72)
(Bj 66
(G 10 (AQ (W (AI AT 62)))
Ao)
Aq)))))))))))
(G 74 (Bg (J 0))
(G 75 (AE 4 (J 74))
(G 76 (AO (J 75))
(G 77 (CF 1 (J 76) (W (AI AT 0)))
(G 78 (AO (J 77))
(G 14 (Af 78)
prB))))))))))))))))))))))))))))))))
def d54:C:=OC
def b54:Body:=⟨[.t (J 10)],d54⟩
def cmE:C:=(G 141 (AU 77 [(J 0),(J 15)])
(G 8 (Af 141)
Ao))
def cmL:C:=(G 100 (Bg (J 0))
(G 101 (AE 3 (J 100))
(G 102 (AO (J 101))
(G 103 (Bh (J 102))
(G 104 (Aj iLt .i64 (J 16) (J 103))
(Bj 104
(Ab 2 (G 106 (Bg (J 0))
(G 107 (AE 3 (J 106))
(G 108 (AO (J 107))
(G 110 (CF 6 (J 108) (J 16))
(G 111 (BK 6 (J 110))
(G 17 (Bc 6 CR)
(cDo (Ad 6 (J 17) (J 111))
(G 112 (AE 0 (J 17))
(G 113 (AE 0 (J 112))
(G 114 (AO (J 113))
(G 116 (Aj iEq .i64 (J 114) (J 1))
(Ah 116 IN 118 (AE 0 (J 17))
(Ah 116 IN 119 (AE 1 (J 118))
(Ah 116 IN 120 (AO (J 119))
(Ah 116 IN 121 (Af 2)
(Ah 116 IN 122 (Aj iEq .i64 (J 120) (J 121))
(G 123 (A0 (J 116) (J 122) (W (.bool IS)))
(Ah 123 IN 125 (AE 0 (J 17))
(Ah 123 IN 126 (AE 2 (J 125))
(Ah 123 IN 127 (AO (J 126))
(Ah 123 IN 128 (Af 3)
(Ah 123 IN 129 (Aj iLt .i64 (J 127) (J 128))
(G 130 (A0 (J 123) (J 129) (W (.bool IS)))
(Bj 130
(G 134 (AU 101 [(J 0),(J 16)])
(G 135 (Ap 1 (BX ty3.zero 1) [(0,1,(J 134))])
(G 136 (Bm 1 8 3 (J 15) (J 135))
(G 15 (Af 136)
Aq))))
(G 138 (CO .i64 (BH .i64) (J 16) (W (AI AT 1)))
(G 16 (Af 138)
Aq)))))))))))))))))))))))))))
(CD 1)))))))
def cmS:C:=BJ (Ab 1 (A4 cmL)) cmE
def gp:C:=(B4 (G 63 (Bg (J 0))
(G 64 (AE 1 (J 63))
(G 65 (AO (J 64))
(G 66 (AE 0 (J 11))
(G 67 (BK 5 (J 66))
(G 68 (AZ .free (AU 95 [(J 65),(J 67)]))
(G 69 (AW 0 (J 68))
(G 70 (AW 1 (J 68))
(G 12 (Af 69)
(G 13 (Af 70)
(G 74 (AE 5 (J 11))
(G 75 (AO (J 74))
(G 76 (AU 97 [(J 0),(J 75)])
(G 78 (AU 96 [(J 0),(J 76),(J 12)])
(G 79 (AU 98 [(J 0),(J 78)])
(G 14 (Af 79)
(G 81 (Aj iNe .i64 (J 14) (W (AI AT 0)))
(Bj 81
(G 8 (Af 14)
Ao)
(G 85 (Bg (J 0))
(G 86 (AE 3 (J 85))
(G 87 (AO (J 86))
(G 88 (AU 100 [(J 87)])
(G 89 (Bg (J 0))
(G 90 (AE 3 (J 89))
(cDo (Ad 1 (J 90) (J 88))
(B4 (G 92 (Bg (J 0))
(G 93 (AE 3 (J 92))
(G 94 (AO (J 93))
(G 96 (BK 6 (J 11))
(G 97 (CF 6 (J 94) (J 10))
(cDo (AZ .free (Ad 6 (J 97) (J 96)))
(G 15 (AQ (W (.slice By 0 0)))
(G 16 (AQ (W (AI AT 0)))
cmS)))))))))))))))))))))))))))))))))))
def cmB:C:=gp
def Pi:C:=(G 8 (AQ (W (AI AT 0)))
(G 19 (AU 89 [(J 0)])
(G 9 (Af 19)
(G 21 (Aj iNe .i64 (J 9) (W (AI AT 0)))
(Bj 21
(G 8 (Af 9)
Ao)
(G 27 (AU 92 [(J 0),(J 1),(J 2),(J 3)])
(G 10 (Af 27)
(BJ (Ab 0 (G 30 (Aj iGe .i64 (J 10) (W (AI AT 0)))
(Ah 30 IN 32 (Af 0)
(Ah 30 IN 33 (Bg (J 32))
(Ah 30 IN 34 (AE 3 (J 33))
(Ah 30 IN 35 (AO (J 34))
(Ah 30 IN 36 (Af 10)
(Ah 30 IN 37 (CF 6 (J 35) (J 36))
(Ah 30 IN 38 (AE 0 (J 37))
(Ah 30 IN 39 (AE 3 (J 38))
(Ah 30 IN 40 (AO (J 39))
(Ah 30 IN 41 (Aj iEq .u8 (J 40) (W (.int .u8 2)))
(G 42 (A0 (J 30) (J 41) (W (.bool IS)))
(G 28 (Af 42)
(Bj 28
(G 8 (AQ (W (AI AT 0)))
Ao)
(G 48 (AU 94 [(J 0),(J 1),(J 2),(J 3)])
(G 43 (Af 48)
(Bj 43
(G 8 (AQ (W (AI AT 61)))
Ao)
(G 51 (Aj iLt .i64 (J 10) (W (AI AT 0)))
(G 49 (Af 51)
(Bj 49
(G 8 (AQ (W (AI AT 60)))
Ao)
Aq)))))))))))))))))))))
(G 53 (Bg (J 0))
(G 54 (AE 3 (J 53))
(G 55 (AO (J 54))
(G 57 (CF 6 (J 55) (J 10))
(G 58 (BK 6 (J 57))
(G 11 (Bc 6 CR)
(cDo (Ad 6 (J 11) (J 58))
(G 59 (AE 0 (J 11))
(G 60 (AE 3 (J 59))
(cDo (Ad 1 (J 60) (W (.int .u8 2)))
cmB))))))))))))))))))
def d55:C:=Pi
def b55:Body:=⟨[.t (J 8)],d55⟩
def d56:C:=
(G 8 (AQ (W (AI AT 0)))
(G 12 (AU 89 [(J 0)])
(G 9 (Af 12)
(G 14 (Aj iNe .i64 (J 9) (W (AI AT 0)))
(Bj 14
(G 8 (Af 9)
Ao)
(G 20 (AU 92 [(J 0),(J 1),(J 2),(J 3)])
(G 10 (Af 20)
(BJ (Ab 0 (G 26 (AU 94 [(J 0),(J 1),(J 2),(J 3)])
(G 21 (Af 26)
(Bj 21
(G 8 (AQ (W (AI AT 61)))
Ao)
(G 29 (Aj iLt .i64 (J 10) (W (AI AT 0)))
(G 27 (Af 29)
(Bj 27
(G 8 (AQ (W (AI AT 0)))
Ao)
Aq)))))))
(G 32 (AU 102 [(J 0),(J 10)])
(G 8 (Af 32)
Ao))))))))))
def b56:Body:=⟨[.t (J 8)],d56⟩
def nfB:C:=(G 15 (Aj iLt .i64 (J 14) (J 13))
(Bj 15
(BJ (Ab 1 (G 16 (CF 5 (J 12) (J 14))
(G 17 (BK 5 (J 16))
(G 7 (Bc 5 DT)
(cDo (Ad 5 (J 7) (J 17))
(G 19 (BK 5 (J 7))
(G 20 (ET (J 1) [(J 19)])
(Ah 20 IN 22 (Af 5)
(Ah 20 IN 23 (Bh (J 22))
(Ah 20 IN 24 (Aj iLt .i64 (J 23) (W (AI AT 50)))
(G 25 (A0 (J 20) (J 24) (W (.bool IS)))
(Bj 25
(G 27 (BK 5 (J 7))
(G 28 (AU 61 [(J 27)])
(G 29 (Ap 1 (BX N8.zero 1) [(0,4,(J 28))])
(G 30 (Bm 4 32 90 (J 5) (J 29))
(G 5 (Af 30)
Aq)))))
Aq))))))))))))
(G 31 (CO .i64 (BH .i64) (J 14) (W (AI AT 1)))
(G 14 (Af 31)
Aq)))
(CD 0)))
def nfE:C:=(G 4 (Af 5)
Ao)
def nfS:C:=BJ (Ab 0 (A4 nfB)) nfE
def iP:C:=(G 4 (AQ (W (.slice By 0 0)))
(G 5 (AQ (W (.slice By 0 0)))
(G 9 (Bg (J 0))
(G 10 (AE 2 (J 9))
(G 11 (AO (J 10))
(G 12 (AU 40 [(J 11)])
(G 13 (Bh (J 12))
(G 14 (AQ (W (AI AT 0)))
nfS))))))))
def d57:C:=iP
def b57:Body:=⟨[.t (J 4)],d57⟩
def d58:C:=
(G 2 (CT (J 0))
(G 3 (AQ (W (.bool IS)))
(G 4 (AE 0 (J 2))
(G 5 (AO (J 4))
(G 6 (AE 3 (J 1))
(G 7 (AO (J 6))
(G 8 (Aj iEq .i64 (J 5) (J 7))
(Ah 8 IN 10 (AE 1 (J 2))
(Ah 8 IN 11 (AO (J 10))
(Ah 8 IN 12 (AE 4 (J 1))
(Ah 8 IN 13 (AO (J 12))
(Ah 8 IN 14 (Aj iEq .i64 (J 11) (J 13))
(G 15 (A0 (J 8) (J 14) (W (.bool IS)))
(G 3 (Af 15)
Ao))))))))))))))
def b58:Body:=⟨[.t (J 3)],d58⟩
def d59:C:=
(G 8 (Bc 5 DT)
(G 9 (AQ (W (.bool IS)))
(G 12 (oEq Hs.k IS (J 0) (W (.pointer By)))
(Bj 12
(G 13 (BW JE.zero [])
(cDo (Ad 5 (J 8) (J 13))
(G 9 (AQ (W (.bool IS)))
Ao)))
(G 18 (AU 92 [(J 0),(J 1),(J 2),(J 3)])
(G 10 (Af 18)
(G 20 (Aj iLt .i64 (J 10) (W (AI AT 0)))
(Bj 20
(G 21 (BW JE.zero [])
(cDo (Ad 5 (J 8) (J 21))
(G 9 (AQ (W (.bool IS)))
Ao)))
(G 23 (Bg (J 0))
(G 24 (AE 3 (J 23))
(G 25 (AO (J 24))
(G 27 (CF 6 (J 25) (J 10))
(G 28 (BK 6 (J 27))
(G 29 (AU 78 [(J 28)])
(cDo (Ad 5 (J 8) (J 29))
(G 9 (AQ (W (.bool IN)))
Ao))))))))))))))))
def b59:Body:=⟨[.cN (J 8) 5,.t (J 9)],d59⟩
def sdT:C:=(B4 (G 39 (Aj iEq .i64 (J 13) (W (AI AT 0)))
(Ah 39 IN 41 (Af 11)
(G 42 (A0 (J 39) (J 41) (W (.bool IS)))
(Ah 42 IN 44 (AE 0 (J 10))
(Ah 42 IN 45 (AE 0 (J 44))
(Ah 42 IN 46 (AO (J 45))
(Ah 42 IN 47 (Af 1)
(Ah 42 IN 48 (Aj iEq .i64 (J 46) (J 47))
(G 49 (A0 (J 42) (J 48) (W (.bool IS)))
(Ah 49 IN 51 (AE 0 (J 10))
(Ah 49 IN 52 (AE 1 (J 51))
(Ah 49 IN 53 (AO (J 52))
(Ah 49 IN 54 (Af 2)
(Ah 49 IN 55 (Aj iEq .i64 (J 53) (J 54))
(G 56 (A0 (J 49) (J 55) (W (.bool IS)))
(Ah 56 IN 58 (AE 0 (J 10))
(Ah 56 IN 59 (AE 2 (J 58))
(Ah 56 IN 60 (AO (J 59))
(Ah 56 IN 61 (Af 3)
(Ah 56 IN 62 (Aj iEq .i64 (J 60) (J 61))
(G 63 (A0 (J 56) (J 62) (W (.bool IS)))
(Ah 63 IN 65 (AE 0 (J 10))
(Ah 63 IN 66 (AE 3 (J 65))
(Ah 63 IN 67 (AO (J 66))
(Ah 63 IN 68 (Af 0)
(Ah 63 IN 69 (Bg (J 68))
(Ah 63 IN 70 (AE 3 (J 69))
(Ah 63 IN 71 (AO (J 70))
(Ah 63 IN 72 (Af 9)
(Ah 63 IN 73 (CF 6 (J 71) (J 72))
(Ah 63 IN 74 (AE 0 (J 73))
(Ah 63 IN 75 (AE 3 (J 74))
(Ah 63 IN 76 (AO (J 75))
(Ah 63 IN 77 (Aj iEq .u8 (J 67) (J 76))
(G 78 (A0 (J 63) (J 77) (W (.bool IS)))
(Ah 78 IN 80 (AE 0 (J 10))
(Ah 78 IN 81 (AE 4 (J 80))
(Ah 78 IN 82 (AO (J 81))
(Ah 78 IN 83 (Af 0)
(Ah 78 IN 84 (Bg (J 83))
(Ah 78 IN 85 (AE 3 (J 84))
(Ah 78 IN 86 (AO (J 85))
(Ah 78 IN 87 (Af 9)
(Ah 78 IN 88 (CF 6 (J 86) (J 87))
(Ah 78 IN 89 (AE 0 (J 88))
(Ah 78 IN 90 (AE 4 (J 89))
(Ah 78 IN 91 (AO (J 90))
(Ah 78 IN 92 (AZ .free (AU 93 [(J 82),(J 91)]))
(G 93 (A0 (J 78) (J 92) (W (.bool IS)))
(G 8 (Af 93)
Ao)))))))))))))))))))))))))))))))))))))))))))))))))))
def Yg:C:=(G 8 (AQ (W (.bool IS)))
(G 15 (oEq Hs.k IS (J 0) (W (.pointer By)))
(Bj 15
(G 8 (AQ (W (.bool IS)))
Ao)
(G 20 (AU 92 [(J 0),(J 1),(J 2),(J 3)])
(G 9 (Af 20)
(G 22 (Aj iLt .i64 (J 9) (W (AI AT 0)))
(Bj 22
(G 8 (AQ (W (.bool IS)))
Ao)
(G 26 (Bg (J 0))
(G 27 (AE 3 (J 26))
(G 28 (AO (J 27))
(G 30 (CF 6 (J 28) (J 9))
(G 31 (AE 5 (J 30))
(G 32 (AO (J 31))
(G 33 (AU 69 [(J 0),(J 32)])
(G 34 (AW 0 (J 33))
(G 35 (AW 1 (J 33))
(G 36 (AW 2 (J 33))
(G 37 (AW 3 (J 33))
(G 10 (Bc 6 CR)
(cDo (Ad 6 (J 10) (J 34))
(G 11 (Af 35)
(G 12 (Af 36)
(G 13 (Af 37)
sdT)))))))))))))))))))))))
def d60:C:=Yg
def b60:Body:=⟨[.t (J 8)],d60⟩
def d61:C:=
(G 1 (CT (J 0))
(G 2 (Bc 4 fz)
(G 3 (AE 0 (J 1))
(G 4 (AO (J 3))
(G 5 (AE 1 (J 1))
(G 6 (AO (J 5))
(G 7 (AE 2 (J 1))
(G 8 (AO (J 7))
(G 9 (AE 3 (J 1))
(G 10 (AO (J 9))
(G 11 (BW N8.zero [(0,1,(J 4)),(1,1,(J 6)),(2,1,(J 8)),(3,1,(J 10))])
(cDo (Ad 4 (J 2) (J 11))
Ao))))))))))))
def b61:Body:=⟨[.cN (J 2) 4],d61⟩
def d62:C:=
(G 2 (CT (J 0))
(G 3 (AQ (W (.bool IS)))
(BJ (Ab 0 (G 5 (AE 0 (J 2))
(G 6 (AO (J 5))
(G 7 (AE 3 (J 1))
(G 8 (AO (J 7))
(G 9 (Aj iNe .i64 (J 6) (J 8))
(G 4 (Af 9)
(Bj 4
(G 10 (AE 0 (J 2))
(G 11 (AO (J 10))
(G 12 (AE 3 (J 1))
(G 13 (AO (J 12))
(G 14 (Aj iGt .i64 (J 11) (J 13))
(G 3 (Af 14)
Ao))))))
(G 16 (AE 1 (J 2))
(G 17 (AO (J 16))
(G 18 (AE 4 (J 1))
(G 19 (AO (J 18))
(G 20 (Aj iNe .i64 (J 17) (J 19))
(G 15 (Af 20)
(Bj 15
(G 21 (AE 1 (J 2))
(G 22 (AO (J 21))
(G 23 (AE 4 (J 1))
(G 24 (AO (J 23))
(G 25 (Aj iGt .i64 (J 22) (J 24))
(G 3 (Af 25)
Ao))))))
Aq)))))))))))))))
(G 26 (AE 2 (J 2))
(G 27 (AO (J 26))
(G 28 (AE 5 (J 1))
(G 29 (AO (J 28))
(G 30 (Aj iGt .i64 (J 27) (J 29))
(G 3 (Af 30)
Ao)))))))))
def b62:Body:=⟨[.t (J 3)],d62⟩
def dpE:C:=(G 8 (AQ (W (AI AT 0)))
Ao)
def dpL:C:=(G 25 (Aj iGe .i64 (J 10) (W (AI AT 0)))
(Bj 25
(BJ (Ab 1 (G 29 (Bg (J 0))
(G 30 (AE 3 (J 29))
(G 31 (AO (J 30))
(G 33 (CF 6 (J 31) (J 10))
(G 34 (BK 6 (J 33))
(G 11 (Bc 6 CR)
(cDo (Ad 6 (J 11) (J 34))
(G 35 (AE 0 (J 11))
(G 36 (AE 0 (J 35))
(G 37 (AO (J 36))
(G 39 (Aj iEq .i64 (J 37) (J 1))
(Ah 39 IN 41 (AE 0 (J 11))
(Ah 39 IN 42 (AE 1 (J 41))
(Ah 39 IN 43 (AO (J 42))
(Ah 39 IN 44 (Af 2)
(Ah 39 IN 45 (Aj iEq .i64 (J 43) (J 44))
(G 46 (A0 (J 39) (J 45) (W (.bool IS)))
(Ah 46 IN 48 (AE 0 (J 11))
(Ah 46 IN 49 (AE 2 (J 48))
(Ah 46 IN 50 (AO (J 49))
(Ah 46 IN 51 (Af 3)
(Ah 46 IN 52 (Aj iLe .i64 (J 50) (J 51))
(G 53 (A0 (J 46) (J 52) (W (.bool IS)))
(Bj 53
(G 56 (AU 102 [(J 0),(J 10)])
(G 12 (Af 56)
(G 58 (Aj iNe .i64 (J 12) (W (AI AT 0)))
(Bj 58
(G 8 (Af 12)
Ao)
Aq))))
Aq)))))))))))))))))))))))))
(G 27 (C7 xO .i64 (J 10) (W (AI AT 1)))
(G 10 (Af 27)
Aq)))
(CD 0)))
def dpS:C:=BJ (Ab 0 (A4 dpL)) dpE
def bF:C:=(G 8 (AQ (W (AI AT 0)))
(G 14 (AU 89 [(J 0)])
(G 9 (Af 14)
(G 16 (Aj iNe .i64 (J 9) (W (AI AT 0)))
(Bj 16
(G 8 (Af 9)
Ao)
(G 19 (Bg (J 0))
(G 20 (AE 3 (J 19))
(G 21 (AO (J 20))
(G 22 (Bh (J 21))
(G 23 (C7 xO .i64 (J 22) (W (AI AT 1)))
(G 10 (Af 23)
dpS)))))))))))
def d63:C:=bF
def b63:Body:=⟨[.t (J 8)],d63⟩
def d64:C:=
(G 6 (AQ (W (.bool IS)))
(G 9 (Aj iGe .i64 (J 0) (J 1))
(Ah 9 IN 11 (Af 0)
(Ah 9 IN 12 (Af 2)
(Ah 9 IN 13 (Aj iLe .i64 (J 11) (J 12))
(G 14 (A0 (J 9) (J 13) (W (.bool IS)))
(G 6 (Af 14)
Ao)))))))
def b64:Body:=⟨[.t (J 6)],d64⟩
def d66:C:=
(G 1 (CT (J 0))
(G 2 (AQ (W .nilFunc))
(G 3 (Em (.func 105) [] [(J 1)])
(G 2 (Af 3)
Ao))))
def b66:Body:=⟨[.t (J 2)],d66⟩
def d67:C:=
(G 2 (AQ (W (AI AT 0)))
(G 4 (AU 26 [(J 0)])
(Bj 4
(G 2 (AQ (W (AI AT 0)))
Ao)
(G 6 (Bg (J 0))
(G 7 (AE 0 (J 6))
(G 8 (AO (J 7))
(G 9 (Bh (J 8))
(G 2 (Af 9)
Ao))))))))
def b67:Body:=⟨[.t (J 2)],d67⟩
def d68:C:=
(G 2 (AQ (W (AI AT 0)))
(G 4 (Aj iLt .i64 (J 0) (W (AI AT 0)))
(Ah 4 IS 6 (Af 0)
(Ah 4 IS 7 (Aj iGt .i64 (J 6) (W (AI AT 65536)))
(G 8 (A0 (J 4) (W (.bool IN)) (J 7))
(Bj 8
(G 2 (AQ (W (AI AT 0)))
Ao)
(G 10 (CO .i64 (BH .i64) (J 0) (W (AI AT 64)))
(G 11 (C7 xO .i64 (J 10) (W (AI AT 1)))
(G 12 (MC .i64 (J 11) (W (AI AT 64)))
(G 13 (CO .i64 (BH .i64) (W (AI AT 1)) (J 12))
(G 2 (Af 13)
Ao)))))))))))
def b68:Body:=⟨[.t (J 2)],d68⟩
def lkC:C:=(G 61 (AU 110 [(J 0),(J 1),(J 12)])
(G 62 (AW 0 (J 61))
(G 63 (AW 1 (J 61))
(G 64 (AE 4 (J 11))
(cDo (Ad 1 (J 64) (J 62))
(G 9 (Af 63)
(G 66 (Aj iNe .i64 (J 9) (W (AI AT 0)))
(Bj 66
(G 67 (BW D4.zero [])
(cDo (Ad 6 (J 4) (J 67))
(G 5 (AQ (W (.bool IS)))
(G 6 (AQ (W (.bool IS)))
(G 7 (Af 9)
Ao)))))
(B4 (G 70 (Bg (J 0))
(G 71 (AE 1 (J 70))
(G 72 (AO (J 71))
(G 73 (AE 4 (J 11))
(G 74 (AO (J 73))
(G 75 (AZ .free (AU 80 [(J 72),(J 74)]))
(G 77 (Aj iNe .u32 (J 75) (J 13))
(Bj 77
(G 78 (BW D4.zero [])
(cDo (Ad 6 (J 4) (J 78))
(G 5 (AQ (W (.bool IS)))
(G 6 (AQ (W (.bool IN)))
(G 7 (AQ (W (AI AT 0)))
Ao)))))
(G 79 (BK 5 (J 11))
(G 81 (BW D4.zero [(0,5,(J 79)),(5,1,(J 1))])
(cDo (Ad 6 (J 4) (J 81))
(G 5 (AQ (W (.bool IN)))
(G 6 (AQ (W (.bool IS)))
(G 7 (AQ (W (AI AT 0)))
Ao)))))))))))))))))))))))
def Y4:C:=(G 45 (Dq (J 14))
(Ah 45 IS 47 (Af 12)
(Ah 45 IS 48 (Af 0)
(Ah 45 IS 49 (Bg (J 48))
(Ah 45 IS 50 (AE 2 (J 49))
(Ah 45 IS 51 (AO (J 50))
(Ah 45 IS 52 (Aj iGt .i64 (J 47) (J 51))
(G 53 (A0 (J 45) (W (.bool IN)) (J 52))
(Bj 53
(G 54 (BW D4.zero [])
(G 56 (Dq (J 10))
(cDo (Ad 6 (J 4) (J 54))
(G 5 (AQ (W (.bool IS)))
(G 6 (Af 56)
(G 7 (AQ (W (AI AT 0)))
Ao))))))
lkC)))))))))
def lkB:C:=Y4
def Yh:C:=(G 4 (Bc 6 CR)
(G 5 (AQ (W (.bool IS)))
(G 6 (AQ (W (.bool IS)))
(G 7 (AQ (W (AI AT 0)))
(B4 (G 17 (Bg (J 0))
(G 18 (AE 0 (J 17))
(Ee (J 18) (Ck (J 18) []
(G 19 (AO (J 18))
(G 22 (AZ .weak (AU 97 [(J 0),(J 1)]))
(G 23 (AZ .free (AU 106 [(J 19),(J 22)]))
(G 24 (AW 0 (J 23))
(G 25 (AW 1 (J 23))
(G 8 (Af 24)
(G 9 (Af 25)
(G 27 (Aj iNe .i64 (J 9) (W (AI AT 0)))
(Bj 27
(G 28 (BW D4.zero [])
(cDo (Ad 6 (J 4) (J 28))
(G 5 (AQ (W (.bool IS)))
(G 6 (AQ (W (.bool IS)))
(G 7 (Af 9)
Ao)))))
(G 31 (AU 107 [(J 8),(W (.func (.func 108) #[] #[]))])
(G 32 (Dq (J 31))
(G 10 (Af 32)
(G 35 (Bg (J 0))
(G 36 (AE 1 (J 35))
(G 37 (AO (J 36))
(G 39 (AU 109 [(J 37),(J 8)])
(G 40 (AW 0 (J 39))
(G 41 (AW 1 (J 39))
(G 42 (AW 2 (J 39))
(G 43 (AW 3 (J 39))
(G 11 (Bc 5 DT)
(cDo (Ad 5 (J 11) (J 40))
(G 12 (Af 41)
(G 13 (Af 42)
(G 14 (Af 43)
lkB))))))))))))))))))))))))))))))))))
def d69:C:=Yh
def b69:Body:=⟨[.cN (J 4) 6,.t (J 5),.t (J 6),.t (J 7)],d69⟩
def d70:C:=
(G 6 (Bh (J 0))
(G 4 (Af 6)
(G 10 (C5 .u64 (J 4))
(G 11 (AU 112 [(J 10)])
(G 13 (AU 111 [(J 0),(W (AI AT 0)),(J 4),(J 11),(J 1)])
Aq)))))
def b70:Body:=⟨[],d70⟩
def d71:C:=
(G 2 (CT (J 0))
(G 3 (CT (J 1))
(G 4 (AQ (W (AI AT 0)))
(B4 (G 5 (AE 0 (J 2))
(G 6 (AE 0 (J 5))
(G 7 (AO (J 6))
(G 8 (AE 0 (J 3))
(G 9 (AE 0 (J 8))
(G 10 (AO (J 9))
(G 11 (AZ .weak (AU 114 [(J 7),(J 10)]))
(G 12 (AE 0 (J 2))
(G 13 (AE 1 (J 12))
(Ee (J 13) (Ck (J 13) []
(G 14 (AO (J 13))
(G 15 (AE 0 (J 3))
(G 16 (AE 1 (J 15))
(Ee (J 16) (Ck (J 16) []
(G 17 (AO (J 16))
(G 18 (AZ .weak (AU 114 [(J 14),(J 17)]))
(G 19 (AE 0 (J 2))
(G 20 (AE 2 (J 19))
(Ee (J 20) (Ck (J 20) []
(G 21 (AO (J 20))
(G 22 (AE 0 (J 3))
(G 23 (AE 2 (J 22))
(Ee (J 23) (Ck (J 23) []
(G 24 (AO (J 23))
(G 25 (AZ .weak (AU 114 [(J 21),(J 24)]))
(G 26 (AE 5 (J 2))
(Ee (J 26) (Ck (J 26) []
(G 27 (AO (J 26))
(G 28 (AE 5 (J 3))
(Ee (J 28) (Ck (J 28) []
(G 29 (AO (J 28))
(G 30 (AZ .free (AU 114 [(J 27),(J 29)]))
(G 31 (AZ .AEk (Ap 4 (BX ty3.zero 4) [(0,1,(J 11)),(1,1,(J 18)),(2,1,(J 25)),(3,1,(J 30))]))
(G 32 (AZ .free (AU 113 [(J 31)]))
(G 4 (Af 32)
Ao)))))))))))))))))))))))))))))))))))))))))))))
def b71:Body:=⟨[.t (J 4)],d71⟩
def coB:C:=(G 11 (Aj iLt .i64 (J 10) (J 9))
(Bj 11
(BJ (Ab 1 (G 13 (CF 6 (J 8) (J 10))
(G 14 (BK 6 (J 13))
(G 5 (Bc 6 CR)
(G 4 (Af 10)
(cDo (Ad 6 (J 5) (J 14))
(G 15 (Em (.func 115) [] [(J 5)])
(G 6 (Af 15)
(G 16 (Em (.func 116) [] [(J 5)])
(G 7 (Af 16)
(G 19 (AU 74 [(J 0),(J 6)])
(G 20 (Dq (J 19))
(Ah 20 IN 22 (Af 0)
(Ah 20 IN 23 (Af 4)
(Ah 20 IN 24 (EL 124 6 (J 22) By (BY (J 23)) By)
(Ah 20 IN 25 (Af 7)
(Ah 20 IN 26 (AU 74 [(J 24),(J 25)])
(Ah 20 IN 27 (Dq (J 26))
(G 28 (A0 (J 20) (J 27) (W (.bool IS)))
(Bj 28
(G 30 (BK 6 (J 5))
(G 31 (Ap 1 (BX D4.zero 1) [(0,6,(J 30))])
(G 32 (Bm 6 64 124 (J 3) (J 31))
(G 3 (Af 32)
Aq))))
Aq))))))))))))))))))))
(G 33 (CO .i64 (BH .i64) (J 10) (W (AI AT 1)))
(G 10 (Af 33)
Aq)))
(CD 0)))
def coE:C:=G 2 (Af 3) Ao
def coS:C:=BJ (Ab 0 (A4 coB)) coE
def iQ:C:=(G 2 (AQ (W (.slice By 0 0)))
(G 3 (AQ (W (.slice By 0 0)))
(G 8 (Af 0)
(G 9 (Bh (J 8))
(G 10 (AQ (W (AI AT 0)))
coS)))))
def d72:C:=iQ
def b72:Body:=⟨[.t (J 2)],d72⟩
def d73:C:=
(G 2 (CT (J 0))
(G 3 (AQ (W (.bool IS)))
(G 4 (AO (J 1))
(G 5 (Bg (J 4))
(G 6 (AE 3 (J 5))
(G 7 (AO (J 6))
(G 8 (Em (.func 75) [] [(J 2)])
(G 9 (AU 74 [(J 7),(J 8)])
(G 3 (Af 9)
Ao)))))))))
def b73:Body:=⟨[.t (J 3)],d73⟩
def d74:C:=
(G 4 (AQ (W (.bool IS)))
(G 7 (AU 117 [(J 0),(J 1)])
(G 8 (Aj iGe .i64 (J 7) (W (AI AT 0)))
(G 4 (Af 8)
Ao))))
def b74:Body:=⟨[.t (J 4)],d74⟩
def d75:C:=
(G 2 (CT (J 0))
(G 3 (AQ (W (.bool IS)))
(G 4 (AE 5 (J 2))
(G 5 (AO (J 4))
(G 6 (AO (J 1))
(G 7 (Aj iEq .i64 (J 5) (J 6))
(G 3 (Af 7)
Ao)))))))
def b75:Body:=⟨[.t (J 3)],d75⟩
def d76:C:=
(G 4 (AQ (W (.bool IS)))
(G 7 (AU 118 [(J 0),(J 1)])
(G 8 (Aj iGe .i64 (J 7) (W (AI AT 0)))
(G 4 (Af 8)
Ao))))
def b76:Body:=⟨[.t (J 4)],d76⟩
def skB:C:=(G 14 (Aj iLt .i64 (J 13) (J 12))
(Bj 14
(BJ (Ab 1 (G 15 (CF 1 (J 11) (J 13))
(G 16 (AO (J 15))
(G 7 (Bc 1 zt3)
(cDo (Ad 1 (J 7) (J 16))
(G 18 (Em (.func 119) [] [(J 2),(J 7)])
(G 19 (Ap 1 (BX Tk.zero 1) [(0,1,(J 18))])
(G 20 (Bm 1 8 70 (J 5) (J 19))
(G 5 (Af 20)
Aq)))))))))
(G 21 (CO .i64 (BH .i64) (J 13) (W (AI AT 1)))
(G 13 (Af 21)
Aq)))
(CD 0)))
def skE:C:=(B4 (G 22 (AO (J 2))
(G 24 (AO (J 2))
(G 25 (Bg (J 24))
(G 26 (AE 0 (J 25))
(G 27 (AO (J 26))
(G 28 (Em (.func 121) [(J 27)] [])
(G 29 (AZ .AEk (Ap 1 (BX Tk.zero 1) [(0,1,(J 28))]))
(Ck (J 5) [(J 2)]
(G 30 (Ja (J 5) (Bm 1 8 70 (J 5) (J 29)))
(G 31 (AZ .free (AU 98 [(J 22),(J 30)]))
(G 4 (Af 31)
Ao))))))))))))
def skS:C:=BJ (Ab 0 (A4 skB)) skE
def bH:C:=(G 2 (CT (J 0))
(G 4 (AQ (W (AI AT 0)))
(G 9 (Bh (J 1))
(G 10 (Aj iEq .i64 (J 9) (W (AI AT 0)))
(Bj 10
(G 4 (AQ (W (AI AT 0)))
Ao)
(G 5 (AQ (W (.slice By 0 0)))
(G 11 (Af 1)
(G 12 (Bh (J 11))
(G 13 (AQ (W (AI AT 0)))
skS)))))))))
def d77:C:=bH
def b77:Body:=⟨[.t (J 4)],d77⟩
def d78:C:=
(G 1 (CT (J 0))
(G 2 (Bc 5 DT)
(G 3 (AE 0 (J 1))
(G 4 (AE 4 (J 3))
(G 5 (AO (J 4))
(G 6 (AU 90 [(J 5)])
(G 7 (AE 0 (J 1))
(G 8 (AE 4 (J 7))
(cDo (Ad 1 (J 8) (J 6))
(G 9 (AE 0 (J 1))
(G 10 (BK 5 (J 9))
(cDo (Ad 5 (J 2) (J 10))
Ao))))))))))))
def b78:Body:=⟨[.cN (J 2) 5],d78⟩
def N9:C:=(G 6 (Aj iGt .u64 (J 1) (W (.int .u64 127)))
(Bj 6
(Ab 1 (G 9 (QP .u64 (J 1) (W (.int .u64 128)))
(G 10 (CO .u64 (BH .u64) (J 9) (W (.int .u64 128)))
(G 11 (C5 .u8 (J 10))
(G 12 (Ap 1 (BX ty5.zero 1) [(0,1,(J 11))])
(G 13 (Bm 1 1 5 (J 0) (J 12))
(G 15 (MC .u64 (J 1) (W (.int .u64 128)))
(G 0 (Af 13)
(G 1 (Af 15)
Aq)))))))))
(CD 0)))
def fY:C:=(G 18 (C5 .u8 (J 1))
(G 19 (Ap 1 (BX ty5.zero 1) [(0,1,(J 18))])
(G 20 (Bm 1 1 5 (J 0) (J 19))
(G 4 (Af 20)
Ao))))
def d79:C:=G 4 (AQ (W (.slice By 0 0))) (BJ (Ab 0 (A4 N9)) fY)
def b79:Body:=⟨[.t (J 4)],d79⟩
def suB:C:=(G 12 (Aj iLt .i64 (J 11) (J 10))
(Bj 12
(BJ (Ab 1 (G 6 (Af 11)
(B4 (G 16 (C5 .u8 (J 5))
(G 19 (CF 1 (J 1) (J 6))
(G 20 (AO (J 19))
(G 21 (LY zD .u8 (J 16) (J 20))
(G 22 (Bg (J 0))
(G 23 (Ci 256 1 (J 22) (J 21))
(G 24 (AO (J 23))
(G 26 (MD .u32 (J 5) (W (.int .u64 8)))
(G 27 (LY zD .u32 (J 24) (J 26))
(G 5 (Af 27)
Aq)))))))))))))
(G 28 (CO .i64 (BH .i64) (J 11) (W (AI AT 1)))
(G 11 (Af 28)
Aq)))
(CD 0)))
def suE:C:=(G 30 (C7 xO .u32 (W (.int .u32 4294967295)) (J 5))
(G 4 (Af 30)
Ao))
def suS:C:=BJ (Ab 0 (A4 suB)) suE
def iR:C:=(G 4 (AQ (W (.int .u32 0)))
(G 8 (oEq Tj.k IS (J 0) (W (.pointer By)))
(Bj 8
(G 4 (AQ (W (.int .u32 0)))
Ao)
(G 5 (AQ (W (.int .u32 4294967295)))
(G 10 (Bh (J 1))
(G 11 (AQ (W (AI AT 0)))
suS))))))
def d80:C:=iR
def b80:Body:=⟨[.t (J 4)],d80⟩
def d82:C:=
(G 4 (AQ (W (.slice By 0 0)))
(G 5 (AQ (W (AI AT 0)))
(G 8 (Bh (J 1))
(G 9 (Aj iLt .i64 (J 8) (W (AI AT 4)))
(Bj 9
(G 4 (AQ (W (.slice By 0 0)))
(G 5 (AQ (W (AI AT 11)))
Ao))
(G 12 (Bh (J 1))
(G 13 (C7 xO .i64 (J 12) (W (AI AT 4)))
(G 14 (EL 5 1 (J 1) By (BY (J 13)) By)
(G 15 (AU 90 [(J 14)])
(G 6 (Af 15)
(B4 (G 18 (AZ .weak (AU 46 [(J 0),(J 6)]))
(G 19 (F4 (J 18))
(Ee (J 1) (Ck (J 1) []
(G 21 (F4 (J 1))
(G 22 (KM (λa b=> !bEq a b) (J 19) (J 21))
(Bj 22
(G 4 (AQ (W (.slice By 0 0)))
(G 5 (AQ (W (AI AT 12)))
Ao))
(G 4 (Af 6)
(G 5 (AQ (W (AI AT 0)))
Ao))))))))))))))))))))
def b82:Body:=⟨[.t (J 4),.t (J 5)],d82⟩
def Ro:C:=(G 22 (Bh (J 0))
(G 23 (Aj iLt .i64 (J 8) (J 22))
(Bj 23
(BJ (Ab 1 (G 28 (CF 1 (J 0) (J 8))
(G 29 (AO (J 28))
(G 32 (C7 xO .i64 (J 8) (J 1))
(G 9 (Af 29)
(G 10 (Af 32)
(G 34 (Aj iGt .i64 (J 10) (W (AI AT 0)))
(Ah 34 IN 36 (Af 9)
(Ah 34 IN 37 (Aj iEq .u8 (J 36) (W (.int .u8 0)))
(G 38 (A0 (J 34) (J 37) (W (.bool IS)))
(Ah 38 IS 40 (Af 10)
(Ah 38 IS 41 (Aj iGt .i64 (J 40) (W (AI AT 8)))
(Ah 38 IS 42 (Af 41)
(Ah 42 IN 43 (Af 9)
(Ah 42 IN 44 (Aj iGt .u8 (J 43) (W (.int .u8 1)))
(Ah 38 IS 45 (A0 (J 42) (J 44) (W (.bool IS)))
(G 46 (A0 (J 38) (W (.bool IN)) (J 45))
(Bj 46
(G 4 (AQ (W (.int .u64 0)))
(G 5 (AQ (W (AI AT 0)))
(G 6 (AQ (W (AI AT 10)))
Ao)))
(G 49 (QP .u8 (J 9) (W (.int .u8 128)))
(G 50 (C5 .u64 (J 49))
(G 52 (C7 AA8 .i64 (W (AI AT 7)) (J 10))
(G 53 (OJ .u64 (J 50) (J 52))
(G 54 (CO .u64 (BH .u64) (J 7) (J 53))
(G 7 (Af 54)
(G 56 (Aj iLt .u8 (J 9) (W (.int .u8 128)))
(Bj 56
(G 59 (CO .i64 (BH .i64) (J 8) (W (AI AT 1)))
(G 4 (Af 7)
(G 5 (Af 59)
(G 6 (AQ (W (AI AT 0)))
Ao))))
Aq))))))))))))))))))))))))))
(G 25 (CO .i64 (BH .i64) (J 8) (W (AI AT 1)))
(G 8 (Af 25)
Aq)))
(CD 0))))
def qf:C:=(G 4 (AQ (W (.int .u64 0))) (G 5 (AQ (W (AI AT 0))) (G 6 (AQ (W (AI AT 11))) Ao)))
def NF:C:=G 7 (AQ (W (.int .u64 0))) (G 8 (Af 1) (BJ (Ab 0 (A4 Ro)) qf))
def iS:C:=(G 4 (AQ (W (.int .u64 0)))
(G 5 (AQ (W (AI AT 0)))
(G 6 (AQ (W (AI AT 0)))
(G 12 (Aj iLt .i64 (J 1) (W (AI AT 0)))
(Ah 12 IS 14 (Af 1)
(Ah 12 IS 15 (Af 0)
(Ah 12 IS 16 (Bh (J 15))
(Ah 12 IS 17 (Aj iGt .i64 (J 14) (J 16))
(G 18 (A0 (J 12) (W (.bool IN)) (J 17))
(Bj 18
(G 4 (AQ (W (.int .u64 0)))
(G 5 (AQ (W (AI AT 0)))
(G 6 (AQ (W (AI AT 2)))
Ao)))
NF))))))))))
def d84:C:=iS
def b84:Body:=⟨[.t (J 4),.t (J 5),.t (J 6)],d84⟩
def d89:C:=
(G 2 (AQ (W (AI AT 0)))
(BJ (Ab 0 (G 5 (oEq Hs.k IS (J 0) (W (.pointer By)))
(Ah 5 IS 7 (Af 0)
(Ah 5 IS 8 (Bg (J 7))
(Ah 5 IS 9 (AE 0 (J 8))
(Ah 5 IS 10 (AO (J 9))
(Ah 5 IS 11 (oEq VZ.k IS (J 10) (W (.pointer By)))
(G 12 (A0 (J 5) (W (.bool IN)) (J 11))
(G 3 (Af 12)
(Bj 3
(G 2 (AQ (W (AI AT 1)))
Ao)
(G 15 (Bg (J 0))
(G 16 (AE 6 (J 15))
(G 17 (AO (J 16))
(G 13 (Af 17)
(Bj 13
(G 2 (AQ (W (AI AT 17)))
Ao)
Aq)))))))))))))))
(G 2 (AQ (W (AI AT 0)))
Ao)))
def b89:Body:=⟨[.t (J 2)],d89⟩
def d90:C:=
(G 2 (AQ (W (.slice By 0 0)))
(G 4 (oEq MI.k IS (J 0) (W (.slice By 0 0)))
(Bj 4
(G 2 (AQ (W (.slice By 0 0)))
Ao)
(G 5 (Ap 0 (BX ty5.zero 0) [])
(G 7 (Bm 1 1 5 (J 5) (J 0))
(G 2 (Af 7)
Ao))))))
def b90:Body:=⟨[.t (J 2)],d90⟩
def d91:C:=
(G 1 (CT (J 0))
(G 2 (AQ (W (.bool IS)))
(G 3 (AE 0 (J 1))
(G 4 (AO (J 3))
(G 5 (Aj iGe .i64 (J 4) (W (AI AT 0)))
(Ah 5 IN 7 (AE 0 (J 1))
(Ah 5 IN 8 (AO (J 7))
(Ah 5 IN 9 (Aj iLe .i64 (J 8) (W (AI AT 1099511627776)))
(G 10 (A0 (J 5) (J 9) (W (.bool IS)))
(Ah 10 IN 12 (AE 1 (J 1))
(Ah 10 IN 13 (AO (J 12))
(Ah 10 IN 14 (Aj iGe .i64 (J 13) (W (AI AT 0)))
(G 15 (A0 (J 10) (J 14) (W (.bool IS)))
(Ah 15 IN 17 (AE 1 (J 1))
(Ah 15 IN 18 (AO (J 17))
(Ah 15 IN 19 (Aj iLt .i64 (J 18) (W (AI AT 255)))
(G 20 (A0 (J 15) (J 19) (W (.bool IS)))
(Ah 20 IN 22 (AE 2 (J 1))
(Ah 20 IN 23 (AO (J 22))
(Ah 20 IN 24 (Aj iGe .i64 (J 23) (W (AI AT 1)))
(G 25 (A0 (J 20) (J 24) (W (.bool IS)))
(Ah 25 IN 27 (AE 2 (J 1))
(Ah 25 IN 28 (AO (J 27))
(Ah 25 IN 29 (Aj iLe .i64 (J 28) (W (AI AT 1099511627776)))
(G 30 (A0 (J 25) (J 29) (W (.bool IS)))
(Ah 30 IN 32 (AE 3 (J 1))
(Ah 30 IN 33 (AO (J 32))
(Ah 30 IN 34 (Aj iEq .u8 (J 33) (W (.int .u8 1)))
(Ah 30 IN 35 (Af 34)
(Ah 35 IS 36 (AE 3 (J 1))
(Ah 35 IS 37 (AO (J 36))
(Ah 35 IS 38 (Aj iEq .u8 (J 37) (W (.int .u8 2)))
(Ah 30 IN 39 (A0 (J 35) (W (.bool IN)) (J 38))
(G 40 (A0 (J 30) (J 39) (W (.bool IS)))
(Ah 40 IN 42 (AE 4 (J 1))
(Ah 40 IN 43 (AO (J 42))
(Ah 40 IN 44 (Bh (J 43))
(Ah 40 IN 45 (Aj iLe .i64 (J 44) (W (AI AT 65536)))
(G 46 (A0 (J 40) (J 45) (W (.bool IS)))
(G 2 (Af 46)
Ao))))))))))))))))))))))))))))))))))))))))
def b91:Body:=⟨[.t (J 2)],d91⟩
def d92:C:=
(G 5 (CT (J 1))
(G 6 (CT (J 2))
(G 7 (CT (J 3))
(G 8 (AQ (W (AI AT 0)))
(G 10 (Bg (J 0))
(G 11 (AE 3 (J 10))
(G 12 (AO (J 11))
(G 13 (Em (.func 124) [] [(J 5),(J 6),(J 7)])
(G 14 (AU 117 [(J 12),(J 13)])
(G 8 (Af 14)
Ao))))))))))
def b92:Body:=⟨[.t (J 8)],d92⟩
def ebB:C:=(G 14 (Aj iLt .i64 (J 13) (J 12))
(Bj 14
(BJ (Ab 1 (G 5 (Af 13)
(B4 (G 18 (CF 1 (J 0) (J 5))
(G 19 (AO (J 18))
(G 22 (CF 1 (J 1) (J 5))
(G 23 (AO (J 22))
(G 24 (Aj iNe .u8 (J 19) (J 23))
(Bj 24
(G 4 (AQ (W (.bool IS)))
Ao)
Aq)))))))))
(G 25 (CO .i64 (BH .i64) (J 13) (W (AI AT 1)))
(G 13 (Af 25)
Aq)))
(CD 0)))
def eqE:C:=G 4 (AQ (W (.bool IN))) Ao
def eqS:C:=BJ (Ab 0 (A4 ebB)) eqE
def bK:C:=(G 4 (AQ (W (.bool IS)))
(G 7 (Bh (J 0))
(G 9 (Bh (J 1))
(G 10 (Aj iNe .i64 (J 7) (J 9))
(Bj 10
(G 4 (AQ (W (.bool IS)))
Ao)
(G 12 (Bh (J 0))
(G 13 (AQ (W (AI AT 0)))
eqS)))))))
def d93:C:=bK
def b93:Body:=⟨[.t (J 4)],d93⟩
def d94:C:=
(G 8 (AQ (W (.bool IS)))
(G 13 (AU 125 [(J 0),(J 1),(J 2)])
(G 9 (Af 13)
(G 15 (Aj iGe .i64 (J 9) (W (AI AT 0)))
(Ah 15 IN 17 (Af 0)
(Ah 15 IN 18 (Bg (J 17))
(Ah 15 IN 19 (AE 3 (J 18))
(Ah 15 IN 20 (AO (J 19))
(Ah 15 IN 21 (Af 9)
(Ah 15 IN 22 (CF 6 (J 20) (J 21))
(Ah 15 IN 23 (AE 0 (J 22))
(Ah 15 IN 24 (AE 2 (J 23))
(Ah 15 IN 25 (AO (J 24))
(Ah 15 IN 26 (Af 3)
(Ah 15 IN 27 (Aj iGe .i64 (J 25) (J 26))
(G 28 (A0 (J 15) (J 27) (W (.bool IS)))
(G 8 (Af 28)
Ao)))))))))))))))))
def b94:Body:=⟨[.t (J 8)],d94⟩
def heB:C:=(G 36 (Aj iLt .i64 (J 35) (J 34))
(Bj 36
(BJ (Ab 1 (G 37 (CF 1 (J 33) (J 35))
(G 38 (AO (J 37))
(G 8 (Af 38)
(G 41 (AU 79 [(J 6),(J 8)])
(G 6 (Af 41)
Aq))))))
(G 42 (CO .i64 (BH .i64) (J 35) (W (AI AT 1)))
(G 35 (Af 42)
Aq)))
(CD 0)))
def heE:C:=(G 46 (Bh (J 6))
(G 47 (C7 xO .i64 (W (AI AT 60)) (J 46))
(G 48 (F2 1 1 5 ty5.zero (J 6) (J 47))
(G 49 (AU 46 [(J 0),(J 48)])
(G 4 (Af 49)
(G 5 (AQ (W (AI AT 0)))
Ao))))))
def heS:C:=BJ (Ab 0 (A4 heB)) heE
def bM:C:=(G 3 (CT (J 1))
(G 4 (AQ (W (.slice By 0 0)))
(G 5 (AQ (W (AI AT 0)))
(G 9 (BK 5 (J 3))
(G 10 (AU 91 [(J 9)])
(G 11 (Dq (J 10))
(Bj 11
(G 4 (AQ (W (.slice By 0 0)))
(G 5 (AQ (W (AI AT 2)))
Ao))
(G 6 (AQ (W (.slice By 0 0)))
(B4 (G 12 (AE 3 (J 3))
(Ee (J 12) (Ck (J 12) []
(G 13 (AO (J 12))
(G 14 (C5 .u64 (J 13))
(G 15 (AE 0 (J 3))
(Ee (J 15) (Ck (J 15) []
(G 16 (AO (J 15))
(G 17 (C5 .u64 (J 16))
(G 18 (AE 1 (J 3))
(Ee (J 18) (Ck (J 18) []
(G 19 (AO (J 18))
(G 20 (C5 .u64 (J 19))
(G 21 (AE 2 (J 3))
(Ee (J 21) (Ck (J 21) []
(G 22 (AO (J 21))
(G 23 (C5 .u64 (J 22))
(G 24 (AE 4 (J 3))
(Ee (J 24) (Ck (J 24) []
(G 25 (AO (J 24))
(G 26 (Bh (J 25))
(G 27 (C5 .u64 (J 26))
(G 29 (AE 4 (J 3))
(G 30 (AO (J 29))
(G 31 (AZ .weak (AU 80 [(J 0),(J 30)]))
(G 32 (C5 .u64 (J 31))
(G 33 (AZ .AEk (Ap 6 (BX Ti.zero 6) [(0,1,(J 14)),(1,1,(J 17)),(2,1,(J 20)),(3,1,(J 23)),(4,1,(J 27)),(5,1,(J 32))]))
(G 34 (Bh (J 33))
(G 35 (AQ (W (AI AT 0)))
heS))))))))))))))))))))))))))))))))))))))))))
def d95:C:=bM
def b95:Body:=⟨[.t (J 4),.t (J 5)],d95⟩
def wrB:C:=(G 13 (Bh (J 2))
(G 14 (Aj iLt .i64 (J 8) (J 13))
(Bj 14
(BJ (Ab 1 (G 17 (G0 1 ty5.zero (W (AI AT 64)) (W (AI AT 64)))
(G 9 (Bc 1 vI)
(cDo (Ad 1 (J 9) (J 17))
(B4 (G 18 (AO (J 9))
(G 21 (EL 5 1 (J 2) (BY (J 8)) By By)
(G 22 (AZ .free (KJ 1 (J 18) (J 21)))
(G 25 (MC .i64 (J 8) (W (AI AT 64)))
(G 26 (CO .i64 (BH .i64) (J 1) (J 25))
(G 10 (Bc 1 zt3)
(cDo (Ad 1 (J 10) (J 26))
(G 28 (Em (.func 126) [] [(J 3),(J 10),(J 9)])
(G 29 (Ap 1 (BX Tk.zero 1) [(0,1,(J 28))])
(G 30 (Bm 1 8 70 (J 7) (J 29))
(G 7 (Af 30)
Aq))))))))))))))))
(G 16 (CO .i64 (BH .i64) (J 8) (W (AI AT 64)))
(G 8 (Af 16)
Aq)))
(CD 0))))
def wrE:C:=(G 32 (AO (J 3))
(G 33 (Bg (J 32))
(G 34 (AE 0 (J 33))
(G 35 (AO (J 34))
(G 36 (Em (.func 121) [(J 35)] [])
(G 37 (Ap 1 (BX Tk.zero 1) [(0,1,(J 36))])
(G 38 (Bm 1 8 70 (J 7) (J 37))
(G 6 (Af 38)
Ao))))))))
def wrS:C:=BJ (Ab 0 (A4 wrB)) wrE
def iT:C:=(G 3 (CT (J 0))
(G 6 (AQ (W (.slice By 0 0)))
(G 7 (AQ (W (.slice By 0 0)))
(G 8 (AQ (W (AI AT 0)))
wrS))))
def d96:C:=iT
def b96:Body:=⟨[.t (J 6)],d96⟩
def d97:C:=
(G 4 (AQ (W (AI AT 0)))
(G 7 (Bg (J 0))
(G 8 (AE 2 (J 7))
(G 9 (AO (J 8))
(G 10 (AU 68 [(J 9)])
(G 11 (C7 AA8 .i64 (J 1) (J 10))
(G 4 (Af 11)
Ao)))))))
def b97:Body:=⟨[.t (J 4)],d97⟩
def alB:C:=(G 11 (Aj iLt .i64 (J 10) (J 9))
(Bj 11
(BJ (Ab 1 (G 12 (CF 1 (J 8) (J 10))
(G 13 (AO (J 12))
(G 6 (Af 13)
(G 15 (ET (J 6) [])
(G 7 (Af 15)
(G 17 (Aj iNe .i64 (J 7) (W (AI AT 0)))
(Bj 17
(G 19 (Bg (J 0))
(G 20 (AE 6 (J 19))
(cDo (Ad 1 (J 20) (W (.bool IN)))
(G 4 (Af 7)
Ao))))
Aq))))))))
(G 22 (CO .i64 (BH .i64) (J 10) (W (AI AT 1)))
(G 10 (Af 22)
Aq)))
(CD 0)))
def alE:C:=G 4 (AQ (W (AI AT 0))) Ao
def alS:C:=BJ (Ab 0 (A4 alB)) alE
def Yi:C:=(G 4 (AQ (W (AI AT 0)))
(G 8 (Af 1)
(G 9 (Bh (J 8))
(G 10 (AQ (W (AI AT 0)))
alS))))
def d98:C:=Yi
def b98:Body:=⟨[.t (J 4)],d98⟩
def d99:C:=
(G 2 (AQ (W (.slice By 0 0)))
(G 4 (oEq Vb.k IS (J 0) (W (.slice By 0 0)))
(Bj 4
(G 2 (AQ (W (.slice By 0 0)))
Ao)
(G 5 (Ap 0 (BX ty3.zero 0) [])
(G 7 (Bm 1 8 3 (J 5) (J 0))
(G 2 (Af 7)
Ao))))))
def b99:Body:=⟨[.t (J 2)],d99⟩
def az:C:=
(G 2 (AQ (W (.slice By 0 0)))
(G 4 (oEq PQ.k IS (J 0) (W (.slice By 0 0)))
(Bj 4
(G 2 (AQ (W (.slice By 0 0)))
Ao)
(G 5 (Ap 0 (BX D4.zero 0) [])
(G 7 (Bm 6 64 124 (J 5) (J 0))
(G 2 (Af 7)
Ao))))))
def mR:Body:=⟨[.t (J 2)],az⟩
def pM:C:=
(G 4 (AQ (W (AI AT 0)))
(G 7 (Bg (J 0))
(G 8 (AE 3 (J 7))
(G 9 (AO (J 8))
(G 11 (CF 6 (J 9) (J 1))
(G 12 (AE 5 (J 11))
(G 13 (AO (J 12))
(G 5 (Af 13)
(G 16 (Bg (J 0))
(G 17 (AE 3 (J 16))
(G 18 (AO (J 17))
(G 19 (AU 100 [(J 18)])
(G 22 (CO .i64 (BH .i64) (J 1) (W (AI AT 1)))
(G 23 (AU 127 [(J 19),(J 1),(J 22)])
(G 24 (Bg (J 0))
(G 25 (AE 3 (J 24))
(cDo (Ad 1 (J 25) (J 23))
(G 28 (Bg (J 0))
(G 29 (AE 4 (J 28))
(G 30 (AO (J 29))
(G 31 (AU 99 [(J 30)])
(G 33 (Ap 1 (BX ty3.zero 1) [(0,1,(J 5))])
(G 34 (Bm 1 8 3 (J 31) (J 33))
(G 35 (Bg (J 0))
(G 36 (AE 4 (J 35))
(cDo (Ad 1 (J 36) (J 34))
(G 38 (Bg (J 0))
(G 39 (AE 4 (J 38))
(G 40 (AO (J 39))
(G 41 (AU 104 [(J 40)])
(G 4 (Af 5)
Ao)))))))))))))))))))))))))))))))
def mS:Body:=⟨[.t (J 4)],pM⟩
def hU:C:=
(G 4 (AQ (W (AI AT 0)))
(G 8 (Bg (J 0))
(G 9 (AE 3 (J 8))
(G 10 (AO (J 9))
(G 12 (CF 6 (J 10) (J 1))
(G 13 (AE 5 (J 12))
(G 14 (AO (J 13))
(G 15 (Ap 1 (BX ty3.zero 1) [(0,1,(J 14))])
(G 16 (AU 77 [(J 0),(J 15)])
(G 5 (Af 16)
(G 18 (Aj iNe .i64 (J 5) (W (AI AT 0)))
(Bj 18
(G 4 (Af 5)
Ao)
(G 22 (AU 101 [(J 0),(J 1)])
(G 4 (AQ (W (AI AT 0)))
Ao))))))))))))))
def mT:Body:=⟨[.t (J 4)],hU⟩
def pN:C:=
(G 4 (Bh (J 0))
(G 2 (Af 4)
(G 8 (C5 .u64 (J 2))
(G 9 (AU 112 [(J 8)])
(G 10 (AU 129 [(J 0),(W (AI AT 0)),(J 2),(J 9)])
Aq)))))
def mU:Body:=⟨[],pN⟩
def pO:C:=
(G 4 (AQ (W (.slice By 0 0)))
(G 5 (AQ (W (AI AT 0)))
(G 11 (AU 130 [(J 0),(J 1)])
(G 6 (Af 11)
(G 13 (Aj iNe .i64 (J 6) (W (AI AT 0)))
(Bj 13
(G 4 (AQ (W (.slice By 0 0)))
(G 5 (Af 6)
Ao))
(G 17 (Bg (J 0))
(G 18 (AE 1 (J 17))
(G 19 (AO (J 18))
(G 21 (Fi ⟨IS,[.i .i64]⟩ (.agg ⟨Km.zero⟩) IN (J 19) (J 1))
(G 22 (AW 0 (J 21))
(G 23 (AW 1 (J 21))
(G 7 (Bc 64 Jk)
(cDo (Ad 64 (J 7) (J 22))
(G 8 (Af 23)
(G 25 (Dq (J 8))
(BJ (Bj 25
(G 27 (Bg (J 0))
(G 28 (AE 0 (J 27))
(G 29 (AO (J 28))
(G 31 (CF 64 (J 29) (J 1))
(G 32 (BK 64 (J 31))
(cDo (Ad 64 (J 7) (J 32))
Aq))))))
Aq)
(G 33 (GW 64 1 (J 7) By By By)
(G 4 (Af 33)
(G 5 (AQ (W (AI AT 0)))
Ao))))))))))))))))))))
def mV:Body:=⟨[.t (J 4),.t (J 5)],pO⟩
def Ye:C:=
(G 4 (AQ (W (.bool IS)))
(G 7 (AU 131 [(J 0),(J 1)])
(G 8 (Aj iGe .i64 (J 7) (W (AI AT 0)))
(G 4 (Af 8)
Ao))))
def mW:Body:=⟨[.t (J 4)],Ye⟩
def pP:C:=
(G 2 (AQ (W (.bool IS)))
(G 4 (Aj iNe .u8 (J 0) (W (.int .u8 0)))
(G 2 (Af 4)
Ao)))
def mX:Body:=⟨[.t (J 2)],pP⟩
def paB:C:=(G 30 (Aj iLt .i64 (J 29) (W (AI AT 6)))
(Bj 30
(BJ (Ab 1 (G 12 (Af 29)
(G 36 (AU 84 [(J 8),(J 11)])
(G 37 (AW 0 (J 36))
(G 38 (AW 1 (J 36))
(G 39 (AW 2 (J 36))
(G 40 (Ci 6 1 (J 10) (J 12))
(cDo (Ad 1 (J 40) (J 37))
(G 11 (Af 38)
(G 9 (Af 39)
(G 42 (Aj iNe .i64 (J 9) (W (AI AT 0)))
(Ah 42 IS 44 (Af 12)
(Ah 42 IS 45 (Ci 6 1 (J 10) (J 44))
(Ah 42 IS 46 (AO (J 45))
(Ah 42 IS 47 (Aj iGt .u64 (J 46) (W (.int .u64 1099511627776)))
(G 48 (A0 (J 42) (W (.bool IN)) (J 47))
(Bj 48
(G 49 (BW JE.zero [])
(cDo (Ad 5 (J 4) (J 49))
(G 5 (AQ (W (AI AT 0)))
(G 6 (AQ (W (.int .u32 0)))
(G 7 (AQ (W (.bool IS)))
Ao)))))
Aq)))))))))))))))))
(G 50 (CO .i64 (BH .i64) (J 29) (W (AI AT 1)))
(G 29 (Af 50)
Aq)))
(CD 0)))
def paE:C:=(G 51 (Ci 6 1 (J 10) (W (AI AT 0)))
(G 52 (AO (J 51))
(G 53 (ZN (J 52) (W (.int .u64 9)))
(G 54 (C5 .u8 (J 53))
(G 55 (Ci 6 1 (J 10) (W (AI AT 1)))
(G 56 (AO (J 55))
(G 57 (C5 .i64 (J 56))
(G 58 (Ci 6 1 (J 10) (W (AI AT 2)))
(G 59 (AO (J 58))
(G 60 (C5 .i64 (J 59))
(G 61 (Ci 6 1 (J 10) (W (AI AT 3)))
(G 62 (AO (J 61))
(G 63 (C5 .i64 (J 62))
(G 64 (BW JE.zero [(3,1,(J 54)),(0,1,(J 57)),(1,1,(J 60)),(2,1,(J 63))])
(G 13 (Bc 5 DT)
(cDo (Ad 5 (J 13) (J 64))
(G 14 (AQ (W (.func (.func 132) #[] #[])))
(G 65 (BK 5 (J 13))
(G 66 (AU 91 [(J 65)])
(G 67 (Dq (J 66))
(Ah 67 IS 69 (Ci 6 1 (J 10) (W (AI AT 4)))
(Ah 67 IS 70 (AO (J 69))
(Ah 67 IS 71 (Aj iGt .u64 (J 70) (W (.int .u64 65536)))
(G 72 (A0 (J 67) (W (.bool IN)) (J 71))
(Ah 72 IS 74 (Ci 6 1 (J 10) (W (AI AT 5)))
(Ah 72 IS 75 (AO (J 74))
(Ah 72 IS 76 (Aj iGt .u64 (J 75) (W (.int .u64 4294967295)))
(G 77 (A0 (J 72) (W (.bool IN)) (J 76))
(Ah 77 IS 79 (Af 8)
(Ah 77 IS 80 (Af 11)
(Ah 77 IS 81 (EL 5 1 (J 79) (BY (J 80)) By By)
(Ah 77 IS 82 (Af 14)
(Ah 77 IS 83 (AU 107 [(J 81),(J 82)])
(G 84 (A0 (J 77) (W (.bool IN)) (J 83))
(Bj 84
(G 85 (BW JE.zero [])
(cDo (Ad 5 (J 4) (J 85))
(G 5 (AQ (W (AI AT 0)))
(G 6 (AQ (W (.int .u32 0)))
(G 7 (AQ (W (.bool IS)))
Ao)))))
(B4 (G 86 (BK 5 (J 13))
(G 87 (Ci 6 1 (J 10) (W (AI AT 4)))
(G 88 (AO (J 87))
(G 89 (C5 .i64 (J 88))
(G 90 (Ci 6 1 (J 10) (W (AI AT 5)))
(G 91 (AO (J 90))
(G 92 (C5 .u32 (J 91))
(Ck (J 4) [(J 87),(J 90)]
(cDo (Ja (J 4) (Ad 5 (J 4) (J 86)))
(G 5 (Af 89)
(G 6 (Af 92)
(G 7 (AQ (W (.bool IN)))
Ao))))))))))))))))))))))))))))))))))))))))))))))))
def paS:C:=BJ (Ab 0 (A4 paB)) paE
def Lo:C:=(G 4 (Bc 5 DT)
(G 5 (AQ (W (AI AT 0)))
(G 6 (AQ (W (.int .u32 0)))
(G 7 (AQ (W (.bool IS)))
(G 18 (AU 82 [(J 0),(J 1)])
(G 19 (AW 0 (J 18))
(G 20 (AW 1 (J 18))
(G 8 (Af 19)
(G 9 (Af 20)
(G 22 (Aj iNe .i64 (J 9) (W (AI AT 0)))
(Ah 22 IS 24 (Af 8)
(Ah 22 IS 25 (Bh (J 24))
(Ah 22 IS 26 (Aj iNe .i64 (J 25) (W (AI AT 60)))
(G 27 (A0 (J 22) (W (.bool IN)) (J 26))
(Bj 27
(G 28 (BW JE.zero [])
(cDo (Ad 5 (J 4) (J 28))
(G 5 (AQ (W (AI AT 0)))
(G 6 (AQ (W (.int .u32 0)))
(G 7 (AQ (W (.bool IS)))
Ao)))))
(G 10 (Bc 6 PU)
(G 11 (AQ (W (AI AT 0)))
(G 29 (AQ (W (AI AT 0)))
paS))))))))))))))))))
def pQ:C:=Lo
def mY:Body:=⟨[.cN (J 4) 5,.t (J 5),.t (J 6),.t (J 7)],pQ⟩
def reB:C:=(G 13 (Bh (J 8))
(G 15 (Aj iLt .i64 (J 13) (J 2))
(Bj 15
(BJ (Ab 1 (B4 (G 20 (Bg (J 0))
(G 21 (AE 0 (J 20))
(Ee (J 21) (Ck (J 21) []
(G 22 (AO (J 21))
(G 25 (AZ .weak (AU 97 [(J 0),(J 1)]))
(G 26 (CO .i64 (BH .i64) (J 25) (W (AI AT 1)))
(G 28 (CO .i64 (BH .i64) (J 26) (J 9))
(G 29 (AZ .free (AU 106 [(J 22),(J 28)]))
(G 30 (AW 0 (J 29))
(G 31 (AW 1 (J 29))
(G 10 (Af 30)
(G 11 (Af 31)
(G 33 (Aj iNe .i64 (J 11) (W (AI AT 0)))
(Bj 33
(G 6 (AQ (W (.slice By 0 0)))
(G 7 (Af 11)
Ao))
(G 37 (Bm 1 1 5 (J 8) (J 10))
(G 8 (Af 37)
Aq)))))))))))))))))))
(G 17 (CO .i64 (BH .i64) (J 9) (W (AI AT 1)))
(G 9 (Af 17)
Aq)))
(CD 0))))
def reE:C:=(G 41 (EL 5 1 (J 8) By (BY (J 2)) (BY (J 2)))
(G 6 (Af 41)
(G 7 (AQ (W (AI AT 0)))
Ao)))
def reS:C:=BJ (Ab 0 (A4 reB)) reE
def WZ:C:=(G 6 (AQ (W (.slice By 0 0)))
(G 7 (AQ (W (AI AT 0)))
(G 8 (AQ (W (.slice By 0 0)))
(G 9 (AQ (W (AI AT 0)))
reS))))
def pR:C:=WZ
def mZ:Body:=⟨[.t (J 6),.t (J 7)],pR⟩
def pdT:C:=(G 32 (Aj iEq .i64 (J 3) (W (AI AT 0)))
(Bj 32
(G 37 (AU 134 [(J 0),(J 1),(J 2),(J 4)])
Ao)
(G 39 (Dq (J 10))
(BJ (Bj 39
(G 44 (AU 135 [(J 0),(J 1),(J 2),(J 4)])
(G 46 (C7 xO .i64 (J 3) (W (AI AT 1)))
(G 3 (Af 46)
Aq)))
Aq)
(G 52 (AU 136 [(J 0),(J 1),(J 2),(J 4)])
(G 53 (AW 0 (J 52))
(G 54 (AW 1 (J 52))
(G 13 (Af 53)
(G 14 (Af 54)
(G 56 (Aj iEq .i64 (J 14) (W (AI AT 2)))
(BJ (Bj 56
(G 61 (AU 137 [(J 0),(J 1),(J 2),(J 4)])
(G 63 (C7 xO .i64 (J 2) (W (AI AT 1)))
(G 66 (C7 xO .i64 (J 13) (J 1))
(G 67 (C7 xO .i64 (J 63) (J 66))
(G 13 (Af 67)
(G 14 (AQ (W (AI AT 1)))
Aq))))))
Aq)
(Ah 10 IN 70 (Af 11)
(G 71 (A0 (J 10) (J 70) (W (.bool IS)))
(Ah 71 IN 73 (Af 14)
(Ah 71 IN 74 (Aj iEq .i64 (J 73) (W (AI AT 1)))
(G 75 (A0 (J 71) (J 74) (W (.bool IS)))
(BJ (Bj 75
(G 80 (AU 138 [(J 0),(J 1),(J 2),(J 4)])
(Bj 80
Ao
Aq))
Aq)
(B4 (G 82 (Aj iGt .i64 (J 1) (W (AI AT 0)))
(Ah 82 IN 84 (Af 4)
(Ah 82 IN 85 (Af 0)
(Ah 82 IN 86 (Af 1)
(Ah 82 IN 87 (C7 xO .i64 (J 86) (W (AI AT 1)))
(Ah 82 IN 88 (CF 6 (J 85) (J 87))
(Ah 82 IN 89 (BK 6 (J 88))
(Ah 82 IN 90 (Af 0)
(Ah 82 IN 91 (Af 13)
(Ah 82 IN 92 (CF 6 (J 90) (J 91))
(Ah 82 IN 93 (BK 6 (J 92))
(Ah 82 IN 94 (AZ .free (ET (J 84) [(J 89),(J 93)]))
(Ah 82 IN 95 (Aj iLt .i64 (J 94) (W (AI AT 0)))
(Ah 82 IN 96 (Dq (J 95))
(G 97 (A0 (J 82) (J 96) (W (.bool IS)))
(Bj 97
(G 103 (AU 139 [(J 0),(J 1),(J 2),(J 13),(J 4)])
(G 15 (Af 103)
(G 1 (Af 15)
(CD 1))))
(G 111 (AU 140 [(J 0),(J 1),(J 2),(J 13),(J 4)])
(G 112 (AW 0 (J 111))
(G 113 (AW 1 (J 111))
(G 16 (Af 112)
(G 17 (Af 113)
(G 11 (Af 17)
(G 117 (C7 xO .i64 (J 16) (J 1))
(G 120 (C7 xO .i64 (J 2) (J 16))
(G 18 (Af 117)
(G 19 (Af 120)
(G 122 (MC .i64 (J 12) (W (AI AT 8)))
(G 20 (Af 122)
(G 125 (Aj iLt .i64 (J 18) (J 19))
(Bj 125
(G 128 (Aj iGe .i64 (J 18) (J 20))
(G 10 (Af 128)
(G 134 (AU 111 [(J 0),(J 1),(J 16),(J 3),(J 4)])
(G 136 (CO .i64 (BH .i64) (J 16) (W (AI AT 1)))
(G 1 (Af 136)
Aq)))))
(G 139 (Aj iGe .i64 (J 19) (J 20))
(G 10 (Af 139)
(G 142 (CO .i64 (BH .i64) (J 16) (W (AI AT 1)))
(G 146 (AU 111 [(J 0),(J 142),(J 2),(J 3),(J 4)])
(G 2 (Af 16)
Aq)))))))))))))))))))))))))))))))))))))))))))))))))))))
def kL:C:=(Ab 1 (G 23 (C7 xO .i64 (J 2) (J 1))
(G 12 (Af 23)
(G 25 (Aj iLe .i64 (J 12) (W (AI AT 12)))
(Bj 25
(G 30 (AU 133 [(J 0),(J 1),(J 2),(J 4)])
Ao)
pdT)))))
def pdB:C:=kL
def Wb:C:=G 10 (AQ (W (.bool IN))) (G 11 (AQ (W (.bool IN))) (Ab 0 (A4 pdB)))
def pS:C:=Wb
def ma:Body:=⟨[],pS⟩
def pT:C:=
(G 2 (AQ (W (AI AT 0)))
(JH (W (.bool IS))
(G 4 (C5 .u32 (J 0))
(G 5 (AU 141 [(J 4)])
(G 2 (Af 5)
Ao)))
(G 7 (AU 142 [(J 0)])
(G 2 (Af 7)
Ao))))
def mc:Body:=⟨[.t (J 2)],pT⟩
def orB:C:=(G 9 (Aj iLt .i64 (J 8) (J 7))
(Bj 9
(BJ (Ab 1 (G 10 (CF 1 (J 6) (J 8))
(G 11 (AO (J 10))
(G 5 (Af 11)
(G 14 (Aj iNe .i64 (J 5) (J 3))
(Bj 14
(G 2 (Af 5)
Ao)
Aq))))))
(G 16 (CO .i64 (BH .i64) (J 8) (W (AI AT 1)))
(G 8 (Af 16)
Aq)))
(CD 0)))
def orE:C:=G 2 (Af 3) Ao
def orS:C:=BJ (Ab 0 (A4 orB)) orE
def Wd:C:=(G 2 (AQ (W (AI AT 0)))
(G 3 (AQ (W (AI AT 0)))
(G 6 (Af 0)
(G 7 (Bh (J 6))
(G 8 (AQ (W (AI AT 0)))
orS)))))
def pU:C:=Wd
def me:Body:=⟨[.t (J 2)],pU⟩
def pV:C:=
(G 4 (AQ (W (AI AT 0)))
(G 8 (AU 143 [(J 0)])
(G 5 (Af 8)
(G 10 (AU 143 [(J 1)])
(G 6 (Af 10)
(Bj 5
(Bj 6
(G 4 (AQ (W (AI AT 0)))
Ao)
(G 4 (AQ (W (AI AT (-1))))
Ao))
(Bj 6
(G 4 (AQ (W (AI AT 1)))
Ao)
(G 16 (Aj iLt .i64 (J 0) (J 1))
(Bj 16
(G 4 (AQ (W (AI AT (-1))))
Ao)
(G 19 (Aj iGt .i64 (J 0) (J 1))
(Bj 19
(G 4 (AQ (W (AI AT 1)))
Ao)
(G 4 (AQ (W (AI AT 0)))
Ao))))))))))))
def mf:Body:=⟨[.t (J 4)],pV⟩
def hiC:C:=(Ah 4 IN 46 (AE 5 (J 2))
(Ah 4 IN 47 (AO (J 46))
(Ah 4 IN 48 (AE 5 (J 1))
(Ah 4 IN 49 (AO (J 48))
(Ah 4 IN 50 (Aj iNe .i64 (J 47) (J 49))
(G 51 (A0 (J 4) (J 50) (W (.bool IS)))
(Ah 51 IN 53 (AE 0 (J 2))
(Ah 51 IN 54 (AE 3 (J 53))
(Ah 51 IN 55 (AO (J 54))
(Ah 51 IN 56 (Aj iEq .u8 (J 55) (W (.int .u8 2)))
(G 57 (A0 (J 51) (J 56) (W (.bool IS)))
(Ah 57 IN 59 (Af 5)
(G 60 (A0 (J 57) (J 59) (W (.bool IS)))
(G 3 (Af 60)
Ao))))))))))))))
def qo:C:=(G 22 (AE 0 (J 2))
(G 23 (AE 2 (J 22))
(G 24 (AO (J 23))
(G 25 (AE 0 (J 1))
(G 26 (AE 2 (J 25))
(G 27 (AO (J 26))
(G 28 (Aj iGt .i64 (J 24) (J 27))
(Ah 28 IS 30 (AE 0 (J 2))
(Ah 28 IS 31 (AE 2 (J 30))
(Ah 28 IS 32 (AO (J 31))
(Ah 28 IS 33 (AE 0 (J 1))
(Ah 28 IS 34 (AE 2 (J 33))
(Ah 28 IS 35 (AO (J 34))
(Ah 28 IS 36 (Aj iEq .i64 (J 32) (J 35))
(Ah 28 IS 37 (Af 36)
(Ah 37 IN 38 (AE 0 (J 1))
(Ah 37 IN 39 (AE 3 (J 38))
(Ah 37 IN 40 (AO (J 39))
(Ah 37 IN 41 (Aj iEq .u8 (J 40) (W (.int .u8 1)))
(Ah 28 IS 42 (A0 (J 37) (J 41) (W (.bool IS)))
(G 43 (A0 (J 28) (W (.bool IN)) (J 42))
(G 5 (Af 43)
hiC))))))))))))))))))))))
def hiB:C:=qo
def We:C:=(G 2 (CT (J 0))
(G 3 (AQ (W (.bool IS)))
(G 6 (AE 0 (J 2))
(G 7 (AE 0 (J 6))
(G 8 (AO (J 7))
(G 9 (AE 0 (J 1))
(G 10 (AE 0 (J 9))
(G 11 (AO (J 10))
(G 12 (Aj iEq .i64 (J 8) (J 11))
(Ah 12 IN 14 (AE 0 (J 2))
(Ah 12 IN 15 (AE 1 (J 14))
(Ah 12 IN 16 (AO (J 15))
(Ah 12 IN 17 (AE 0 (J 1))
(Ah 12 IN 18 (AE 1 (J 17))
(Ah 12 IN 19 (AO (J 18))
(Ah 12 IN 20 (Aj iEq .i64 (J 16) (J 19))
(G 21 (A0 (J 12) (J 20) (W (.bool IS)))
(G 4 (Af 21)
hiB))))))))))))))))))
def pW:C:=We
def mg:Body:=⟨[.t (J 3)],pW⟩
def pX:C:=
(G 2 (CT (J 0))
(G 3 (AQ (W (.bool IS)))
(G 4 (AE 0 (J 2))
(G 5 (AE 0 (J 4))
(G 6 (AO (J 5))
(G 7 (AE 0 (J 1))
(G 8 (AE 0 (J 7))
(G 9 (AO (J 8))
(G 10 (Aj iEq .i64 (J 6) (J 9))
(Ah 10 IN 12 (AE 0 (J 2))
(Ah 10 IN 13 (AE 1 (J 12))
(Ah 10 IN 14 (AO (J 13))
(Ah 10 IN 15 (AE 0 (J 1))
(Ah 10 IN 16 (AE 1 (J 15))
(Ah 10 IN 17 (AO (J 16))
(Ah 10 IN 18 (Aj iEq .i64 (J 14) (J 17))
(G 19 (A0 (J 10) (J 18) (W (.bool IS)))
(Ah 19 IN 21 (AE 0 (J 2))
(Ah 19 IN 22 (AE 2 (J 21))
(Ah 19 IN 23 (AO (J 22))
(Ah 19 IN 24 (AE 0 (J 1))
(Ah 19 IN 25 (AE 2 (J 24))
(Ah 19 IN 26 (AO (J 25))
(Ah 19 IN 27 (Aj iEq .i64 (J 23) (J 26))
(G 28 (A0 (J 19) (J 27) (W (.bool IS)))
(Ah 28 IN 30 (AE 0 (J 2))
(Ah 28 IN 31 (AE 3 (J 30))
(Ah 28 IN 32 (AO (J 31))
(Ah 28 IN 33 (AE 0 (J 1))
(Ah 28 IN 34 (AE 3 (J 33))
(Ah 28 IN 35 (AO (J 34))
(Ah 28 IN 36 (Aj iEq .u8 (J 32) (J 35))
(G 37 (A0 (J 28) (J 36) (W (.bool IS)))
(G 3 (Af 37)
Ao))))))))))))))))))))))))))))))))))
def mh:Body:=⟨[.t (J 3)],pX⟩
def kiB:C:=(G 9 (Aj iLt .i64 (J 8) (J 7))
(Bj 9
(BJ (Ab 1 (G 5 (Af 8)
(G 14 (CF 6 (J 0) (J 5))
(G 15 (BK 6 (J 14))
(G 16 (ET (J 1) [(J 15)])
(Bj 16
(G 4 (Af 5)
Ao)
Aq))))))
(G 18 (CO .i64 (BH .i64) (J 8) (W (AI AT 1)))
(G 8 (Af 18)
Aq)))
(CD 0)))
def kiE:C:=G 4 (AQ (W (AI AT (-1)))) Ao
def kiS:C:=BJ (Ab 0 (A4 kiB)) kiE
def Wj:C:=(G 4 (AQ (W (AI AT 0)))
(G 7 (Bh (J 0))
(G 8 (AQ (W (AI AT 0)))
kiS)))
def pY:C:=Wj
def mi:Body:=⟨[.t (J 4)],pY⟩
def ixB:C:=(G 9 (Aj iLt .i64 (J 8) (J 7))
(Bj 9
(BJ (Ab 1 (G 5 (Af 8)
(G 14 (CF 1 (J 0) (J 5))
(G 15 (AO (J 14))
(G 16 (Aj iEq .i64 (J 1) (J 15))
(Bj 16
(G 4 (Af 5)
Ao)
Aq))))))
(G 18 (CO .i64 (BH .i64) (J 8) (W (AI AT 1)))
(G 8 (Af 18)
Aq)))
(CD 0)))
def ixE:C:=(G 4 (AQ (W (AI AT (-1))))
Ao)
def ixS:C:=BJ (Ab 0 (A4 ixB)) ixE
def Wk:C:=(G 4 (AQ (W (AI AT 0)))
(G 7 (Bh (J 0))
(G 8 (AQ (W (AI AT 0)))
ixS)))
def pZ:C:=Wk
def mj:Body:=⟨[.t (J 4)],pZ⟩
def iC:C:=
(G 2 (AQ (W (AI AT 0)))
(B4 (Ee (J 0) (Ck (J 0) []
(G 3 (AO (J 0))
(G 4 (Bg (J 3))
(G 5 (AE 0 (J 4))
(Ee (J 5) (Ck (J 5) []
(G 6 (AO (J 5))
(G 7 (AO (J 0))
(G 8 (AO (J 1))
(G 9 (AZ .weak (AU 97 [(J 7),(J 8)]))
(G 10 (AZ .AEk (G0 1 ty5.zero (W (AI AT 64)) (W (AI AT 64))))
(G 11 (AZ .free (AU 120 [(J 6),(J 9),(J 10)]))
(G 2 (Af 11)
Ao))))))))))))))))
def ml:Body:=⟨[.t (J 2)],iC⟩
def iD:C:=
(G 6 (AQ (W (AI AT 0)))
(G 11 (AU 130 [(J 0),(J 1)])
(G 7 (Af 11)
(G 13 (Aj iNe .i64 (J 7) (W (AI AT 0)))
(Bj 13
(G 6 (Af 7)
Ao)
(G 16 (Bh (J 2))
(G 17 (Aj iNe .i64 (J 16) (W (AI AT 64)))
(Bj 17
(G 6 (AQ (W (AI AT 2)))
Ao)
(G 19 (AU 144 [(J 0)])
(G 8 (Af 19)
(G 21 (Aj iNe .i64 (J 8) (W (AI AT 0)))
(Bj 21
(G 6 (Af 8)
Ao)
(B4 (G 24 (Bg (J 0))
(G 25 (AE 1 (J 24))
(G 26 (AO (J 25))
(G 29 (Si 64 (J 2))
(G 30 (BK 64 (J 29))
(cDo (AZ .free (Fj ⟨IS,[.i .i64]⟩ (J 26) (J 1) (J 30)))
(G 6 (AQ (W (AI AT 0)))
Ao))))))))))))))))))))
def mo:Body:=⟨[.t (J 6)],iD⟩
def fE:C:=(G 35 (Bg (J 0))
(G 36 (AE 1 (J 35))
(G 37 (AO (J 36))
(cDo (ED (J 37))
(G 2 (AQ (W (AI AT 0)))
Ao)))))
def fW:C:=(Jo ⟨21,22,23,0,[22,23,24,25,26,6,5,27,28,29,30,31,32,33],[]⟩ (G 22 (Hq (J 21))
(G 23 (AW 0 (J 22))
(Bj 23
(Ab 1 (G 24 (Jc (J 21))
(G 25 (AW 0 (J 24))
(G 26 (AW 1 (J 24))
(G 6 (Bc 64 Jk)
(G 5 (Af 25)
(cDo (Ad 64 (J 6) (J 26))
(B4 (G 28 (Bg (J 0))
(G 29 (AE 0 (J 28))
(G 30 (AO (J 29))
(G 32 (BK 64 (J 6))
(G 33 (CF 64 (J 30) (J 5))
(cDo (AZ .free (Ad 64 (J 33) (J 32)))
Aq))))))))))))))
(CD 0)))))
def fS:C:=BJ (Ab 0 fW) fE
def RJ:C:=(G 2 (AQ (W (AI AT 0)))
(G 8 (AU 130 [(J 0),(W (AI AT 0))])
(G 3 (Af 8)
(G 10 (Aj iNe .i64 (J 3) (W (AI AT 0)))
(Bj 10
(G 2 (Af 3)
Ao)
(G 13 (AU 144 [(J 0)])
(G 4 (Af 13)
(G 15 (Aj iNe .i64 (J 4) (W (AI AT 0)))
(Bj 15
(G 2 (Af 4)
Ao)
(G 18 (Bg (J 0))
(G 19 (AE 1 (J 18))
(G 20 (AO (J 19))
(G 21 (LZ (J 20))
fS)))))))))))))
def pf:C:=RJ
def mr:Body:=⟨[.t (J 2)],pf⟩
def ph:C:=
(G 4 (CT (J 0))
(G 5 (AQ (W (.bool IS)))
(G 6 (AE 0 (J 4))
(G 7 (AE 0 (J 6))
(G 8 (AO (J 7))
(G 9 (AO (J 1))
(G 10 (Aj iEq .i64 (J 8) (J 9))
(Ah 10 IN 12 (AE 0 (J 4))
(Ah 10 IN 13 (AE 1 (J 12))
(Ah 10 IN 14 (AO (J 13))
(Ah 10 IN 15 (AO (J 2))
(Ah 10 IN 16 (Aj iEq .i64 (J 14) (J 15))
(G 17 (A0 (J 10) (J 16) (W (.bool IS)))
(Ah 17 IN 19 (AE 0 (J 4))
(Ah 17 IN 20 (AE 2 (J 19))
(Ah 17 IN 21 (AO (J 20))
(Ah 17 IN 22 (AO (J 3))
(Ah 17 IN 23 (Aj iEq .i64 (J 21) (J 22))
(G 24 (A0 (J 17) (J 23) (W (.bool IS)))
(G 5 (Af 24)
Ao))))))))))))))))))))
def mu:Body:=⟨[.t (J 5)],ph⟩
def pi:C:=
(G 4 (CT (J 1))
(G 5 (CT (J 2))
(G 6 (AQ (W (AI AT 0)))
(G 8 (Bg (J 0))
(G 9 (AE 3 (J 8))
(G 10 (AO (J 9))
(G 11 (Em (.func 145) [] [(J 4),(J 5)])
(G 12 (AU 117 [(J 10),(J 11)])
(G 6 (Af 12)
Ao)))))))))
def mw:Body:=⟨[.t (J 6)],pi⟩
def iE:C:=
(G 3 (AQ (W (AI AT 0)))
(B4 (G 4 (AO (J 0))
(G 5 (Bg (J 4))
(G 6 (AE 0 (J 5))
(G 7 (AO (J 6))
(G 8 (AO (J 1))
(G 9 (AO (J 2))
(G 10 (AZ .free (AU 120 [(J 7),(J 8),(J 9)]))
(G 3 (Af 10)
Ao))))))))))
def my:Body:=⟨[.t (J 3)],iE⟩
def pj:C:=
(G 6 (AQ (W (.slice By 0 0)))
(G 12 (Bh (J 0))
(G 13 (EL 124 6 (J 0) (BY (J 1)) (BY (J 2)) (BY (J 12)))
(G 16 (Aj iEq .i64 (J 1) (J 2))
(Bj 16
(G 6 (Af 0)
Ao)
(G 19 (Bh (J 0))
(G 7 (Af 19)
(B4 (G 22 (EL 124 6 (J 0) By (BY (J 1)) By)
(G 25 (EL 124 6 (J 0) (BY (J 2)) By By)
(G 26 (AZ .free (Bm 6 64 124 (J 22) (J 25)))
(G 0 (Af 26)
(G 29 (Bh (J 0))
(G 31 (EL 124 6 (J 0) (BY (J 29)) (BY (J 7)) By)
(cDo (Nf D4.zero (J 31))
(G 6 (Af 0)
Ao))))))))))))))))
def mz:Body:=⟨[.t (J 6)],pj⟩
def npT:C:=(G 29 (Aj iEq .i64 (J 3) (W (AI AT 0)))
(Bj 29
(G 33 (AU 147 [(J 0),(J 1),(J 2)])
Ao)
(G 35 (Dq (J 8))
(BJ (Bj 35
(G 39 (AU 148 [(J 0),(J 1),(J 2)])
(G 41 (C7 xO .i64 (J 3) (W (AI AT 1)))
(G 3 (Af 41)
Aq)))
Aq)
(G 46 (AU 149 [(J 0),(J 1),(J 2)])
(G 47 (AW 0 (J 46))
(G 48 (AW 1 (J 46))
(G 11 (Af 47)
(G 12 (Af 48)
(G 50 (Aj iEq .i64 (J 12) (W (AI AT 2)))
(BJ (Bj 50
(G 54 (AU 150 [(J 0),(J 1),(J 2)])
(G 56 (C7 xO .i64 (J 2) (W (AI AT 1)))
(G 59 (C7 xO .i64 (J 11) (J 1))
(G 60 (C7 xO .i64 (J 56) (J 59))
(G 11 (Af 60)
(G 12 (AQ (W (AI AT 1)))
Aq))))))
Aq)
(Ah 8 IN 63 (Af 9)
(G 64 (A0 (J 8) (J 63) (W (.bool IS)))
(Ah 64 IN 66 (Af 12)
(Ah 64 IN 67 (Aj iEq .i64 (J 66) (W (AI AT 1)))
(G 68 (A0 (J 64) (J 67) (W (.bool IS)))
(BJ (Bj 68
(G 72 (AU 151 [(J 0),(J 1),(J 2)])
(Bj 72
Ao
Aq))
Aq)
(B4 (G 74 (Aj iGt .i64 (J 1) (W (AI AT 0)))
(Ah 74 IN 76 (Af 0)
(Ah 74 IN 77 (Af 1)
(Ah 74 IN 78 (C7 xO .i64 (J 77) (W (AI AT 1)))
(Ah 74 IN 79 (CF 1 (J 76) (J 78))
(Ah 74 IN 80 (AO (J 79))
(Ah 74 IN 81 (Af 0)
(Ah 74 IN 82 (Af 11)
(Ah 74 IN 83 (CF 1 (J 81) (J 82))
(Ah 74 IN 84 (AO (J 83))
(Ah 74 IN 85 (AZ .free (AU 152 [(J 80),(J 84)]))
(Ah 74 IN 86 (Dq (J 85))
(G 87 (A0 (J 74) (J 86) (W (.bool IS)))
(Bj 87
(G 92 (AU 153 [(J 0),(J 1),(J 2),(J 11)])
(G 13 (Af 92)
(G 1 (Af 13)
(CD 1))))
(G 99 (AU 154 [(J 0),(J 1),(J 2),(J 11)])
(G 100 (AW 0 (J 99))
(G 101 (AW 1 (J 99))
(G 14 (Af 100)
(G 15 (Af 101)
(G 9 (Af 15)
(G 105 (C7 xO .i64 (J 14) (J 1))
(G 108 (C7 xO .i64 (J 2) (J 14))
(G 16 (Af 105)
(G 17 (Af 108)
(G 110 (MC .i64 (J 10) (W (AI AT 8)))
(G 18 (Af 110)
(G 113 (Aj iLt .i64 (J 16) (J 17))
(Bj 113
(G 116 (Aj iGe .i64 (J 16) (J 18))
(G 8 (Af 116)
(G 121 (AU 129 [(J 0),(J 1),(J 14),(J 3)])
(G 123 (CO .i64 (BH .i64) (J 14) (W (AI AT 1)))
(G 1 (Af 123)
Aq)))))
(G 126 (Aj iGe .i64 (J 17) (J 18))
(G 8 (Af 126)
(G 129 (CO .i64 (BH .i64) (J 14) (W (AI AT 1)))
(G 132 (AU 129 [(J 0),(J 129),(J 2),(J 3)])
(G 2 (Af 14)
Aq)))))))))))))))))))))))))))))))))))))))))))))))))))
def rW:C:=(Ab 1 (G 21 (C7 xO .i64 (J 2) (J 1))
(G 10 (Af 21)
(G 23 (Aj iLe .i64 (J 10) (W (AI AT 12)))
(Bj 23
(G 27 (AU 146 [(J 0),(J 1),(J 2)])
Ao)
npT)))))
def npB:C:=rW
def bA:C:=G 8 (AQ (W (.bool IN))) (G 9 (AQ (W (.bool IN))) (Ab 0 (A4 npB)))
def pn:C:=bA
def nB:Body:=⟨[],pn⟩
def po:C:=
(G 4 (AQ (W (AI AT 0)))
(BJ (Ab 0 (G 7 (AU 26 [(J 0)])
(G 5 (Af 7)
(Bj 5
(G 4 (AQ (W (AI AT 1)))
Ao)
(G 10 (Bg (J 0))
(G 11 (AE 3 (J 10))
(G 12 (AO (J 11))
(G 8 (Af 12)
(Bj 8
(G 4 (AQ (W (AI AT 15)))
Ao)
(G 15 (Aj iLt .i64 (J 1) (W (AI AT 0)))
(Ah 15 IS 17 (Af 1)
(Ah 15 IS 18 (Af 0)
(Ah 15 IS 19 (Bg (J 18))
(Ah 15 IS 20 (AE 0 (J 19))
(Ah 15 IS 21 (AO (J 20))
(Ah 15 IS 22 (Bh (J 21))
(Ah 15 IS 23 (Aj iGe .i64 (J 17) (J 22))
(G 24 (A0 (J 15) (W (.bool IN)) (J 23))
(G 13 (Af 24)
(Bj 13
(G 4 (AQ (W (AI AT 50)))
Ao)
Aq))))))))))))))))))))
(G 4 (AQ (W (AI AT 0)))
Ao)))
def nC:Body:=⟨[.t (J 4)],po⟩
def ifB:C:=(G 9 (Aj iLt .i64 (J 8) (J 7))
(Bj 9
(BJ (Ab 1 (G 5 (Af 8)
(G 14 (CF 1 (J 0) (J 5))
(G 15 (AO (J 14))
(G 16 (ET (J 1) [(J 15)])
(Bj 16
(G 4 (Af 5)
Ao)
Aq))))))
(G 18 (CO .i64 (BH .i64) (J 8) (W (AI AT 1)))
(G 8 (Af 18)
Aq)))
(CD 0)))
def ifE:C:=G 4 (AQ (W (AI AT (-1)))) Ao
def ifS:C:=BJ (Ab 0 (A4 ifB)) ifE
def OX:C:=(G 4 (AQ (W (AI AT 0)))
(G 7 (Bh (J 0))
(G 8 (AQ (W (AI AT 0)))
ifS)))
def pp:C:=OX
def nE:Body:=⟨[.t (J 4)],pp⟩
def pq:C:=
(G 2 (AQ (W (.bool IS)))
(G 4 (Aj iNe .u8 (J 0) (W (.int .u8 0)))
(G 2 (Af 4)
Ao)))
def nF:Body:=⟨[.t (J 2)],pq⟩
def swB:C:=(B4 (G 41 (C7 xO .i64 (J 9) (W (AI AT 1)))
(G 44 (C7 xO .i64 (J 9) (W (AI AT 1)))
(G 45 (CF 6 (J 0) (J 44))
(G 46 (BK 6 (J 45))
(G 49 (CF 6 (J 0) (J 9))
(G 50 (BK 6 (J 49))
(G 51 (CF 6 (J 0) (J 9))
(cDo (AZ .free (Ad 6 (J 51) (J 46)))
(G 52 (CF 6 (J 0) (J 41))
(cDo (AZ .free (Ad 6 (J 52) (J 50)))
Aq)))))))))))
def Yu:C:=(B4 (G 20 (Aj iGt .i64 (J 9) (J 1))
(Ah 20 IN 22 (Af 3)
(Ah 20 IN 23 (Af 0)
(Ah 20 IN 24 (Af 9)
(Ah 20 IN 25 (CF 6 (J 23) (J 24))
(Ah 20 IN 26 (BK 6 (J 25))
(Ah 20 IN 27 (Af 0)
(Ah 20 IN 28 (Af 9)
(Ah 20 IN 29 (C7 xO .i64 (J 28) (W (AI AT 1)))
(Ah 20 IN 30 (CF 6 (J 27) (J 29))
(Ah 20 IN 31 (BK 6 (J 30))
(Ah 20 IN 32 (AZ .free (ET (J 22) [(J 26),(J 31)]))
(Ah 20 IN 33 (Aj iLt .i64 (J 32) (W (AI AT 0)))
(G 34 (A0 (J 20) (J 33) (W (.bool IS)))
(Bj 34
(BJ (Ab 3 swB)
(G 36 (C7 xO .i64 (J 9) (W (AI AT 1)))
(G 9 (Af 36)
Aq)))
(CD 2)))))))))))))))))
def jnB:C:=Yu
def Yv:C:=(G 14 (Aj iLt .i64 (J 8) (J 2))
(Bj 14
(BJ (Ab 1 (G 9 (Af 8)
(Ab 2 (A4 jnB))))
(G 16 (CO .i64 (BH .i64) (J 8) (W (AI AT 1)))
(G 8 (Af 16)
Aq)))
(CD 0)))
def jsB:C:=Yv
def Wo:C:=G 11 (CO .i64 (BH .i64) (J 1) (W (AI AT 1))) (G 8 (Af 11) (Ab 0 (A4 jsB)))
def pr:C:=Wo
def nG:Body:=⟨[],pr⟩
def px:C:=
(G 2 (AQ (W (AI AT 0)))
(G 4 (Aj iGe .u64 (J 0) (W (.int .u64 4294967296)))
(BJ (Bj 4
(G 6 (MD .u64 (J 0) (W (.int .u64 32)))
(G 0 (Af 6)
(G 2 (AQ (W (AI AT 32)))
Aq)))
Aq)
(G 8 (Aj iGe .u64 (J 0) (W (.int .u64 65536)))
(BJ (Bj 8
(G 10 (MD .u64 (J 0) (W (.int .u64 16)))
(G 0 (Af 10)
(G 12 (CO .i64 (BH .i64) (J 2) (W (AI AT 16)))
(G 2 (Af 12)
Aq))))
Aq)
(G 14 (Aj iGe .u64 (J 0) (W (.int .u64 256)))
(BJ (Bj 14
(G 16 (MD .u64 (J 0) (W (.int .u64 8)))
(G 0 (Af 16)
(G 18 (CO .i64 (BH .i64) (J 2) (W (AI AT 8)))
(G 2 (Af 18)
Aq))))
Aq)
(G 21 (C5 .u8 (J 0))
(G 22 (Jb (W (.string ⟨#[0,1,2,2,3,3,3,3,4,4,4,4,4,4,4,4,5,5,5,5,5,5,5,5,5,5,5,5,5,5,5,5,6,6,6,6,6,6,6,6,6,6,6,6,6,6,6,6,6,6,6,6,6,6,6,6,6,6,6,6,6,6,6,6,7,7,7,7,7,7,7,7,7,7,7,7,7,7,7,7,7,7,7,7,7,7,7,7,7,7,7,7,7,7,7,7,7,7,7,7,7,7,7,7,7,7,7,7,7,7,7,7,7,7,7,7,7,7,7,7,7,7,7,7,7,7,7,7,8,8,8,8,8,8,8,8,8,8,8,8,8,8,8,8,8,8,8,8,8,8,8,8,8,8,8,8,8,8,8,8,8,8,8,8,8,8,8,8,8,8,8,8,8,8,8,8,8,8,8,8,8,8,8,8,8,8,8,8,8,8,8,8,8,8,8,8,8,8,8,8,8,8,8,8,8,8,8,8,8,8,8,8,8,8,8,8,8,8,8,8,8,8,8,8,8,8,8,8,8,8,8,8,8,8,8,8,8,8,8,8,8,8,8,8,8,8,8,8,8,8,8,8,8,8,8,8]⟩)) (J 21))
(G 23 (C5 .i64 (J 22))
(G 24 (CO .i64 (BH .i64) (J 2) (J 23))
(G 2 (Af 24)
Ao))))))))))))
def nH:Body:=⟨[.t (J 2)],px⟩
def iH:C:=
(G 2 (AQ (W (.bool IS)))
(G 5 (Aj iNe .i64 (J 0) (J 0))
(G 2 (Af 5)
Ao)))
def nI:Body:=⟨[.t (J 2)],iH⟩
def iI:C:=
(G 2 (AQ (W (AI AT 0)))
(G 4 (Bg (J 0))
(G 5 (AE 2 (J 4))
(G 6 (AO (J 5))
(G 7 (Aj iEq .i64 (J 6) (W (AI AT 0)))
(Bj 7
(G 10 (Bg (J 0))
(G 11 (AE 3 (J 10))
(cDo (Ad 1 (J 11) (W (.bool IN)))
(G 12 (Bg (J 0))
(G 13 (AE 2 (J 12))
(cDo (Ad 1 (J 13) (W (AI AT (-1))))
(G 2 (AQ (W (AI AT 15)))
Ao)))))))
(G 16 (Bg (J 0))
(G 17 (AE 2 (J 16))
(G 18 (AO (J 17))
(G 19 (C7 xO .i64 (J 18) (W (AI AT 1)))
(G 20 (VG (J 19) (W (AI AT (-1))))
(G 21 (Bg (J 0))
(G 22 (AE 2 (J 21))
(cDo (Ad 1 (J 22) (J 20))
(G 2 (AQ (W (AI AT 0)))
Ao)))))))))))))))
def nJ:Body:=⟨[.t (J 2)],iI⟩
def py:C:=
(G 3 (CT (J 0))
(G 4 (AQ (W (.bool IS)))
(G 5 (AE 0 (J 3))
(G 6 (AE 0 (J 5))
(G 7 (AO (J 6))
(G 8 (AO (J 1))
(G 9 (Aj iEq .i64 (J 7) (J 8))
(Ah 9 IN 11 (AE 0 (J 3))
(Ah 9 IN 12 (AE 1 (J 11))
(Ah 9 IN 13 (AO (J 12))
(Ah 9 IN 14 (AO (J 2))
(Ah 9 IN 15 (Aj iEq .i64 (J 13) (J 14))
(G 16 (A0 (J 9) (J 15) (W (.bool IS)))
(Ah 16 IN 18 (AE 0 (J 3))
(Ah 16 IN 19 (AE 3 (J 18))
(Ah 16 IN 20 (AO (J 19))
(Ah 16 IN 21 (Aj iEq .u8 (J 20) (W (.int .u8 2)))
(G 22 (A0 (J 16) (J 21) (W (.bool IS)))
(G 4 (Af 22)
Ao)))))))))))))))))))
def nL:Body:=⟨[.t (J 4)],py⟩
def nwB:C:=(B4 (G 37 (C7 xO .i64 (J 7) (W (AI AT 1)))
(G 40 (C7 xO .i64 (J 7) (W (AI AT 1)))
(G 41 (CF 1 (J 0) (J 40))
(G 42 (AO (J 41))
(G 45 (CF 1 (J 0) (J 7))
(G 46 (AO (J 45))
(G 47 (CF 1 (J 0) (J 7))
(cDo (AZ .free (Ad 1 (J 47) (J 42)))
(G 48 (CF 1 (J 0) (J 37))
(cDo (AZ .free (Ad 1 (J 48) (J 46)))
Aq)))))))))))
def dD:C:=(B4 (G 18 (Aj iGt .i64 (J 7) (J 1))
(Ah 18 IN 20 (Af 0)
(Ah 18 IN 21 (Af 7)
(Ah 18 IN 22 (CF 1 (J 20) (J 21))
(Ah 18 IN 23 (AO (J 22))
(Ah 18 IN 24 (Af 0)
(Ah 18 IN 25 (Af 7)
(Ah 18 IN 26 (C7 xO .i64 (J 25) (W (AI AT 1)))
(Ah 18 IN 27 (CF 1 (J 24) (J 26))
(Ah 18 IN 28 (AO (J 27))
(Ah 18 IN 29 (AZ .free (AU 152 [(J 23),(J 28)]))
(G 30 (A0 (J 18) (J 29) (W (.bool IS)))
(Bj 30
(BJ (Ab 3 nwB)
(G 32 (C7 xO .i64 (J 7) (W (AI AT 1)))
(G 7 (Af 32)
Aq)))
(CD 2)))))))))))))))
def nnB:C:=dD
def jX:C:=(G 12 (Aj iLt .i64 (J 6) (J 2))
(Bj 12
(BJ (Ab 1 (G 7 (Af 6)
(Ab 2 (A4 nnB))))
(G 14 (CO .i64 (BH .i64) (J 6) (W (AI AT 1)))
(G 6 (Af 14)
Aq)))
(CD 0)))
def noB:C:=jX
def bB:C:=G 9 (CO .i64 (BH .i64) (J 1) (W (AI AT 1))) (G 6 (Af 9) (Ab 0 (A4 noB)))
def pz:C:=bB
def nM:Body:=⟨[],pz⟩
def qB:C:=
(G 4 (AQ (W (.bool IS)))
(G 6 (AU 143 [(J 0)])
(Ah 6 IN 8 (Af 1)
(Ah 6 IN 9 (AU 143 [(J 8)])
(Ah 6 IN 10 (Dq (J 9))
(G 11 (A0 (J 6) (J 10) (W (.bool IS)))
(Ah 11 IS 13 (Af 0)
(Ah 11 IS 14 (Af 1)
(Ah 11 IS 15 (Aj iLt .i64 (J 13) (J 14))
(G 16 (A0 (J 11) (W (.bool IN)) (J 15))
(G 4 (Af 16)
Ao)))))))))))
def nN:Body:=⟨[.t (J 4)],qB⟩
end
set_option linter.unusedSimpArgs false
set_option linter.unusedVariables false
noncomputable section
open Go Go.Proofs Go.RowKit Go.Shelf Go.Maps Go.MapKept Go.ChangeShapes
def Ui(m:Nat):List Nat->List Nat
 |[]=>[m]
 |x::a=>match wY m x with
  |true=>m::x::a
  |false=>x::Ui m a
def DV:List Nat->List Nat
 |[]=>[]
 |x::a=>Ui x (DV a)
def PZ:List Nat->Bool
 |[]=>IN
 |x::a=>(match a with
  |[]=>IN
  |y::_=>xQ x y) && PZ a
def Uv:vz->Option Nat
 |.int a c=>match a,c with
  |.i64,.ofNat b=>BY b
  |_,_=>By
 |_=>By
def Lw(clk:Nat):List Ent->Nat->Option (List Nat)
 |[],_=>BY []
 |e::b,c=>match Uv e.key with
  |some a=>match xQ a 9223372036854775808 && (wY c e.born && xQ e.born clk)with
   |true=>match Lw clk b (wQ e.born)with
    |some d=>BY (a::d)
    |none=>By
   |false=>By
  |none=>By
def zv(m:Nat):vz:=AI AT (.ofNat m)
def GZ(t:Nat)(h:Hp):List Nat->R
 |[]=>.ok (.slice By 0 0) h
 |x::a=>match PZ (x::a)with
  |true=>AEn (DH (x::a)) λb=>newRow h (wQ t) ((x::a).map zv) (FI b b)
  |false=>.no
def Mf(t:Nat)(h:Hp)(v:vz):R:=match v with
 |.map By=>.ok (.slice By 0 0) h
 |.map (BY c)=>match Bi h c with
  |.ok a b=>match wY (DH a) 1000000 with
   |true=>match Lw b a 0 with
    |some ks=>GZ t h (DV ks)
    |none=>.no
   |false=>.no
  |.no=>.no
 |_=>.no
def Ki(t:Nat)(a:Addr)(h:Hp):R:=match wU a.off 0 && wY 256 a.block with
 |true=>match rowOf h a.block with
  |.ok b d c=>match wU c 0 && xQ 0 d with
   |true=>Mf t h (b.get 0)
   |false=>.no
  |.no=>.no
 |false=>.no
def Me(a:List Nat)(t:Nat)(c:List vz)(h:Hp):R:=match c with
 |[v]=>match v with
  |.func f e d=>match f with
   |.func g=>match memN g a with
    |true=>match e.toList with
     |[]=>match d.toList with
      |[i]=>match i with
       |.pointer (BY b)=>Ki t b h
       |_=>.no
      |_=>.no
     |_::_=>.no
    |false=>.no
   |_=>.no
  |_=>.no
 |_=>.no
def V4(a:List Nat)(t:Nat):Body:=⟨[.x (λ_=>Me a t)],cNo⟩
theorem LS(m:Nat):∀l:List Nat,(Ui m l).Perm (m::l)
 |[]=>.refl _
 |x::l=>by
  unfold Ui;split
  ·exact .refl _
  ·exact((LS m l).cons x).trans (.swap m x l)
theorem EW:∀l:List Nat,(DV l).Perm l
 |[]=>.refl _
 |x::l=>(LS x _).trans ((EW l).cons x)
theorem Kw:∀{l:List Nat},PZ l=IN->l.Pairwise (· < ·)
 |[],_=>.nil
 |x::l,a=>by
  unfold PZ at a;rw[wV]at a;have d:=Kw a.2;refine yV.2 ⟨λe b=>?_,d⟩;cases l with
  |nil=>cases b
  |cons f l=>
   have c:x<f:=BM.1 a.1;rcases wS.1 b with rfl|b
   ·exact c
   ·exact Nat.lt_trans c ((yV.1 d).1 e b)
theorem se{a b:Nat}(h:zv a=zv b):a=b:=by
 unfold zv at h;injection h with _ h
 injection h
theorem TV{ks:List Nat}(h:PZ (DV ks)=IN):((ks.map xR).mergeSort leI).map encZ=(DV ks).map zv:=by
 have f:=Kw h;have c:(ks.map xR).mergeSort leI=((DV ks).map xR).mergeSort leI:=mergeSort_of_perm_i ((EW ks).symm.map _);have d:((DV ks).map xR).Pairwise (λa b=>leI a b=IN):=zS.2 (f.imp λ{a b} e=>by
  simp only[leI,decide_eq_true_eq];exact Int.ofNat_le.2 (Nat.le_of_lt e))
 rw[c,List.mergeSort_of_pairwise d,zw];rfl
structure AFk (P:xU)(S K t:Nat):Prop where
 nil:∀(w:World) (b:Nat),b<w.heap.size->w.cell? ⟨b,0,By⟩=BY (.map By)->
  Calls P S #[.func (.func K) #[] #[.pointer (BY ⟨b,0,By⟩)]] w λe w'=>e=.returned (.slice By 0 0)/\Below w.heap.size w w'
 map:∀(w:World) (b r:Nat) (es:Array MapEntry) (clk:Nat) (ks:List Nat),b<w.heap.size->w.cell? ⟨b,0,By⟩=BY (.map (BY r))->w.heap[r]? =BY (.map es clk)->es.size<=1000000->Stamped es clk->
  es.toList.map (·.key)=ks.map zv->(∀k∈ks,k<9223372036854775808)->
  Calls P S #[.func (.func K) #[] #[.pointer (BY ⟨b,0,By⟩)]] w λe w'=>∃v,e=.returned v/\w'.ownsRow w.heap.size t 1 v ks.length (((ks.map xR).mergeSort leI).map encZ)/\(v=.slice By 0 0↔ks=[])/\Below w.heap.size w w'
def cW:vz->Int
 |.int _ a=>a
 |_=>0
theorem tc{m:Nat}(h:m<9223372036854775808):(Lit.int .i64 (xR m)).wf=IN:=by
 simp[Lit.wf,IntKind.min,IntKind.max,IntKind.signed,IntKind.bits];omega
theorem VQ{P:xU}{ρ ρ':Ren}(s:AC8 P ρ)(k:SlLaysZI.n10 P ρ')(D:∀m,ADV P ρ AAP m)
  (t:∀h w,(callFunc (ρ.f 9) h).run P w=.ok (.enter (ρ.f 9) h) w)(u:∀h w,(callFunc (ρ'.f 10) h).run P w=.ok (.enter (ρ'.f 10) h) w):AFk P (ρ.f 6) (ρ'.f 10) (ρ.t 26) where
 nil:=λw f n p=>by
  have q:SeqGives AAP 2 P (ρ'.f 10) #[.pointer (BY ⟨f,0,By⟩)] encZ (λg:List Int=>g=[]) 0 w:=AnyZI.keys_gives_nil k AAP 2 trivial rfl f w n p;have l:=AC5 s AAP 5 trivial trivial trivial trivial rfl (by omega) (D _) t (ρ'.f 10) #[.pointer (BY ⟨f,0,By⟩)] trivial u _ 0 (wl _) (by omega) w q;refine(callsIn_wide.1 l).mono ?_;rintro H S ⟨v,g,rfl,rfl,C,j,o⟩;exact⟨by rw[j.2 rfl],o⟩
 map:=λw f E b G ks n p O T Q x M=>by
  let R:vz->Option (DataW Unit×List MemPlace):=λ_=>BY (.nil,[])
  have y:∀a∈b.toList,∃m,a.key=zv m/\m<9223372036854775808:=λa d=>by
   have:a.key∈ks.map zv:=x ▸ List.mem_map_of_mem d;obtain⟨m,e,c⟩:=xA.1 this;exact⟨m,c.symm,M m e⟩
  have B:∀a∈b.toList,∀m,a.key=zv m->m<9223372036854775808->AB5 P (ρ'.t 26) R a=BY (.int .i64 (xR m),.nil):=λa d m c e=>by
   unfold AB5;rw[c,zv,keyOf_int_mk k.t26 (tc e)];rfl
  have N:w.ownsMap P (ρ'.t 26) R E b.size (.map ((b.toList.map (ya P (ρ'.t 26) R)).foldr AAk [])):=
   ⟨b,G,O,⟨by unfold maxLen;omega,Q,λa d=>by
    obtain⟨m,c,e⟩:=y a d;exact⟨_,B a d m c e⟩⟩,wB _,rfl⟩
  have z:Maps.size (AEE ((b.toList.map (ya P (ρ'.t 26) R)).foldr AAk []))=b.size:=by
   show((b.toList.map (ya P (ρ'.t 26) R)).foldr AAk []).length=_;rw[(AA9 _).length_eq];simp
  have F:(intKeys (AEE ((b.toList.map (ya P (ρ'.t 26) R)).foldr AAk []))).Perm (ks.map xR):=by
   show(((b.toList.map (ya P (ρ'.t 26) R)).foldr AAk []).map λr=>AD4 r.1).Perm _;refine((AA9 _).map _).trans ?_;have I:ks.map xR=b.toList.map λa=>cW a.key:=by
    have:(b.toList.map (·.key)).map cW=(ks.map zv).map cW:=by rw[x]
    rw[zw,zw]at this;exact this.symm
   have J:(b.toList.map (ya P (ρ'.t 26) R)).map (λr=>AD4 r.1)=b.toList.map λa=>cW a.key:=by
    rw[zw];refine ACb λa d=>?_
    obtain⟨m,c,e⟩:=y a d;show AD4 (ya P (ρ'.t 26) R a).1=cW a.key;unfold ya;rw[B a d m c e,c];rfl
   rw[I,J]
  have q:=AnyZI.keys_gives k AAP 2 trivial rfl (by omega) f E b.size _ w n p N;have l:=AC5 s AAP 5 trivial trivial trivial trivial rfl (by omega) (D _) t (ρ'.f 10) #[.pointer (BY ⟨f,0,By⟩)] trivial u _ _ (by rw[z];unfold maxLen;omega) (by rw[z];omega) w q;refine(callsIn_wide.1 l).mono ?_;rintro H S ⟨v,g,rfl,L,C,j,o⟩;have A:g.Perm (ks.map xR):=L.trans F;have i:g.length=ks.length:=by rw[A.length_eq];simp
  refine⟨v,rfl,?_,j.trans ?_,o⟩
  ·have K:g.mergeSort leI=(ks.map xR).mergeSort leI:=mergeSort_of_perm_i A
   rw[<- i,<- K];exact C
  ·constructor
   ·rintro rfl
    simp only[xD]at i;exact xH i.symm
   ·rintro rfl
    exact xH i
section
variable {P:xU}{ty:TTy}{φ:Phi}{E:Nat->Prop}{h h':Hp}{w w':World}{v:vz}
theorem AEZ.below(H:AEZ ty φ E h w)(hb:Below w.heap.size w w'):AEZ ty φ E h w'/\Evo φ h w φ h w':=
 ⟨{dom:=λi p e=>⟨(H.dom i p e).1,Nat.lt_of_lt_of_le (H.dom i p e).2 hb.size⟩
   inj:=H.inj
   row:=λi p e hE=>(by rw[hb.block _ (H.dom i p e).2];exact H.row i p e hE)
   fresh:=H.fresh
   kind:=H.kind
   inp:=H.inp},
  {le:=.refl _
   new:=λ_ _ e=>.inl e
   next:=wB _
   size:=hb.size
   tape:=hb.tape
   os:=hb.os
   output:=hb.output
   frame:=λk hk _=>hb.block k hk
   back:=λi p e hl _=>⟨i,p,e,hl,rfl,rfl,.inl rfl⟩
   kept:=λ_ _ _=>rfl
   low:=wB _
   high:=wB _
   shape:=λ_ _=>.refl _
   only:=λ_ _ _=>rfl
   all:=λ_ h1 h2=>absurd h2 (Nat.not_lt.2 h1)}⟩
theorem Y7{u b:vz}{m:Nat}(a:Uv u=BY m)(c:AEX φ u b):b=zv m:=by
 unfold Uv at a;split at a
 ·split at a
  ·cases a;cases c;rfl
  ·cases a
 ·cases a
theorem SL{clk:Nat}:∀{es:List Ent} {b:List MapEntry} {lo:Nat} {ks:List Nat},Lw clk es lo=BY ks->AFX φ es b->
  b.map (·.key)=ks.map zv/\(∀k∈ks,k<9223372036854775808)/\(∀x∈b,lo<=x.born/\x.born<clk)/\(b.map (·.born)).Nodup
 |[],b,lo,ks,a,c=>by
  cases c;cases a;exact⟨rfl,(λk a=>by cases a),(λx hx=>by cases hx),.nil⟩
 |e::es,b,lo,ks,a,c=>by
  cases c with
  |@cons k t v z d _ u o s r=>
  unfold Lw at a;split at a
  case h_2=>cases a
  rename_i w p;split at a
  case h_2=>cases a
  rename_i f;simp only[wV]at f;split at a
  case h_2=>cases a
  rename_i y q;cases a;obtain⟨j,l,g,m⟩:=SL q r;have h:lo<=d:=Am.1 f.2.1;have i:d<clk:=BM.1 f.2.2;refine⟨?_,λx hx=>?_,λx hx=>?_,?_⟩
  ·simp only[yA,j,Y7 p o]
  ·rcases wS.1 hx with rfl|hx
   ·exact BM.1 f.1
   ·exact l x hx
  ·rcases wS.1 hx with rfl|hx
   ·exact⟨h,i⟩
   ·have:=g x hx
    have n:d+1<=x.born:=this.1;exact⟨by omega,this.2⟩
  ·rw[yA,List.nodup_cons]
   refine⟨λhx=>?_,m⟩;obtain⟨x,hx,c⟩:=xA.1 hx;have n:d+1<=x.born:=(g x hx).1;have c:x.born=d:=c;omega
theorem TW{c:List Nat}{t:Nat}{d:List vz}(b:Me c t d h=.ok v h'):∃g a,d=[.func (.func g) ⟨[]⟩ ⟨[.pointer (BY a)]⟩]/\memN g c=IN/\Ki t a h=.ok v h':=by
 unfold Me at b;split at b
 case h_2=>cases b
 split at b
 case h_2=>cases b
 rename_i n j e;split at b
 case h_2=>cases b
 rename_i g;split at b
 case h_2=>cases b
 rename_i m;split at b
 case h_2=>cases b
 rename_i l;split at b
 case h_2=>cases b
 rename_i o k;split at b
 case h_2=>cases b
 rename_i a;refine⟨g,a,?_,m,b⟩;have f:j=⟨[]⟩:=yD l;have i:e=⟨[.pointer (BY a)]⟩:=yD k;rw[f,i]
theorem VP(H:AEZ ty φ nil h w){t:Nat}{ti:TI}(L:ty.get t=BY ti)(K:ti.size=1){ks:List Nat}(hk:GZ t h (DV ks)=.ok v h')(b:Below w.heap.size w w'){v':vz}
  (s:w'.ownsRow w.heap.size t 1 v' ks.length (((ks.map xR).mergeSort leI).map encZ))(I:v'=.slice By 0 0↔ks=[]):
  ∃ψ,AEX ψ v v'/\AEZ ty ψ nil h' w'/\Evo φ h w ψ h' w':=by
 have d:=(EW ks).length_eq;unfold GZ at hk;split at hk
 ·rename_i g
  cases hk;rw[g]at d;have:ks=[]:=xH d.symm;rw[I.2 this];exact⟨φ,.AFL,H.below b⟩
 ·rename_i O N g
  split at hk
  case h_2=>cases hk
  rename_i m;rw[<- g]at m hk;rw[Ae,Bf,d]at hk;have J:0<ks.length:=by rw[<- d,g];simp
  rw[TV m]at s;obtain⟨_,⟨_,M⟩|⟨f,cap,i,rfl,D,q,p,_,C,l⟩⟩:=s
  ·omega
  unfold newRow at hk;split at hk
  case h_2=>cases hk
  rename_i n y;unfold CP at hk;rw[Ae]at hk;obtain⟨bl,j,F⟩:=Gy hk;cases F;have G:DH ((DV ks).map zv)=ks.length:=by rw[Bf,wF,d]
  rw[G]at j;rw[yp]at C l
  let c:Pl:={blk:=f,off:=0,sz:=ks.length,room:=cap,es:=1}
  have u:∀e,e<w.heap.size->w'.heap[e]? =w.heap[e]?:=b.block;have E:f<w'.heap.size:=(Array.getElem?_eq_some_iff.1 q).1;have B:AFT ty (φ.put h.next c) c (.cells n ks.length (wQ t)) w'.heap[c.blk]?:=by
   show AFT ty (φ.put h.next c) c (.cells n ks.length (wQ t)) w'.heap[f]?;rw[q];refine .cells {kind:=⟨rfl,.inr ⟨t,ti,rfl,L,K.symm⟩⟩,room:=p,fits:=(by show 0+cap<=i.size;omega),loose:=.inl (.inl rfl),cell:=λa r=>?_};have k:a<((DV ks).map zv).length:=by rw[wF,d];exact r
   have A:=Jg y a k;rw[A];refine⟨((DV ks).map zv).getD a undef,?_,?_⟩
   ·show i[0+a]? =_
    rw[wC,<- Array.getElem?_toList];have o:(i.toList.take ks.length)[a]? =((DV ks).map zv)[a]?:=by rw[l]
    rw[List.getElem?_take,IT r]at o;rw[o,wG,wE k];rfl
   ·rw[wG,wE k]
    show AEX _ (((DV ks).map zv)[a]) _;rw[List.getElem_map];exact .int _ _
  refine⟨φ.put h.next c,?_,H.new j b.size E (λa x z _=>by have:=(H.dom a x z).2;show x.blk≠f;omega) (λe hk _=>u e hk) B,.made H j D b.size u b.tape b.os b.output⟩;refine .slice (wB _) ⟨rfl,rfl,c,Phi.AFJ _ _ _,rfl,.inl ⟨J,rfl,.inr ⟨?_,p,?_⟩⟩⟩
  ·show 0+ks.length*1=ks.length
   omega
  ·show 0+cap*1<=cap
   omega
theorem TY{S t:Nat}{Ks:List Nat}{ti:TI}(hS:∃fn,P.funcs[S]? =BY fn/\fn.name≠"runtime.NumGoroutine" /\fn.body.isNone=IS)(hc:∀K,memN K Ks=IN->AFk P S K t)
  (hty:ty.get t=BY ti)(hs:ti.size=1):JM P ty S (V4 Ks t):=λF args h v h' _ hr=>⟨hS,λφ w args' AE4 H=>by
 have hr:Me Ks t args h=.ok v h':=hr;obtain⟨g,a,rfl,hg,hr⟩:=TW hr;obtain⟨cn,cm⟩:=hc g hg;cases AE4 with
 |cons hv hn=>
 cases hn;cases hv with
 |func _ h1 h2=>
 cases h1;cases h2 with
 |cons hp hn=>
 cases hn;cases hp with
 |@ptr _ a' ha=>
 obtain⟨s1,s2,p,hp,hbl,ho⟩:=ha;unfold Ki at hr;split at hr
 case h_2=>cases hr
 rename_i hq;rw[wV]at hq;have q1:=Ax.1 hq.1;have q2:=Am.1 hq.2;split at hr
 case h_2=>cases hr
 rename_i c s e hrow;split at hr
 case h_2=>cases hr
 rename_i hq3;rw[wV]at hq3;have q3:=Ax.1 hq3.1;have q4:=BM.1 hq3.2;subst q3;have hoff:p.off=0:=by
  rcases (H.kind a.block p c s 0 hp (DQ hrow)).2 with ⟨_,_,_,h0|h0⟩|⟨_,_,h0,_⟩
  ·exact h0
  ·have:=H.inp a.block p hp h0
   omega
  ·omega
 have ea:a'=⟨p.blk,0,By⟩:=by
  obtain⟨ab,ao,asp⟩:=a';simp only at s2 hbl ho;subst s2;subst hbl
  congr 1
  omega
 subst ea;obtain⟨cs,tt,fr,hw,R⟩:=H.rowAt hp (λh=>h) hrow;obtain⟨x,hx,hxr⟩:=R.cell 0 q4;rw[hoff,wC]at hx;have hcell:w.cell? ⟨p.blk,0,By⟩=BY x:=by rw[Ik hw];exact hx
 have hpb:=(H.dom _ _ hp).2;generalize c.get 0=y at hr hxr;unfold Mf at hr;split at hr
 ·cases hxr
  cases hr;refine(cn w p.blk hpb hcell).mono ?_;rintro e w' ⟨rfl,hb⟩;exact⟨_,φ,rfl,.AFL,H.below hb⟩
 ·rename_i r
  cases hxr with
  |map hq=>
  rename_i q;split at hr
  case h_2=>cases hr
  rename_i es clk hes;split at hr
  case h_2=>cases hr
  rename_i hsz;split at hr
  case h_2=>cases hr
  rename_i ks hks;obtain⟨es',hwm,hre⟩:=H.AFm hq (λh=>h) hes;obtain⟨k1,k2,k3,k4⟩:=SL hks hre;have hl:es'.length<=1000000:=by
   have:=Am.1 hsz;rw[Bf]at this;have e2:es'.length=es.length:=by
    clear hes hwm hks k1 k2 k3 k4 hsz this
    induction hre with
    |nil=>rfl
    |cons _ _ _ ih=>simp only[wK,ih]
   omega
  have hnd:ks.Nodup:=by
   have AHx:PZ (DV ks)=IN:=by
    cases he:DV ks with
    |nil=>rfl
    |cons x l=>
     rw[he]at hr;unfold GZ at hr;split at hr
     ·rename_i e;cases e
     ·rename_i e
      cases e;split at hr
      ·assumption
      ·cases hr
   have:=(Kw AHx).imp λ{a b} (hab:a<b)=>Nat.ne_of_lt hab
   exact(EW ks).nodup_iff.1 this
  have hst:Stamped ⟨es'⟩ clk:=⟨λx hx=>(k3 x hx).2,k4,by
   show(es'.map (·.key)).Nodup;rw[k1];exact zS.2 (hnd.imp λ{a b} hab e=>hab (se e))⟩
  refine(cm w p.blk q.blk ⟨es'⟩ clk ks hpb hcell hwm hl hst k1 k2).mono ?_;rintro e w' ⟨v',rfl,ho,hn,hb⟩;obtain⟨ψ,r1,r2,r3⟩:=VP H hty hs hr hb ho hn;exact⟨v',ψ,rfl,r1,r2,r3⟩
 ·cases hr⟩
end
end
end Go.Proofs.YtldjiljipddebaaGreat
namespace Go.Proofs.YtldjiljipddebaaGreat
set_option maxRecDepth 100000
noncomputable section
open Go Go.Proofs Go.RowKit Go.Maps Go.Sort Go.Shelf
def KA:Ren:=⟨λ| 7=>66| 10=>105|n=>n,λ| 23=>67| 26=>3| 3=>82| 28=>121| 0=>0| 27=>120| 33=>132| 4=>4|n=>n,λn=>n⟩
theorem ch:SlLaysZI.n7 wL KA where
 mixed:=by kernel_rfl
 f7:=⟨Tryz.f66.name,by decide,ADy.trans (congrArg BY (by kernel_rfl))⟩
 f10:=⟨Tryz.f105.name,by decide,ADm.trans (congrArg BY (by kernel_rfl))⟩
 t0:=ABV
 a0:=ACX
 z0:=ACG
 v0:=ABd
 t4:=AAo
 a4:=ADx
 z4:=ADf
 v4:=AC7
 t23:=Tryz.underlying67
 a23:=Tryz.isAgg67
 z23:=Tryz.sizeOf67
 v23:=Tryz.zeroValue67
 t26:=yd
 a26:=ABe
 z26:=ABQ
 v26:=AAm
 t27:=Tryz.underlying120
 a27:=Tryz.isAgg120
 z27:=Tryz.sizeOf120
 v27:=Tryz.zeroValue120
 t28:=ACf
 a28:=ADX
 z28:=ADM
 v28:=ACk
 t33:=Tryz.underlying132
 a33:=Tryz.isAgg132
 z33:=Tryz.sizeOf132
 v33:=Tryz.zeroValue132
def Gf:Ren:=⟨λ| 6=>65| 8=>103| 9=>104| 11=>128| 13=>112| 12=>129| 23=>141| 24=>142| 14=>146| 15=>147| 16=>148| 17=>149| 18=>150| 19=>151| 20=>152| 21=>153| 22=>154| 25=>160| 26=>156| 27=>157| 28=>161| 29=>162| 30=>143| 31=>164|n=>n,λ| 26=>3| 28=>121| 24=>79| 0=>0| 3=>3| 37=>107| 48=>24| 50=>137| 4=>4| 40=>181| 39=>180| 45=>185| 5=>5| 9=>9| 51=>195| 55=>199| 57=>203| 58=>204| 33=>132|n=>n,λn=>n⟩
theorem Y3:AC8 wL Gf where
 mixed:=by kernel_rfl
 f6:=⟨AEL.name,by decide,ADz.trans (congrArg BY (by kernel_rfl))⟩
 f8:=⟨Tryz.f103.name,by decide,Tryz.func103.trans (congrArg BY (by kernel_rfl))⟩
 f11:=⟨Tryz.f128.name,by decide,Tryz.func128.trans (congrArg BY (by kernel_rfl))⟩
 t0:=ABV
 a0:=ACX
 z0:=ACG
 v0:=ABd
 t24:=ABJ
 a24:=ACH
 z24:=AB3
 v24:=ABU
 t26:=yd
 a26:=ABe
 z26:=ABQ
 v26:=AAm
 t28:=ACf
 a28:=ADX
 z28:=ADM
 v28:=ACk
 i26:=by kernel_rfl
def SQ:Ren:=⟨λ| 5=>104| 8=>112| 7=>129| 19=>141| 20=>142| 10=>146| 11=>147| 12=>148| 13=>149| 14=>150| 15=>151| 16=>152| 17=>153| 18=>154| 30=>160| 31=>156| 32=>157| 33=>161| 34=>162| 35=>143| 40=>164|n=>n,λ| 23=>79| 25=>3| 3=>3| 32=>107| 22=>79| 0=>0| 44=>24| 46=>137| 4=>4| 36=>181| 35=>180| 41=>185| 5=>5| 9=>9| 53=>195| 57=>199| 63=>203| 64=>204|n=>n,λn=>n⟩
theorem XU:SlLaysM.n5 wL SQ where
 mixed:=by kernel_rfl
 f5:=⟨Tryz.f104.name,by decide,ACI.trans (congrArg BY (by kernel_rfl))⟩
 f7:=⟨Tryz.f129.name,by decide,ADk.trans (congrArg BY (by kernel_rfl))⟩
 f8:=ADl.trans (congrArg BY (by kernel_rfl))
 f10:=⟨Tryz.f146.name,by decide,ADh.trans (congrArg BY (by kernel_rfl))⟩
 f11:=⟨Tryz.f147.name,by decide,Tryz.func147.trans (congrArg BY (by kernel_rfl))⟩
 f12:=⟨Tryz.f148.name,by decide,Tryz.func148.trans (congrArg BY (by kernel_rfl))⟩
 f13:=⟨Tryz.f149.name,by decide,Tryz.func149.trans (congrArg BY (by kernel_rfl))⟩
 f14:=⟨Tryz.f150.name,by decide,Tryz.func150.trans (congrArg BY (by kernel_rfl))⟩
 f15:=⟨Tryz.f151.name,by decide,Tryz.func151.trans (congrArg BY (by kernel_rfl))⟩
 f16:=⟨Tryz.f152.name,by decide,ADg.trans (congrArg BY (by kernel_rfl))⟩
 f17:=⟨Tryz.f153.name,by decide,Tryz.func153.trans (congrArg BY (by kernel_rfl))⟩
 f18:=⟨Tryz.f154.name,by decide,Tryz.func154.trans (congrArg BY (by kernel_rfl))⟩
 f19:=Tryz.func141.trans (congrArg BY (by kernel_rfl))
 f20:=ADj.trans (congrArg BY (by kernel_rfl))
 f30:=⟨Tryz.f160.name,by decide,Tryz.func160.trans (congrArg BY (by kernel_rfl))⟩
 f31:=Tryz.func156.trans (congrArg BY (by kernel_rfl))
 f32:=Tryz.func157.trans (congrArg BY (by kernel_rfl))
 f33:=⟨Tryz.f161.name,by decide,Tryz.func161.trans (congrArg BY (by kernel_rfl))⟩
 f34:=⟨Tryz.f162.name,by decide,Tryz.func162.trans (congrArg BY (by kernel_rfl))⟩
 f35:=⟨Tryz.f143.name,by decide,ADi.trans (congrArg BY (by kernel_rfl))⟩
 f40:=⟨Tryz.f164.name,by decide,Tryz.func164.trans (congrArg BY (by kernel_rfl))⟩
 t0:=ABV
 a0:=ACX
 z0:=ACG
 v0:=ABd
 t3:=yd
 a3:=ABe
 z3:=ABQ
 v3:=AAm
 t4:=AAo
 a4:=ADx
 z4:=ADf
 v4:=AC7
 t5:=Tryz.underlying5
 a5:=Tryz.isAgg5
 z5:=Tryz.sizeOf5
 v5:=Tryz.zeroValue5
 t9:=Tryz.underlying9
 a9:=Tryz.isAgg9
 z9:=Tryz.sizeOf9
 v9:=Tryz.zeroValue9
 t22:=ABJ
 a22:=ACH
 z22:=AB3
 v22:=ABU
 t23:=ABJ
 a23:=ACH
 z23:=AB3
 v23:=ABU
 t25:=yd
 a25:=ABe
 z25:=ABQ
 v25:=AAm
 t32:=Tryz.underlying107
 a32:=Tryz.isAgg107
 z32:=Tryz.sizeOf107
 v32:=Tryz.zeroValue107
 t35:=Tryz.underlying180
 a35:=Tryz.isAgg180
 z35:=Tryz.sizeOf180
 v35:=Tryz.zeroValue180
 t36:=Tryz.underlying181
 a36:=Tryz.isAgg181
 z36:=Tryz.sizeOf181
 v36:=Tryz.zeroValue181
 t41:=Tryz.underlying185
 a41:=Tryz.isAgg185
 z41:=Tryz.sizeOf185
 v41:=Tryz.zeroValue185
 t44:=Tryz.underlying24
 a44:=Tryz.isAgg24
 z44:=Tryz.sizeOf24
 v44:=Tryz.zeroValue24
 t46:=Tryz.underlying137
 a46:=Tryz.isAgg137
 z46:=Tryz.sizeOf137
 v46:=Tryz.zeroValue137
 t53:=Tryz.underlying195
 a53:=Tryz.isAgg195
 z53:=Tryz.sizeOf195
 v53:=Tryz.zeroValue195
 t57:=Tryz.underlying199
 a57:=Tryz.isAgg199
 z57:=Tryz.sizeOf199
 v57:=Tryz.zeroValue199
 t63:=Tryz.underlying203
 a63:=Tryz.isAgg203
 z63:=Tryz.sizeOf203
 v63:=Tryz.zeroValue203
 t64:=Tryz.underlying204
 a64:=Tryz.isAgg204
 z64:=Tryz.sizeOf204
 v64:=Tryz.zeroValue204
theorem sG(m:Nat):ADV wL Gf AAP m:=
 ⟨λblk e cap g a b c d=>callsIn_wide.2 (AnyM.slices_Sort_int XU blk e cap g a b c d),
  λf cap a=>callsIn_wide.2 (AnyM.slices_Sort_int_none XU f cap a)⟩
theorem um:AFk wL 65 105 3:=VQ (ρ:=Gf) (ρ':=KA) Y3 {ch with} sG (enters_of ACI (by kernel_rfl) rfl) (enters_of ADm (by kernel_rfl) rfl)
theorem dA{a b:String}(h:(a == b)=IS):a≠b:=by simpa using h
def bS:Body:=V4 [105] 3
theorem Zd:JM wL ty 65 bS:=TY (ti:=ty3) ⟨AEL,ADz,dA (by kernel_rfl),rfl⟩ (λK a=>by
 have a:=KD.1 a;simp only[wS,List.not_mem_nil,or_false]at a;rcases a with rfl
 ·exact um) (by kernel_rfl) rfl
end
end Go.Proofs.YtldjiljipddebaaGreat
namespace Go.Proofs.YtldjiljipddebaaGreat
set_option maxRecDepth 100000
noncomputable section
open Go
theorem oS:BQ wL ty 65 bS:=AD8 (.inr Zd)
theorem QI{a b:String}(h:(a == b)=IS):a≠b:=by simpa using h
theorem oFn{g:Nat}{f:Func}{b:Body}(A:List Nat)(c:wL.funcs[g]? =BY f)(d:(f.name == "runtime.NumGoroutine")=IS)(a:aE ty A f=BY b):BQ wL ty g b:=Or.inl ⟨f,A,c,QI d,a⟩
theorem o3:BQ wL ty 3 b3:=oFn [26,31,33,34,38,46,47,52,54,56,61,66,71,72,76,77,84,86,87,88,90,91,95,97,101,105,110,112,113,118,120,123,130,133,134,136,141] Tryz.func3 (by kernel_rfl) (by kernel_rfl)
theorem o5:BQ wL ty 5 b5:=oFn [8,9,11,13,18,19,23,24,26,28,32] AD5 (by kernel_rfl) (by kernel_rfl)
theorem o6:BQ wL ty 6 b6:=oFn [9,13,14,15,19,20,21,23] Tryz.func6 (by kernel_rfl) (by kernel_rfl)
theorem o7:BQ wL ty 7 b7:=oFn [4,7,14,15] Tryz.func7 (by kernel_rfl) (by kernel_rfl)
theorem o8:BQ wL ty 8 b8:=oFn [5,6,9,13,15,16,22,23,24,29] Tryz.func8 (by kernel_rfl) (by kernel_rfl)
theorem o9:BQ wL ty 9 b9:=oFn [7,9,12,21,28,35,42,49,54] Tryz.func9 (by kernel_rfl) (by kernel_rfl)
theorem o10:BQ wL ty 10 b10:=oFn [3,6] Tryz.func10 (by kernel_rfl) (by kernel_rfl)
theorem o11:BQ wL ty 11 b11:=oFn [3,5] Tryz.func11 (by kernel_rfl) (by kernel_rfl)
theorem o12:BQ wL ty 12 b12:=oFn [7,21] Tryz.func12 (by kernel_rfl) (by kernel_rfl)
theorem o13:BQ wL ty 13 b13:=oFn [11,12,17,25,29] Tryz.func13 (by kernel_rfl) (by kernel_rfl)
theorem o14:BQ wL ty 14 b14:=oFn [6,8,13,16,17,20,26,30,31,35,39,43,44] Tryz.func14 (by kernel_rfl) (by kernel_rfl)
theorem o15:BQ wL ty 15 b15:=oFn [10,11,12,13,17,19,20,21,22] Tryz.func15 (by kernel_rfl) (by kernel_rfl)
theorem o16:BQ wL ty 16 b16:=oFn [3,5] Tryz.func16 (by kernel_rfl) (by kernel_rfl)
theorem o17:BQ wL ty 17 b17:=oFn [3,5] Tryz.func17 (by kernel_rfl) (by kernel_rfl)
theorem o18:BQ wL ty 18 b18:=oFn [11,15,16,20,22,26,29,34,39,44,45,50,52,59,60,63,68,73] AD0 (by kernel_rfl) (by kernel_rfl)
theorem o19:BQ wL ty 19 b19:=oFn [6,8,11,12,15,17,18,21,22] Tryz.func19 (by kernel_rfl) (by kernel_rfl)
theorem o24:BQ wL ty 24 b24:=oFn [3,5] Tryz.func24 (by kernel_rfl) (by kernel_rfl)
theorem o25:BQ wL ty 25 b25:=oFn [4,6,10] Tryz.func25 (by kernel_rfl) (by kernel_rfl)
theorem o26:BQ wL ty 26 b26:=oFn [3,5] Tryz.func26 (by kernel_rfl) (by kernel_rfl)
theorem o27:BQ wL ty 27 b27:=oFn [4,6,14,20] Tryz.func27 (by kernel_rfl) (by kernel_rfl)
theorem o28:BQ wL ty 28 b28:=oFn [12,17,22,23,26,40] Tryz.func28 (by kernel_rfl) (by kernel_rfl)
theorem o29:BQ wL ty 29 b29:=oFn [5] Tryz.func29 (by kernel_rfl) (by kernel_rfl)
theorem o30:BQ wL ty 30 b30:=oFn [5] Tryz.func30 (by kernel_rfl) (by kernel_rfl)
theorem o31:BQ wL ty 31 b31:=oFn [5] Tryz.func31 (by kernel_rfl) (by kernel_rfl)
theorem o32:BQ wL ty 32 b32:=oFn [10,14,15,29,33] Tryz.func32 (by kernel_rfl) (by kernel_rfl)
theorem o33:BQ wL ty 33 b33:=oFn [5] Tryz.func33 (by kernel_rfl) (by kernel_rfl)
theorem o34:BQ wL ty 34 b34:=oFn [5] Tryz.func34 (by kernel_rfl) (by kernel_rfl)
theorem o35:BQ wL ty 35 b35:=oFn [3,5] Tryz.func35 (by kernel_rfl) (by kernel_rfl)
theorem o36:BQ wL ty 36 b36:=oFn [7,9,13,17] Tryz.func36 (by kernel_rfl) (by kernel_rfl)
theorem o37:BQ wL ty 37 b37:=oFn [9,11,15] Tryz.func37 (by kernel_rfl) (by kernel_rfl)
theorem o38:BQ wL ty 38 b38:=oFn [3,5] Tryz.func38 (by kernel_rfl) (by kernel_rfl)
theorem o39:BQ wL ty 39 b39:=oFn [21,24,26,31,34,41,43,44,45,48,49,54,55,57,64,66,68,69,74,82,83,86,87,91,94,99,100,105,106,107,115,120,121,123,124,129,131,133] Tryz.func39 (by kernel_rfl) (by kernel_rfl)
theorem o40:BQ wL ty 40 b40:=oFn [6,8,17,23] Tryz.func40 (by kernel_rfl) (by kernel_rfl)
theorem o41:BQ wL ty 41 b41:=oFn [15,16,21,23,29,36,43,49,56,63] Tryz.func41 (by kernel_rfl) (by kernel_rfl)
theorem o42:BQ wL ty 42 b42:=oFn [12,13,14,15,17,20] Tryz.func42 (by kernel_rfl) (by kernel_rfl)
theorem o43:BQ wL ty 43 b43:=oFn [6,8,11,12,15,17,18,21,22] Tryz.func43 (by kernel_rfl) (by kernel_rfl)
theorem o44:BQ wL ty 44 b44:=oFn [10,17,24,31] Tryz.func44 (by kernel_rfl) (by kernel_rfl)
theorem o46:BQ wL ty 46 b46:=oFn [8,12,13,17,18,19,23,25,26,32,33,35] Tryz.func46 (by kernel_rfl) (by kernel_rfl)
theorem o50:BQ wL ty 50 b50:=oFn [5,7] Tryz.func50 (by kernel_rfl) (by kernel_rfl)
theorem o53:BQ wL ty 53 b53:=oFn [3,5] Tryz.func53 (by kernel_rfl) (by kernel_rfl)
theorem o54:BQ wL ty 54 b54:=oFn [19,21,23,24,25,26,27,33,42,43,44,45,47,49,53,58,61,62,63,64,67,73,79,80,88,91,92,93,99,100,101,102,103,105,109,111,112,113,121,122,128,134] Tryz.func54 (by kernel_rfl) (by kernel_rfl)
theorem o55:BQ wL ty 55 b55:=oFn [18,20,22,23,24,25,26,29,31,44,45,46,47,50,52,56,61,62,71,72,73,77,80,82,83,84,91,95,98,99,105,109,115,117,124,131,132,133,137,139,140] Tryz.func55 (by kernel_rfl) (by kernel_rfl)
theorem o56:BQ wL ty 56 b56:=oFn [11,13,15,16,17,18,19,22,23,24,25,28,30,31] Tryz.func56 (by kernel_rfl) (by kernel_rfl)
theorem o57:BQ wL ty 57 b57:=oFn [8,18,21,26,32] Tryz.func57 (by kernel_rfl) (by kernel_rfl)
theorem o58:BQ wL ty 58 b58:=oFn [9] Tryz.func58 (by kernel_rfl) (by kernel_rfl)
theorem o59:BQ wL ty 59 b59:=oFn [11,14,15,16,17,19,22,26] Tryz.func59 (by kernel_rfl) (by kernel_rfl)
theorem o60:BQ wL ty 60 b60:=oFn [14,16,17,18,19,21,23,24,25,29,38,40,43,50,57,64,79] Tryz.func60 (by kernel_rfl) (by kernel_rfl)
theorem o61:BQ wL ty 61 b61:=oFn [] Tryz.func61 (by kernel_rfl) (by kernel_rfl)
theorem o62:BQ wL ty 62 b62:=oFn [] Tryz.func62 (by kernel_rfl) (by kernel_rfl)
theorem o63:BQ wL ty 63 b63:=oFn [13,15,17,18,24,26,28,32,38,40,47,54,55,57,59] Tryz.func63 (by kernel_rfl) (by kernel_rfl)
theorem o64:BQ wL ty 64 b64:=oFn [7,8,10] Tryz.func64 (by kernel_rfl) (by kernel_rfl)
theorem o66:BQ wL ty 66 b66:=oFn [] ADy (by kernel_rfl) (by kernel_rfl)
theorem o67:BQ wL ty 67 b67:=oFn [3,5] Tryz.func67 (by kernel_rfl) (by kernel_rfl)
theorem o68:BQ wL ty 68 b68:=oFn [3,5,9] Tryz.func68 (by kernel_rfl) (by kernel_rfl)
theorem o69:BQ wL ty 69 b69:=oFn [15,16,20,21,26,29,30,33,34,38,44,46,55,57,58,59,60,65,68,69,76,80] Tryz.func69 (by kernel_rfl) (by kernel_rfl)
theorem o70:BQ wL ty 70 b70:=oFn [5,7,8,9,12] Tryz.func70 (by kernel_rfl) (by kernel_rfl)
theorem o71:BQ wL ty 71 b71:=oFn [] Tryz.func71 (by kernel_rfl) (by kernel_rfl)
theorem o72:BQ wL ty 72 b72:=oFn [12,17,18,21,29,34] Tryz.func72 (by kernel_rfl) (by kernel_rfl)
theorem o73:BQ wL ty 73 b73:=oFn [] Tryz.func73 (by kernel_rfl) (by kernel_rfl)
theorem o74:BQ wL ty 74 b74:=oFn [5,6] Tryz.func74 (by kernel_rfl) (by kernel_rfl)
theorem o75:BQ wL ty 75 b75:=oFn [] Tryz.func75 (by kernel_rfl) (by kernel_rfl)
theorem o76:BQ wL ty 76 b76:=oFn [5,6] Tryz.func76 (by kernel_rfl) (by kernel_rfl)
theorem o77:BQ wL ty 77 b77:=oFn [8,17,23] Tryz.func77 (by kernel_rfl) (by kernel_rfl)
theorem o78:BQ wL ty 78 b78:=oFn [] Tryz.func78 (by kernel_rfl) (by kernel_rfl)
theorem o79:BQ wL ty 79 b79:=oFn [5,7,8,14,16,17] Tryz.func79 (by kernel_rfl) (by kernel_rfl)
theorem o80:BQ wL ty 80 b80:=oFn [7,9,13,14,15,17,18,25,29] Tryz.func80 (by kernel_rfl) (by kernel_rfl)
theorem o82:BQ wL ty 82 b82:=oFn [7,10,11,16,17,20,23] Tryz.func82 (by kernel_rfl) (by kernel_rfl)
theorem o84:BQ wL ty 84 b84:=oFn [11,13,19,20,21,24,26,27,30,31,33,35,39,47,48,51,55,57,58] Tryz.func84 (by kernel_rfl) (by kernel_rfl)
theorem o89:BQ wL ty 89 b89:=oFn [4,6,14] Tryz.func89 (by kernel_rfl) (by kernel_rfl)
theorem o90:BQ wL ty 90 b90:=oFn [3,6] Tryz.func90 (by kernel_rfl) (by kernel_rfl)
theorem o91:BQ wL ty 91 b91:=oFn [6,11,16,21,26,31,41] Tryz.func91 (by kernel_rfl) (by kernel_rfl)
theorem o92:BQ wL ty 92 b92:=oFn [9] Tryz.func92 (by kernel_rfl) (by kernel_rfl)
theorem o93:BQ wL ty 93 b93:=oFn [6,8,11,15,16,17,20,21] Tryz.func93 (by kernel_rfl) (by kernel_rfl)
theorem o94:BQ wL ty 94 b94:=oFn [10,11,12,14,16] Tryz.func94 (by kernel_rfl) (by kernel_rfl)
theorem o95:BQ wL ty 95 b95:=oFn [28,39,40,43,44,45] Tryz.func95 (by kernel_rfl) (by kernel_rfl)
theorem o96:BQ wL ty 96 b96:=oFn [11,12,15,19,20,23,24,27,31] Tryz.func96 (by kernel_rfl) (by kernel_rfl)
theorem o97:BQ wL ty 97 b97:=oFn [5,6] Tryz.func97 (by kernel_rfl) (by kernel_rfl)
theorem o98:BQ wL ty 98 b98:=oFn [14,16,18,21] Tryz.func98 (by kernel_rfl) (by kernel_rfl)
theorem o99:BQ wL ty 99 b99:=oFn [3,6] Tryz.func99 (by kernel_rfl) (by kernel_rfl)
theorem td:BQ wL ty 100 mR:=oFn [3,6] Tryz.func100 (by kernel_rfl) (by kernel_rfl)
theorem te:BQ wL ty 101 mS:=oFn [6,10,14,15,20,21,26,27,32,37,42] Tryz.func101 (by kernel_rfl) (by kernel_rfl)
theorem tf:BQ wL ty 102 mT:=oFn [6,7,11,17,19,20,21] Tryz.func102 (by kernel_rfl) (by kernel_rfl)
theorem tg:BQ wL ty 104 mU:=oFn [3,5,6,7] ACI (by kernel_rfl) (by kernel_rfl)
theorem th:BQ wL ty 106 mV:=oFn [9,10,12,14,15,16,20,24,26,30] Tryz.func106 (by kernel_rfl) (by kernel_rfl)
theorem tm:BQ wL ty 107 mW:=oFn [5,6] Tryz.func107 (by kernel_rfl) (by kernel_rfl)
theorem tq:BQ wL ty 108 mX:=oFn [3] Tryz.func108 (by kernel_rfl) (by kernel_rfl)
theorem tu:BQ wL ty 109 mY:=oFn [15,16,17,21,23,31,32,33,34,35,41,43,68,73,78] Tryz.func109 (by kernel_rfl) (by kernel_rfl)
theorem tw:BQ wL ty 110 mZ:=oFn [12,14,16,18,19,23,24,27,32,34,35,36,38,39,40] Tryz.func110 (by kernel_rfl) (by kernel_rfl)
theorem uA:BQ wL ty 111 ma:=oFn [21,22,24,26,27,28,29,31,33,34,35,36,38,40,41,42,43,45,47,48,49,50,51,55,57,58,59,60,62,64,65,68,69,72,76,77,78,79,81,83,98,99,100,101,102,104,105,106,107,108,109,110,114,115,116,118,119,121,123,124,126,127,129,130,131,132,133,135,137,138,140,141,143,144,145,147] Tryz.func111 (by kernel_rfl) (by kernel_rfl)
theorem uB:BQ wL ty 112 mc:=oFn [3,6] ADl (by kernel_rfl) (by kernel_rfl)
theorem uC:BQ wL ty 113 me:=oFn [12,13,15,17] Tryz.func113 (by kernel_rfl) (by kernel_rfl)
theorem uD:BQ wL ty 114 mf:=oFn [7,9,11,12,13,14,15,17,18] Tryz.func114 (by kernel_rfl) (by kernel_rfl)
theorem uE:BQ wL ty 115 mg:=oFn [13,29,44,45,52,58] Tryz.func115 (by kernel_rfl) (by kernel_rfl)
theorem uF:BQ wL ty 116 mh:=oFn [11,20,29] Tryz.func116 (by kernel_rfl) (by kernel_rfl)
theorem uG:BQ wL ty 117 mi:=oFn [6,10,11,12,13,17] Tryz.func117 (by kernel_rfl) (by kernel_rfl)
theorem uH:BQ wL ty 118 mj:=oFn [6,10,11,12,13,17] Tryz.func118 (by kernel_rfl) (by kernel_rfl)
theorem uI:BQ wL ty 119 ml:=oFn [] Tryz.func119 (by kernel_rfl) (by kernel_rfl)
theorem uJ:BQ wL ty 120 mo:=oFn [9,10,12,14,15,18,20,22,23,27,28] Tryz.func120 (by kernel_rfl) (by kernel_rfl)
theorem uK:BQ wL ty 121 mr:=oFn [7,9,11,12,14,16,17,27,31,34] Tryz.func121 (by kernel_rfl) (by kernel_rfl)
theorem uL:BQ wL ty 124 mu:=oFn [11,18] Tryz.func124 (by kernel_rfl) (by kernel_rfl)
theorem uM:BQ wL ty 125 mw:=oFn [7] Tryz.func125 (by kernel_rfl) (by kernel_rfl)
theorem uN:BQ wL ty 126 my:=oFn [] Tryz.func126 (by kernel_rfl) (by kernel_rfl)
theorem uO:BQ wL ty 127 mz:=oFn [8,9,10,11,14,15,17,18,20,21,23,24,27,28,30,32] Tryz.func127 (by kernel_rfl) (by kernel_rfl)
theorem uP:BQ wL ty 129 nB:=oFn [19,20,22,24,25,26,28,30,31,32,34,36,37,38,40,42,43,44,45,49,51,52,53,55,57,58,61,62,65,69,70,71,73,75,88,89,90,91,93,94,95,96,97,98,102,103,104,106,107,109,111,112,114,115,117,118,119,120,122,124,125,127,128,130,131,133] ADk (by kernel_rfl) (by kernel_rfl)
theorem uQ:BQ wL ty 130 nC:=oFn [6,9,14,16] Tryz.func130 (by kernel_rfl) (by kernel_rfl)
theorem uR:BQ wL ty 131 nE:=oFn [6,10,11,12,13,17] Tryz.func131 (by kernel_rfl) (by kernel_rfl)
theorem uS:BQ wL ty 132 nF:=oFn [3] Tryz.func132 (by kernel_rfl) (by kernel_rfl)
theorem uT:BQ wL ty 133 nG:=oFn [10,12,13,15,17,18,19,21,35,37,38,39,40,42,43,47,48] Tryz.func133 (by kernel_rfl) (by kernel_rfl)
theorem uU:BQ wL ty 142 nH:=oFn [3,5,7,9,11,13,15,17,19,20] ADj (by kernel_rfl) (by kernel_rfl)
theorem uV:BQ wL ty 143 nI:=oFn [3,4] ADi (by kernel_rfl) (by kernel_rfl)
theorem uW:BQ wL ty 144 nJ:=oFn [3,8,9,14,15] Tryz.func144 (by kernel_rfl) (by kernel_rfl)
theorem uX:BQ wL ty 145 nL:=oFn [10,17] Tryz.func145 (by kernel_rfl) (by kernel_rfl)
theorem uY:BQ wL ty 146 nM:=oFn [8,10,11,13,15,16,17,19,31,33,34,35,36,38,39,43,44] ADh (by kernel_rfl) (by kernel_rfl)
theorem uZ:BQ wL ty 152 nN:=oFn [5,7,12] ADg (by kernel_rfl) (by kernel_rfl)
theorem Au(i:Nat):BQ wL ty i As:=AD8 (.inl rfl)
def ndL(b:Body):FT:=.nd b .mt .mt
theorem ndO{a:Nat->Nat}{b:Body}(h:BQ wL ty (a 0) b):FT.All (BQ wL ty) (ndL b) a:=⟨h,No,No⟩
def HE:FT:=(.nd As (.nd As (.nd b3 (.nd b7 (.nd b15 (.nd b31 (.nd b63 (ndL mz) .mt) (.nd b95 (ndL As) .mt)) (.nd As (.nd b79 (ndL nI) .mt) (.nd ma (ndL As) .mt))) (.nd As (.nd b39 (.nd b71 (ndL As) .mt) (.nd As (ndL As) .mt)) (.nd b55 (.nd As (ndL As) .mt) (ndL ml)))) (.nd b11 (.nd b19 (.nd b35 (.nd b67 (ndL nE) .mt) (.nd b99 (ndL As) .mt)) (.nd As (.nd As (ndL As) .mt) (.nd mg (ndL As) .mt))) (.nd b27 (.nd b43 (.nd b75 (ndL As) .mt) (.nd mW (ndL As) .mt)) (.nd b59 (.nd b91 (ndL As) .mt) (ndL As))))) (.nd b5 (.nd b9 (.nd b17 (.nd b33 (.nd bS (ndL nB) .mt) (.nd b97 (ndL As) .mt)) (.nd As (.nd As (ndL nL) .mt) (.nd me (ndL As) .mt))) (.nd b25 (.nd b41 (.nd b73 (ndL As) .mt) (.nd As (ndL As) .mt)) (.nd b57 (.nd b89 (ndL As) .mt) (ndL mr)))) (.nd b13 (.nd As (.nd b37 (.nd b69 (ndL nG) .mt) (.nd mS (ndL As) .mt)) (.nd b53 (.nd As (ndL As) .mt) (.nd mi (ndL As) .mt))) (.nd b29 (.nd As (.nd b77 (ndL As) .mt) (.nd mY (ndL As) .mt)) (.nd b61 (.nd b93 (ndL As) .mt) (ndL mw)))))) (.nd As (.nd As (.nd b8 (.nd b16 (.nd b32 (.nd b64 (ndL As) .mt) (.nd b96 (ndL As) .mt)) (.nd As (.nd b80 (ndL nJ) .mt) (.nd mc (ndL As) .mt))) (.nd b24 (.nd b40 (.nd b72 (ndL As) .mt) (.nd mU (ndL As) .mt)) (.nd b56 (.nd As (ndL nN) .mt) (ndL mo)))) (.nd b12 (.nd As (.nd b36 (.nd b68 (ndL nF) .mt) (.nd mR (ndL As) .mt)) (.nd As (.nd b84 (ndL As) .mt) (.nd mh (ndL As) .mt))) (.nd b28 (.nd b44 (.nd b76 (ndL As) .mt) (.nd mX (ndL As) .mt)) (.nd b60 (.nd b92 (ndL As) .mt) (ndL mu))))) (.nd b6 (.nd b10 (.nd b18 (.nd b34 (.nd b66 (ndL nC) .mt) (.nd b98 (ndL As) .mt)) (.nd b50 (.nd b82 (ndL nM) .mt) (.nd mf (ndL As) .mt))) (.nd b26 (.nd b42 (.nd b74 (ndL As) .mt) (.nd mV (ndL As) .mt)) (.nd b58 (.nd b90 (ndL As) .mt) (ndL As)))) (.nd b14 (.nd As (.nd b38 (.nd b70 (ndL As) .mt) (.nd mT (ndL As) .mt)) (.nd b54 (.nd As (ndL As) .mt) (ndL mj))) (.nd b30 (.nd b46 (.nd b78 (ndL nH) .mt) (.nd mZ (ndL As) .mt)) (.nd b62 (.nd b94 (ndL As) .mt) (ndL my)))))))
theorem UA:FT.All (BQ wL ty) HE id:=⟨Au _,⟨Au _,⟨o3,⟨o7,⟨o15,⟨o31,⟨o63,ndO uO,No⟩,⟨o95,ndO (Au _),No⟩⟩,⟨Au _,⟨o79,ndO uV,No⟩,⟨uA,ndO (Au _),No⟩⟩⟩,⟨Au _,⟨o39,⟨o71,ndO (Au _),No⟩,⟨Au _,ndO (Au _),No⟩⟩,⟨o55,⟨Au _,ndO (Au _),No⟩,ndO uI⟩⟩⟩,⟨o11,⟨o19,⟨o35,⟨o67,ndO uR,No⟩,⟨o99,ndO (Au _),No⟩⟩,⟨Au _,⟨Au _,ndO (Au _),No⟩,⟨uE,ndO (Au _),No⟩⟩⟩,⟨o27,⟨o43,⟨o75,ndO (Au _),No⟩,⟨tm,ndO (Au _),No⟩⟩,⟨o59,⟨o91,ndO (Au _),No⟩,ndO (Au _)⟩⟩⟩⟩,⟨o5,⟨o9,⟨o17,⟨o33,⟨oS,ndO uP,No⟩,⟨o97,ndO (Au _),No⟩⟩,⟨Au _,⟨Au _,ndO uX,No⟩,⟨uC,ndO (Au _),No⟩⟩⟩,⟨o25,⟨o41,⟨o73,ndO (Au _),No⟩,⟨Au _,ndO (Au _),No⟩⟩,⟨o57,⟨o89,ndO (Au _),No⟩,ndO uK⟩⟩⟩,⟨o13,⟨Au _,⟨o37,⟨o69,ndO uT,No⟩,⟨te,ndO (Au _),No⟩⟩,⟨o53,⟨Au _,ndO (Au _),No⟩,⟨uG,ndO (Au _),No⟩⟩⟩,⟨o29,⟨Au _,⟨o77,ndO (Au _),No⟩,⟨tu,ndO (Au _),No⟩⟩,⟨o61,⟨o93,ndO (Au _),No⟩,ndO uM⟩⟩⟩⟩⟩,⟨Au _,⟨Au _,⟨o8,⟨o16,⟨o32,⟨o64,ndO (Au _),No⟩,⟨o96,ndO (Au _),No⟩⟩,⟨Au _,⟨o80,ndO uW,No⟩,⟨uB,ndO (Au _),No⟩⟩⟩,⟨o24,⟨o40,⟨o72,ndO (Au _),No⟩,⟨tg,ndO (Au _),No⟩⟩,⟨o56,⟨Au _,ndO uZ,No⟩,ndO uJ⟩⟩⟩,⟨o12,⟨Au _,⟨o36,⟨o68,ndO uS,No⟩,⟨td,ndO (Au _),No⟩⟩,⟨Au _,⟨o84,ndO (Au _),No⟩,⟨uF,ndO (Au _),No⟩⟩⟩,⟨o28,⟨o44,⟨o76,ndO (Au _),No⟩,⟨tq,ndO (Au _),No⟩⟩,⟨o60,⟨o92,ndO (Au _),No⟩,ndO uL⟩⟩⟩⟩,⟨o6,⟨o10,⟨o18,⟨o34,⟨o66,ndO uQ,No⟩,⟨o98,ndO (Au _),No⟩⟩,⟨o50,⟨o82,ndO uY,No⟩,⟨uD,ndO (Au _),No⟩⟩⟩,⟨o26,⟨o42,⟨o74,ndO (Au _),No⟩,⟨th,ndO (Au _),No⟩⟩,⟨o58,⟨o90,ndO (Au _),No⟩,ndO (Au _)⟩⟩⟩,⟨o14,⟨Au _,⟨o38,⟨o70,ndO (Au _),No⟩,⟨tf,ndO (Au _),No⟩⟩,⟨o54,⟨Au _,ndO (Au _),No⟩,ndO uH⟩⟩,⟨o30,⟨o46,⟨o78,ndO uU,No⟩,⟨tw,ndO (Au _),No⟩⟩,⟨o62,⟨o94,ndO (Au _),No⟩,ndO uN⟩⟩⟩⟩⟩⟩
theorem mA:DI wL ty:=sJ (by kernel_rfl) (by kernel_rfl)
theorem OU(n:Nat):Dg wL ty (call HE n):=Jq mA (by kernel_rfl) UA n
end
noncomputable section
open Go
set_option maxHeartbeats 0 in
theorem YT:de (call HE 64 18 [] JK)=IN:=by kernel_rfl
theorem Tw:JM wL ty 18 Ky:=Zk ⟨Tryz.f18,AD0,QI (by kernel_rfl),by kernel_rfl⟩ (eV OU YT)
theorem oA:BQ wL ty 18 Ky:=AD8 (.inr Tw)
open Go.RowKit Go.WideShapes Go.ChangeShapes
def l7(a:List vz)(b:List vz)(h:Hp):R:=match b with
 |[]=>.ok (.agg ⟨a⟩) h
 |_::_=>.no
def OQ(a:List vz):Body:=⟨[.x (λ_=>l7 a)],cNo⟩
def isW:vz->Bool
 |.int .u32 a=>decide (0<=a) && decide (a<4294967296)
 |_=>IS
def db:R->Bool
 |.ok (.agg ⟨a⟩) _=>a.all isW && wU a.length 256
 |_=>IS
def rX:R->List vz
 |.ok (.agg ⟨a⟩) _=>a
 |_=>[]
def N4:List vz:=rX (call HE 64 5 [] JK)
set_option maxHeartbeats 0 in
theorem lE:db (call HE 64 5 [] JK)=IN:=by kernel_rfl
theorem P8{v:vz}(h:isW v=IN):∃n:Nat,v=.int .u32 (n:Int)/\n<4294967296:=by
 unfold isW at h;split at h
 ·rename_i n
  simp only[wV,decide_eq_true_eq]at h;obtain⟨a,rfl⟩:=yw h.1;exact⟨a,rfl,by omega⟩
 ·cases h
theorem VW:∃h',call HE 64 5 [] JK=.ok (.agg ⟨N4⟩) h'/\N4.length=256/\∀v∈N4,isW v=IN:=by
 have a:=lE;unfold N4;generalize call HE 64 5 [] JK=c at a;unfold db at a;split at a
 ·rename_i b h'
  simp only[wV,List.all_eq_true]at a;exact⟨h',rfl,Nat.eq_of_beq_eq_true a.2,a.1⟩
 ·cases a
theorem Sd{φ:Phi}:∀{a b:List vz},AEp φ a b->(∀v∈a,isW v=IN)->b=a
 |_,_,.nil,_=>rfl
 |_,_,.cons (v:=v) d f,c=>by
  rw[Sd f λg e=>c g (wI _ e)];obtain⟨h,rfl,_⟩:=P8 (c v wJ);cases d;rfl
theorem Se(φ:Phi):∀{a:List vz},(∀v∈a,isW v=IN)->AEp φ a a
 |[],_=>.nil
 |v::a,b=>by
  obtain⟨e,rfl,_⟩:=P8 (b v wJ);exact .cons (.int _ _) (Se φ λd c=>b d (wI _ c))
theorem Zi(w:World):Calls wL 5 #[] w λe w'=>e=.returned (.agg ⟨N4⟩)/\Below w.heap.size w w':=by
 obtain⟨b,h,_,j⟩:=VW;obtain⟨_,c⟩:=OU _ 5 [] JK _ b h;refine(c ro w [] .nil (PN ty w)).mono λe w' ⟨n,o,a,i,_,ev⟩=>?_
 cases i with
 |agg f=>
  rw[Sd f j]at a;exact⟨a,⟨ev.os,ev.tape,ev.output,ev.size,λk d=>ev.frame k d λl m g=>by cases g⟩⟩
theorem Y9{P:xU}{ty:TTy}{f:Nat}{a:List vz}(m:∀v∈a,isW v=IN)(n:∃c,P.funcs[f]? =BY c/\c.name≠"runtime.NumGoroutine" /\c.body.isNone=IS)(o:∀w:World,Calls P f #[] w λe w'=>e=.returned (.agg ⟨a⟩)/\Below w.heap.size w w'):JM P ty f (OQ a):=λq g k v l _ b=>⟨n,λi w s j d=>by
 have b:l7 a g k=.ok v l:=b;cases g with
 |cons r t=>cases b
 |nil=>
  cases b;cases j;exact(o w).mono λe w' ⟨p,h⟩=>⟨_,i,p,.agg (Se i m),(HY d h).1,(HY d h).2⟩⟩
theorem fJ:JM wL ty 5 (OQ N4):=Y9 (VW.choose_spec.2.2) ⟨Tryz.f5,AD5,QI (by kernel_rfl),by kernel_rfl⟩ Zi
theorem oT:BQ wL ty 5 (OQ N4):=AD8 (.inr fJ)
theorem YY{bs:FT}{n f:Nat}{a:List vz}(b:bs.get f=BY (OQ a)){h:Hp}:call bs (wQ n) f [] h=.ok (.agg ⟨a⟩) h:=by
 rw[MN b];rfl
end
noncomputable section
open Go
def AC:FT:=(.nd As (.nd As (.nd b3 (.nd b7 (.nd b15 (.nd b31 (.nd b63 (ndL mz) .mt) (.nd b95 (ndL As) .mt)) (.nd As (.nd b79 (ndL nI) .mt) (.nd ma (ndL As) .mt))) (.nd As (.nd b39 (.nd b71 (ndL As) .mt) (.nd As (ndL As) .mt)) (.nd b55 (.nd As (ndL As) .mt) (ndL ml)))) (.nd b11 (.nd b19 (.nd b35 (.nd b67 (ndL nE) .mt) (.nd b99 (ndL As) .mt)) (.nd As (.nd As (ndL As) .mt) (.nd mg (ndL As) .mt))) (.nd b27 (.nd b43 (.nd b75 (ndL As) .mt) (.nd mW (ndL As) .mt)) (.nd b59 (.nd b91 (ndL As) .mt) (ndL As))))) (.nd (OQ N4) (.nd b9 (.nd b17 (.nd b33 (.nd bS (ndL nB) .mt) (.nd b97 (ndL As) .mt)) (.nd As (.nd As (ndL nL) .mt) (.nd me (ndL As) .mt))) (.nd b25 (.nd b41 (.nd b73 (ndL As) .mt) (.nd As (ndL As) .mt)) (.nd b57 (.nd b89 (ndL As) .mt) (ndL mr)))) (.nd b13 (.nd As (.nd b37 (.nd b69 (ndL nG) .mt) (.nd mS (ndL As) .mt)) (.nd b53 (.nd As (ndL As) .mt) (.nd mi (ndL As) .mt))) (.nd b29 (.nd As (.nd b77 (ndL As) .mt) (.nd mY (ndL As) .mt)) (.nd b61 (.nd b93 (ndL As) .mt) (ndL mw)))))) (.nd As (.nd As (.nd b8 (.nd b16 (.nd b32 (.nd b64 (ndL As) .mt) (.nd b96 (ndL As) .mt)) (.nd As (.nd b80 (ndL nJ) .mt) (.nd mc (ndL As) .mt))) (.nd b24 (.nd b40 (.nd b72 (ndL As) .mt) (.nd mU (ndL As) .mt)) (.nd b56 (.nd As (ndL nN) .mt) (ndL mo)))) (.nd b12 (.nd As (.nd b36 (.nd b68 (ndL nF) .mt) (.nd mR (ndL As) .mt)) (.nd As (.nd b84 (ndL As) .mt) (.nd mh (ndL As) .mt))) (.nd b28 (.nd b44 (.nd b76 (ndL As) .mt) (.nd mX (ndL As) .mt)) (.nd b60 (.nd b92 (ndL As) .mt) (ndL mu))))) (.nd b6 (.nd b10 (.nd Ky (.nd b34 (.nd b66 (ndL nC) .mt) (.nd b98 (ndL As) .mt)) (.nd b50 (.nd b82 (ndL nM) .mt) (.nd mf (ndL As) .mt))) (.nd b26 (.nd b42 (.nd b74 (ndL As) .mt) (.nd mV (ndL As) .mt)) (.nd b58 (.nd b90 (ndL As) .mt) (ndL As)))) (.nd b14 (.nd As (.nd b38 (.nd b70 (ndL As) .mt) (.nd mT (ndL As) .mt)) (.nd b54 (.nd As (ndL As) .mt) (ndL mj))) (.nd b30 (.nd b46 (.nd b78 (ndL nH) .mt) (.nd mZ (ndL As) .mt)) (.nd b62 (.nd b94 (ndL As) .mt) (ndL my)))))))
theorem YW:FT.All (BQ wL ty) AC id:=⟨Au _,⟨Au _,⟨o3,⟨o7,⟨o15,⟨o31,⟨o63,ndO uO,No⟩,⟨o95,ndO (Au _),No⟩⟩,⟨Au _,⟨o79,ndO uV,No⟩,⟨uA,ndO (Au _),No⟩⟩⟩,⟨Au _,⟨o39,⟨o71,ndO (Au _),No⟩,⟨Au _,ndO (Au _),No⟩⟩,⟨o55,⟨Au _,ndO (Au _),No⟩,ndO uI⟩⟩⟩,⟨o11,⟨o19,⟨o35,⟨o67,ndO uR,No⟩,⟨o99,ndO (Au _),No⟩⟩,⟨Au _,⟨Au _,ndO (Au _),No⟩,⟨uE,ndO (Au _),No⟩⟩⟩,⟨o27,⟨o43,⟨o75,ndO (Au _),No⟩,⟨tm,ndO (Au _),No⟩⟩,⟨o59,⟨o91,ndO (Au _),No⟩,ndO (Au _)⟩⟩⟩⟩,⟨oT,⟨o9,⟨o17,⟨o33,⟨oS,ndO uP,No⟩,⟨o97,ndO (Au _),No⟩⟩,⟨Au _,⟨Au _,ndO uX,No⟩,⟨uC,ndO (Au _),No⟩⟩⟩,⟨o25,⟨o41,⟨o73,ndO (Au _),No⟩,⟨Au _,ndO (Au _),No⟩⟩,⟨o57,⟨o89,ndO (Au _),No⟩,ndO uK⟩⟩⟩,⟨o13,⟨Au _,⟨o37,⟨o69,ndO uT,No⟩,⟨te,ndO (Au _),No⟩⟩,⟨o53,⟨Au _,ndO (Au _),No⟩,⟨uG,ndO (Au _),No⟩⟩⟩,⟨o29,⟨Au _,⟨o77,ndO (Au _),No⟩,⟨tu,ndO (Au _),No⟩⟩,⟨o61,⟨o93,ndO (Au _),No⟩,ndO uM⟩⟩⟩⟩⟩,⟨Au _,⟨Au _,⟨o8,⟨o16,⟨o32,⟨o64,ndO (Au _),No⟩,⟨o96,ndO (Au _),No⟩⟩,⟨Au _,⟨o80,ndO uW,No⟩,⟨uB,ndO (Au _),No⟩⟩⟩,⟨o24,⟨o40,⟨o72,ndO (Au _),No⟩,⟨tg,ndO (Au _),No⟩⟩,⟨o56,⟨Au _,ndO uZ,No⟩,ndO uJ⟩⟩⟩,⟨o12,⟨Au _,⟨o36,⟨o68,ndO uS,No⟩,⟨td,ndO (Au _),No⟩⟩,⟨Au _,⟨o84,ndO (Au _),No⟩,⟨uF,ndO (Au _),No⟩⟩⟩,⟨o28,⟨o44,⟨o76,ndO (Au _),No⟩,⟨tq,ndO (Au _),No⟩⟩,⟨o60,⟨o92,ndO (Au _),No⟩,ndO uL⟩⟩⟩⟩,⟨o6,⟨o10,⟨oA,⟨o34,⟨o66,ndO uQ,No⟩,⟨o98,ndO (Au _),No⟩⟩,⟨o50,⟨o82,ndO uY,No⟩,⟨uD,ndO (Au _),No⟩⟩⟩,⟨o26,⟨o42,⟨o74,ndO (Au _),No⟩,⟨th,ndO (Au _),No⟩⟩,⟨o58,⟨o90,ndO (Au _),No⟩,ndO (Au _)⟩⟩⟩,⟨o14,⟨Au _,⟨o38,⟨o70,ndO (Au _),No⟩,⟨tf,ndO (Au _),No⟩⟩,⟨o54,⟨Au _,ndO (Au _),No⟩,ndO uH⟩⟩,⟨o30,⟨o46,⟨o78,ndO uU,No⟩,⟨tw,ndO (Au _),No⟩⟩,⟨o62,⟨o94,ndO (Au _),No⟩,ndO uN⟩⟩⟩⟩⟩⟩
theorem aX(n:Nat):Dg wL ty (call AC n):=Jq mA (by kernel_rfl) YW n
theorem Z4:AC.get 18=BY Ky:=by kernel_rfl
theorem fL:AC.get 5=BY (OQ N4):=by kernel_rfl
def BZ(f:Nat)(e:List RV)(d:C):Prop:=∀{c:Nat} {a:List vz} {b:Hp},wY (DH a) 240=IN->call AC (wQ c) f a b=IG e (d (call AC c) (Ay e0 0 a) b)
theorem Ba{f:Nat}{a:List RV}{d:C}(b:AC.get f=BY ⟨a,d⟩)(e:Qn a=By):BZ f a d:=λc=>by rw[MN b,bj c e]
theorem tC:BZ 7 [] d7:=Ba (by kernel_rfl) rfl
theorem nW:BZ 10 [.t (J 2)] d10:=Ba (by kernel_rfl) rfl
theorem UF:BZ 19 [.t (J 4)] d19:=Ba (by kernel_rfl) rfl
theorem ng:BZ 25 [.t (J 2),.t (J 3)] d25:=Ba (by kernel_rfl) rfl
theorem nh:BZ 26 [.t (J 2)] d26:=Ba (by kernel_rfl) rfl
theorem ny:BZ 35 [.t (J 2)] d35:=Ba (by kernel_rfl) rfl
theorem aP:BZ 39 [.t (J 6),.t (J 7)] d39:=Ba (by kernel_rfl) rfl
theorem oD:BZ 40 [.t (J 2)] d40:=Ba (by kernel_rfl) rfl
theorem oE:BZ 44 [.t (J 4)] d44:=Ba (by kernel_rfl) rfl
theorem oF:BZ 46 [.t (J 4)] d46:=Ba (by kernel_rfl) rfl
theorem oG:BZ 50 [.t (J 4)] d50:=Ba (by kernel_rfl) rfl
theorem oH:BZ 53 [.t (J 2)] d53:=Ba (by kernel_rfl) rfl
theorem Hy:BZ 54 [.t (J 10)] d54:=Ba (by kernel_rfl) rfl
theorem K9:BZ 55 [.t (J 8)] d55:=Ba (by kernel_rfl) rfl
theorem Pe:BZ 56 [.t (J 8)] d56:=Ba (by kernel_rfl) rfl
theorem oK:BZ 59 [.cN (J 8) 5,.t (J 9)] d59:=Ba (by kernel_rfl) rfl
theorem aQ:BZ 60 [.t (J 8)] d60:=Ba (by kernel_rfl) rfl
theorem UI:BZ 63 [.t (J 8)] d63:=Ba (by kernel_rfl) rfl
theorem oP:BZ 67 [.t (J 2)] d67:=Ba (by kernel_rfl) rfl
theorem oQ:BZ 68 [.t (J 2)] d68:=Ba (by kernel_rfl) rfl
theorem oR:BZ 69 [.cN (J 4) 6,.t (J 5),.t (J 6),.t (J 7)] d69:=Ba (by kernel_rfl) rfl
theorem aR:BZ 70 [] d70:=Ba (by kernel_rfl) rfl
theorem oU:BZ 71 [.t (J 4)] d71:=Ba (by kernel_rfl) rfl
theorem oV:BZ 72 [.t (J 2)] d72:=Ba (by kernel_rfl) rfl
theorem oW:BZ 73 [.t (J 3)] d73:=Ba (by kernel_rfl) rfl
theorem oX:BZ 74 [.t (J 4)] d74:=Ba (by kernel_rfl) rfl
theorem oY:BZ 75 [.t (J 3)] d75:=Ba (by kernel_rfl) rfl
theorem oZ:BZ 76 [.t (J 4)] d76:=Ba (by kernel_rfl) rfl
theorem aS:BZ 77 [.t (J 4)] d77:=Ba (by kernel_rfl) rfl
theorem oa:BZ 78 [.cN (J 2) 5] d78:=Ba (by kernel_rfl) rfl
theorem od:BZ 79 [.t (J 4)] d79:=Ba (by kernel_rfl) rfl
theorem oe:BZ 80 [.t (J 4)] d80:=Ba (by kernel_rfl) rfl
theorem UJ:BZ 82 [.t (J 4),.t (J 5)] d82:=Ba (by kernel_rfl) rfl
theorem aT:BZ 84 [.t (J 4),.t (J 5),.t (J 6)] d84:=Ba (by kernel_rfl) rfl
theorem aU:BZ 89 [.t (J 2)] d89:=Ba (by kernel_rfl) rfl
theorem JP:BZ 90 [.t (J 2)] d90:=Ba (by kernel_rfl) rfl
theorem oh:BZ 91 [.t (J 2)] d91:=Ba (by kernel_rfl) rfl
theorem oo:BZ 92 [.t (J 8)] d92:=Ba (by kernel_rfl) rfl
theorem UK:BZ 93 [.t (J 4)] d93:=Ba (by kernel_rfl) rfl
theorem oq:BZ 94 [.t (J 8)] d94:=Ba (by kernel_rfl) rfl
theorem aV:BZ 95 [.t (J 4),.t (J 5)] d95:=Ba (by kernel_rfl) rfl
theorem ot:BZ 96 [.t (J 6)] d96:=Ba (by kernel_rfl) rfl
theorem ox:BZ 97 [.t (J 4)] d97:=Ba (by kernel_rfl) rfl
theorem aW:BZ 98 [.t (J 4)] d98:=Ba (by kernel_rfl) rfl
theorem LA:BZ 99 [.t (J 2)] d99:=Ba (by kernel_rfl) rfl
theorem Pd:BZ 100 [.t (J 2)] az:=Ba (by kernel_rfl) rfl
theorem gQ:BZ 101 [.t (J 4)] pM:=Ba (by kernel_rfl) rfl
theorem WD:BZ 102 [.t (J 4)] hU:=Ba (by kernel_rfl) rfl
theorem gS:BZ 106 [.t (J 4),.t (J 5)] pO:=Ba (by kernel_rfl) rfl
theorem ML:BZ 107 [.t (J 4)] Ye:=Ba (by kernel_rfl) rfl
theorem gT:BZ 108 [.t (J 2)] pP:=Ba (by kernel_rfl) rfl
theorem Jp:BZ 109 [.cN (J 4) 5,.t (J 5),.t (J 6),.t (J 7)] pQ:=Ba (by kernel_rfl) rfl
theorem WE:BZ 110 [.t (J 6),.t (J 7)] pR:=Ba (by kernel_rfl) rfl
theorem WF:BZ 111 [] pS:=Ba (by kernel_rfl) rfl
theorem gU:BZ 112 [.t (J 2)] pT:=Ba (by kernel_rfl) rfl
theorem WG:BZ 113 [.t (J 2)] pU:=Ba (by kernel_rfl) rfl
theorem gV:BZ 114 [.t (J 4)] pV:=Ba (by kernel_rfl) rfl
theorem gW:BZ 115 [.t (J 3)] pW:=Ba (by kernel_rfl) rfl
theorem gX:BZ 116 [.t (J 3)] pX:=Ba (by kernel_rfl) rfl
theorem WH:BZ 117 [.t (J 4)] pY:=Ba (by kernel_rfl) rfl
theorem gY:BZ 118 [.t (J 4)] pZ:=Ba (by kernel_rfl) rfl
theorem WJ:BZ 119 [.t (J 2)] iC:=Ba (by kernel_rfl) rfl
theorem WK:BZ 120 [.t (J 6)] iD:=Ba (by kernel_rfl) rfl
theorem WL:BZ 121 [.t (J 2)] pf:=Ba (by kernel_rfl) rfl
theorem gZ:BZ 124 [.t (J 5)] ph:=Ba (by kernel_rfl) rfl
theorem ga:BZ 125 [.t (J 6)] pi:=Ba (by kernel_rfl) rfl
theorem WM:BZ 126 [.t (J 3)] iE:=Ba (by kernel_rfl) rfl
theorem gb:BZ 127 [.t (J 6)] pj:=Ba (by kernel_rfl) rfl
theorem ge:BZ 130 [.t (J 4)] po:=Ba (by kernel_rfl) rfl
theorem MM:BZ 131 [.t (J 4)] pp:=Ba (by kernel_rfl) rfl
theorem gf:BZ 132 [.t (J 2)] pq:=Ba (by kernel_rfl) rfl
theorem WN:BZ 133 [] pr:=Ba (by kernel_rfl) rfl
theorem gh:BZ 142 [.t (J 2)] px:=Ba (by kernel_rfl) rfl
theorem WO:BZ 143 [.t (J 2)] iH:=Ba (by kernel_rfl) rfl
theorem WP:BZ 144 [.t (J 2)] iI:=Ba (by kernel_rfl) rfl
theorem gi:BZ 145 [.t (J 4)] py:=Ba (by kernel_rfl) rfl
theorem mD:BX ty5.zero 1=[.int .u8 0]:=by kernel_rfl
theorem qJ:d79=G 4 (AQ (W (.slice By 0 0))) (BJ (Ab 0 (A4 N9)) fY):=rfl
def Hp.AHK(h:Hp)(k en:Nat)(v:vz)(xs:List vz):Prop:=h.Own k en v xs\/∃(a:Nat) (b:List Nat),xs=b.map bv/\v=.slice (BY ⟨a,0,By⟩) xs.length xs.length/\h.Row a 0 xs
theorem Sx{h0 h:Hp}{eb en k:Nat}{v:vz}{xs:List vz}{n:Nat}(i:h0.Ext h)(hk:h0.next<=k)(u:k<=h.next)(o:h.AHK k en v xs)(l:(xs.length+2)*(eb+1)<=1099511627776):
  ∃h' v',DX 1 eb en v (.slice (BY ⟨h.next,0,By⟩) 1 1) (h.AER 0 [.int .u8 (n:Int)])=.ok v' h'/\h0.Ext h'/\h'.Own k en v' (xs++[.int .u8 (n:Int)])/\h'.next=h.next+2/\∀b g f,¬AEu v b->h.Row b g f->h'.Row b g f/\¬AEu v' b:=by
 rcases o with o|⟨b,w,rfl,rfl,x⟩
 ·exact MY i hk u o l
 ·have a:=i.wf
  have e:=(Hp.Ext.refl a).AER 0 [xd .u8 (n:Int)];have q:(h.AER 0 [.int .u8 (n:Int)]).AEs (.slice (BY ⟨h.next,0,By⟩) 1 1) ([n].map bv):=Nk a;obtain⟨t,r,j,s,y⟩:=Qy (eb:=eb) (en:=en) (c:=(w.map bv).length) (m:=[n]) e.wf (x.ext a e) q.bytes (by show _<_+1;omega) (by show(_+1+1)*_<=_;exact l);have A:(h.AER 0 [.int .u8 (n:Int)]).next=h.next+1:=rfl;refine⟨t,_,r,(i.AER _ _).trans j,.inr ⟨_,by rw[wD];rfl,s,by omega,by have:=a.big;omega⟩,by omega,λz g f _ p=>⟨(p.ext a e).ext e.wf j,λ⟨o,B,C,d⟩=>?_⟩⟩;have:=p.lt a;injection d with d
  injection d with d
  injection d with d
  omega
theorem Zm{F:AES}{h0 h:Hp}{k:Nat}(W:h0.Ext h)(hk:h0.next<=k)(P:k<=h.next){v:vz}{l:List Nat}(o:h.AHK k 5 v (l.map bv))(Z:l.length<=1000000){N:Nat}(x:N<18446744073709551616){e:Env}(s0:J 0 e=v)(s1:J 1 e=.int .u64 (N:Int)):
  ∃a h' v' xs m,A4 N9 F e h=.exit 0 a h'/\J 0 a=v'/\J 1 a=.int .u64 ((m:Nat):Int)/\m<128/\l++CA N=xs++[m]/\h0.Ext h'/\h'.AHK k 5 v' (xs.map bv)/\h.next<=h'.next/\(∀b d c,¬AEu v b->h.Row b d c->h'.Row b d c/\¬AEu v' b):=by
 have Y:=Li x;refine Bb (I:=λA a h'=>∃v' xs m,J 0 a=v'/\J 1 a=.int .u64 ((m:Nat):Int)/\m<18446744073709551616/\l++CA N=xs++CA m/\A+(CA m).length=(CA N).length/\h0.Ext h'/\h'.AHK k 5 v' (xs.map bv)/\h.next<=h'.next/\(∀b d c,¬AEu v b->h.Row b d c->h'.Row b d c/\¬AEu v' b))
  (Q:=λV=>∃a h' v' xs m,V=.exit 0 a h'/\J 0 a=v'/\J 1 a=.int .u64 ((m:Nat):Int)/\m<128/\l++CA N=xs++[m]/\h0.Ext h'/\h'.AHK k 5 v' (xs.map bv)/\h.next<=h'.next/\(∀b d c,¬AEu v b->h.Row b d c->h'.Row b d c/\¬AEu v' b)) 20 (by omega) (λA a h' ⟨v',xs,m,t0,t1,hm,i,y,u,B,z,fr⟩=>?_)
  ⟨v,l,N,s0,s1,x,rfl,wC _,W,o,wB _,λb d c p s=>⟨s,p⟩⟩
 have q:=congrArg zo i;rw[wD,wD]at q;by_cases w:m<128
 ·right
  have j:iGt (m:Int) 127=IS:=by rw[HL];simp;omega
  have r:N9 F a h'=.exit 0 (Env.set 6 (.bool IS) a) h':=by
   unfold N9;simp only[sT,sh,OF,reduceIte,AM,AK,t1,j]
  rw[r];refine⟨rfl,_,_,v',xs,m,rfl,by simp[AG,t0],by simp[AG,t1],w,?_,u,B,z,fr⟩;rw[i,FY w]
 ·left
  have D:=u.wf;have j:iGt (m:Int) 127=IN:=by rw[HL];simp;omega
  have t:VJ .u64 (.int .u64 (m:Int)) (.int .u64 128) h'=.ok (.int .u64 ((m % 128:Nat):Int)) h':=by rw[Qa (by omega)];rfl
  have E:GF .u64 (.int .u64 ((m % 128:Nat):Int)) (.int .u64 128) h'=.ok (.int .u64 ((m % 128+128:Nat):Int)) h':=by
   have:ACF.wrap (((m % 128:Nat):Int)+128)=((m % 128+128:Nat):Int):=by
    rw[show((m % 128:Nat):Int)+128=((m % 128+128:Nat):Int)by omega];exact Eu (by omega)
   rw[FK,this]
  have U:Ds .u8 (.int .u64 ((m % 128+128:Nat):Int)) h'=.ok (.int .u8 ((m % 128+128:Nat):Int)) h':=by
   rw[Cz,JC,zg (show m % 128+128<256 by omega)]
  have S:∀e,J 11 e=.int .u8 ((m % 128+128:Nat):Int)->Ap 1 (BX ty5.zero 1) [(0,1,J 11)] F e h'=.ok (.slice (BY ⟨h'.next,0,By⟩) 1 1) (h'.AER 0 [.int .u8 ((m % 128+128:Nat):Int)]):=λe O=>by rw[mD];exact I4 D O rfl rfl
  have a3:=Zl (m/128);rw[HB (n:=m) (by omega)]at y q i;rw[wK]at y q;obtain⟨g,C,G,X,R,a0,M⟩:=Sx (eb:=1) (n:=m % 128+128) u hk (wy P z) B (by rw[wF];omega);have L:UU .u64 (.int .u64 (m:Int)) (.int .u64 128) g=.ok (.int .u64 ((m/128:Nat):Int)) g:=by
   have:ACF.wrap ((m:Int).tdiv 128)=((m/128:Nat):Int):=Eu (n:=m/128) (by omega);rw[MP (by omega),this]
  have r:∃f,N9 F a h'=.norm f g/\J 0 f=C/\J 1 f=.int .u64 ((m/128:Nat):Int):=by
   unfold N9;simp only[sT,sh,OF,reduceIte,AM,AK,t1,j,MW,t,BL,E,CU,U,S,BD,t0,G,KK,L];exact⟨_,rfl,by simp[AG]⟩
  obtain⟨f,H,K,b3⟩:=r;refine⟨by omega,f,g,H,C,xs++[m % 128+128],m/128,K,b3,by omega,?_,by omega,X,?_,by omega,λb d c p s=>?_⟩
  ·rw[i];simp
  ·rw[w9];exact .inl R
  ·obtain⟨t,T⟩:=fr b d c p s
   exact M b d c T t
theorem fZ{n:Nat}{h0 h:Hp}{k:Nat}(K:h0.Ext h)(hk:h0.next<=k)(i:k<=h.next){v:vz}{l:List Nat}(o:h.AHK k 5 v (l.map bv))(x:l.length<=1000000){N:Nat}(g:N<18446744073709551616):
  ∃h' v',call AC (n+1) 79 [v,.int .u64 (N:Int)] h=.ok v' h'/\h0.Ext h'/\h'.Own k 5 v' ((l++CA N).map bv)/\h.next<=h'.next/\(∀b d c,¬AEu v b->h.Row b d c->h'.Row b d c/\¬AEu v' b):=by
 obtain⟨O,f,R,S,a,D,s0,s1,P,j,m,A,z,fr⟩:=Zm (F:=call AC n) K hk i o x g (e:=Env.set 4 (.slice By 0 0) (Env.set 1 (.int .u64 (N:Int)) (Env.set 0 v e0))) (by simp[AG]) (by simp[AG]);have p:=m.wf;have M:=Li g;have y:=congrArg zo j;rw[wD,wD,xM]at y;have r:Ds .u8 (.int .u64 (a:Int)) f=.ok (.int .u8 (a:Int)) f:=by
  rw[Cz,JC,zg (show a<256 by omega)]
 have C:∀e,J 18 e=.int .u8 (a:Int)->Ap 1 (BX ty5.zero 1) [(0,1,J 18)] (call AC n) e f=.ok (.slice (BY ⟨f.next,0,By⟩) 1 1) (f.AER 0 [.int .u8 (a:Int)]):=λe w=>by rw[mD];exact I4 p w rfl rfl
 obtain⟨t,I,q,L,B,Q,s⟩:=Sx (eb:=1) (n:=a) m hk (wy i z) A (by rw[wF];omega);refine⟨t,I,?_,L,?_,by omega,λb d c u E=>?_⟩
 ·rw[od rfl,qJ]
  simp only[iN,wA,AG,sh,OF,reduceIte,HF,HT,EM,HS,Gw,BC,Aw];rw[D];simp only[A6,BA];unfold fY;simp only[sT,sh,OF,reduceIte,CU,s1,r,C,BD,s0,q,lV0]
 ·rw[j,w9];exact B
 ·obtain⟨G,H⟩:=fr b d c u E
  exact s b d c H G
theorem lN{n:Nat}{h0 h:Hp}{k:Nat}(g:h0.Ext h)(hk:h0.next<=k)(e:k<=h.next){v:vz}{l:List Nat}(o:h.Own k 5 v (l.map bv))(f:l.length<=1000000){N:Nat}(d:N<18446744073709551616):
 ∃h' v',call AC (n+1) 79 [v,.int .u64 (N:Int)] h=.ok v' h'/\h0.Ext h'/\h'.Own k 5 v' ((l++CA N).map bv)/\h.next<=h'.next/\(∀b c a,¬AEu v b->h.Row b c a->h'.Row b c a/\¬AEu v' b):=fZ g hk e (.inl o) f d
def mE(l:List Nat)(p:Nat)(a b c:Int):Prop:=(∃v d:Nat,GH 0 0 (l.drop p)=BY (v,d)/\a=(v:Int)/\b=((p+d:Nat):Int)/\c=0)\/(GH 0 0 (l.drop p)=By/\c≠0)
def Ps:C:=(Bj 46
(G 4 (AQ (W (.int .u64 0)))
(G 5 (AQ (W (AI AT 0)))
(G 6 (AQ (W (AI AT 10)))
Ao)))
(G 49 (QP .u8 (J 9) (W (.int .u8 128)))
(G 50 (C5 .u64 (J 49))
(G 52 (C7 AA8 .i64 (W (AI AT 7)) (J 10))
(G 53 (OJ .u64 (J 50) (J 52))
(G 54 (CO .u64 (BH .u64) (J 7) (J 53))
(G 7 (Af 54)
(G 56 (Aj iLt .u8 (J 9) (W (.int .u8 128)))
(Bj 56
(G 59 (CO .i64 (BH .i64) (J 8) (W (AI AT 1)))
(G 4 (Af 7)
(G 5 (Af 59)
(G 6 (AQ (W (AI AT 0)))
Ao))))
Aq)))))))))
def qh(K:C):C:=(G 34 (Aj iGt .i64 (J 10) (W (AI AT 0)))
(Ah 34 IN 36 (Af 9)
(Ah 34 IN 37 (Aj iEq .u8 (J 36) (W (.int .u8 0)))
(G 38 (A0 (J 34) (J 37) (W (.bool IS)))
(Ah 38 IS 40 (Af 10)
(Ah 38 IS 41 (Aj iGt .i64 (J 40) (W (AI AT 8)))
(Ah 38 IS 42 (Af 41)
(Ah 42 IN 43 (Af 9)
(Ah 42 IN 44 (Aj iGt .u8 (J 43) (W (.int .u8 1)))
(Ah 38 IS 45 (A0 (J 42) (J 44) (W (.bool IS)))
(G 46 (A0 (J 38) (W (.bool IN)) (J 45))
K)))))))))))
theorem XC:Ro=G 22 (Bh (J 0)) (G 23 (Aj iLt .i64 (J 8) (J 22)) (Bj 23 (BJ (Ab 1 (G 28 (CF 1 (J 0) (J 8)) (G 29 (AO (J 28)) (G 32 (C7 xO .i64 (J 8) (J 1)) (G 9 (Af 29) (G 10 (Af 32) (qh Ps))))))) (G 25 (CO .i64 (BH .i64) (J 8) (W (AI AT 1))) (G 8 (Af 25) Aq))) (CD 0))):=rfl
theorem iu{K:C}{F:AES}{h:Hp}{e:Env}{c i:Nat}{b1 b2 b3 b4:Bool}(s9:J 9 e=.int .u8 (c:Int))(s10:J 10 e=AI AT (i:Int))(b:iGt (i:Int) 0=b1)(d:iEq (c:Int) 0=b2)(f:iGt (i:Int) 8=b3)(g:iGt (c:Int) 1=b4):
  ∃a,qh K F e h=K F a h/\J 46 a=.bool ((b1 && b2) || (b3 && b4))/\J 0 a=J 0 e/\J 1 a=J 1 e/\J 7 a=J 7 e/\J 8 a=J 8 e/\J 9 a=J 9 e/\J 10 a=J 10 e:=by
 unfold qh;cases b1<;>cases b2<;>cases b3<;>cases b4<;>
 ·simp only[sT,sh,OF,reduceIte,gD,AM,AK,s9,s10,b,d,f,g]
  exact⟨_,rfl,by simp[AG],by simp[AG],by simp[AG],by simp[AG],by simp[AG],by simp only[AG,sh,OF,reduceIte,s9],by simp only[AG,sh,OF,reduceIte,s10]⟩
theorem S1{i:Nat}(hi:i<=9):2 ^ (7*i)<=9223372036854775808:=by
 have:2 ^ (7*i)<=2 ^ 63:=Nat.pow_le_pow_right (by omega) (by omega);have a:(2:Nat) ^ 63=9223372036854775808:=rfl;omega
theorem cB{F:AES}{h:Hp}{u:vz}{l:List Nat}{p:Nat}(V:h.AEs u (l.map bv))(hb:∀x∈l,x<256)(hp:p<=l.length)(hl:l.length<=1000000){e:Env}(s0:J 0 e=u)(s1:J 1 e=AI AT (p:Int))(s7:J 7 e=.int .u64 0)(s8:J 8 e=AI AT (p:Int)):
  (∃e',A4 Ro F e h=.exit 0 e' h/\GH 0 0 (l.drop p)=By)\/(∃e' a b c,A4 Ro F e h=.ret e' h/\J 4 e'=.int .u64 a/\J 5 e'=AI AT b/\J 6 e'=AI AT c/\mE l p a b c):=by
 have Vl:AFB u h=.ok (AI AT (l.length:Int)) h:=by have:=V.len;rwa [wF]at this
 refine Bb (I:=λi e' h'=>h'=h/\∃acc:Nat,J 0 e'=u/\J 1 e'=AI AT (p:Int)/\J 7 e'=.int .u64 (acc:Int)/\J 8 e'=AI AT ((p+i:Nat):Int)/\acc<2 ^ (7*i)/\i<=9/\p+i<=l.length/\GH 0 0 (l.drop p)=GH i acc (l.drop (p+i)))
  (Q:=λx=>(∃e',x=.exit 0 e' h/\GH 0 0 (l.drop p)=By)\/(∃e' a b c,x=.ret e' h/\J 4 e'=.int .u64 a/\J 5 e'=AI AT b/\J 6 e'=AI AT c/\mE l p a b c)) 20 (by omega) (λi e' h' ⟨hh,acc,t0,t1,t7,t8,hacc,hi9,hpi,hu⟩=>?_)
  ⟨rfl,0,s0,s1,s7,s8,by decide,by omega,hp,rfl⟩
 subst hh;by_cases hlt:p+i<l.length
 ·have hc:l.getD (p+i) 0<256:=hb _ (by rw[wG,wE hlt];exact zY hlt)
  have hd:l.drop (p+i)=l.getD (p+i) 0::l.drop (p+i+1):=by
   rw[yP hlt,wG,wE hlt];rfl
  have hel:(l.map bv).getD (p+i) AEU=.int .u8 ((l.getD (p+i) 0:Nat):Int):=by
   rw[wG,xc,wG,wE hlt];rfl
  obtain⟨a,g1,g2⟩:=V.at (i:=p+i) (by rw[wF];exact hlt);rw[hel]at g2;rw[hd]at hu;generalize l.getD (p+i) 0=c at hc g2 hu;have c1:iLt ((p+i:Nat):Int) (l.length:Int)=IN:=by rw[DG];simp;omega
  have a2:Ge xO .i64 (AI AT ((p+i:Nat):Int)) (AI AT (p:Int)) h'=.ok (AI AT (i:Int)) h':=by
   have:xO ((p+i:Nat):Int) (p:Int)=(i:Int):=by show((p+i:Nat):Int) - (p:Int)=i;omega
   rw[Co,this,Bl (by omega)]
  have a3:GF .i64 (AI AT ((p+i:Nat):Int)) (AI AT 1) h'=.ok (AI AT ((p+(i+1):Nat):Int)) h':=by
   have:((p+i:Nat):Int)+1=((p+(i+1):Nat):Int):=by omega
   rw[FK,this,Bl (by omega)]
  have pre:∃e2,Ro F e' h'=Za (K2 1 (Ps F e2 h')) (G 25 (CO .i64 (BH .i64) (J 8) (W (AI AT 1))) (G 8 (Af 25) Aq)) F/\J 46 e2=.bool ((decide (0<i) && decide (c=0)) || (decide (8<i) && decide (1<c)))/\J 0 e2=u/\J 1 e2=AI AT (p:Int)/\J 7 e2=.int .u64 (acc:Int)/\J 8 e2=AI AT ((p+i:Nat):Int)/\J 9 e2=.int .u8 (c:Int)/\J 10 e2=AI AT (i:Int):=by
   obtain⟨e2,q1,q2,q3,q4,q5,q6,q7,q8⟩:=iu (K:=Ps) (F:=F) (h:=h') (e:=Env.set 10 (AI AT (i:Int)) (Env.set 9 (.int .u8 (c:Int)) (Env.set 32 (AI AT (i:Int)) (Env.set 29 (.int .u8 (c:Int)) (Env.set 28 (.pointer (BY a)) (Env.set 23 (.bool IN) (Env.set 22 (AI AT (l.length:Int)) e'))))))) (c:=c) (i:=i) (b1:=decide (0<i)) (b2:=decide (c=0)) (b3:=decide (8<i)) (b4:=decide (1<c))
    (by simp[AG]) (by simp[AG]) (by rw[HL,decide_eq_decide];omega) (by rw[Dh,yW,beq_iff_eq,decide_eq_true_eq];omega) (by rw[HL,decide_eq_decide];omega) (by rw[HL,decide_eq_decide];omega)
   refine⟨e2,?_,q2,?_,?_,?_,?_,?_,?_⟩
   ·rw[XC]
    simp only[HF,Hx,Pb,BC,Aw,HT,JS,EM,HS,Gw,AG,sh,OF,reduceIte,Aa,t0,Vl,AM,AK,t8,c1,A1,g1,AJ,g2,B6,t1,a2,q1]
   ·rw[q3];simp only[AG,sh,OF,reduceIte];exact t0
   ·rw[q4];simp only[AG,sh,OF,reduceIte];exact t1
   ·rw[q5];simp only[AG,sh,OF,reduceIte];exact t7
   ·rw[q6];simp only[AG,sh,OF,reduceIte];exact t8
   ·rw[q7];simp only[AG,sh,OF,reduceIte]
   ·rw[q8];simp only[AG,sh,OF,reduceIte]
  obtain⟨e2,p1,p46,p0,pp1,p7,p8,p9,p10⟩:=pre;rw[GH]at hu;by_cases AGh:(0<i/\c=0)\/(8<i/\1<c)
  ·right
   have hB:((decide (0<i) && decide (c=0)) || (decide (8<i) && decide (1<c)))=IN:=by simpa using AGh
   rw[hB]at p46;rw[IT AGh]at hu;have hrun:∃e3,Ps F e2 h'=.ret e3 h'/\J 4 e3=.int .u64 0/\J 5 e3=AI AT 0/\J 6 e3=AI AT 10:=by
    unfold Ps;simp only[sT,sh,OF,reduceIte,p46];exact⟨_,rfl,by simp[AG]⟩
   obtain⟨e3,r1,r4,r5,r6⟩:=hrun;rw[p1,r1,B7,Ce];exact⟨rfl,.inr ⟨e3,0,0,10,rfl,r4,r5,r6,.inr ⟨hu,by omega⟩⟩⟩
  ·have hB:((decide (0<i) && decide (c=0)) || (decide (8<i) && decide (1<c)))=IS:=by
    rw[<- Bool.not_eq_true];simpa using AGh
   rw[hB]at p46;rw[If AGh]at hu;have hle:acc+c % 128*2 ^ (7*i)<2 ^ (7*(i+1)):=by
    rw[Nt];have h1:c % 128<=127:=by omega
    have h2:=ABL (2 ^ (7*i)) h1;omega
   have AK9:c % 128*2 ^ (7*i)<=9223372036854775808/\acc<9223372036854775808:=by
    have h3:=S1 hi9;refine⟨?_,by omega⟩;rcases wh i 9 with h4|h4
    ·have h5:2 ^ (7*(i+1))<=9223372036854775808:=S1 (by omega)
     omega
    ·have h5:c % 128<=1:=by omega
     have h6:=ABL (2 ^ (7*i)) h5;omega
   have m1:VJ .u8 (.int .u8 (c:Int)) (.int .u8 128) h'=.ok (.int .u8 ((c % 128:Nat):Int)) h':=by rw[Qa (by omega)];rfl
   have m2:Ds .u64 (.int .u8 ((c % 128:Nat):Int)) h'=.ok (.int .u64 ((c % 128:Nat):Int)) h':=by rw[Cz,Eu (by omega)]
   have m3:Ge AA8 .i64 (AI AT 7) (AI AT (i:Int)) h'=.ok (AI AT ((7*i:Nat):Int)) h':=by
    have:AA8 7 (i:Int)=((7*i:Nat):Int):=by show(7:Int)*(i:Int)=_;omega
    rw[Co,this,Bl (by omega)]
   have m4:kX .u64 (.int .u64 ((c % 128:Nat):Int)) (AI AT ((7*i:Nat):Int)) h'=.ok (.int .u64 ((c % 128*2 ^ (7*i):Nat):Int)) h':=by
    have:min (7*i) ACF.bits=7*i:=yz (by show 7*i<=64;omega);rw[kY,this,Eu (by omega)]
   have m5:GF .u64 (.int .u64 (acc:Int)) (.int .u64 ((c % 128*2 ^ (7*i):Nat):Int)) h'=.ok (.int .u64 ((acc+c % 128*2 ^ (7*i):Nat):Int)) h':=by
    rw[FK,<- Int.natCast_add,Eu (by omega)]
   by_cases hsm:c<128
   ·right
    rw[IT hsm]at hu;have c2:iLt (c:Int) 128=IN:=by rw[DG];simp;omega
    have hrun:∃e3,Ps F e2 h'=.ret e3 h'/\J 4 e3=.int .u64 ((acc+c % 128*2 ^ (7*i):Nat):Int)/\J 5 e3=AI AT ((p+(i+1):Nat):Int)/\J 6 e3=AI AT 0:=by
     unfold Ps;simp only[sT,sh,OF,reduceIte,p46,MW,p9,m1,CU,m2,B6,p10,m3,Xh,m4,BL,p7,m5,AM,AK,c2,p8,a3];exact⟨_,rfl,by simp[AG]⟩
    obtain⟨e3,r1,r4,r5,r6⟩:=hrun;rw[p1,r1,B7,Ce];refine⟨rfl,.inr ⟨e3,_,_,_,rfl,r4,r5,r6,.inl ⟨_,_,hu,?_,rfl,rfl⟩⟩⟩;rw[zg hsm]
   ·left
    rw[If hsm]at hu;have hi8:i<=8:=by omega
    have c2:iLt (c:Int) 128=IS:=by rw[DG];simp;omega
    have hrun:∃e3,Ps F e2 h'=.norm e3 h'/\J 0 e3=u/\J 1 e3=AI AT (p:Int)/\J 7 e3=.int .u64 ((acc+c % 128*2 ^ (7*i):Nat):Int)/\J 8 e3=AI AT ((p+i:Nat):Int):=by
     unfold Ps;simp only[sT,sh,OF,reduceIte,p46,MW,p9,m1,CU,m2,B6,p10,m3,Xh,m4,BL,p7,m5,AM,AK,c2,p8,a3];exact⟨_,rfl,by simp[AG,p0,pp1,p8]⟩
    obtain⟨e3,r1,r0,rr1,r7,r8⟩:=hrun;have AGO:∃e4,Ro F e' h'=.norm e4 h'/\J 0 e4=u/\J 1 e4=AI AT (p:Int)/\J 7 e4=.int .u64 ((acc+c % 128*2 ^ (7*i):Nat):Int)/\J 8 e4=AI AT ((p+(i+1):Nat):Int):=by
     rw[p1,r1];simp only[DU,BA,HF,HT,BL,r8,Gw,a3,EM,HS,Mv,AG,sh,OF,reduceIte];exact⟨_,rfl,by simp[AG,r0,rr1,r7]⟩
    obtain⟨e4,k1,k2,k3,k4,k5⟩:=AGO;exact⟨by omega,e4,h',k1,rfl,_,k2,k3,k4,k5,hle,by omega,by omega,hu⟩
 ·right
  have c1:iLt ((p+i:Nat):Int) (l.length:Int)=IS:=by rw[DG];simp;omega
  have hrun:∃e2,Ro F e' h'=.exit 0 e2 h':=by
   rw[XC];simp only[sT,sh,OF,reduceIte,Aa,t0,Vl,AM,AK,t8,c1];exact⟨_,rfl⟩
  obtain⟨e2,r1⟩:=hrun;rw[r1];refine⟨rfl,.inl ⟨e2,rfl,?_⟩⟩;rw[hu,xV (by omega)];rfl
theorem XE:NF=G 7 (AQ (W (.int .u64 0))) (G 8 (Af 1) (BJ (Ab 0 (A4 Ro)) qf)):=rfl
theorem bJ:d84=iS:=rfl
theorem qk{n:Nat}{h:Hp}{u:vz}{l:List Nat}{p:Nat}(V:h.AEs u (l.map bv))(hb:∀x∈l,x<256)(hp:p<=l.length)(hl:l.length<=1000000):
  ∃a b c,call AC (n+1) 84 [u,AI AT (p:Int)] h=.ok (.tuple ⟨[.int .u64 a,AI AT b,AI AT c]⟩) h/\mE l p a b c:=by
 have Vl:AFB u h=.ok (AI AT (l.length:Int)) h:=by have:=V.len;rwa [wF]at this
 have c0:iLt (p:Int) 0=IS:=by rw[DG];simp
 have c1:iGt (p:Int) (l.length:Int)=IS:=by rw[HL];simp;omega
 have pre:∃e1,iS (call AC n) (Ay e0 0 [u,AI AT (p:Int)]) h=NF (call AC n) e1 h/\J 0 e1=u/\J 1 e1=AI AT (p:Int):=by
  unfold iS;simp only[iN,wA,HF,Hx,Pb,HT,Hz,EM,HS,Gw,AG,sh,OF,reduceIte,gD,AM,AK,c0,Aa,Vl,c1];exact⟨_,rfl,by simp[AG]⟩
 obtain⟨e1,p1,p2,p3⟩:=pre;have H:=cB (F:=call AC n) (e:=Env.set 8 (AI AT (p:Int)) (Env.set 7 (.int .u64 0) e1)) V hb hp hl (by simp[AG,p2]) (by simp[AG,p3]) (by simp[AG]) (by simp[AG]);rcases H with ⟨e2,q1,q2⟩|⟨e2,a,b,c,q1,q4,q5,q6,q7⟩
 ·refine⟨0,0,11,?_,.inr ⟨q2,by omega⟩⟩
  rw[aT rfl,bJ,p1,XE];simp only[HF,HT,EM,HS,Gw,AG,sh,OF,reduceIte,p3,BC,Aw];rw[q1];simp only[A6,BA];unfold qf;simp only[sT,sh,OF,reduceIte,A7,NC]
 ·refine⟨a,b,c,?_,q7⟩
  rw[aT rfl,bJ,p1,XE];simp only[HF,HT,EM,HS,Gw,AG,sh,OF,reduceIte,p3,BC,Aw];rw[q1];simp only[B7,Ce];simp only[A7,NC,q4,q5,q6]
def Qh(T:List Nat):Nat->List Nat->Nat
 |s,[]=>s
 |s,a::b=>Qh T (zD (T.getD (zD (s % 256) a) 0) (s/256)) b
def CC(T l:List Nat):Nat:=4294967295 - Qh T 4294967295 l
def AFD(T:List Nat):Prop:=T.length=256/\∀a,T.getD a 0<4294967296
theorem lR{a b:Nat}(c:a<256)(d:b<256):zD a b<256:=ACp (n:=8) c d
theorem fh{a b:Nat}(c:a<4294967296)(d:b<4294967296):zD a b<4294967296:=ACp (n:=32) c d
theorem PP{T:List Nat}(a:AFD T){s:Nat}(c:s<4294967296)(b:Nat):zD (T.getD (zD (s % 256) b) 0) (s/256)<4294967296:=fh (a.2 _) (by omega)
theorem YD{T:List Nat}(c:AFD T):∀(l:List Nat) (s:Nat),s<4294967296->Qh T s l<4294967296
 |[],s,a=>a
 |b::l,s,a=>YD c l _ (PP c a b)
theorem JB(T l:List Nat):CC T l<4294967296:=by unfold CC;omega
def He(s:Nat):List Nat:=[s/16777216 % 256,s/65536 % 256,s/256 % 256,s % 256]
def Et(T l:List Nat):List Nat:=l++He (CC T l)
theorem I8(T l:List Nat):(Et T l).length=l.length+4:=by unfold Et;rw[wD];rfl
theorem lB(s x:Nat)(h:x∈He s):x<256:=by
 unfold He at h;simp only[wS,AAr,or_false]at h;omega
theorem TN{T l:List Nat}(h:∀x∈l,x<256):∀x∈Et T l,x<256:=λx b=>by
 rcases wd.1 b with a|a
 ·exact h x a
 ·exact lB _ x a
def B0(ns:List Nat):List Nat:=ns.flatMap CA
theorem FZ(n:Nat)(ns:List Nat):B0 (n::ns)=CA n++B0 ns:=rfl
theorem Vd(a b:List Nat):B0 (a++b)=B0 a++B0 b:=List.flatMap_append
theorem PR{ns:List Nat}:∀x∈B0 ns,x<256:=λx b=>by
 obtain⟨c,_,a⟩:=List.mem_flatMap.1 b;exact fX c x a
theorem Jj:∀{ns:List Nat},(∀v∈ns,v<18446744073709551616)->(B0 ns).length<=10*ns.length
 |[],_=>wB _
 |n::ns,a=>by
  have c:=Li (a n wJ);have d:=Jj λv b=>a v (wI _ b)
  rw[FZ,wD,wK];omega
def QW(l:List Nat):List Nat:=l++wR (60 - l.length) 0
theorem Nn{l:List Nat}(h:l.length<=60):(QW l).length=60:=by unfold QW;rw[wD,yI];omega
theorem Xs{l:List Nat}(h:∀x∈l,x<256):∀x∈QW l,x<256:=λx b=>by
 rcases wd.1 b with a|a
 ·exact h x a
 ·rw[zb a];decide
def MB(ns:List Nat):List Nat:=QW (B0 ns)
def rdN:Nat->List Nat->Nat->Option (List Nat×Nat)
 |0,_,a=>BY ([],a)
 |k+1,b,a=>match GH 0 0 (b.drop a)with
  |none=>By
  |some (v,c)=>if v<=1099511627776 then(match rdN k b (a+c)with
   |none=>By
   |some (vs,d)=>BY (v::vs,d))else By
theorem Ma:∀(ns:List Nat) (a r:List Nat),(∀v∈ns,v<=1099511627776)->rdN ns.length (a++(B0 ns++r)) a.length=BY (ns,a.length+(B0 ns).length)
 |[],a,r,_=>rfl
 |v::ns,a,r,b=>by
  have c:=b v wJ;rw[wK,rdN,AA1,FZ,wa,sO (by omega)];simp only;have:=Ma ns (a++CA v) r λe d=>b e (wI _ d)
  rw[wa,wD]at this;rw[IT c,this];simp only[wD,Nat.add_assoc]
theorem MZ:∀(k:Nat) (l:List Nat) (p:Nat) (ns:List Nat) (q:Nat),(∀x∈l,x<256)->p<=l.length->rdN k l p=BY (ns,q)->ns.length=k/\l.drop p=B0 ns++l.drop q/\q=p+(B0 ns).length/\q<=l.length/\∀v∈ns,v<=1099511627776
 |0,l,p,ns,q,d,g,a=>by
  cases a;exact⟨rfl,rfl,rfl,g,λv b=>by cases b⟩
 |k+1,l,p,ns,q,d,g,a=>by
  rw[rdN]at a;cases c:GH 0 0 (l.drop p)with
  |none=>rw[c]at a;cases a
  |some s=>
   obtain⟨v,h⟩:=s;rw[c]at a;simp only at a;by_cases b:v<=1099511627776
   ·rw[IT b]at a
    have f:∀x∈l.drop p,x<256:=λx hx=>d x (yx hx)
    have i:=mC f c;rw[xT]at i;obtain⟨g1,g2,g3⟩:=fU f c;cases e:rdN k l (p+h)with
    |none=>rw[e]at a;cases a
    |some t=>
     obtain⟨vs,u⟩:=t;rw[e]at a;cases a;obtain⟨j,m,n,o,r⟩:=MZ k l (p+h) vs q d (by omega) e;refine⟨by rw[wK,j],?_,?_,o,λx hx=>?_⟩
     ·rw[g1,List.drop_drop,m,FZ,wa]
     ·rw[n,FZ,wD];omega
     ·rcases wS.1 hx with rfl|hx
      ·exact b
      ·exact r x hx
   ·rw[If b]at a;cases a
def AEh(a b c:Int)(s n:Nat):Bool:=decide (0<=a/\a<=1099511627776/\0<=b/\b<255/\1<=c/\c<=1099511627776/\(s=1\/s=2)/\n<=65536)
def at6(ns:List Nat)(i:Nat):Nat:=ns.getD i 0
def FN(T l:List Nat):Option (List Nat):=if l.length<4 then By else if Et T (l.take (l.length - 4))=l then BY (l.take (l.length - 4))else By
def QR(ns:List Nat):Prop:=AEh (at6 ns 1) (at6 ns 2) (at6 ns 3) (min (at6 ns 0) 9) 0=IN/\at6 ns 4<=65536/\at6 ns 5<=4294967295
def kB(ns:List Nat):Prop:=at6 ns 0<=2/\at6 ns 4<=65536/\at6 ns 5<=4294967295/\AEh (at6 ns 1) (at6 ns 2) (at6 ns 3) (at6 ns 0) 0=IN
theorem kC{ns:List Nat}:QR ns↔kB ns:=by
 unfold QR kB AEh;simp only[decide_eq_true_eq];generalize at6 ns 0=l;constructor
 ·rintro⟨⟨a,c,d,e,f,g,j,h⟩,i,b⟩
  exact⟨by omega,i,b,a,c,d,e,f,g,by omega,h⟩
 ·rintro⟨k,i,b,a,c,d,e,f,g,j,h⟩
  exact⟨⟨a,c,d,e,f,g,by omega,h⟩,i,b⟩
def L8(T l ns:List Nat):Prop:=∃a b,FN T l=BY a/\a.length=60/\rdN 6 a 0=BY (ns,b)/\QR ns/\∀c∈a.drop b,c=0
def vP(T l ns:List Nat):Prop:=∃a,rdN 6 l 0=BY (ns,a)/\kB ns/\Et T (MB ns)=l
theorem Kn{T l a:List Nat}(h:FN T l=BY a):Et T a=l/\a=l.take (l.length - 4):=by
 unfold FN at h;split at h
 ·cases h
 ·split at h
  ·rename_i b
   cases h;exact⟨b,rfl⟩
  ·cases h
theorem Ql(T a:List Nat):FN T (Et T a)=BY a:=by
 have b:(Et T a).take ((Et T a).length - 4)=a:=by
  rw[I8,Nat.add_sub_cancel];unfold Et;exact ACL
 unfold FN;rw[b,If (by rw[I8];omega),IT rfl]
theorem fq{l:List Nat}(h:∀x∈l,x=0):l=wR l.length 0:=List.eq_replicate_iff.2 ⟨rfl,h⟩
theorem Sz{T l ns:List Nat}(g:∀x∈l,x<256):L8 T l ns↔vP T l ns:=by
 constructor
 ·rintro⟨a,c,d,f,e,i,j⟩
  obtain⟨h,q⟩:=Kn d;have k:∀x∈a,x<256:=λx b=>g x (by rw[q]at b;exact xk b)
  obtain⟨g1,g2,g3,g4,g5⟩:=MZ 6 a 0 ns c k (wl _) e;rw[xa]at g2;have p:=fq j;have m:MB ns=a:=by
   unfold MB QW;rw[show 60 - (B0 ns).length=(a.drop c).length by rw[xT];omega,<- p,<- g2]
  refine⟨(B0 ns).length,?_,kC.1 i,by rw[m];exact h⟩;have:=Ma ns [] (a.drop c++He (CC T a)) g5;rw[g1]at this;rw[<- h];unfold Et;rw[xI,<- wa,<- g2]at this
  simpa using this
 ·rintro⟨c,d,f,e⟩
  obtain⟨g1,g2,g3,g4,g5⟩:=MZ 6 l 0 ns c g (wl _) d;have n:(B0 ns).length<=60:=by
   have:=Jj (ns:=ns) λv o=>by have:=g5 v o;omega
   omega
  refine⟨MB ns,(B0 ns).length,by rw[<- e];exact Ql T _,Nn n,?_,kC.2 f,λx b=>?_⟩
  ·have:=Ma ns [] (wR (60 - (B0 ns).length) 0) g5
   rw[g1]at this;unfold MB QW
   simpa using this
  ·unfold MB QW at b
   rw[AA1]at b;exact zb b
abbrev pt(b:Nat):vz:=.pointer (BY ⟨b,0,By⟩)
def wv(n:Nat):vz:=.int .u32 (n:Int)
theorem AX{a:Addr}{h:Hp}:Y8 (.pointer (BY a)) h=.ok (.pointer (BY a)) h:=rfl
theorem An{F:AES}{e:Env}{h:Hp}{x:O}:Bg x F e h=Y8 (x e) h:=rfl
theorem mB:Tj.k=.ptr 26:=by kernel_rfl
theorem rq{F:AES}{e:Env}{h:Hp}{a:Addr}{g:O}(b:g e=.pointer (BY a)):oEq Tj.k IS g (W (.pointer By)) F e h=.ok (.bool IS) h:=by
 show(match eqV Tj.k (g e) (.pointer By)with|some c=>okB (IS != c) h|none=>.no)=_;rw[mB,b];exact Fd
theorem sI{h:Hp}{tb:Nat}{T:List Nat}(R:h.Row tb 0 (T.map wv))(hT:AFD T){k:IntKind}{x:Nat}(hx:x<256):OD 256 1 (pt tb) (.int k (x:Int)) h=.ok (.pointer (BY ⟨tb,x,By⟩)) h/\Ho (.pointer (BY ⟨tb,x,By⟩)) h=.ok (wv (T.getD x 0)) h:=by
 refine⟨?_,?_⟩
 ·have:=XM (h:=h) (n:=256) (es:=1) (b:=tb) (off:=0) (i:=x) (k:=k) hx
  rwa [wC,yp]at this
 ·have hx':x<T.length:=by rw[hT.1];exact hx
  rw[AP,R.AEV (off:=x) (by rw[wF];exact hx'),wG,xc,wG,wE hx'];rfl
theorem Jm{h:Hp}{u:vz}{l:List Nat}(b:h.AEs u (l.map bv)){i:Nat}(hi:i<l.length):∃a,AFM 1 u (AI AT (i:Int)) h=.ok (.pointer (BY a)) h/\Ho (.pointer (BY a)) h=.ok (.int .u8 ((l.getD i 0:Nat):Int)) h:=by
 obtain⟨a,g1,g2⟩:=b.at (i:=i) (by rw[wF];exact hi);refine⟨a,g1,?_⟩;rw[g2,wG,xc,wG,wE hi];rfl
theorem iq{l:List Nat}(b:∀x∈l,x<256)(i:Nat):l.getD i 0<256:=by
 rw[wG];cases a:l[i]? with
 |none=>decide
 |some x=>exact b x (List.mem_of_getElem? a)
theorem Gn{l:List Nat}{i:Nat}(hi:i<l.length):l.drop i=l.getD i 0::l.drop (i+1):=by
 rw[yP hi,wG,wE hi];rfl
theorem Hp.AEs.bl{h:Hp}{u:vz}{l:List Nat}(a:h.AEs u (l.map bv))(g:Hp):AFB u g=.ok (AI AT (l.length:Int)) g:=by
 obtain⟨c,d,b⟩:=a.shape;rw[b,wF];rfl
theorem vy{a b:Nat}(c:a<256)(d:b<256){h:Hp}:aA zD .u8 (.int .u8 (a:Int)) (.int .u8 (b:Int)) h=.ok (.int .u8 ((zD a b:Nat):Int)) h:=V6 (by show a<=255;omega) (by show b<=255;omega)
theorem vG{a b:Nat}(c:a<4294967296)(d:b<4294967296){h:Hp}:aA zD .u32 (.int .u32 (a:Int)) (.int .u32 (b:Int)) h=.ok (.int .u32 ((zD a b:Nat):Int)) h:=V6 (by show a<=4294967295;omega) (by show b<=4294967295;omega)
theorem Ts{n:Nat}(h:n<=4294967295):IntKind.u32.wrap (n:Int)=n:=D5 .u32 n h
theorem CL{i:Nat}(hi:i<=1000000000){h:Hp}:GF .i64 (AI AT (i:Int)) (AI AT 1) h=.ok (AI AT ((i+1:Nat):Int)) h:=by
 have:(i:Int)+1=((i+1:Nat):Int):=by omega
 rw[FK,this,Bl (by omega)]
theorem Ec{a b:Nat}(h:a<b):iLt (a:Int) (b:Int)=IN:=by rw[DG];simp;omega
theorem DC{a b:Nat}(h:b<=a):iLt (a:Int) (b:Int)=IS:=by rw[DG];simp;omega
def Hp.VR(h:Hp)(u:vz)(l:List Nat):Prop:=h.AEs u (l.map bv)\/((∃a,u=.chan (BY a))/\l=[])
theorem Hp.VR.bl{h:Hp}{u:vz}{l:List Nat}(a:h.VR u l)(g:Hp):AFB u g=.ok (AI AT (l.length:Int)) g:=by
 rcases a with a|⟨⟨b,rfl⟩,rfl⟩
 ·exact a.bl g
 ·rfl
theorem Hp.VR.here{h:Hp}{u:vz}{l:List Nat}{i:Nat}(a:h.VR u l)(hi:i<l.length):h.AEs u (l.map bv):=by
 rcases a with a|⟨_,rfl⟩
 ·exact a
 ·exact absurd hi (Nat.not_lt_zero _)
theorem Hp.VR.ext{h h':Hp}{u:vz}{l:List Nat}(a:h.VR u l)(b:h.Wf)(x:h.Ext h'):h'.VR u l:=a.imp (λa=>a.ext b x) id
theorem Hp.VR.lenV{h:Hp}{u:vz}{l:List Nat}(a:h.VR u l):lenV u=.ok (l.map bv).length:=by
 rcases a with a|⟨⟨b,rfl⟩,rfl⟩
 ·exact a.lenV
 ·rfl
theorem Hp.VR.src{h:Hp}{u:vz}{l:List Nat}(a:h.VR u l){n:Nat}(b:n=(l.map bv).length)(k:List vz->R):BP h 1 u n k=k (l.map bv):=by
 rcases a with a|⟨⟨c,rfl⟩,rfl⟩
 ·exact a.src b k
 ·rfl
theorem sH:suS=BJ (Ab 0 (A4 suB)) suE:=rfl
theorem qK:d80=iR:=rfl
theorem kz{F:AES}{h:Hp}{f:Nat}{T:List Nat}(R:h.Row f 0 (T.map wv))(r:AFD T){u:vz}{l:List Nat}(C:h.VR u l)(G:∀x∈l,x<256)(hl:l.length<=900000){e:Env}(s0:J 0 e=pt f)(s1:J 1 e=u)(s5:J 5 e=.int .u32 ((4294967295:Nat):Int))(s10:J 10 e=AI AT (l.length:Int))(s11:J 11 e=AI AT ((0:Nat):Int)):
  ∃b h',A4 suB F e h=.exit 0 b h'/\(h'=h\/h'=h.marked)/\J 5 b=.int .u32 ((Qh T 4294967295 l:Nat):Int):=by
 refine Bb (I:=λi b h'=>(h'=h\/h'=h.marked)/\∃a:Nat,J 0 b=pt f/\J 1 b=u/\J 5 b=.int .u32 (a:Int)/\J 10 b=AI AT (l.length:Int)/\J 11 b=AI AT (i:Int)/\i<=l.length/\a<4294967296/\Qh T 4294967295 l=Qh T a (l.drop i))
  (Q:=λx=>∃b h',x=.exit 0 b h'/\(h'=h\/h'=h.marked)/\J 5 b=.int .u32 ((Qh T 4294967295 l:Nat):Int)) l.length (by omega) (λi b h' ⟨A,a,t0,t1,t5,t10,t11,hi,K,o⟩=>?_) ⟨.inl rfl,4294967295,s0,s1,s5,s10,s11,wl _,by decide,rfl⟩
 have H:h'.marked=h.marked:=by rcases A with rfl|rfl<;>rfl
 by_cases d:i<l.length
 ·left
  have D:h.marked.AEs u (l.map bv):=(C.here d).same rfl;have B:h.marked.Row f 0 (T.map wv):=R.same rfl;obtain⟨Z,g1,g2⟩:=Jm D d;have s:=iq G i;rw[Gn d]at o;generalize l.getD i 0=g at g2 s o;have p:=Ec d;have W:Ds .u8 (.int .u32 (a:Int)) h.marked=.ok (.int .u8 ((a % 256:Nat):Int)) h.marked:=by rw[Cz,JC]
  have X:=vy (h:=h.marked) (show a % 256<256 by omega) s;have M:=lR (show a % 256<256 by omega) s;obtain⟨N,w⟩:=sI B r (k:=.u8) M;have V:ef .u32 (.int .u32 (a:Int)) (.int .u64 8) h.marked=.ok (.int .u32 ((a/256:Nat):Int)) h.marked:=X0 (j:=.u32) (q:=.u64) (m:=a) (n:=8);have Y:=vG (h:=h.marked) (r.2 (zD (a % 256) g)) (show a/256<4294967296 by omega);have w:Ho (.pointer (BY ⟨f,zD (a % 256) g,By⟩)) h.marked=.ok (.int .u32 ((T.getD (zD (a % 256) g) 0:Nat):Int)) h.marked:=w;have L:=PP r K g;have E:=CL (i:=i) (h:=h.marked) (by omega);have t:∃c,suB F b h'=.norm c h.marked/\J 0 c=pt f/\J 1 c=u/\J 5 c=.int .u32 ((zD (T.getD (zD (a % 256) g) 0) (a/256):Nat):Int)/\J 10 c=AI AT (l.length:Int)/\J 11 c=AI AT ((i+1:Nat):Int):=by
   unfold suB;simp only[sT,sh,OF,reduceIte,AM,AK,t11,t10,p,Ar,H,CU,t5,W,A1,t1,g1,AJ,g2,jf,X,An,t0,AX,Da,N,w,Xi,V,Y,BL,E];exact⟨_,rfl,by simp[AG,t0,t1,t10]⟩
  obtain⟨c,y,z,O,P,S,U⟩:=t;exact⟨d,c,h.marked,y,.inr rfl,_,z,O,P,S,U,d,L,o⟩
 ·right
  have p:=DC (show l.length<=i by omega);have t:∃c,suB F b h'=.exit 0 c h'/\J 5 c=.int .u32 (a:Int):=by
   unfold suB;simp only[sT,sh,OF,reduceIte,AM,AK,t11,t10,p];exact⟨_,rfl,by simp[AG,t5]⟩
  obtain⟨c,y,z⟩:=t;rw[y];refine⟨rfl,c,h',rfl,A,?_⟩;rw[z,o,xV (by omega)];rfl
theorem YE{n:Nat}{h:Hp}{b:Nat}{T:List Nat}(R:h.Row b 0 (T.map wv))(e:AFD T){u:vz}{l:List Nat}(d:h.VR u l)(i:∀x∈l,x<256)(k:l.length<=900000):
  ∃h',call AC (n+1) 80 [pt b,u] h=.ok (.int .u32 ((CC T l:Nat):Int)) h'/\(h'=h\/h'=h.marked):=by
 have m:∀c:Env,J 0 c=pt b->oEq Tj.k IS (J 0) (W (.pointer By)) (call AC n) c h=.ok (.bool IS) h:=λc j=>rq j
 have f:=d.bl h;have w:∃a,iR (call AC n) (Ay e0 0 [pt b,u]) h=suS (call AC n) a h/\J 0 a=pt b/\J 1 a=u/\J 5 a=.int .u32 ((4294967295:Nat):Int)/\J 10 a=AI AT (l.length:Int)/\J 11 a=AI AT ((0:Nat):Int):=by
  unfold iR;simp only[iN,wA,sT,sh,OF,reduceIte,m,Aa,f];exact⟨_,rfl,by simp[AG]⟩
 obtain⟨a,o,p,q,r,s,t⟩:=w;obtain⟨B,h',y,z,A⟩:=kz (F:=call AC n) R e d i k p q r s t;have g:Ge xO .u32 (.int .u32 4294967295) (.int .u32 ((Qh T 4294967295 l:Nat):Int)) h'=.ok (.int .u32 ((CC T l:Nat):Int)) h':=by
  have C:=YD e l 4294967295 (by decide);have:xO 4294967295 ((Qh T 4294967295 l:Nat):Int)=((CC T l:Nat):Int):=by
   show(4294967295:Int) - _=_;unfold CC;omega
  rw[Co,this,Ts (by unfold CC;omega)]
 refine⟨h',?_,z⟩;rw[oe rfl,qK,o,sH];simp only[BC,Aw,y,A6,BA];unfold suE;simp only[sT,sh,OF,reduceIte,B6,A,g,lV0]
theorem fH{n:Nat}{h:Hp}{a:Nat}{T:List Nat}(R:h.Row a 0 (T.map wv))(c:AFD T){u:vz}{l:List Nat}(b:h.AEs u (l.map bv))(d:∀x∈l,x<256)(e:l.length<=900000):
 ∃h',call AC (n+1) 80 [pt a,u] h=.ok (.int .u32 ((CC T l:Nat):Int)) h'/\(h'=h\/h'=h.marked):=YE R c (.inl b) d e
def Mk(h:Hp)(k:Nat)(v:vz)(l:List Nat):Prop:=∃a b,v=.slice (BY ⟨a,0,By⟩) l.length l.length/\(b=0\/b=6)/\h.Row a b (l.map bv)/\k<=a
theorem Mk.vals{h:Hp}{k:Nat}{v:vz}{l:List Nat}(m:Mk h k v l):h.AEs v (l.map bv):=by
 obtain⟨a,b,c,e,d,f⟩:=m;exact .inr ⟨a,0,l.length,b,_,by rw[wF];exact c,d,by simp,by rw[xa,List.take_length]⟩
theorem Mk.ext{h h':Hp}{k:Nat}{v:vz}{l:List Nat}(m:Mk h k v l)(a:h.Wf)(x:h.Ext h'):Mk h' k v l:=by
 obtain⟨b,c,d,e,f,g⟩:=m;exact⟨b,c,d,e,f.ext a x,g⟩
theorem Mk.same{h h':Hp}{k:Nat}{v:vz}{l:List Nat}(m:Mk h k v l)(g:h'.bl=h.bl):Mk h' k v l:=by
 obtain⟨a,b,c,d,e,f⟩:=m;exact⟨a,b,c,d,e.same g,f⟩
theorem Mk.le{h:Hp}{k k':Nat}{v:vz}{l:List Nat}(m:Mk h k v l)(hk:k'<=k):Mk h k' v l:=by
 obtain⟨a,b,c,d,e,f⟩:=m;exact⟨a,b,c,d,e,by omega⟩
theorem Hp.Own.mk{h:Hp}{k:Nat}{v:vz}{l:List Nat}(o:h.Own k 5 v (l.map bv))(f:0<l.length):Mk h k v l:=by
 rcases o with ⟨_,a⟩|⟨c,b,a,d,e⟩
 ·have:=congrArg zo a
  rw[wF,xD]at this;omega
 ·rw[wF]at b
  exact⟨c,6,b,.inr rfl,a,d⟩
theorem Mc:∀n:Nat,BX ty5.zero n=(wR n 0).map bv:=λn=>by
 have a:ty5.zero=[bv 0]:=by kernel_rfl
 rw[a]
 induction n with
 |zero=>rfl
 |succ n b=>show [bv 0]++BX [bv 0] n=_;rw[b];rfl
theorem Sv{A B:List vz}{x y:vz}:over (A++x::B) A.length [y]=A++y::B:=by
 unfold over;have a:A++x::B=(A++[x])++B:=by simp
 rw[ACL,a,show A.length+[y].length=(A++[x]).length by simp,AA1];simp
theorem Nm{A B a:List vz}(h:A.length=a.length):over (A++B) 0 a=a++B:=by
 unfold over;rw[wC,<- h,AA1];simp
theorem Zg{s i:Nat}(hi:i<4):(He s).drop (3 - i)=(s/2 ^ min (8*i) 32) % 256::(He s).drop (4 - i):=by
 have:i=0\/i=1\/i=2\/i=3:=by omega
 rcases this with rfl|rfl|rfl|rfl
 ·show [s % 256]=s/1 % 256::[]
  rw[Nat.div_one]
 ·rfl
 ·rfl
 ·rfl
theorem Q3{a b:List Nat}(ha:∀x∈a,x<256)(hb:∀x∈b,x<256):bEq (a.map zr) (b.map zr)=decide (a=b):=by
 rw[Mq,yW,beq_iff_eq,decide_eq_true_eq];refine⟨λh=>?_,λh=>by rw[h]⟩;have h1:=congrArg (List.map ACQ) h;rw[zw,zw]at h1;have e:∀l:List Nat,(∀x∈l,x<256)->l.map (ACQ∘zr)=l:=λl hl=>by
  have:l.map (ACQ∘zr)=l.map id:=ACb λx hx=>by
   show(zr x).toNat=x;rw[UInt8.toNat_ofNat',zg (hl x hx)]
  rw[this,List.map_id]
 rwa [e a ha,e b hb]at h1
theorem un{n:Nat}{h:Hp}{u v:vz}{a b:List Nat}(c:h.AEs u (a.map bv))(d:h.AEs v (b.map bv))(e:∀x∈a,x<256)(f:∀x∈b,x<256):call AC (n+1) 50 [u,v] h=.ok (.bool (decide (a=b))) h:=by
 have g:=Q3 e f;rw[oG rfl];unfold d50;simp only[iN,wA,sT,sh,OF,reduceIte,La,c.bytes.str,d.bytes.str,QQ,Pk,g,lV0]
theorem sF:slS=BJ (Ab 0 (A4 slB)) slE:=rfl
theorem qF:d46=iO:=rfl
theorem kh{F:AES}{h h0:Hp}(W0:h0.Wf)(x:h0.Ext h){r s N:Nat}(hr:h0.next<=r){u:vz}{l:List Nat}(V:h0.VR u l)(hN:N=l.length+4)(hl:l.length<=900000)(hs:s<4294967296)(R:h.Row r 0 ((wR N 0).map bv)){e:Env}
  (s1:J 1 e=u)(s5:J 5 e=.slice (BY ⟨r,0,By⟩) N N)(s6:J 6 e=.int .u32 (s:Int))(s15:J 15 e=AI AT ((0:Nat):Int)):
  ∃e' h',A4 slB F e h=.exit 0 e' h'/\h0.Ext h'/\h'.Row r 0 ((wR l.length 0++He s).map bv)/\J 1 e'=u/\J 5 e'=.slice (BY ⟨r,0,By⟩) N N:=by
 refine Bb (I:=λi e' h'=>h0.Ext h'/\h'.Row r 0 ((wR (N - i) 0++(He s).drop (4 - i)).map bv)/\J 1 e'=u/\J 5 e'=.slice (BY ⟨r,0,By⟩) N N/\J 6 e'=.int .u32 (s:Int)/\J 15 e'=AI AT (i:Int)/\i<=4)
  (Q:=λx=>∃e' h',x=.exit 0 e' h'/\h0.Ext h'/\h'.Row r 0 ((wR l.length 0++He s).map bv)/\J 1 e'=u/\J 5 e'=.slice (BY ⟨r,0,By⟩) N N) 4 (by omega) (λi e' h' ⟨x',R',t1,t5,t6,t15,hi⟩=>?_)
  ⟨x,by rw[ADB,xV (show(He s).length<=4 - 0 from wB _),wT];exact R,s1,s5,s6,s15,by omega⟩
 by_cases hlt:i<4
 ·left
  have W:=x'.wf;have Vl:=V.bl h';have c1:iLt (i:Int) 4=IN:=Ec hlt;have a1:GF .i64 (AI AT (l.length:Int)) (AI AT 4) h'=.ok (AI AT (N:Int)) h':=by
   rw[FK,show(l.length:Int)+4=(N:Int)by omega,Bl (by omega)]
  have a2:Ge xO .i64 (AI AT (N:Int)) (AI AT 1) h'=.ok (AI AT ((N - 1:Nat):Int)) h':=by
   have:xO (N:Int) 1=((N - 1:Nat):Int):=by show(N:Int) - 1=_;omega
   rw[Co,this,Bl (by omega)]
  have a3:Ge xO .i64 (AI AT ((N - 1:Nat):Int)) (AI AT (i:Int)) h'=.ok (AI AT ((N - (i+1):Nat):Int)) h':=by
   have:xO ((N - 1:Nat):Int) (i:Int)=((N - (i+1):Nat):Int):=by show((N - 1:Nat):Int) - (i:Int)=_;omega
   rw[Co,this,Bl (by omega)]
  have a4:Ge AA8 .i64 (AI AT 8) (AI AT (i:Int)) h'=.ok (AI AT ((8*i:Nat):Int)) h':=by
   have:AA8 8 (i:Int)=((8*i:Nat):Int):=by show(8:Int)*(i:Int)=_;omega
   rw[Co,this,Bl (by omega)]
  have r1:ef .u32 (.int .u32 (s:Int)) (AI AT ((8*i:Nat):Int)) h'=.ok (.int .u32 ((s/2 ^ min (8*i) 32:Nat):Int)) h':=X0 (j:=.u32) (q:=.i64) (m:=s) (n:=8*i);have v1:Ds .u8 (.int .u32 ((s/2 ^ min (8*i) 32:Nat):Int)) h'=.ok (.int .u8 ((s/2 ^ min (8*i) 32 % 256:Nat):Int)) h':=by rw[Cz,JC]
  have i1:AFM 1 (.slice (BY ⟨r,0,By⟩) N N) (AI AT ((N - (i+1):Nat):Int)) h'=.ok (.pointer (BY ⟨r,N - (i+1),By⟩)) h':=by
   have:=DB (h:=h') (n:=N) (c:=N) (es:=1) (b:=r) (off:=0) (i:=N - (i+1)) (k:=.i64) (by omega)
   rwa [wC,yp]at this
  have AJF:=Zg (s:=s) hlt;generalize s / 2 ^ min (8 * i) 32 % 256=c at v1 AJF;have AIV:(wR (N - i) 0++(He s).drop (4 - i)).map bv=(wR (N - (i+1)) 0).map bv++bv 0::((He s).drop (4 - i)).map bv:=by
   rw[show N - i=(N - (i+1))+1 by omega,List.replicate_succ',w9,w9,wa];rfl
  rw[AIV]at R';have hAl:((wR (N - (i+1)) 0).map bv).length=N - (i+1):=by simp
  have ho:N - (i+1)+[xd .u8 (c:Int)].length<=((wR (N - (i+1)) 0).map bv++bv 0::((He s).drop (4 - i)).map bv).length:=by
   simp only[wD,wK,xD,hAl];omega
  have AEd:256<=r:=by have:=W0.big;omega
  have st:=R'.AEa (n:=1) (off:=N - (i+1)) W AEd (v:=.int .u8 (c:Int)) rfl ho rfl;have wr:=R'.AEf W (off:=N - (i+1)) (vs:=[.int .u8 (c:Int)]) ho;have xw:=R'.AEy x' hr (off:=N - (i+1)) (vs:=[.int .u8 (c:Int)]) ho;have a5:=CL (i:=i) (h:=h'.wr r (N - (i+1)) [.int .u8 (c:Int)]) (by omega);have hov:over ((wR (N - (i+1)) 0).map bv++bv 0::((He s).drop (4 - i)).map bv) (N - (i+1)) [.int .u8 (c:Int)]=(wR (N - (i+1)) 0++(He s).drop (4 - (i+1))).map bv:=by
   have:=Sv (A:=(wR (N - (i+1)) 0).map bv) (B:=((He s).drop (4 - i)).map bv) (x:=bv 0) (y:=bv c);rw[hAl]at this;rw[show 4 - (i+1)=3 - i by omega,AJF,w9,yA];exact this
  rw[hov]at wr;rw[Cr]at st;have hrun:∃e2,slB F e' h'=.norm e2 (h'.wr r (N - (i+1)) [.int .u8 (c:Int)])/\J 1 e2=u/\J 5 e2=.slice (BY ⟨r,0,By⟩) N N/\J 6 e2=.int .u32 (s:Int)/\J 15 e2=AI AT ((i+1:Nat):Int):=by
   unfold slB;simp only[sT,sh,OF,reduceIte,AM,AK,t15,c1,Aa,t1,Vl,BL,a1,B6,a2,a3,a4,Xi,t6,r1,CU,v1,A1,t5,i1,AV,st,a5];exact⟨_,rfl,by simp[AG,t1,t5,t6]⟩
  obtain⟨e2,q1,q2,q3,q4,q5⟩:=hrun;exact⟨hlt,e2,_,q1,xw,wr,q2,q3,q4,q5,hlt⟩
 ·right
  have hi4:i=4:=by omega
  subst hi4;have c1:=DC (show 4<=4 by omega);have hrun:∃e2,slB F e' h'=.exit 0 e2 h'/\J 1 e2=u/\J 5 e2=.slice (BY ⟨r,0,By⟩) N N:=by
   unfold slB;have c1:iLt ((4:Nat):Int) 4=IS:=c1;simp only[sT,sh,OF,reduceIte,AM,AK,t15,c1];exact⟨_,rfl,by simp[AG,t1,t5]⟩
  obtain⟨e2,q1,q2,q3⟩:=hrun;rw[q1];refine⟨rfl,e2,h',rfl,x',?_,q2,q3⟩;have e1:N - 4=l.length:=by omega
  have e2:4 - 4=0:=rfl;rw[e1,e2,xa]at R';exact R'
theorem MV{F:AES}{e:Env}{h:Hp}(a:h.Wf){x y:O}{N:Nat}(d:x e=AI AT (N:Int))(f:y e=AI AT (N:Int))(g:N<=1000000):G0 1 ty5.zero x y F e h=.ok (.slice (BY ⟨h.next,0,By⟩) N N) (h.AER 0 ((wR N 0).map bv)):=by
 unfold G0;rw[d,f,DM];unfold SY;have b:wY N N=IN:=Am.2 (wB N);have c:wY (xW (wQ N) (wQ 1)) most=IN:=Am.2 (by
  show(N+1)*2<=1099511627776;omega)
 simp only[b,c,cond_true];rw[Cw a,Mc];rfl
theorem gu{F:AES}{e:Env}{h:Hp}(b:h.Wf){x y:O}{r N:Nat}{u:vz}{l A B:List Nat}(j:x e=.slice (BY ⟨r,0,By⟩) N N)(k:y e=u)(a:h.VR u l)(d:256<=r)(g:A.length=l.length)(i:N=(A++B).length)(R:h.Row r 0 ((A++B).map bv)):
  KJ 1 x y F e h=.ok (AI AT (l.length:Int)) (h.wr r 0 (l.map bv))/\(h.wr r 0 (l.map bv)).Row r 0 ((l++B).map bv):=by
 have c:0+(l.map bv).length<=((A++B).map bv).length:=by simp;omega
 have f:Bd (l.map bv)=IN:=C8 l;refine⟨?_,?_⟩
 ·unfold KJ RG
  rw[j,k];simp only[a.lenV,Ae,BV,wF];rw[yz (show l.length<=N by rw[i,wD];omega)];rw[a.src (n:=l.length) (by rw[wF])];rw[R.store b d c f];rfl
 ·have:=R.AEf b c
  rw[w9,Nm (by simp[g])]at this;rw[w9];exact this
theorem eX{n:Nat}{h:Hp}(a:h.Wf){g:Nat}{T:List Nat}(R:h.Row g 0 (T.map wv))(E:AFD T){u:vz}{l:List Nat}(d:h.VR u l)(G:∀x∈l,x<256)(m:l.length<=900000):
  ∃h' v,call AC (n+2) 46 [pt g,u] h=.ok v h'/\h.Ext h'/\Mk h' h.next v (Et T l):=by
 have c:=(Hp.Ext.refl a).AER 0 ((wR (l.length+4) 0).map bv);have j:=Hp.Row.new a 0 ((wR (l.length+4) 0).map bv);have mk:=λ(e:Env) (o:J 10 e=AI AT ((l.length+4:Nat):Int))=>MV (F:=call AC (n+1)) (e:=e) a (x:=J 10) (y:=J 10) o o (by omega)
 generalize h.AER 0 ((wR (l.length+4) 0).map bv)=D at c j mk;obtain⟨f,I,p⟩:=YE (n:=n) (R.ext a c) E (d.ext a c) G m;have H:f.bl=D.bl:=by rcases p with rfl|rfl<;>rfl
 have U:h.Ext f:=by
  rcases p with rfl|rfl
  ·exact c
  ·exact c.marked
 have s:=d.bl h;have t:GF .i64 (AI AT (l.length:Int)) (AI AT 4) h=.ok (AI AT ((l.length+4:Nat):Int)) h:=by
  rw[FK,show(l.length:Int)+4=((l.length+4:Nat):Int)by omega,Bl (by omega)]
 have P:∃b,iO (call AC (n+1)) (Ay e0 0 [pt g,u]) h=slS (call AC (n+1)) b f/\J 1 b=u/\J 5 b=.slice (BY ⟨h.next,0,By⟩) (l.length+4) (l.length+4)/\J 6 b=.int .u32 ((CC T l:Nat):Int)/\J 15 b=AI AT ((0:Nat):Int):=by
  unfold iO;simp only[iN,wA,sT,sh,OF,reduceIte,Aa,s,BL,t,mk,cA0,I];exact⟨_,rfl,by simp[AG]⟩
 obtain⟨b,K,L,M,N,O⟩:=P;obtain⟨C,W,Q,i,k,S,q⟩:=kh (F:=call AC (n+1)) a U (wB _) d rfl m (JB T l) (j.same H) L M N O;have r:=a.big;obtain⟨w,z⟩:=gu (F:=call AC (n+1)) (e:=C) i.wf (x:=J 5) (y:=J 1) q S (d.ext a i) r (A:=wR l.length 0) (B:=He (CC T l)) (by simp) (by rw[wD,yI];rfl) k;have V:=k.AEy i (wB _) (off:=0) (vs:=l.map bv) (by rw[wF,wF,wD,yI];omega);refine⟨_,.slice (BY ⟨h.next,0,By⟩) (l.length+4) (l.length+4),?_,V,⟨h.next,0,by rw[I8],.inl rfl,z,wB _⟩⟩;rw[oF rfl,qF,K,sF];simp only[BC,Aw,Q,A6,BA];unfold slE;simp only[sT,sh,OF,reduceIte,w,q,lV0]
theorem Xz{n:Nat}{h:Hp}(c:h.Wf){a:Nat}{T:List Nat}(R:h.Row a 0 (T.map wv))(d:AFD T){u:vz}{l:List Nat}(b:h.AEs u (l.map bv))(e:∀x∈l,x<256)(f:l.length<=900000):
 ∃h' v,call AC (n+2) 46 [pt a,u] h=.ok v h'/\h.Ext h'/\Mk h' h.next v (Et T l):=eX c R d (.inl b) e f
theorem fT:MI.k=.slice 5:=by kernel_rfl
theorem rT{F:AES}{e:Env}{h:Hp}{a:Addr}{n c:Nat}{g:O}(b:g e=.slice (BY a) n c):oEq MI.k IS g (W (.slice By 0 0)) F e h=.ok (.bool IS) h:=by
 show(match eqV MI.k (g e) (.slice By 0 0)with|some d=>okB (IS != d) h|none=>.no)=_;rw[fT,b];exact Fd
theorem Pr{h0 h:Hp}{eb en k b:Nat}{u:vz}{ys:List vz}(g:h0.Ext h)(p:k<=h.next)(r:h.Row b 0 [])(y:h.AEs u ys)(t:0<ys.length)(o:Bd ys=IN)(s:(ys.length+1)*(eb+1)<=1099511627776):
  ∃h' v',DX 1 eb en (.slice (BY ⟨b,0,By⟩) 0 0) u h=.ok v' h'/\h0.Ext h'/\h'.Own k en v' ys:=by
 have c:=g.wf;obtain⟨f,a,q⟩:=r.rowOf;obtain⟨e,n,d⟩:=EG ys f [] 0 q (.inr rfl);have d:e.Is ys:=by simpa using d
 refine⟨h.push (.cells e ys.length (en+1)),.slice (BY ⟨h.next,0,By⟩) ys.length ys.length,?_,g.push _,.inr ⟨h.next,rfl,⟨e,by rw[c.AEr,IT rfl],d⟩,p,c.big⟩⟩;unfold DX DY;simp only[y.lenV,y.src rfl,Ae,yH,wC];have j:wY ys.length 0=IS:=by
  cases i:wY ys.length 0
  ·rfl
  ·have:=Am.1 i;omega
 have l:wY (xW (wQ ys.length) (wQ eb)) JZ=IN:=Am.2 (HP s);rw[j];simp only[l,cond_true,o];unfold Gv;have a:rowOf h b=.ok f 0 0:=a;have m:wU 0 (xW 0 1)=IN:=rfl;simp only[a,m,n];unfold Ez;simp only[a,Bf,yH,wC];unfold CP;rw[Ae,Cv c];rfl
theorem RM{F:AES}{e:Env}{h:Hp}(a:h.Wf):Ap 0 (BX ty5.zero 0) [] F e h=.ok (.slice (BY ⟨h.next,0,By⟩) 0 0) (h.AER 0 []):=by
 have:BX ty5.zero 0=[]:=rfl;rw[this,CQ,Bw,Cw a];rfl
theorem Q9{n:Nat}{h:Hp}(d:h.Wf){a:Addr}{c:Nat}{l:List Nat}(j:h.AEs (.slice (BY a) l.length c) (l.map bv))(A:l.length<=900000):∃h' v,call AC (n+1) 90 [.slice (BY a) l.length c] h=.ok v h'/\h.Ext h'/\Mk h' h.next v l:=by
 have b:=(Hp.Ext.refl d).AER 0 [];have R:=Hp.Row.new d 0 [];have i:=λ(e:Env)=>RM (F:=call AC n) (e:=e) d
 have y:(h.AER 0 []).next=h.next+1:=rfl;generalize h.AER 0 []=m at b R i y;have g:∀e:Env,J 0 e=.slice (BY a) l.length c->oEq MI.k IS (J 0) (W (.slice By 0 0)) (call AC n) e h=.ok (.bool IS) h:=λe w=>rT w
 rcases Nat.eq_zero_or_pos l.length with f|f
 ·have x:l=[]:=xH f
  subst x;have o:=d.big;have t:DX 1 1 5 (.slice (BY ⟨h.next,0,By⟩) 0 0) (.slice (BY a) 0 c) m=.ok (.slice (BY ⟨h.next,0,By⟩) 0 0) (m.wr h.next 0 []):=Qz (l:=[]) b.wf o R (j.ext d b).bytes (wB _) (wB _);have p:=R.AEf b.wf (off:=0) (vs:=[]) (wB _);have z:=R.AEy b (wB _) (off:=0) (vs:=[]) (wB _);refine⟨_,.slice (BY ⟨h.next,0,By⟩) 0 0,?_,z,⟨h.next,0,rfl,.inl rfl,p,wB _⟩⟩;rw[JP rfl];unfold d90;have g:∀e:Env,J 0 e=.slice (BY a) 0 c->oEq MI.k IS (J 0) (W (.slice By 0 0)) (call AC n) e h=.ok (.bool IS) h:=g;simp only[iN,wA,sT,sh,OF,reduceIte,xD,g,i,BD,t,lV0]
 ·obtain⟨u,v,q,r,s⟩:=Pr (eb:=1) (en:=5) (k:=h.next) b (by omega) R (j.ext d b) (by rw[wF];exact f) (C8 l) (by rw[wF];omega)
  refine⟨u,v,?_,r,s.mk f⟩;rw[JP rfl];unfold d90;simp only[iN,wA,sT,sh,OF,reduceIte,g,i,BD,q,lV0]
theorem ay{F:AES}{e:Env}{h:Hp}{x y:O}{a:Addr}{d N C m:Nat}(k:x e=.slice (BY a) N C)(l:y e=AI AT (m:Int))(j:m<=C):EL d 1 x By (BY y) By F e h=.ok (.slice (BY a) m C) h:=by
 show(match x e with|.slice a c g=>Dr e c g By (BY y) By (λf b m=>Eh d 1 a IS f b m h)|_=>.no)=_;rw[k];show Cy e (BY y) N C (λb=>Cy e By 0 b λf=>Eh d 1 (BY a) IS f b C h)=_;have i:∀K:Nat->R,Cy e (BY y) N C K=K m:=λK=>by
  show(match Dj (y e)with|.ok c=>(bif wY c C then K c else .no)|.no=>.no)=_;rw[l,DM];simp only;rw[Am.2 j];rfl
 rw[i];show Bq (BY a) 1 0 m C h=_;unfold Bq;simp only[Ae];cases C with
 |zero=>rfl
 |succ C=>rfl
theorem dh{F:AES}{e:Env}{h:Hp}{k:C}{o:Addr}{n c:Nat}(a:o.block<h.mark):IU (.slice (BY o) n c) k F e h=k F e h:=by
 show(bif xQ o.block h.mark then k F e h else .no)=_;rw[BM.2 a];rfl
theorem Hp.AEs.blt{h:Hp}(d:h.Wf){o:Addr}{n c:Nat}{xs:List vz}(b:h.AEs (.slice (BY o) n c) xs):o.block<h.next:=by
 rcases b with ⟨a,_⟩|⟨g,k,i,j,f,a,e,_⟩
 ·cases a
 ·cases a;exact e.lt d
def Zp(u:vz):Prop:=∀c b a,u=.slice c b a->b<=a
theorem Mk.cap{h:Hp}{k:Nat}{v:vz}{l:List Nat}(m:Mk h k v l):Zp v:=λg f d a=>by
 obtain⟨c,e,b,_⟩:=m;rw[b]at a;cases a;exact wB _
def unC(l:List Nat):Int:=if l.length<4 then 11 else 12
def vQ(T l:List Nat)(h h':Hp)(r:R):Prop:=(∃b v,FN T l=BY b/\r=.ok (.tuple ⟨[v,AI AT 0]⟩) h'/\Mk h' h.next v b)\/(FN T l=By/\∃a:Int,(a≠0/\a=unC l)/\r=.ok (.tuple ⟨[.slice By 0 0,AI AT a]⟩) h')
theorem Zn{n:Nat}{h:Hp}(j:h.Wf){y:Nat}{T:List Nat}(R:h.Row y 0 (T.map wv))(hT:AFD T){u:vz}{l:List Nat}(i:h.AEs u (l.map bv))(hC:Zp u)(G:∀x∈l,x<256)(hl:l.length<=900000):
  ∃h',h.Ext h'/\vQ T l h h' (call AC (n+3) 82 [pt y,u] h):=by
 have s:=i.bl h;by_cases g:l.length<4
 ·have o:iLt (l.length:Int) 4=IN:=Ec g
  refine⟨h,.refl j,.inr ⟨by unfold FN;rw[IT g],11,⟨by omega,by unfold unC;rw[IT g]⟩,?_⟩⟩;rw[UJ rfl];unfold d82;simp only[iN,wA,sT,sh,OF,reduceIte,Aa,s,AM,AK,o,A7,C0]
 ·have o:iLt (l.length:Int) 4=IS:=DC (a:=l.length) (b:=4) (by omega)
  have B:Ge xO .i64 (AI AT (l.length:Int)) (AI AT 4) h=.ok (AI AT ((l.length - 4:Nat):Int)) h:=by
   have:xO (l.length:Int) 4=((l.length - 4:Nat):Int):=by show(l.length:Int) - 4=_;omega
   rw[Co,this,Bl (by omega)]
  have K:(l.map bv).length=l.length:=wF ..;obtain⟨m,D,k,r⟩:=i.cut (n:=l.length - 4) (by rw[K];omega);rw[K]at k;have I:(l.take (l.length - 4)).length=l.length - 4:=by rw[wu];omega
  have r:h.AEs (.slice (BY m) (l.take (l.length - 4)).length D) ((l.take (l.length - 4)).map bv):=by rw[I,List.map_take];exact r
  obtain⟨c,v,w,S,L⟩:=Q9 (n:=n+1) j r (by omega);rw[I]at w;have H:∀x∈l.take (l.length - 4),x<256:=λx hx=>G x (xk hx)
  have A:=S.marked;have Y:=A.wf;have W:h.Ext c.marked.quiet:=A.quiet;obtain⟨f,Q,k2,U,m2⟩:=Xz (n:=n) W.wf (R.ext j W) hT ((L.same (h':=c.marked.quiet) rfl).vals) H (by omega);have N:∀(e:AES) (d:Env),e=call AC (n+2)->J 0 d=pt y->J 6 d=v->AZ .weak (AU 46 [J 0,J 6]) e d c.marked=.ok Q (c.marked.back f):=λe d hF h0 F=>by
   subst hF;refine Cd ?_ U (wB _);rw[BG,AS,AS,Av,h0,F];exact k2
  have V:c.marked.Ext (c.marked.back f):=Hp.Ext.back U;have z:=A.trans V;have m3:Mk (c.marked.back f) c.marked.quiet.next Q (Et T (l.take (l.length - 4))):=m2.same rfl;have m4:Mk (c.marked.back f) h.next v (l.take (l.length - 4)):=(L.same (h':=c.marked) rfl).ext Y V;have X:=i.ext j z;have O:=m3.vals.bytes.str;have P:=X.bytes.str;have p:=Q3 (TN (T:=T) H) G;have a0:m.block<(c.marked.back f).mark:=by
   have h5:m.block<h.next:=by rw[k]at i;exact i.blt j
   have F:=S.next;show m.block<c.next;omega
  have M:∀(t:C) (e:AES) (d:Env),IU u t e d (c.marked.back f)=t e d (c.marked.back f):=λt e d=>by rw[k];exact dh a0
  have E:∀(e:AES) (d:Env),J 1 d=u->J 13 d=AI AT ((l.length - 4:Nat):Int)->EL 5 1 (J 1) By (BY (J 13)) By e d h=.ok (.slice (BY m) (l.length - 4) D) h:=λe d Z e2=>by
   have:=hC _ _ _ k;exact ay (Z.trans k) e2 (by omega)
  by_cases q:Et T (l.take (l.length - 4))=l
  ·refine⟨_,z,.inl ⟨_,v,by unfold FN;rw[If g,IT q],?_,m4⟩⟩
   rw[decide_eq_true q]at p;rw[UJ rfl];unfold d82;simp only[iN,wA,sT,sh,OF,reduceIte,Aa,s,AM,AK,o,B6,B,E,cA0,w,Ar,N,La,O,D7,M,DL,P,QQ,Pk,p,xK,A7,C0]
  ·refine⟨_,z,.inr ⟨by unfold FN;rw[If g,If q],12,⟨by omega,by unfold unC;rw[If g]⟩,?_⟩⟩
   rw[decide_eq_false q]at p;rw[UJ rfl];unfold d82;simp only[iN,wA,sT,sh,OF,reduceIte,Aa,s,AM,AK,o,B6,B,E,cA0,w,Ar,N,La,O,D7,M,DL,P,QQ,Pk,p,xP,A7,C0]
def Bn(a b c:Int)(s:Nat)(u:vz):vz:=.agg ⟨[AI AT a,AI AT b,AI AT c,.int .u8 (s:Int),u]⟩
def A5(a b c:Int)(s:Nat)(u:vz):List vz:=[AI AT a,AI AT b,AI AT c,.int .u8 (s:Int),u]
theorem TT{F:AES}{h:Hp}(d:h.Wf){a b c:Int}{s:Nat}{u:vz}{g:O}{e:Env}(f:g e=Bn a b c s u):CT g F e h=.ok (.pointer (BY ⟨h.next,0,By⟩)) (h.AER 0 (A5 a b c s u)):=by
 rw[EQ,f,EO d];rfl
theorem Br{h:Hp}{r:Nat}{a b c:Int}{s:Nat}{u:vz}(R:h.Row r 0 (A5 a b c s u)):AEV ⟨r,0,By⟩ h=.ok (AI AT a) h/\AEV ⟨r,1,By⟩ h=.ok (AI AT b) h/\AEV ⟨r,2,By⟩ h=.ok (AI AT c) h/\AEV ⟨r,3,By⟩ h=.ok (.int .u8 (s:Int)) h/\AEV ⟨r,4,By⟩ h=.ok u h/\loadN 5 ⟨r,0,By⟩ h=.ok (Bn a b c s u) h:=
 ⟨R.AEV (off:=0) (by show 0<5;omega),R.AEV (off:=1) (by show 1<5;omega),R.AEV (off:=2) (by show 2<5;omega),R.AEV (off:=3) (by show 3<5;omega),R.AEV (off:=4) (by show 4<5;omega),R.loadN (off:=0) (n:=5) (by show 0+5<=5;omega)⟩
theorem F0{a b:Int}(h:b<=a):iGe a b=IN:=(Pt a b).trans (decide_eq_true h)
theorem E0{a b:Int}(h:¬b<=a):iGe a b=IS:=(Pt a b).trans (decide_eq_false h)
theorem Hn{a b:Int}(h:a<=b):iLe a b=IN:=(Pu a b).trans (decide_eq_true h)
theorem Lt{a b:Int}(h:¬a<=b):iLe a b=IS:=(Pu a b).trans (decide_eq_false h)
theorem JJ{a b:Int}(h:a<b):iLt a b=IN:=(DG a b).trans (decide_eq_true h)
theorem GR{a b:Int}(h:¬a<b):iLt a b=IS:=(DG a b).trans (decide_eq_false h)
theorem Hm{a b:Int}(h:b<a):iGt a b=IN:=(HL a b).trans (decide_eq_true h)
theorem GQ{a b:Int}(h:¬b<a):iGt a b=IS:=(HL a b).trans (decide_eq_false h)
theorem CZ{a b:Int}(h:a=b):iEq a b=IN:=by rw[Dh];simpa using h
theorem B8{a b:Int}(h:¬a=b):iEq a b=IS:=by rw[Dh];simpa using h
theorem De{a b:Int}(h:¬a=b):iNe a b=IN:=by rw[H8];simpa using h
theorem CE{a b:Int}(h:a=b):iNe a b=IS:=by rw[H8];simpa using h
theorem VL{F:AES}{h:Hp}(A:h.Wf){a b c:Int}{s n:Nat}{u:vz}(i:∀g,AFB u g=.ok (AI AT (n:Int)) g):IG [.t (J 2)] (d91 F (Ay e0 0 [Bn a b c s u]) h)=.ok (.bool (AEh a b c s n)) (h.AER 0 (A5 a b c s u)):=by
 have R:=Hp.Row.new A 0 (A5 a b c s u);have d:∀z:Env,J 0 z=Bn a b c s u->CT (J 0) F z h=.ok (.pointer (BY ⟨h.next,0,By⟩)) (h.AER 0 (A5 a b c s u)):=λz L=>TT A L
 generalize h.AER 0 (A5 a b c s u)=M at R d;obtain⟨j,k,l,m,o,_⟩:=Br R;unfold d91;by_cases B:0<=a
 ·have e:iGe a 0=IN:=F0 B
  by_cases C:a<=1099511627776
  ·have f:iLe a 1099511627776=IN:=Hn C
   by_cases D:0<=b
   ·have p:iGe b 0=IN:=F0 D
    by_cases E:b<255
    ·have q:iLt b 255=IN:=JJ E
     by_cases G:1<=c
     ·have c5:iGe c 1=IN:=F0 G
      by_cases H:c<=1099511627776
      ·have r:iLe c 1099511627776=IN:=Hn H
       by_cases I:(s:Int)=1
       ·have w:iEq (s:Int) 1=IN:=CZ I
        by_cases x:(n:Int)<=65536
        ·have t:iLe (n:Int) 65536=IN:=Hn x
         rw[show AEh a b c s n=IN from decide_eq_true (by omega)];simp only[iN,wA,sT,sh,OF,reduceIte,gD,d,AH,AN,AJ,AP,j,k,l,m,o,AM,AK,Aa,i,e,f,p,q,c5,r,w,t,lV0]
        ·have t:iLe (n:Int) 65536=IS:=Lt x
         rw[show AEh a b c s n=IS from decide_eq_false (by omega)];simp only[iN,wA,sT,sh,OF,reduceIte,gD,d,AH,AN,AJ,AP,j,k,l,m,o,AM,AK,Aa,i,e,f,p,q,c5,r,w,t,lV0]
       ·have w:iEq (s:Int) 1=IS:=B8 I
        by_cases K:(s:Int)=2
        ·have y:iEq (s:Int) 2=IN:=CZ K
         by_cases x:(n:Int)<=65536
         ·have t:iLe (n:Int) 65536=IN:=Hn x
          rw[show AEh a b c s n=IN from decide_eq_true (by omega)];simp only[iN,wA,sT,sh,OF,reduceIte,gD,d,AH,AN,AJ,AP,j,k,l,m,o,AM,AK,Aa,i,e,f,p,q,c5,r,w,y,t,lV0]
         ·have t:iLe (n:Int) 65536=IS:=Lt x
          rw[show AEh a b c s n=IS from decide_eq_false (by omega)];simp only[iN,wA,sT,sh,OF,reduceIte,gD,d,AH,AN,AJ,AP,j,k,l,m,o,AM,AK,Aa,i,e,f,p,q,c5,r,w,y,t,lV0]
        ·have y:iEq (s:Int) 2=IS:=B8 K
         rw[show AEh a b c s n=IS from decide_eq_false (by omega)];simp only[iN,wA,sT,sh,OF,reduceIte,gD,d,AH,AN,AJ,AP,j,k,l,m,o,AM,AK,Aa,i,e,f,p,q,c5,r,w,y,lV0]
      ·have r:iLe c 1099511627776=IS:=Lt H
       rw[show AEh a b c s n=IS from decide_eq_false (by omega)];simp only[iN,wA,sT,sh,OF,reduceIte,gD,d,AH,AN,AJ,AP,j,k,l,m,o,AM,AK,Aa,i,e,f,p,q,c5,r,lV0]
     ·have c5:iGe c 1=IS:=E0 G
      rw[show AEh a b c s n=IS from decide_eq_false (by omega)];simp only[iN,wA,sT,sh,OF,reduceIte,gD,d,AH,AN,AJ,AP,j,k,l,m,o,AM,AK,Aa,i,e,f,p,q,c5,lV0]
    ·have q:iLt b 255=IS:=GR E
     rw[show AEh a b c s n=IS from decide_eq_false (by omega)];simp only[iN,wA,sT,sh,OF,reduceIte,gD,d,AH,AN,AJ,AP,j,k,l,m,o,AM,AK,Aa,i,e,f,p,q,lV0]
   ·have p:iGe b 0=IS:=E0 D
    rw[show AEh a b c s n=IS from decide_eq_false (by omega)];simp only[iN,wA,sT,sh,OF,reduceIte,gD,d,AH,AN,AJ,AP,j,k,l,m,o,AM,AK,Aa,i,e,f,p,lV0]
  ·have f:iLe a 1099511627776=IS:=Lt C
   rw[show AEh a b c s n=IS from decide_eq_false (by omega)];simp only[iN,wA,sT,sh,OF,reduceIte,gD,d,AH,AN,AJ,AP,j,k,l,m,o,AM,AK,Aa,i,e,f,lV0]
 ·have e:iGe a 0=IS:=E0 B
  rw[show AEh a b c s n=IS from decide_eq_false (by omega)];simp only[iN,wA,sT,sh,OF,reduceIte,gD,d,AH,AN,AJ,AP,j,k,l,m,o,AM,AK,Aa,i,e,lV0]
theorem KX{n:Nat}{h:Hp}(d:h.Wf){a b c:Int}{s m:Nat}{u:vz}(e:∀g,AFB u g=.ok (AI AT (m:Int)) g):call AC (n+1) 91 [Bn a b c s u] h=.ok (.bool (AEh a b c s m)) (h.AER 0 (A5 a b c s u)):=by
 rw[oh rfl];exact VL d e
def PJ(z:Int):Nat:=if z<0\/65536<z then 0 else 1+(z.toNat+63)/64
theorem rP{F:AES}{e:Env}{h:Hp}{x y:O}{k j:IntKind}{a b:Int}(f:x e=.int k a)(g:y e=.int j b):ZN x y F e h=.ok (.int k (min a b)) h:=by
 show IK IN (x e) (y e) h=_;rw[f,g];show(bif iLt b a then R.ok (.int k b) h else .ok (.int k a) h)=_;rw[DG];rcases Int.lt_or_le b a with d|c
 ·rw[decide_eq_true d,Int.min_eq_right (by omega)];rfl
 ·rw[decide_eq_false (by omega),Int.min_eq_left c];rfl
theorem X6{n:Nat}{h:Hp}{z:Int}:call AC (n+1) 68 [AI AT z] h=.ok (AI AT (PJ z:Nat)) h:=by
 rw[oQ rfl];unfold d68;by_cases d:z<0
 ·have b:iLt z 0=IN:=JJ d
  rw[show PJ z=0 from IT (by omega)];simp only[iN,wA,sT,sh,OF,reduceIte,gD,AM,AK,b,lV0];rfl
 ·have b:iLt z 0=IS:=GR d
  by_cases e:65536<z
  ·have c:iGt z 65536=IN:=Hm e
   rw[show PJ z=0 from IT (by omega)];simp only[iN,wA,sT,sh,OF,reduceIte,gD,AM,AK,b,c,lV0];rfl
  ·have c:iGt z 65536=IS:=GQ e
   obtain⟨a,rfl⟩:=yw (show 0<=z by omega);have f:GF .i64 (AI AT (a:Int)) (AI AT 64) h=.ok (AI AT ((a+64:Nat):Int)) h:=by
    rw[FK,show(a:Int)+64=((a+64:Nat):Int)by omega,Bl (by omega)]
   have g:Ge xO .i64 (AI AT ((a+64:Nat):Int)) (AI AT 1) h=.ok (AI AT ((a+63:Nat):Int)) h:=by
    have:xO ((a+64:Nat):Int) 1=((a+63:Nat):Int):=by show((a+64:Nat):Int) - 1=_;omega
    rw[Co,this,Bl (by omega)]
   have i:UU .i64 (AI AT ((a+63:Nat):Int)) (AI AT 64) h=.ok (AI AT (((a+63)/64:Nat):Int)) h:=by
    have:IntKind.i64.wrap (((a+63:Nat):Int).tdiv 64)=(((a+63)/64:Nat):Int):=Bl (n:=(a+63)/64) (by omega);rw[MP (by omega),this]
   have j:GF .i64 (AI AT 1) (AI AT (((a+63)/64:Nat):Int)) h=.ok (AI AT ((PJ (a:Int):Nat):Int)) h:=by
    rw[show PJ (a:Int)=1+((a:Int).toNat+63)/64 from If (by omega),yC,FK,show(1:Int)+(((a+63)/64:Nat):Int)=((1+(a+63)/64:Nat):Int)by omega,Bl (by omega)]
   simp only[iN,wA,sT,sh,OF,reduceIte,gD,AM,AK,b,c,BL,f,B6,g,KK,i,j,lV0]
def CM(a b c s m t:Nat):List Nat:=[s,a,b,c,m,t]
theorem dH{a b c s m t:Nat}(e:a<=1099511627776)(f:b<255)(g:c<=1099511627776)(i:s<256)(h:m<=65536)(j:t<4294967296):∀v∈CM a b c s m t,v<18446744073709551616:=λv d=>by
 unfold CM at d;simp only[wS,AAr,or_false]at d;omega
theorem O6{a b c s m t:Nat}(j:a<=1099511627776)(k:b<255)(l:c<=1099511627776)(o:s<256)(n:m<=65536)(p:t<4294967296):(B0 (CM a b c s m t)).length<=40:=by
 have d:=Eb 1 s (by show s<16384;omega);have e:=Eb 5 a (by show a<4398046511104;omega);have f:=Eb 1 b (by show b<16384;omega);have g:=Eb 5 c (by show c<4398046511104;omega);have h:=Eb 2 m (by show m<2097152;omega);have i:=Eb 4 t (by show t<34359738368;omega);show(CA s++(CA a++(CA b++(CA c++(CA m++(CA t++[])))))).length<=40;simp only[wD,xD];omega
theorem LE{k:IntKind}{n:Nat}(a:n<=18446744073709551615){h:Hp}:Ds .u64 (.int k (n:Int)) h=.ok (.int .u64 (n:Int)) h:=by rw[Cz,Eu a]
def vM(T:List Nat)(a b c:Int)(s:Nat)(l:List Nat)(h h':Hp)(r:R):Prop:=(AEh a b c s l.length=IN/\∃v,r=.ok (.tuple ⟨[v,AI AT 0]⟩) h'/\Mk h' h.next v (Et T (MB (CM a.toNat b.toNat c.toNat s l.length (CC T l)))))\/(AEh a b c s l.length=IS/\r=.ok (.tuple ⟨[.slice By 0 0,AI AT 2]⟩) h')
def nv(n:Nat):vz:=.int .u64 (n:Int)
theorem Hp.Own.apart{h:Hp}{k en b:Nat}{v:vz}{xs:List vz}(o:h.Own k en v xs)(d:b<k):¬AEu v b:=by
 rcases o with ⟨rfl,_⟩|⟨a,rfl,_,c,_⟩
 ·exact Gl
 ·exact MK (by omega)
theorem ZT{h0 h:Hp}{k n:Nat}{v:vz}{xs:List Nat}(q:h0.Ext h)(hk:h0.next<=k)(t:k<=h.next)(o:h.Own k 5 v (xs.map bv))(J:0<n)(I:xs.length+n<=1000000):
  ∃h' v',Ih 1 1 5 ty5.zero v (.ok n) h=.ok v' h'/\h0.Ext h'/\h'.Own k 5 v' ((xs++wR n 0).map bv)/\h.next<=h'.next:=by
 have b:=q.wf;have w:Bd ty5.zero=IN:=by kernel_rfl
 have g:((wR n 0).map bv).length=n:=by simp
 rw[w9];have f:(xs.map bv).length=xs.length:=wF ..;generalize s:(wR n 0).map bv=a at g;rcases o with ⟨rfl,y⟩|⟨d,rfl,x,H,E⟩
 ·rw[y]
  obtain⟨t1,t2⟩:=IR a;refine⟨h.push (.cells (ofL a) a.length 6),.slice (BY ⟨h.next,0,By⟩) a.length a.length,?_,q.push _,.inr ⟨h.next,rfl,⟨ofL a,by rw[b.AEr,IT rfl];rfl,t2⟩,t,b.big⟩,ADZ _⟩;unfold Ih;simp only[Ae,yH,wC];have j:wY n 0=IS:=by
   cases c:wY n 0
   ·rfl
   ·have:=Am.1 c;omega
  have l:wY (xW (wQ n) (wQ 1)) JZ=IN:=Am.2 (HP (by show(n+1)*2<=1099511627776;omega));rw[j];simp only[l,cond_true,w,Mc,s];unfold Gv BP J7;simp only[xI,t1];unfold Ez;simp only[Bf];unfold CP;rw[Ae,Cv b,g];rfl
 ·obtain⟨z,m,F⟩:=x.rowOf
  rw[f]at m;obtain⟨i,D,e⟩:=EG a z (xs.map bv) xs.length F (.inr f.symm);have e:i.Is (xs.map bv++a):=by
   have c:(xs.map bv).drop (xs.length+a.length)=[]:=xV (by omega);have A:(xs.map bv).take xs.length=xs.map bv:=yU (by omega);rw[c,A]at e
   simpa using e
  have u:(xs.map bv++a).length=xs.length+n:=by rw[wD,f,g]
  have p:=x.lt b;have r:(h.put d .dead).Wf:=b.put p _;have G:h0.Ext (h.put d .dead):=q.put (by omega) p _;refine⟨(h.put d .dead).push (.cells i (xs.length+n) 6),.slice (BY ⟨h.next,0,By⟩) (xs.length+n) (xs.length+n),?_,G.push _,.inr ⟨h.next,by rw[u],⟨i,by
   have:=r.AEr (.cells i (xs.length+n) 6) h.next;rw[this,IT (show h.next=(h.put d .dead).next from rfl),u],e⟩,t,b.big⟩,ADZ _⟩
  rw[f];unfold Ih;simp only[Ae,yH];have j:wY (xs.length+n) xs.length=IS:=by
   cases c:wY (xs.length+n) xs.length
   ·rfl
   ·have:=Am.1 c;omega
  have l:wY (xW (wQ (xs.length+n)) (wQ 1)) JZ=IN:=Am.2 (HP (by show(xs.length+n+1)*2<=1099511627776;omega));rw[j];simp only[l,cond_true,w,Mc,s];unfold Gv;have B:wU xs.length (xW xs.length 1)=IN:=Ax.2 (yp _).symm;simp only[m,B,D];unfold Ez;have C:Lm 0 xs.length 1 xs.length=IN:=by
   unfold Lm;cases xs.length with
   |zero=>rfl
   |succ n=>exact Ax.2 (by show 0+(n+1)*1=n+1;omega)
  simp only[m,Bf,yH,yG,cond_true,C];rw[EE b E p];unfold CP;rw[Ae,Cv r,g];rfl
theorem Sf{F:AES}{e:Env}{h:Hp}{x y:O}{n:Nat}{v:vz}(a:x e=v)(b:y e=AI AT (n:Int)):F2 1 1 5 ty5.zero x y F e h=Ih 1 1 5 ty5.zero v (.ok n) h:=by
 unfold F2;rw[a,b,DM]
theorem lV:BX Ti.zero 6=[nv 0,nv 0,nv 0,nv 0,nv 0,nv 0]:=by kernel_rfl
theorem aY{n:Nat}:cellsOf (nv n)=[nv n]:=rfl
theorem Zb{F:AES}{e:Env}{h:Hp}(n:h.Wf){g1 g2 g3 g4 g5 g6:O}{a b c d i j:Nat}(f:g1 e=nv a)(h2:g2 e=nv b)(g:g3 e=nv c)(k:g4 e=nv d)(l:g5 e=nv i)(m:g6 e=nv j):
  Ap 6 (BX Ti.zero 6) [(0,1,g1),(1,1,g2),(2,1,g3),(3,1,g4),(4,1,g5),(5,1,g6)] F e h=.ok (.slice (BY ⟨h.next,0,By⟩) 6 6) (h.AER 0 ([a,b,c,d,i,j].map nv)):=by
 rw[CQ,lV,A3 (hk:=by rw[f];rfl),f,A3 (hk:=by rw[h2];rfl),h2,A3 (hk:=by rw[g];rfl),g,A3 (hk:=by rw[k];rfl),k,A3 (hk:=by rw[l];rfl),l,A3 (hk:=by rw[m];rfl),m];simp only[aY,xM,wK,xD,over,AAw,AAZ,zK,xI,yS,wA,yn,if_true,Bw,reduceIte];rw[Cw n];rfl
theorem ql:heS=BJ (Ab 0 (A4 heB)) heE:=rfl
theorem bL:d95=bM:=rfl
theorem iw{n:Nat}{h0 h:Hp}(x0:h0.Ext h){b6:Nat}(hb6:b6<h.next)(hk:h0.next<=h.next){ns:List Nat}(R6:h.Row b6 0 (ns.map nv))(hns:∀v∈ns,v<18446744073709551616)(h6:ns.length=6){p:vz}{e:Env}
  (s0:J 0 e=p)(s6:J 6 e=.slice By 0 0)(s33:J 33 e=.slice (BY ⟨b6,0,By⟩) 6 6)(s34:J 34 e=AI AT 6)(s35:J 35 e=AI AT ((0:Nat):Int)):
  ∃e' h' v,A4 heB (call AC (n+1)) e h=.exit 0 e' h'/\h0.Ext h'/\h'.Own h.next 5 v ((B0 ns).map bv)/\J 0 e'=p/\J 6 e'=v/\h.next<=h'.next:=by
 refine Bb (I:=λi e' h'=>∃v,h0.Ext h'/\h'.Own h.next 5 v ((B0 (ns.take i)).map bv)/\h'.Row b6 0 (ns.map nv)/\J 0 e'=p/\J 6 e'=v/\J 33 e'=.slice (BY ⟨b6,0,By⟩) 6 6/\J 34 e'=AI AT 6/\J 35 e'=AI AT (i:Int)/\h.next<=h'.next/\i<=6)
  (Q:=λx=>∃e' h' v,x=.exit 0 e' h'/\h0.Ext h'/\h'.Own h.next 5 v ((B0 ns).map bv)/\J 0 e'=p/\J 6 e'=v/\h.next<=h'.next) 6 (by omega) (λi e' h' ⟨v,x',o',R',t0,t6,t33,t34,t35,hn,hi⟩=>?_)
  ⟨_,x0,.inl ⟨rfl,rfl⟩,R6,s0,s6,s33,s34,s35,wB _,by omega⟩
 by_cases hlt:i<6
 ·left
  have c1:iLt (i:Int) 6=IN:=Ec (b:=6) hlt;have hil:i<ns.length:=by omega
  have i1:AFM 1 (.slice (BY ⟨b6,0,By⟩) 6 6) (AI AT (i:Int)) h'=.ok (.pointer (BY ⟨b6,i,By⟩)) h':=by
   have:=DB (h:=h') (n:=6) (c:=6) (es:=1) (b:=b6) (off:=0) (i:=i) (k:=.i64) hlt
   rwa [wC,yp]at this
  have l1:AEV ⟨b6,i,By⟩ h'=.ok (.int .u64 ((ns[i]'hil:Nat):Int)) h':=by
   rw[R'.AEV (off:=i) (by rw[wF];exact hil),wG,xc,wE hil];rfl
  have htl:(B0 (ns.take i)).length<=1000000:=by
   have h1:=Jj (ns:=ns.take i) λv hv=>hns v (xk hv)
   rw[wu]at h1;omega
  obtain⟨h2,v2,k2,x2,o2,hn2,fr⟩:=lN (n:=n) x' hk hn o' htl (hns _ (zY hil));have a3:=CL (i:=i) (h:=h2) (by omega);have R2:=(fr b6 0 _ (o'.apart hb6) R').1;have htk:B0 (ns.take i)++CA (ns[i]'hil)=B0 (ns.take (i+1)):=by
   rw[List.take_succ_eq_append_getElem hil,Vd];show _=_++(CA _++[]);rw[wT]
  rw[htk]at o2;have hrun:∃e2,heB (call AC (n+1)) e' h'=.norm e2 h2/\J 0 e2=p/\J 6 e2=v2/\J 33 e2=.slice (BY ⟨b6,0,By⟩) 6 6/\J 34 e2=AI AT 6/\J 35 e2=AI AT ((i+1:Nat):Int):=by
   unfold heB;simp only[sT,sh,OF,reduceIte,AM,AK,t35,t34,c1,A1,t33,i1,AJ,AP,l1,cA0,t6,k2,BL,a3];exact⟨_,rfl,by simp[AG,t0,t33,t34]⟩
  obtain⟨e2,q1,q2,q3,q4,q5,q6⟩:=hrun;exact⟨by omega,e2,h2,q1,v2,x2,o2,R2,q2,q3,q4,q5,q6,by omega,by omega⟩
 ·right
  have hi6:i=6:=by omega
  subst hi6;have c1:iLt ((6:Nat):Int) 6=IS:=DC (a:=6) (b:=6) (by omega);have hrun:∃e2,heB (call AC (n+1)) e' h'=.exit 0 e2 h'/\J 0 e2=p/\J 6 e2=v:=by
   unfold heB;simp only[sT,sh,OF,reduceIte,AM,AK,t35,t34,c1];exact⟨_,rfl,by simp[AG,t0,t6]⟩
  obtain⟨e2,q1,q2,q3⟩:=hrun;rw[q1];rw[yU (by omega)]at o';exact⟨rfl,e2,h',v,rfl,x',o',q2,q3,hn⟩
theorem XH{n:Nat}{h:Hp}(r:h.Wf){z:Nat}{T:List Nat}(R:h.Row z 0 (T.map wv))(Z:AFD T){a b c:Int}{s:Nat}{u:vz}{l:List Nat}(K:h.AEs u (l.map bv))(hb:∀x∈l,x<256)(hs:s<256)(hl:l.length<=900000):
  ∃h',h.Ext h'/\vM T a b c s l h h' (call AC (n+3) 95 [pt z,Bn a b c s u] h):=by
 have A:=(Hp.Ext.refl r).AER 0 (A5 a b c s u);have I:=Hp.Row.new r 0 (A5 a b c s u);have L:∀e:Env,J 1 e=Bn a b c s u->CT (J 1) (call AC (n+2)) e h=.ok (.pointer (BY ⟨h.next,0,By⟩)) (h.AER 0 (A5 a b c s u)):=λe he=>TT r he
 have n1:(h.AER 0 (A5 a b c s u)).next=h.next+1:=rfl;generalize h.AER 0 (A5 a b c s u)=U at A I L n1;obtain⟨_,_,_,_,_,ln⟩:=Br I;have y:=KX (n:=n+1) A.wf (a:=a) (b:=b) (c:=c) (s:=s) (u:=u) K.bl;have W:=(Hp.Ext.refl A.wf).AER 0 (A5 a b c s u);have n2:(U.AER 0 (A5 a b c s u)).next=U.next+1:=rfl;generalize U.AER 0 (A5 a b c s u)=d at W y n2;have x2:=A.trans W;cases w:AEh a b c s l.length with
 |false=>
  rw[w]at y;refine⟨d,x2,.inr ⟨w,?_⟩⟩;rw[aV rfl,bL];unfold bM;simp only[iN,wA,sT,sh,OF,reduceIte,L,Ai,Ac,ln,cA0,y,BO,BN,xP,A7,C0]
 |true=>
  rw[w]at y;obtain⟨a4,b1,a5,b2,b3,b4,b8,hm⟩:=of_decide_eq_true w;have B:=x2.marked;have R2:d.marked.Row h.next 0 (A5 a b c s u):=(I.ext A.wf W).same rfl;obtain⟨m0,m1,m2,m3,m4,_⟩:=Br R2;have a6:h.next<d.marked.mark:=by show h.next<d.next;omega
  have a8:∀(a2:Nat) (k:C) (p:AES) (e:Env),IU (.pointer (BY ⟨h.next,a2,By⟩)) k p e d.marked=k p e d.marked:=λa2 k p e=>DO a6
  have Vl:=K.bl d.marked;obtain⟨f,rfl⟩:=yw a4;obtain⟨g,rfl⟩:=yw a5;obtain⟨i,rfl⟩:=yw (show 0<=c by omega);have Q:=LE (k:=.u8) (n:=s) (by omega) (h:=d.marked);have M:=LE (k:=.i64) (n:=f) (by omega) (h:=d.marked);have N:=LE (k:=.i64) (n:=g) (by omega) (h:=d.marked);have O:=LE (k:=.i64) (n:=i) (by omega) (h:=d.marked);have P:=LE (k:=.i64) (n:=l.length) (by omega) (h:=d.marked);obtain⟨q,kq,a0⟩:=fH (n:=n+1) (h:=d.marked.quiet) (R.ext r B.quiet) Z (K.ext r B.quiet) hb hl;have yq:d.marked.quiet.Ext q:=by
   rcases a0 with rfl|rfl
   ·exact Hp.Ext.refl B.quiet.wf
   ·exact(Hp.Ext.refl B.quiet.wf).marked
  have nq:q.next=d.next:=by rcases a0 with rfl|rfl<;>rfl
  have q1:∀e:Env,J 0 e=pt z->J 30 e=u->AZ .weak (AU 80 [J 0,J 30]) (call AC (n+2)) e d.marked=.ok (.int .u32 ((CC T l:Nat):Int)) (d.marked.back q):=λe h0 F=>by
   refine Cd ?_ yq (wB _);rw[BG,AS,AS,Av,h0,F];exact kq
  have yb:d.marked.Ext (d.marked.back q):=Hp.Ext.back yq;have nb:(d.marked.back q).next=d.next:=nq;have mb:(d.marked.back q).mark=d.next:=rfl;generalize d.marked.back q=j at q1 yb nb mb;have G:=B.trans yb;have S:=LE (k:=.u32) (n:=CC T l) (by have:=JB T l;omega) (h:=j);have y4:j.quiet.Ext (j.quiet.AER 0 ((CM f g i s l.length (CC T l)).map nv)):=(Hp.Ext.refl G.quiet.wf).AER _ _;have R4:=Hp.Row.new G.quiet.wf 0 ((CM f g i s l.length (CC T l)).map nv);have q2:∀(p:AES) (e:Env),J 14 e=nv s->J 17 e=nv f->J 20 e=nv g->J 23 e=nv i->J 27 e=nv l.length->J 32 e=nv (CC T l)->
    AZ .AEk (Ap 6 (BX Ti.zero 6) [(0,1,J 14),(1,1,J 17),(2,1,J 20),(3,1,J 23),(4,1,J 27),(5,1,J 32)]) p e j=.ok (.slice (BY ⟨j.next,0,By⟩) 6 6) (j.back (j.quiet.AER 0 ((CM f g i s l.length (CC T l)).map nv))):=λp e o D e3 e4 e5 e6=>
   Cd (Zb G.quiet.wf o D e3 e4 e5 e6) y4 (by omega)
  have z4:j.Ext (j.back (j.quiet.AER 0 ((CM f g i s l.length (CC T l)).map nv))):=Hp.Ext.back y4;have n4:(j.back (j.quiet.AER 0 ((CM f g i s l.length (CC T l)).map nv))).next=j.next+1:=rfl;have X:(j.back (j.quiet.AER 0 ((CM f g i s l.length (CC T l)).map nv))).Row j.next 0 ((CM f g i s l.length (CC T l)).map nv):=R4.same rfl;generalize j.back (j.quiet.AER 0 ((CM f g i s l.length (CC T l)).map nv))=Y at q2 z4 n4 X;have V:=G.trans z4;have a7:=dH (a:=f) (b:=g) (c:=i) (s:=s) (m:=l.length) (t:=CC T l) (by omega) (by omega) (by omega) hs (by omega) (JB T l);have b5:=O6 (a:=f) (b:=g) (c:=i) (s:=s) (m:=l.length) (t:=CC T l) (by omega) (by omega) (by omega) hs (by omega) (JB T l);have a9:∃o,bM (call AC (n+2)) (Ay e0 0 [pt z,Bn (f:Int) (g:Int) (i:Int) s u]) h=heS (call AC (n+2)) o Y/\J 0 o=pt z/\J 6 o=.slice By 0 0/\J 33 o=.slice (BY ⟨j.next,0,By⟩) 6 6/\J 34 o=AI AT 6/\J 35 o=AI AT ((0:Nat):Int):=by
   have Q:Ds .u64 (.int .u8 (s:Int)) d.marked=.ok (nv s) d.marked:=Q;have M:Ds .u64 (AI AT (f:Int)) d.marked=.ok (nv f) d.marked:=M;have N:Ds .u64 (AI AT (g:Int)) d.marked=.ok (nv g) d.marked:=N;have O:Ds .u64 (AI AT (i:Int)) d.marked=.ok (nv i) d.marked:=O;have P:Ds .u64 (AI AT (l.length:Int)) d.marked=.ok (nv l.length) d.marked:=P;have S:Ds .u64 (.int .u32 ((CC T l:Nat):Int)) j=.ok (nv (CC T l)) j:=S;unfold bM;simp only[iN,wA,sT,sh,OF,reduceIte,L,Ai,Ac,ln,cA0,y,BO,BN,xK,Ar,AH,AN,D7,a8,DL,AJ,AP,m0,m1,m2,m3,m4,CU,Q,M,N,O,Aa,Vl,P,q1,S,q2,EK];exact⟨_,rfl,by simp[AG]⟩
  obtain⟨o,p1,p2,p3,p4,p5,p6⟩:=a9;obtain⟨D,E,v5,r1,x5,o5,r2,r3,n5⟩:=iw (n:=n+1) V (b6:=j.next) (by omega) V.next X a7 rfl p2 p3 p4 p5 p6;have a3:=o5.vals.bl E;have a1:Ge xO .i64 (AI AT 60) (AI AT ((B0 (CM f g i s l.length (CC T l))).length:Int)) E=.ok (AI AT ((60 - (B0 (CM f g i s l.length (CC T l))).length:Nat):Int)) E:=by
   have:xO 60 ((B0 (CM f g i s l.length (CC T l))).length:Int)=((60 - (B0 (CM f g i s l.length (CC T l))).length:Nat):Int):=by
    show(60:Int) - _=_;omega
   rw[Co,this,Bl (by omega)]
  obtain⟨F,v6,k6,H,o6,n6⟩:=ZT x5 (k:=Y.next) V.next n5 o5 (n:=60 - (B0 (CM f g i s l.length (CC T l))).length) (by omega) (by omega);have ap:∀(p:AES) (e:Env),J 6 e=v5->J 47 e=AI AT ((60 - (B0 (CM f g i s l.length (CC T l))).length:Nat):Int)->F2 1 1 5 ty5.zero (J 6) (J 47) p e E=.ok v6 F:=λp e o D=>(Sf o D).trans k6
  have b7:=Nn (l:=B0 (CM f g i s l.length (CC T l))) (by omega);have Vp:F.AEs v6 ((QW (B0 (CM f g i s l.length (CC T l)))).map bv):=o6.vals;obtain⟨h7,b0,k7,y7,m7⟩:=Xz (n:=n) H.wf (R.ext r H) Z Vp (Xs PR) (by omega);refine⟨h7,H.trans y7,.inl ⟨w,b0,?_,?_⟩⟩
  ·rw[aV rfl,bL,p1,ql]
   simp only[BC,Aw,r1,A6,BA];unfold heE;simp only[sT,sh,OF,reduceIte,Aa,r3,a3,B6,a1,ap,cA0,r2,k7,A7,C0]
  ·rw[yC,yC,yC]
   exact m7.le H.next
abbrev AEW:vz:=.slice By 0 0
def okT(ns:List Nat):vz:=.tuple ⟨[Bn (at6 ns 1) (at6 ns 2) (at6 ns 3) (at6 ns 0) AEW,AI AT (at6 ns 4:Nat),.int .u32 (at6 ns 5:Nat),.bool IN]⟩
def noT:vz:=.tuple ⟨[Bn 0 0 0 0 AEW,AI AT 0,.int .u32 0,.bool IS]⟩
theorem Vf:JE.zero=A5 0 0 0 0 AEW:=by kernel_rfl
theorem Fm:Bt .mt 0 (A5 0 0 0 0 AEW)=BY DT:=by kernel_rfl
theorem fu:Bt .mt 0 ([0,0,0,0,0,0].map nv)=BY PU:=by kernel_rfl
theorem LM{e:Env}{h:Hp}{g g1 g2 g3:O}{n:Nat}{v:vz}(b:II n (g e) h=.ok v h):FA [.cN g n,.t g1,.t g2,.t g3] e h=.ok (.tuple ⟨[v,g1 e,g2 e,g3 e]⟩) h:=by
 have a:Fk e h (.cN g n)=.ok v h:=b;show(match Fk e h (.cN g n)with|.ok v _=>AEi v λv=>AEi (g1 e) (λc=>AEi (g2 e) λd=>AEi (g3 e) λf=>J1 h [v,c,d,f])|.no=>.no)=_;rw[a];simp only[BR];rfl
theorem MG{h g:Hp}(j:h.Wf)(x:h.Ext g){r:Nat}(l:h.next<=r){d:List vz}(R:g.Row r 0 d)(f:d.length=5){a b c:Int}{s:Nat}{u:vz}(m:oneCell u=IN):
  AEa 5 (pt r) (Bn a b c s u) g=.ok AEU (g.wr r 0 (A5 a b c s u))/\loadN 5 ⟨r,0,By⟩ (g.wr r 0 (A5 a b c s u))=.ok (Bn a b c s u) (g.wr r 0 (A5 a b c s u))/\h.Ext (g.wr r 0 (A5 a b c s u))/\(g.wr r 0 (A5 a b c s u)).Row r 0 (A5 a b c s u)/\(g.wr r 0 (A5 a b c s u)).next=g.next:=by
 have i:256<=r:=by have:=j.big;omega
 have e:0+(A5 a b c s u).length<=d.length:=by rw[f];show 0+5<=5;omega
 have k:Bd (A5 a b c s u)=IN:=by
  show(bif oneCell u then IN else IS)=IN;rw[m];rfl
 have o:=R.AEa (n:=5) (off:=0) x.wf i (v:=Bn a b c s u) rfl e k;have wr:=R.AEf x.wf e;rw[FF (show d.length=(A5 a b c s u).length from f)]at wr;exact⟨o,(Br wr).2.2.2.2.2,R.AEy x l e,wr,R.AE7 e⟩
theorem gM{F:AES}{e:Env}{h:Hp}{g1 g2 g3 g4:O}{a b c:Int}{s:Nat}(d:g1 e=.int .u8 (s:Int))(h2:g2 e=AI AT a)(f:g3 e=AI AT b)(g:g4 e=AI AT c):
  BW JE.zero [(3,1,g1),(0,1,g2),(1,1,g3),(2,1,g4)] F e h=.ok (Bn a b c s AEW) h:=by
 rw[Cx,Vf,A3 (hk:=by rw[d];rfl),d,A3 (hk:=by rw[h2];rfl),h2,A3 (hk:=by rw[f];rfl),f,A3 (hk:=by rw[g];rfl),g];simp only[Cr,xM,wK,xD,A5,over,AAw,AAZ,zK,xI,yS,wA,yn,if_true,Bw,reduceIte];rfl
theorem D6{F:AES}{e:Env}{h:Hp}:BW JE.zero [] F e h=.ok (Bn 0 0 0 0 AEW) h:=by
 rw[Cx,Bw,Vf];rfl
theorem SB{r k:Nat}(hk:k<6){g:Hp}:OD 6 1 (pt r) (AI AT (k:Int)) g=.ok (.pointer (BY ⟨r,k,By⟩)) g:=by
 have:=XM (h:=g) (n:=6) (es:=1) (b:=r) (off:=0) (i:=k) (k:=.i64) hk
 rwa [wC,yp]at this
theorem Sb{g:Hp}{r k:Nat}{ns:List Nat}(R:g.Row r 0 (ns.map nv))(b:ns.length=6)(hk:k<6):AEV ⟨r,k,By⟩ g=.ok (.int .u64 ((at6 ns k:Nat):Int)) g:=by
 have a:k<ns.length:=by omega
 unfold at6;rw[R.AEV (off:=k) (by rw[wF];exact a),wG,xc,wG,wE a];rfl
abbrev RQ:vz:=.func (.func 132) ⟨[]⟩ ⟨[]⟩
theorem aC{n:Nat}{h:Hp}{c:Nat}:call AC (n+1) 132 [.int .u8 (c:Int)] h=.ok (.bool (iNe (c:Int) 0)) h:=by
 rw[gf rfl];unfold pq;simp only[iN,wA,sT,sh,OF,reduceIte,AM,AK,lV0]
theorem Pw:ifS=BJ (Ab 0 (A4 ifB)) ifE:=rfl
theorem MO:pp=OX:=rfl
theorem i7{n:Nat}{h:Hp}{u:vz}{l:List Nat}(s:h.AEs u (l.map bv))(F:l.length<=900000){e:Env}(s0:J 0 e=u)(s1:J 1 e=RQ)(s7:J 7 e=AI AT (l.length:Int))(s8:J 8 e=AI AT ((0:Nat):Int)):
  (∃a,A4 ifB (call AC (n+1)) e h=.exit 0 a h/\∀x∈l,x=0)\/(∃a i,A4 ifB (call AC (n+1)) e h=.ret a h/\J 4 a=AI AT ((i:Nat):Int)/\∃x∈l,x≠0):=by
 refine Bb (I:=λi a d=>d=h/\J 0 a=u/\J 1 a=RQ/\J 7 a=AI AT (l.length:Int)/\J 8 a=AI AT (i:Int)/\i<=l.length/\((∀x∈l,x=0)↔∀x∈l.drop i,x=0))
  (Q:=λx=>(∃a,x=.exit 0 a h/\∀x∈l,x=0)\/(∃a i,x=.ret a h/\J 4 a=AI AT ((i:Nat):Int)/\∃x∈l,x≠0)) l.length (by omega) (λi a d ⟨y,t0,t1,t7,t8,E,o⟩=>?_) ⟨rfl,s0,s1,s7,s8,wl _,by simp⟩
 subst y;by_cases f:i<l.length
 ·obtain⟨D,g1,g2⟩:=Jm s f
  have r:l.getD i 0∈l:=by
   rw[wG,wE f];exact zY f
  rw[Gn f]at o;generalize l.getD i 0=c at g2 o r;have m:=Ec f;have j:=aC (n:=n) (h:=d) (c:=c);by_cases p:c=0
  ·left
   subst p;have j:call AC (n+1) 132 [.int .u8 ((0:Nat):Int)] d=.ok (.bool IS) d:=j;have t:=CL (i:=i) (h:=d) (by omega);have g:∃b,ifB (call AC (n+1)) a d=.norm b d/\J 0 b=u/\J 1 b=RQ/\J 7 b=AI AT (l.length:Int)/\J 8 b=AI AT ((i+1:Nat):Int):=by
    unfold ifB;simp only[sT,sh,OF,reduceIte,AM,AK,t8,t7,m,A1,t0,g1,AJ,g2,CN,t1,CJ,AS,Av,xI,wT,j,BL,t];exact⟨_,rfl,by simp[AG,t0,t1,t7]⟩
   obtain⟨b,k,q,A,B,C⟩:=g;refine⟨f,b,d,k,rfl,q,A,B,C,f,o.trans ?_⟩;simp
  ·right
   have w:iNe (c:Int) 0=IN:=by rw[H8];simpa using p
   rw[w]at j;have g:∃b,ifB (call AC (n+1)) a d=.ret b d/\J 4 b=AI AT (i:Int):=by
    unfold ifB;simp only[sT,sh,OF,reduceIte,AM,AK,t8,t7,m,A1,t0,g1,AJ,g2,CN,t1,CJ,AS,Av,xI,wT,j];exact⟨_,rfl,by simp[AG]⟩
   obtain⟨b,k,q⟩:=g;rw[k];exact⟨rfl,.inr ⟨b,i,rfl,q,c,r,p⟩⟩
 ·right
  have m:=DC (show l.length<=i by omega);have g:∃b,ifB (call AC (n+1)) a d=.exit 0 b d:=by
   unfold ifB;simp only[sT,sh,OF,reduceIte,AM,AK,t8,t7,m];exact⟨_,rfl⟩
  obtain⟨b,k⟩:=g;rw[k];refine⟨rfl,.inl ⟨b,rfl,o.2 ?_⟩⟩;rw[xV (by omega)];intro x z;cases z
theorem YV{n:Nat}{h:Hp}{u:vz}{l:List Nat}(f:h.AEs u (l.map bv))(m:l.length<=900000):∃r:Bool,call AC (n+3) 107 [u,RQ] h=.ok (.bool r) h/\(r=IN↔∃x∈l,x≠0):=by
 have j:=f.bl h;have t:∃a,OX (call AC (n+1)) (Ay e0 0 [u,RQ]) h=ifS (call AC (n+1)) a h/\J 0 a=u/\J 1 a=RQ/\J 7 a=AI AT (l.length:Int)/\J 8 a=AI AT ((0:Nat):Int):=by
  unfold OX;simp only[iN,wA,sT,sh,OF,reduceIte,Aa,j];exact⟨_,rfl,by simp[AG]⟩
 obtain⟨a,i,o,p,q,s⟩:=t;rcases i7 (n:=n) f m o p q s with ⟨k,d,e⟩|⟨k,g,d,e,w⟩
 ·have c:call AC (n+2) 131 [u,RQ] h=.ok (AI AT (-1)) h:=by
   rw[MM rfl,MO,i,Pw];simp only[BC,Aw,d,A6,BA];unfold ifE;simp only[sT,sh,OF,reduceIte,lV0]
  refine⟨IS,?_,by simp;exact e⟩;have b:iGe (-1) 0=IS:=E0 (by omega);rw[ML rfl];unfold Ye;simp only[iN,wA,sT,sh,OF,reduceIte,cA0,c,AM,AK,b,lV0]
 ·have c:call AC (n+2) 131 [u,RQ] h=.ok (AI AT (g:Int)) h:=by
   rw[MM rfl,MO,i,Pw];simp only[BC,Aw,d,B7,Ce,lV0,e]
  refine⟨IN,?_,by simp only[true_iff];exact w⟩;have b:iGe (g:Int) 0=IN:=F0 (by omega);rw[ML rfl];unfold Ye;simp only[iN,wA,sT,sh,OF,reduceIte,cA0,c,AM,AK,b,lV0]
theorem Yd{h:Hp}{k m:Nat}{v:vz}{l:List Nat}(M:Mk h k v l)(A:m<=l.length):∃w,(∃a,w=.slice (BY a) (l.length - m) (l.length - m))/\(∀(F:AES) (e:Env) (x y:O),x e=v->y e=AI AT (m:Int)->EL 5 1 x (BY y) By By F e h=.ok w h)/\h.AEs w ((l.drop m).map bv):=by
 obtain⟨b,p,C,z,j,_⟩:=M;have f:(l.drop m).length=l.length - m:=xT;have key:∀(F:AES) (e:Env) (x y:O),x e=v->y e=AI AT (m:Int)->EL 5 1 x (BY y) By By F e h=Eh 5 1 (BY ⟨b,0,By⟩) IS m l.length l.length h:=λF e x y c d=>by
  have t:∀K:Nat->R,Cy e (BY y) 0 l.length K=K m:=λK=>by
   show(match Dj (y e)with|.ok i=>(bif wY i l.length then K i else .no)|.no=>.no)=_;rw[d,DM];simp only;rw[Am.2 A];rfl
  show(match x e with|.slice a i q=>Dr e i q (BY y) By By (λl g m=>Eh 5 1 a IS l g m h)|_=>.no)=_;rw[c,C];show Cy e By l.length l.length (λg=>Cy e (BY y) 0 g λn=>Eh 5 1 (BY ⟨b,0,By⟩) IS n g l.length h)=_;show Cy e (BY y) 0 l.length (λn=>Eh 5 1 (BY ⟨b,0,By⟩) IS n l.length l.length h)=_;rw[t]
 have o:Eh 5 1 (BY ⟨b,0,By⟩) IS m l.length l.length h=Bq (BY ⟨b,0,By⟩) 1 m l.length l.length h:=by
  cases m with
  |zero=>rfl
  |succ m=>
   show(bif FR 5 (BY ⟨b,0,By⟩) h then Bq (BY ⟨b,0,By⟩) 1 (m+1) l.length l.length h else .no)=_;have:FR 5 (BY ⟨b,0,By⟩) h=IN:=by
    obtain⟨D,u,_⟩:=j.rowOf;unfold FR;simp only[u];rcases z with rfl|rfl<;>rfl
   rw[this];rfl
 rcases wh m l.length with G|E
 ·refine⟨.slice (BY ⟨b,m,By⟩) (l.length - m) (l.length - m),⟨_,rfl⟩,?_,.inr ⟨b,m,l.length - m,p,_,by rw[wF,f],j,by rw[wF,wF,f];omega,?_⟩⟩
  ·intro F e x y c d
   rw[key F e x y c d,o];unfold Bq;simp only[Ae];have r:wU l.length m=IS:=by
    cases e:wU l.length m
    ·rfl
    ·have:=Ax.1 e;omega
   rw[r];cases m with
   |zero=>rfl
   |succ m=>
    have s:xW (m+1) 1=wQ m:=yp _;simp only[s,yH,wC];rfl
  ·rw[wF,f,<- List.map_drop,yU (by rw[wF,f];exact wB _)]
 ·have B:m=l.length:=by omega
  subst B;refine⟨.slice (BY ⟨b,0,By⟩) 0 0,⟨⟨b,0,By⟩,by rw[ABv]⟩,?_,.inr ⟨b,0,0,p,_,by rw[ABY];rfl,j,by rw[ABY];exact wl _,by rw[ABY];rfl⟩⟩;intro F e x y c d;rw[key F e x y c d,o];unfold Bq;simp only[Ae,Nat.sub_eq,ABv,yG]
theorem RI{h:Hp}{k m:Nat}{v:vz}{l:List Nat}(M:Mk h k v l)(a:m<=l.length):∃w,(∀(F:AES) (e:Env) (x y:O),x e=v->y e=AI AT (m:Int)->EL 5 1 x (BY y) By By F e h=.ok w h)/\h.AEs w ((l.drop m).map bv):=by
 obtain⟨w,_,b,c⟩:=Yd M a;exact⟨w,b,c⟩
theorem VH:paS=BJ (Ab 0 (A4 paB)) paE:=rfl
theorem Ju:pQ=Lo:=rfl
theorem S8(k:Nat)(l:List Nat)(p:Nat):rdN (k+1) l p=(match GH 0 0 (l.drop p)with
 |none=>By
 |some (v,j)=>if v<=1099511627776 then(match rdN k l (p+j)with
  |none=>By
  |some (vs,q)=>BY (v::vs,q))else By):=rfl
def Zu(h:Hp)(a:Nat)(e:Env)(g:Hp):Prop:=h.Ext g/\J 4 e=pt a/\J 5 e=AI AT 0/\J 6 e=.int .u32 0/\J 7 e=.bool IS/\loadN 5 ⟨a,0,By⟩ g=.ok (Bn 0 0 0 0 AEW) g
theorem kK{n:Nat}{h hB g:Hp}(W0:h.Wf)(xB:h.Ext hB)(x:hB.Ext g){r4 r10:Nat}(hr4:h.next<=r4)(AKG:hB.next<=r10)(R4:hB.Row r4 0 (A5 0 0 0 0 AEW)){v:vz}{l:List Nat}(V:hB.AEs v (l.map bv))(hb:∀x∈l,x<256)(hl:l.length<=900000)
  (R10:g.Row r10 0 ([0,0,0,0,0,0].map nv)){e:Env}(s4:J 4 e=pt r4)(s8:J 8 e=v)(s10:J 10 e=pt r10)(s11:J 11 e=AI AT ((0:Nat):Int))(s29:J 29 e=AI AT ((0:Nat):Int)):
  (∃e' g' ns q,A4 paB (call AC (n+1)) e g=.exit 0 e' g'/\hB.Ext g'/\g'.Row r10 0 (ns.map nv)/\rdN 6 l 0=BY (ns,q)/\J 4 e'=pt r4/\J 8 e'=v/\J 10 e'=pt r10/\J 11 e'=AI AT (q:Int))\/
  (∃e' g',A4 paB (call AC (n+1)) e g=.ret e' g'/\rdN 6 l 0=By/\Zu h r4 e' g'):=by
 have WB:=xB.wf;refine Bb (I:=λi e' g'=>hB.Ext g'/\∃(ns:List Nat) (Z:List vz) (p:Nat),ns.length=i/\Z.length=6 - i/\g'.Row r10 0 (ns.map nv++Z)/\J 4 e'=pt r4/\J 8 e'=v/\J 10 e'=pt r10/\J 11 e'=AI AT (p:Int)/\J 29 e'=AI AT (i:Int)/\p<=l.length/\i<=6/\
   rdN 6 l 0=(match rdN (6 - i) l p with|none=>By|some (vs,q)=>BY (ns++vs,q)))
  (Q:=λx=>(∃e' g' ns q,x=.exit 0 e' g'/\hB.Ext g'/\g'.Row r10 0 (ns.map nv)/\rdN 6 l 0=BY (ns,q)/\J 4 e'=pt r4/\J 8 e'=v/\J 10 e'=pt r10/\J 11 e'=AI AT (q:Int))\/
   (∃e' g',x=.ret e' g'/\rdN 6 l 0=By/\Zu h r4 e' g')) 6 (by omega) (λi e' g' ⟨x',ns,Z,p,hns,hZ,R',t4,t8,t10,t11,t29,hp,hi,hr⟩=>?_)
  ⟨x,[],_,0,rfl,rfl,R10,s4,s8,s10,s11,s29,wl _,by omega,by
   rw[ADB];cases rdN 6 l 0 with
   |none=>rfl
   |some y=>rfl⟩
 by_cases hlt:i<6
 ·have W:=x'.wf
  obtain⟨k,hk⟩:∃k,6 - i=k+1:=⟨5 - i,by omega⟩;obtain⟨z,Z',rfl⟩:∃z Z',Z=z::Z':=by
   cases Z with
   |nil=>rw[xD]at hZ;omega
   |cons z Z'=>exact⟨z,Z',rfl⟩
  rw[hk,S8 k l p]at hr;have c1:iLt (i:Int) 6=IN:=Ec (b:=6) hlt;obtain⟨a,b,c,k1,ALI⟩:=qk (n:=n) (V.ext WB x') hb hp (by omega);have i1:=SB (r:=r10) hlt (g:=g');have hal:(ns.map nv).length=i:=by rw[wF];exact hns
  have ho:i+[xd .u64 a].length<=(ns.map nv++z::Z').length:=by
   simp only[wD,wK,xD,hal];omega
  have AEd:256<=r10:=by have:=WB.big;omega
  have st:=R'.AEa (n:=1) (off:=i) W AEd (v:=.int .u64 a) rfl ho rfl;rw[Cr]at st;have wr:=R'.AEf W (off:=i) (vs:=[.int .u64 a]) ho;have x2:=R'.AEy x' AKG (off:=i) (vs:=[.int .u64 a]) ho;have hov:over (ns.map nv++z::Z') i [.int .u64 a]=ns.map nv++.int .u64 a::Z':=by
   have:=Sv (A:=ns.map nv) (B:=Z') (x:=z) (y:=.int .u64 a)
   rwa [hal]at this
  rw[hov]at wr;generalize g'.wr r10 i [.int .u64 a]=g2 at st wr x2;have i2:=SB (r:=r10) hlt (g:=g2);have l2:AEV ⟨r10,i,By⟩ g2=.ok (.int .u64 a) g2:=by
   rw[wr.AEV (off:=i) (by simp only[wD,wK,hal];omega),wG,List.getElem?_append_right (by rw[hal];exact wB _),hal,ABv];rfl
  have a3:=CL (i:=i) (h:=g2) (by omega);obtain⟨w1,w2,w3,_,_⟩:=MG W0 (xB.trans x2) hr4 (R4.ext WB x2) rfl (a:=0) (b:=0) (c:=0) (s:=0) (u:=AEW) rfl;have fail:rdN 6 l 0=By->(iNe c 0=IN\/iNe c 0=IS/\iGt a 1099511627776=IN)->∃e2,paB (call AC (n+1)) e' g'=.ret e2 (g2.wr r4 0 (A5 0 0 0 0 AEW))/\J 4 e2=pt r4/\J 5 e2=AI AT 0/\J 6 e2=.int .u32 0/\J 7 e2=.bool IS:=λ_ hc=>by
   unfold paB;rcases hc with c2|⟨c2,c3⟩
   ·simp only[sT,sh,OF,reduceIte,gD,AM,AK,t29,c1,cA0,t8,t11,k1,Az,A8,A9,Cm,Da,t10,i1,AV,st,c2,D6,t4,w1]
    exact⟨_,rfl,by simp[AG,t4]⟩
   ·simp only[sT,sh,OF,reduceIte,gD,AM,AK,t29,c1,cA0,t8,t11,k1,Az,A8,A9,Cm,Da,t10,i1,AV,st,c2,i2,AJ,AP,l2,c3,D6,t4,w1]
    exact⟨_,rfl,by simp[AG,t4]⟩
  rcases ALI with ⟨vv,j,hu,rfl,rfl,rfl⟩|⟨hu,hc⟩
  ·rw[hu]at hr
   simp only at hr;have c2:iNe 0 0=IS:=CE rfl;by_cases hv:vv<=1099511627776
   ·left
    rw[IT hv]at hr;have c3:iGt (vv:Int) 1099511627776=IS:=GQ (by omega);have hbd:∀x∈l.drop p,x<256:=λx hx=>hb x (yx hx)
    have hj:=mC hbd hu;rw[xT]at hj;have hrun:∃e2,paB (call AC (n+1)) e' g'=.norm e2 g2/\J 4 e2=pt r4/\J 8 e2=v/\J 10 e2=pt r10/\J 11 e2=AI AT ((p+j:Nat):Int)/\J 29 e2=AI AT ((i+1:Nat):Int):=by
     unfold paB;simp only[sT,sh,OF,reduceIte,gD,AM,AK,t29,c1,cA0,t8,t11,k1,Az,A8,A9,Cm,Da,t10,i1,AV,st,c2,i2,AJ,AP,l2,c3,BL,a3];exact⟨_,rfl,by simp[AG,t4,t8,t10]⟩
    obtain⟨e2,q1,q2,q3,q4,q5,q6⟩:=hrun;refine⟨hlt,e2,g2,q1,x2,ns++[vv],Z',p+j,by rw[wD,hns];rfl,by rw[wK]at hZ;omega,?_,q2,q3,q4,q5,q6,by omega,by omega,?_⟩
    ·rw[w9,wa];exact wr
    ·rw[hr,show 6 - (i+1)=k by omega]
     cases rdN k l (p+j)with
     |none=>rfl
     |some y=>
      obtain⟨vs,q⟩:=y;show BY (ns++vv::vs,q)=BY (ns++[vv]++vs,q);rw[wa];rfl
   ·right
    rw[If hv]at hr;have hr:rdN 6 l 0=By:=hr;obtain⟨e2,q1,q2,q3,q4,q5⟩:=fail hr (.inr ⟨c2,Hm (by omega)⟩);rw[q1];exact⟨rfl,.inr ⟨e2,_,rfl,hr,w3,q2,q3,q4,q5,w2⟩⟩
  ·right
   rw[hu]at hr;have hr:rdN 6 l 0=By:=hr;obtain⟨e2,q1,q2,q3,q4,q5⟩:=fail hr (.inl (De hc));rw[q1];exact⟨rfl,.inr ⟨e2,_,rfl,hr,w3,q2,q3,q4,q5,w2⟩⟩
 ·right
  have hi6:i=6:=by omega
  subst hi6;have c1:iLt ((6:Nat):Int) 6=IS:=DC (a:=6) (b:=6) (by omega);have hrun:∃e2,paB (call AC (n+1)) e' g'=.exit 0 e2 g'/\J 4 e2=pt r4/\J 8 e2=v/\J 10 e2=pt r10/\J 11 e2=AI AT (p:Int):=by
   unfold paB;simp only[sT,sh,OF,reduceIte,AM,AK,t29,c1];exact⟨_,rfl,by simp[AG,t4,t8,t10,t11]⟩
  obtain⟨e2,q1,q2,q3,q4,q5⟩:=hrun;rw[q1];have hZ0:Z=[]:=xH hZ;rw[hZ0,wT]at R';have hr:rdN 6 l 0=BY (ns++[],p):=hr;rw[wT]at hr;exact⟨rfl,.inl ⟨e2,g',ns,p,rfl,x',R',hr,q2,q3,q4,q5⟩⟩
theorem aL{F:AES}{e:Env}{h:Hp}{x y z:O}{k:C}{a b c i j m:Nat}(f:x e=.pointer (BY ⟨a,i,By⟩))(g:y e=.pointer (BY ⟨b,j,By⟩))(l:z e=.pointer (BY ⟨c,m,By⟩))(d:b≠a)(h2:c≠a):Ck x [y,z] k F e h=k F e h:=by
 have n:wU b a=IS:=by
  cases e:wU b a
  ·rfl
  ·exact absurd (Ax.1 e) d
 have o:wU c a=IS:=by
  cases e:wU c a
  ·rfl
  ·exact absurd (Ax.1 e) h2
 unfold Ck;rw[f];show(bif DE a e [y,z]then k F e h else .no)=_;have:DE a e [y,z]=IN:=by
  unfold DE;rw[g];show(bif wU b a then IS else DE a e [z])=IN;rw[n];unfold DE;rw[l];show(bif wU c a then IS else DE a e [])=IN;rw[o];rfl
 rw[this];rfl
theorem je{F:AES}{e:Env}{h:Hp}(j:h.Wf){x y:O}{r:Nat}{d:List vz}{a b c:Int}{s:Nat}{u:vz}(z:x e=pt r)(A:y e=Bn a b c s u)(R:h.Row r 0 d)(t:d.length=5)(m:256<=r)(w:oneCell u=IN):
  Ja x (Ad 5 x y) F e h=.ok AEU (h.back (h.quiet.wr r 0 (A5 a b c s u))):=by
 have i:h.quiet.Row r 0 d:=R.same rfl;have k:0+(A5 a b c s u).length<=d.length:=by rw[t];show 0+5<=5;omega
 have q:Bd (A5 a b c s u)=IN:=by
  show(bif oneCell u then IN else IS)=IN;rw[w];rfl
 have g:=i.AEa (n:=5) (off:=0) j.quiet m (v:=Bn a b c s u) rfl k q;have g:AEa 5 (pt r) (Bn a b c s u) h.quiet=.ok AEU (h.quiet.wr r 0 (A5 a b c s u)):=g;obtain⟨B,_,l,_⟩:=i.AFf k;have p:(h.quiet.wr r 0 (A5 a b c s u)).low=r:=by
  rw[l];show B9 h.next r=r;have:=R.lt j;rw[BV];omega
 have o:(h.quiet.wr r 0 (A5 a b c s u)).high=r:=by
  rw[l];show Cu 0 r=r;rw[Bz];omega
 show(match Ad 5 x y F e h.quiet with|.ok v f=>bif Hr (AE0 (x e)) h f.low f.high then DK h v f else .no|.no=>.no)=_;rw[AV,z,A,g];show(bif Hr (.ok r) h (h.quiet.wr r 0 (A5 a b c s u)).low (h.quiet.wr r 0 (A5 a b c s u)).high then DK h AEU (h.quiet.wr r 0 (A5 a b c s u))else .no)=_;rw[p,o];have:Hr (.ok r) h r r=IN:=by
  show(bif wY r r then wY r r else IS)=IN;rw[Am.2 (wB r)];rfl
 rw[this];show DK h AEU (h.quiet.wr r 0 (A5 a b c s u))=_;unfold DK;simp only[Ae];rfl
end
end Go.Proofs.YtldjiljipddebaaGreat

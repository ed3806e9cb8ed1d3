/-
  Part ZD of what Lawnw stands on: printed by program, names and spaces cut.
-/
import Derived.Test.YtldjiljipddebaaGreatZC
open Bool renaming false→IT,true→IN
open Option renaming none→By,some→BY
open Go.Value renaming int→AI
open Go.IntKind renaming i64→AT
open Nat renaming reduceEqDiff→sh,reduceLT→xT,reduceAdd→xV,le_refl→xW,zero_add→xZ,succ→xz,beq→yA,zero_le→yH,ble→yI,lt_or_ge→yM,le_trans→yS,eq_zero_or_pos→yl,mul→yv,add_eq→zS,beq_refl→zU,reduceLeDiff→zg,mul_one→zw,mod_eq_of_lt→AAA,xor→AAG,min_eq_left→AAb,mul_le_mul_right→AB4,sub_self→ACZ,xor_lt_two_pow→ADN,sub_zero→ADh,le_succ→AD2
open Go renaming Value→xU
open List renaming length_append→xY,length_map→xa,getElem?_eq_getElem→xc,getD_eq_getElem?_getD→xe,length_cons→xh,mem_cons_of_mem→xn,mem_cons_self→xp,replicate→xx,mem_of_getElem?→xy,mem_cons→yC,append_assoc→yD,append_nil→yF,mem_append→yO,length_take→yP,nil_append→yT,length_nil→yU,length_drop→yX,map_append→yZ,length_singleton→yd,drop_zero→yk,drop_of_length_le→ym,length_replicate→yn,eq_nil_of_length_eq_zero→zA,getElem?_map→zE,mem_of_mem_take→zJ,cons_append→zK,mem_of_mem_drop→zd,take_of_length_le→ze,drop_eq_getElem_cons→zf,append_eq→zp,length→AAC,getElem_mem→AAF,eq_of_mem_replicate→AAi,drop→AAo,take→AA0,drop_left→ABM,drop_length→ABb,mem_nil_iff→ACW,map_map→ACs,take_left→ACy
open Go.Proofs.Tryz renaming prog→xk,func18→AEI,func5→AEN
open Bool renaming and_eq_true→yE,not_true→yY,not_false→yg,eq_iff_iff→zk
open Int renaming sub→yi,toNat_natCast→zL,eq_ofNat_of_zero_le→zn,mul→ABr
open Go.Value renaming int→yy
open UInt8 renaming ofNat→AAw,toNat→AC2
open Go.IntKind renaming u64→ACv
namespace Go.Proofs.YtldjiljipddebaaGreat
set_option maxRecDepth 100000
noncomputable section
open Go
def zt3:VT:=(.nd (AI AT 0) .mt .mt)
def zt4:VT:=(.nd (.bool IT) .mt .mt)
def Q2:VT:=(.nd (.int .u32 0) .mt .mt)
def Vf:VT:=(.nd (.int .u32 0) Q2 Q2)
def Vh:VT:=(.nd (.int .u32 0) Vf Vf)
def Vi:VT:=(.nd (.int .u32 0) Vh Vh)
def Vj:VT:=(.nd (.int .u32 0) Vi Vi)
def Vm:VT:=(.nd (.int .u32 0) Vj Vj)
def Q0:VT:=(.nd (.int .u32 0) (.nd (.int .u32 0) (.nd (.int .u32 0) (.nd (.int .u32 0) (.nd (.int .u32 0) (.nd (.int .u32 0) (.nd (.int .u32 0) (.nd (.int .u32 0) Q2 .mt) Q2) Vf) Vh) Vi) Vj) Vm) (.nd (.int .u32 0) Vm Vm))
def ua:VT:=(.nd (.slice By 0 0) .mt .mt)
def OR:VT:=(.nd (AI AT 0) (.nd (AI AT 0) (.nd (AI AT 0) .mt .mt) (.nd (AI AT 0) .mt .mt)) (.nd (.int .u8 0) (.nd (AI AT 0) .mt .mt) (.nd (.slice By 0 0) .mt .mt)))
def CY:VT:=(.nd (AI AT 0) (.nd (AI AT 0) (.nd (AI AT 0) .mt .mt) (.nd (.slice By 0 0) .mt .mt)) (.nd (.int .u8 0) (.nd (.slice By 0 0) .mt .mt) (.nd (AI AT 0) .mt .mt)))
def wa:VT:=(.nd (.pointer By) .mt .mt)
def Q4:VT:=(.nd (.int .u8 0) .mt .mt)
def Vn:VT:=(.nd (.int .u8 0) Q4 Q4)
def Vo:VT:=(.nd (.int .u8 0) Vn Vn)
def Vq:VT:=(.nd (.int .u8 0) Vo Vo)
def Jc:VT:=(.nd (.int .u8 0) (.nd (.int .u8 0) (.nd (.int .u8 0) (.nd (.int .u8 0) (.nd (.int .u8 0) (.nd (.int .u8 0) Q4 .mt) Q4) Vn) Vo) Vq) (.nd (.int .u8 0) Vq Vq))
def ZW:VT:=(.nd (AI AT 0) (.nd (AI AT 0) (.nd (.int .u8 0) .mt .mt) .mt) (.nd (AI AT 0) .mt .mt))
def DV:VT:=(.nd (AI AT 0) (.nd (AI AT 0) (.nd (.int .u8 0) .mt .mt) .mt) (.nd (AI AT 0) (.nd (.slice By 0 0) .mt .mt) .mt))
def C1:VT:=(.nd (AI AT 0) (.nd (AI AT 0) (.nd (.int .u8 0) .mt .mt) (.nd (AI AT 0) .mt .mt)) (.nd (AI AT 0) (.nd (.slice By 0 0) .mt .mt) .mt))
def Pq:VT:=(.nd (.int .u64 0) (.nd (.int .u64 0) (.nd (.int .u64 0) .mt .mt) (.nd (.int .u64 0) .mt .mt)) (.nd (.int .u64 0) (.nd (.int .u64 0) .mt .mt) .mt))
def twE:C:=(G 129 (AS 18 [])
(G 2 (Aa 129)
Ai))
def twG:C:=(G 113 (AS 23 [(J 3),(J 17)])
(G 114 (AU 0 (J 113))
(G 115 (AU 1 (J 113))
(G 21 (BN 7 CY)
(cDo (AZ 7 (J 21) (J 114))
(G 22 (Aa 115)
(G 117 (Af iNe .i64 (J 18) (W (AI AT 0)))
(Ae 117 IT 119 (Aa 22)
(Ae 117 IT 120 (Af iNe .i64 (J 119) (W (AI AT 0)))
(G 121 (A2 (J 117) (W (.bool IN)) (J 120))
(Ae 121 IT 123 (BC 7 (J 21))
(Ae 121 IT 124 (BC 7 (J 12))
(Ae 121 IT 125 (AS 22 [(J 123),(J 124)])
(Ae 121 IT 126 (DG (J 125))
(G 127 (A2 (J 121) (W (.bool IN)) (J 126))
(Bg 127
(G 2 (AP (W (.bool IT)))
Ai)
Ar))))))))))))))))
def lV:C:=(G 104 (Af iNe .i64 (J 16) (W (AI AT 0)))
(Bg 104
(G 106 (Af iNe .i64 (J 13) (W (AI AT 110)))
(Ae 106 IT 108 (Aa 18)
(Ae 106 IT 109 (Af iEq .i64 (J 108) (W (AI AT 0)))
(G 110 (A2 (J 106) (W (.bool IN)) (J 109))
(Bg 110
(G 2 (AP (W (.bool IT)))
Ai)
(CC 1))))))
twG))
def twD:C:=lV
def uG:C:=(G 78 (Af iNe .i64 (J 13) (J 20))
(Ae 78 IT 80 (BC 7 (J 12))
(Ae 78 IT 81 (BC 7 (J 19))
(Ae 78 IT 82 (AS 22 [(J 80),(J 81)])
(Ae 78 IT 83 (DG (J 82))
(G 84 (A2 (J 78) (W (.bool IN)) (J 83))
(Ae 84 IT 86 (Aa 5)
(Ae 84 IT 87 (AS 11 [(J 86)])
(G 88 (A2 (J 84) (W (.bool IN)) (J 87))
(Ae 88 IT 90 (Aa 5)
(Ae 88 IT 91 (AS 17 [(J 90)])
(Ae 88 IT 92 (Aa 14)
(Ae 88 IT 93 (AS 19 [(J 91),(J 92)])
(Ae 88 IT 94 (DG (J 93))
(G 95 (A2 (J 88) (W (.bool IN)) (J 94))
(Ae 95 IT 97 (Aa 8)
(Ae 95 IT 98 (AS 17 [(J 97)])
(Ae 95 IT 99 (Aa 14)
(Ae 95 IT 100 (AS 19 [(J 98),(J 99)])
(Ae 95 IT 101 (DG (J 100))
(G 102 (A2 (J 95) (W (.bool IN)) (J 101))
(Bg 102
(G 2 (AP (W (.bool IT)))
Ai)
twD))))))))))))))))))))))
def twC:C:=uG
def uE:C:=(G 45 (CI 7 (J 41) (J 43))
(G 46 (BC 7 (J 45))
(G 11 (BN 7 OR)
(cDo (AZ 7 (J 11) (J 46))
(G 49 (BC 7 (J 11))
(G 50 (AS 9 [(J 5),(J 49)])
(G 51 (AU 0 (J 50))
(G 52 (AU 1 (J 50))
(G 12 (BN 7 CY)
(cDo (AZ 7 (J 12) (J 51))
(G 13 (Aa 52)
(G 54 (AS 17 [(J 5)])
(G 14 (Aa 54)
(G 56 (BC 7 (J 11))
(G 57 (AS 20 [(J 3),(J 56)])
(G 58 (AU 0 (J 57))
(G 59 (AU 1 (J 57))
(G 15 (Aa 58)
(G 16 (Aa 59)
(G 63 (AS 21 [(J 8),(J 15)])
(G 64 (AU 0 (J 63))
(G 65 (AU 1 (J 63))
(G 17 (Aa 64)
(G 18 (Aa 65)
(G 67 (AS 7 [(J 4),(W (AI AT 0))])
(G 70 (BC 7 (J 11))
(G 71 (AS 9 [(J 5),(J 70)])
(G 72 (AU 0 (J 71))
(G 73 (AU 1 (J 71))
(G 19 (BN 7 CY)
(cDo (AZ 7 (J 19) (J 72))
(G 20 (Aa 73)
(G 75 (AS 7 [(J 4),(W (AI AT 1048576))])
twC)))))))))))))))))))))))))))))))))
def twB:C:=uE
def twI:C:=(G 128 (CH .i64 (BE .i64) (J 43) (W (AI AT 1)))
(G 43 (Aa 128)
Ar))
def twK:C:=BB (AY 1 twB) twI
def lW:C:=(G 44 (Af iLt .i64 (J 43) (J 42))
(Bg 44
twK
(CC 0)))
def twL:C:=lW
def twS:C:=BB (AY 0 (A3 twL)) twE
def d4h:C:=(G 2 (AP (W (.bool IT)))
(G 23 (AS 5 [])
(G 3 (BN 256 Q0)
(cDo (AZ 256 (J 3) (J 23))
(G 25 (AS 6 [(J 3)])
(G 26 (AU 0 (J 25))
(G 27 (AU 1 (J 25))
(G 28 (AU 2 (J 25))
(G 4 (Aa 26)
(G 5 (Aa 27)
(G 6 (Aa 28)
(G 30 (AS 6 [(J 3)])
(G 31 (AU 0 (J 30))
(G 32 (AU 1 (J 30))
(G 33 (AU 2 (J 30))
(G 7 (Aa 31)
(G 8 (Aa 32)
(G 9 (Aa 33)
(G 35 (DG (J 6))
(Ae 35 IT 37 (Aa 9)
(Ae 35 IT 38 (DG (J 37))
(G 39 (A2 (J 35) (W (.bool IN)) (J 38))
(Bg 39
(G 2 (AP (W (.bool IT)))
Ai)
(G 41 (AS 8 [(J 0)])
(G 42 (BZ (J 41))
(G 43 (AP (W (AI AT 0)))
twS))))))))))))))))))))))))))
def d4:C:=d4h
def b4:Body:=⟨[.t (J 2)],d4⟩
def al4:List Nat:=[24,29,34,36,40,47,48,53,55,60,61,62,66,68,69,74,76,77,79,85,89,96,103,105,107,111,112,116,118,122]
def c5:C:=
(G 0 (BN 256 Q0)
(G 1 (BN 256 Q0)
(G 2 (AP (W (.int .u32 2197175160)))
(G 6 (AP (W (AI AT 0)))
(BB (AY 0 (A3 (G 7 (Af iLt .i64 (J 6) (W (AI AT 8)))
(Bg 7
(BB (AY 1 (G 3 (Aa 6)
(G 10 (L9 .i64 (W (AI AT 128)) (J 3))
(G 12 (Cv 256 1 (J 1) (J 10))
(cDo (AZ 1 (J 12) (J 2))
(G 14 (AS 24 [(J 2)])
(G 2 (Aa 14)
Ar)))))))
(G 15 (CH .i64 (BE .i64) (J 6) (W (AI AT 1)))
(G 6 (Aa 15)
Ar)))
(CC 0)))))
(G 16 (AP (W (AI AT 0)))
(BB (AY 2 (A3 (G 17 (Af iLt .i64 (J 16) (W (AI AT 8)))
(Bg 17
(BB (AY 3 (G 4 (Aa 16)
(G 20 (Ob .i64 (W (AI AT 1)) (J 4))
(G 21 (AP (W (AI AT 0)))
(AY 4 (A3 (G 22 (Af iLt .i64 (J 21) (J 20))
(Bg 22
(BB (AY 5 (G 5 (Aa 21)
(B2 (G 25 (Ob .i64 (W (AI AT 1)) (J 4))
(G 27 (LU Nat.lor .i64 (J 25) (J 5))
(G 29 (Ob .i64 (W (AI AT 1)) (J 4))
(G 30 (Cv 256 1 (J 1) (J 29))
(G 31 (AM (J 30))
(G 33 (Cv 256 1 (J 1) (J 5))
(G 34 (AM (J 33))
(G 35 (LU AAG .u32 (J 31) (J 34))
(G 36 (Cv 256 1 (J 1) (J 27))
(cDo (Ac .free (AZ 1 (J 36) (J 35)))
Ar)))))))))))))
(G 37 (CH .i64 (BE .i64) (J 21) (W (AI AT 1)))
(G 21 (Aa 37)
Ar)))
(CC 4)))))))))
(G 38 (CH .i64 (BE .i64) (J 16) (W (AI AT 1)))
(G 16 (Aa 38)
Ar)))
(CC 2)))))
(G 39 (BC 256 (J 1))
(cDo (AZ 256 (J 0) (J 39))
Ai)))))))))
def b5:Body:=⟨[.cN (J 0) 256],c5⟩
def al5:List Nat:=[8,9,11,13,18,19,23,24,26,28,32]
def d6:C:=
(G 2 (AP (W (.pointer By)))
(G 3 (AP (W (.pointer By)))
(G 4 (AP (W (.bool IT)))
(G 10 (AS 25 [(W (AI AT 24))])
(G 11 (AU 0 (J 10))
(G 12 (AU 1 (J 10))
(G 5 (Aa 11)
(G 6 (Aa 12)
(G 16 (AS 15 [(J 5),(J 0),(W (AI AT 100))])
(G 17 (AU 0 (J 16))
(G 18 (AU 1 (J 16))
(G 7 (Aa 17)
(G 8 (Aa 18)
(G 22 (Af iEq .i64 (J 6) (W (AI AT 0)))
(Ae 22 IN 24 (Aa 8)
(Ae 22 IN 25 (Af iEq .i64 (J 24) (W (AI AT 0)))
(G 26 (A2 (J 22) (J 25) (W (.bool IT)))
(G 2 (Aa 5)
(G 3 (Aa 7)
(G 4 (Aa 26)
Ai))))))))))))))))))))
def b6:Body:=⟨[.t (J 2),.t (J 3),.t (J 4)],d6⟩
def d7:C:=
(G 5 (AS 26 [(J 0)])
(G 6 (DG (J 5))
(Ae 6 IN 8 (Aa 0)
(Ae 6 IN 9 (Bh (J 8))
(Ae 6 IN 10 (AE 3 (J 9))
(Ae 6 IN 11 (AM (J 10))
(Ae 6 IN 12 (DG (J 11))
(G 13 (A2 (J 6) (J 12) (W (.bool IT)))
(Bg 13
(G 16 (VF (J 1) (W (AI AT 0)))
(G 17 (Bh (J 0))
(G 18 (AE 2 (J 17))
(cDo (AZ 1 (J 18) (J 16))
Ar))))
Ar)))))))))
def b7:Body:=⟨[],d7⟩
def al7:List Nat:=[4,7,14,15]
def fwE:C:=(G 2 (Aa 3)
Ai)
def fwB:C:=(G 17 (CI 7 (J 0) (J 4))
(G 18 (AE 6 (J 17))
(G 19 (AM (J 18))
(G 20 (BZ (J 19))
(G 21 (Af iLe .i64 (J 20) (W (AI AT 150)))
(Bg 21
(G 25 (CI 7 (J 0) (J 4))
(G 26 (BC 7 (J 25))
(G 27 (Ab 1 (BP OK.zero 1) [(0,7,(J 26))])
(G 28 (Bk 7 72 37 (J 3) (J 27))
(G 3 (Aa 28)
Ar)))))
Ar))))))
def fwI:C:=(G 14 (CH .i64 (BE .i64) (J 4) (W (AI AT 1)))
(G 4 (Aa 14)
Ar))
def fwK:C:=BB (AY 1 fwB) fwI
def be:C:=(G 7 (BZ (J 0))
(G 8 (Af iLt .i64 (J 4) (J 7))
(Ae 8 IN 10 (Aa 4)
(Ae 8 IN 11 (Af iLt .i64 (J 10) (W (AI AT 25)))
(G 12 (A2 (J 8) (J 11) (W (.bool IT)))
(Bg 12
fwK
(CC 0)))))))
def fwL:C:=be
def fwS:C:=BB (AY 0 (A3 fwL)) fwE
def d8h:C:=(G 2 (AP (W (.slice By 0 0)))
(G 3 (AP (W (.slice By 0 0)))
(G 4 (AP (W (AI AT 0)))
fwS)))
def d8:C:=d8h
def b8:Body:=⟨[.t (J 2)],d8⟩
def doM:C:=(G 17 (AE 2 (J 3))
(G 18 (AM (J 17))
(BB (AY 0 (G 20 (Af iEq .u8 (J 18) (W (.int .u8 1)))
(G 19 (Aa 20)
(Bg 19
(G 22 (BC 7 (J 3))
(G 23 (AS 28 [(J 0),(J 22),(W (.func (.func 29) #[] #[]))])
(G 24 (AU 0 (J 23))
(G 25 (AU 1 (J 23))
(cDo (AZ 7 (J 4) (J 24))
(G 5 (Aa 25)
Ai))))))
(G 27 (Af iEq .u8 (J 18) (W (.int .u8 2)))
(G 26 (Aa 27)
(Bg 26
(G 29 (BC 7 (J 3))
(G 30 (AS 28 [(J 0),(J 29),(W (.func (.func 30) #[] #[]))])
(G 31 (AU 0 (J 30))
(G 32 (AU 1 (J 30))
(cDo (AZ 7 (J 4) (J 31))
(G 5 (Aa 32)
Ai))))))
(G 34 (Af iEq .u8 (J 18) (W (.int .u8 3)))
(G 33 (Aa 34)
(Bg 33
(G 36 (BC 7 (J 3))
(G 37 (AS 28 [(J 0),(J 36),(W (.func (.func 31) #[] #[]))])
(G 38 (AU 0 (J 37))
(G 39 (AU 1 (J 37))
(cDo (AZ 7 (J 4) (J 38))
(G 5 (Aa 39)
Ai))))))
(G 41 (Af iEq .u8 (J 18) (W (.int .u8 4)))
(G 40 (Aa 41)
(Bg 40
(G 43 (BC 7 (J 3))
(G 44 (AS 28 [(J 0),(J 43),(W (.func (.func 32) #[] #[]))])
(G 45 (AU 0 (J 44))
(G 46 (AU 1 (J 44))
(cDo (AZ 7 (J 4) (J 45))
(G 5 (Aa 46)
Ai))))))
(G 48 (Af iEq .u8 (J 18) (W (.int .u8 5)))
(G 47 (Aa 48)
(Bg 47
(G 50 (BC 7 (J 3))
(G 51 (AS 28 [(J 0),(J 50),(W (.func (.func 33) #[] #[]))])
(G 52 (AU 0 (J 51))
(G 53 (AU 1 (J 51))
(cDo (AZ 7 (J 4) (J 52))
(G 5 (Aa 53)
Ai))))))
Ar))))))))))))))))
(G 55 (BC 7 (J 3))
(G 56 (AS 28 [(J 0),(J 55),(W (.func (.func 34) #[] #[]))])
(G 57 (AU 0 (J 56))
(G 58 (AU 1 (J 56))
(cDo (AZ 7 (J 4) (J 57))
(G 5 (Aa 58)
Ai)))))))))
def ib:C:=(G 13 (BC 7 (J 3))
(G 14 (AS 12 [(J 13)])
(G 15 (DG (J 14))
(Bg 15
(G 16 (BG F9.zero [])
(cDo (AZ 7 (J 4) (J 16))
(G 5 (AP (W (AI AT 110)))
Ai)))
doM))))
def doR:C:=ib
def d9h:C:=(G 3 (CV (J 1))
(G 4 (BN 7 CY)
(G 5 (AP (W (AI AT 0)))
(G 8 (AS 27 [(J 0)])
(G 6 (Aa 8)
(G 10 (Af iNe .i64 (J 6) (W (AI AT 0)))
(Bg 10
(G 11 (BG F9.zero [])
(cDo (AZ 7 (J 4) (J 11))
(G 5 (Aa 6)
Ai)))
doR)))))))
def d9:C:=d9h
def b9:Body:=⟨[.cN (J 4) 7,.t (J 5)],d9⟩
def al9:List Nat:=[7,9,12,21,28,35,42,49,54]
def d10:C:=
(G 2 (AP (W (.bool IT)))
(G 4 (AS 26 [(J 0)])
(G 5 (DG (J 4))
(Ae 5 IN 7 (Aa 0)
(Ae 5 IN 8 (Bh (J 7))
(Ae 5 IN 9 (AE 3 (J 8))
(Ae 5 IN 10 (AM (J 9))
(G 11 (A2 (J 5) (J 10) (W (.bool IT)))
(G 2 (Aa 11)
Ai)))))))))
def b10:Body:=⟨[.t (J 2)],d10⟩
def d11:C:=
(G 2 (AP (W (.bool IT)))
(G 4 (oEq Qy.k IN (J 0) (W (.pointer By)))
(Ae 4 IN 6 (Aa 0)
(Ae 4 IN 7 (Bh (J 6))
(Ae 4 IN 8 (AE 2 (J 7))
(Ae 4 IN 9 (AM (J 8))
(Ae 4 IN 10 (AS 35 [(J 9)])
(G 11 (A2 (J 4) (J 10) (W (.bool IT)))
(G 2 (Aa 11)
Ai)))))))))
def b11:Body:=⟨[.t (J 2)],d11⟩
def d12:C:=
(G 1 (CV (J 0))
(G 2 (AP (W (.bool IT)))
(G 3 (AP (W (AI AT 0)))
(G 4 (AE 2 (J 1))
(G 5 (AM (J 4))
(G 6 (Af iNe .u8 (J 5) (W (.int .u8 4)))
(Ae 6 IN 8 (AE 2 (J 1))
(Ae 6 IN 9 (AM (J 8))
(Ae 6 IN 10 (Af iNe .u8 (J 9) (W (.int .u8 5)))
(G 11 (A2 (J 6) (J 10) (W (.bool IT)))
(BB (Bg 11
(G 3 (AP (W (AI AT 1)))
Ar)
Ar)
(BB (AY 0 (G 13 (AE 0 (J 1))
(G 14 (AM (J 13))
(G 15 (AE 1 (J 1))
(G 16 (AM (J 15))
(G 17 (AE 2 (J 1))
(G 18 (AM (J 17))
(G 19 (AS 36 [(J 14),(J 16),(J 18)])
(G 20 (DG (J 19))
(Ae 20 IT 22 (AE 3 (J 1))
(Ae 20 IT 23 (AM (J 22))
(Ae 20 IT 24 (AE 4 (J 1))
(Ae 20 IT 25 (AM (J 24))
(Ae 20 IT 26 (AE 5 (J 1))
(Ae 20 IT 27 (AM (J 26))
(Ae 20 IT 28 (Aa 3)
(Ae 20 IT 29 (AS 37 [(J 23),(J 25),(J 27),(J 28)])
(Ae 20 IT 30 (DG (J 29))
(G 31 (A2 (J 20) (W (.bool IN)) (J 30))
(G 12 (Aa 31)
(Bg 12
(G 2 (AP (W (.bool IT)))
Ai)
(G 33 (AE 2 (J 1))
(G 34 (AM (J 33))
(G 35 (Af iEq .u8 (J 34) (W (.int .u8 1)))
(G 32 (Aa 35)
(Bg 32
(G 36 (AE 6 (J 1))
(G 37 (AM (J 36))
(G 38 (BZ (J 37))
(G 39 (Af iLe .i64 (J 38) (W (AI AT 65536)))
(G 2 (Aa 39)
Ai)))))
Ar))))))))))))))))))))))))))
(G 40 (AE 6 (J 1))
(G 41 (AM (J 40))
(G 42 (BZ (J 41))
(G 43 (Af iEq .i64 (J 42) (W (AI AT 0)))
(G 2 (Aa 43)
Ai)))))))))))))))))
def b12:Body:=⟨[.t (J 2)],d12⟩
def d15:C:=
(G 6 (AP (W (.pointer By)))
(G 7 (AP (W (AI AT 0)))
(G 14 (AS 39 [(J 0),(J 1),(J 2)])
(G 15 (AU 0 (J 14))
(G 16 (AU 1 (J 14))
(G 8 (Aa 15)
(G 9 (Aa 16)
(G 18 (Af iNe .i64 (J 9) (W (AI AT 0)))
(Bg 18
(G 6 (AP (W (.pointer By)))
(G 7 (Aa 9)
Ai))
(G 23 (BG li.zero [(0,1,(J 0)),(1,1,(J 1)),(2,1,(J 8))])
(G 24 (CV (J 23))
(G 6 (Aa 24)
(G 7 (AP (W (AI AT 0)))
Ai)))))))))))))
def b15:Body:=⟨[.t (J 6),.t (J 7)],d15⟩
def d16:C:=
(G 2 (AP (W (AI AT 0)))
(G 4 (oEq Qy.k IT (J 0) (W (.pointer By)))
(Bg 4
(G 2 (AP (W (AI AT 0)))
Ai)
(G 6 (Bh (J 0))
(G 7 (AE 3 (J 6))
(G 8 (AM (J 7))
(G 2 (Aa 8)
Ai)))))))
def b16:Body:=⟨[.t (J 2)],d16⟩
def d17:C:=
(G 2 (AP (W (.slice By 0 0)))
(G 4 (oEq Qy.k IT (J 0) (W (.pointer By)))
(Bg 4
(G 2 (AP (W (.slice By 0 0)))
Ai)
(G 6 (Bh (J 0))
(G 7 (AE 2 (J 6))
(G 8 (AM (J 7))
(G 9 (AS 40 [(J 8)])
(G 2 (Aa 9)
Ai))))))))
def b17:Body:=⟨[.t (J 2)],d17⟩
def c18:C:=
(G 0 (AP (W (.bool IT)))
(G 10 (AS 5 [])
(G 1 (BN 256 Q0)
(cDo (AZ 256 (J 1) (J 10))
(G 12 (AS 25 [(W (AI AT 6))])
(G 13 (AU 0 (J 12))
(G 14 (AU 1 (J 12))
(G 2 (Aa 13)
(G 3 (Aa 14)
(G 17 (AS 15 [(J 2),(J 1),(W (AI AT 100))])
(G 18 (AU 0 (J 17))
(G 19 (AU 1 (J 17))
(G 4 (Aa 18)
(G 5 (Aa 19)
(G 21 (Af iNe .i64 (J 3) (W (AI AT 0)))
(Ae 21 IT 23 (Aa 5)
(Ae 21 IT 24 (Af iNe .i64 (J 23) (W (AI AT 0)))
(G 25 (A2 (J 21) (W (.bool IN)) (J 24))
(Bg 25
(G 0 (AP (W (.bool IT)))
Ai)
(G 27 (AS 42 [(W (AI AT 1)),(W (.int .u8 1)),(W (AI AT 7)),(W (AI AT 1)),(W (.string ⟨#[97,98]⟩))])
(G 28 (AS 41 [(J 4),(J 27),(W (AI AT 0)),(W (AI AT 0)),(W (.string ⟨#[]⟩)),(W (AI AT 1))])
(Ae 28 IN 30 (Aa 4)
(Ae 28 IN 31 (AS 42 [(W (AI AT 1)),(W (.int .u8 2)),(W (AI AT 7)),(W (AI AT 1)),(W (.string ⟨#[]⟩))])
(Ae 28 IN 32 (AS 41 [(J 30),(J 31),(W (AI AT 0)),(W (AI AT 0)),(W (.string ⟨#[]⟩)),(W (AI AT 1))])
(G 33 (A2 (J 28) (J 32) (W (.bool IT)))
(Ae 33 IN 35 (Aa 4)
(Ae 33 IN 36 (AS 42 [(W (AI AT 1)),(W (.int .u8 4)),(W (AI AT 7)),(W (AI AT 1)),(W (.string ⟨#[]⟩))])
(Ae 33 IN 37 (AS 41 [(J 35),(J 36),(W (AI AT 0)),(W (AI AT 1)),(W (.string ⟨#[97,98]⟩)),(W (AI AT 1))])
(G 38 (A2 (J 33) (J 37) (W (.bool IT)))
(Ae 38 IN 40 (Aa 4)
(Ae 38 IN 41 (AS 42 [(W (AI AT 1)),(W (.int .u8 4)),(W (AI AT 7)),(W (AI AT 2)),(W (.string ⟨#[]⟩))])
(Ae 38 IN 42 (AS 41 [(J 40),(J 41),(W (AI AT 60)),(W (AI AT 0)),(W (.string ⟨#[]⟩)),(W (AI AT 1))])
(G 43 (A2 (J 38) (J 42) (W (.bool IT)))
(G 6 (Aa 43)
(G 46 (AS 42 [(W (AI AT 1)),(W (.int .u8 4)),(W (AI AT 7)),(W (AI AT 0)),(W (.string ⟨#[]⟩))])
(G 47 (AS 9 [(J 4),(J 46)])
(G 48 (AU 0 (J 47))
(G 49 (AU 1 (J 47))
(G 7 (BN 7 CY)
(cDo (AZ 7 (J 7) (J 48))
(G 8 (Aa 49)
(G 51 (Af iEq .i64 (J 8) (W (AI AT 0)))
(Ae 51 IN 53 (AE 4 (J 7))
(Ae 51 IN 54 (AM (J 53))
(Ae 51 IN 55 (BG KZ.zero [(0,1,(W (AI AT 7))),(2,1,(W (AI AT 1))),(3,1,(W (.int .u8 2)))])
(Ae 51 IN 56 (Ab 1 (BP KZ.zero 1) [(0,4,(J 55))])
(Ae 51 IN 57 (AS 43 [(J 54),(J 56)])
(G 58 (A2 (J 51) (J 57) (W (.bool IT)))
(G 9 (Aa 58)
(Ae 6 IN 61 (Aa 9)
(G 62 (A2 (J 6) (J 61) (W (.bool IT)))
(Ae 62 IN 64 (Aa 4)
(Ae 62 IN 65 (AS 42 [(W (AI AT 2)),(W (.int .u8 6)),(W (AI AT 7)),(W (AI AT 1)),(W (.string ⟨#[]⟩))])
(Ae 62 IN 66 (AS 41 [(J 64),(J 65),(W (AI AT 0)),(W (AI AT 0)),(W (.string ⟨#[]⟩)),(W (AI AT 2))])
(G 67 (A2 (J 62) (J 66) (W (.bool IT)))
(Ae 67 IN 69 (Aa 4)
(Ae 67 IN 70 (AS 42 [(W (AI AT 1)),(W (.int .u8 4)),(W (AI AT 7)),(W (AI AT 0)),(W (.string ⟨#[]⟩))])
(Ae 67 IN 71 (AS 41 [(J 69),(J 70),(W (AI AT 120)),(W (AI AT 0)),(W (.string ⟨#[]⟩)),(W (AI AT 2))])
(G 72 (A2 (J 67) (J 71) (W (.bool IT)))
(Ae 72 IN 74 (Aa 4)
(Ae 72 IN 75 (AS 16 [(J 74)])
(Ae 72 IN 76 (Af iEq .i64 (J 75) (W (AI AT 2)))
(G 77 (A2 (J 72) (J 76) (W (.bool IT)))
(G 0 (Aa 77)
Ai))))))))))))))))))))))))))))))))))))))))))))))))))))))))))))))))
def b18:Body:=⟨[.t (J 0)],c18⟩
def smE:C:=(G 4 (AP (W (.bool IN)))
Ai)
def smL:C:=(G 13 (BZ (J 0))
(G 14 (Af iLt .i64 (J 5) (J 13))
(Bg 14
(BB (AY 1 (B2 (G 19 (CI 5 (J 0) (J 5))
(G 20 (BC 5 (J 19))
(G 23 (CI 5 (J 1) (J 5))
(G 24 (BC 5 (J 23))
(G 25 (Ac .free (AS 44 [(J 20),(J 24)]))
(G 26 (DG (J 25))
(Bg 26
(G 4 (AP (W (.bool IT)))
Ai)
Ar)))))))))
(G 16 (CH .i64 (BE .i64) (J 5) (W (AI AT 1)))
(G 5 (Aa 16)
Ar)))
(CC 0))))
def smS:C:=BB (AY 0 (A3 smL)) smE
def aX:C:=(G 4 (AP (W (.bool IT)))
(G 7 (BZ (J 0))
(G 9 (BZ (J 1))
(G 10 (Af iNe .i64 (J 7) (J 9))
(Bg 10
(G 4 (AP (W (.bool IT)))
Ai)
(G 5 (AP (W (AI AT 0)))
smS))))))
def d19:C:=aX
def b19:Body:=⟨[.t (J 4)],d19⟩
def paM:C:=(G 10 (Ab 1 (BP ty5.zero 1) [(0,1,(W (.int .u8 1)))])
(G 11 (AE 0 (J 3))
(G 12 (AM (J 11))
(G 13 (AE 1 (J 3))
(G 14 (AM (J 13))
(G 15 (AE 2 (J 3))
(G 16 (AM (J 15))
(G 17 (CW .i64 (J 16))
(G 18 (AE 3 (J 3))
(G 19 (AM (J 18))
(G 20 (AE 4 (J 3))
(G 21 (AM (J 20))
(G 22 (AE 5 (J 3))
(G 23 (AM (J 22))
(G 24 (Ab 6 (BP ty3.zero 6) [(0,1,(J 12)),(1,1,(J 14)),(2,1,(J 17)),(3,1,(J 19)),(4,1,(J 21)),(5,1,(J 23))])
(G 25 (AS 45 [(J 10),(J 24)])
(G 6 (Aa 25)
(G 28 (AE 6 (J 3))
(G 29 (AM (J 28))
(G 30 (AS 47 [(J 6),(J 29)])
(G 31 (AS 46 [(J 0),(J 30)])
(G 4 (Aa 31)
(G 5 (AP (W (AI AT 0)))
Ai)))))))))))))))))))))))
def aZ:C:=(G 3 (CV (J 1))
(G 4 (AP (W (.slice By 0 0)))
(G 5 (AP (W (AI AT 0)))
(G 7 (BC 7 (J 3))
(G 8 (AS 12 [(J 7)])
(G 9 (DG (J 8))
(Bg 9
(G 4 (AP (W (.slice By 0 0)))
(G 5 (AP (W (AI AT 110)))
Ai))
paM)))))))
def d20:C:=aZ
def b20:Body:=⟨[.t (J 4),.t (J 5)],d20⟩
def haM:C:=(B2 (G 37 (Bh (J 0))
(G 38 (AE 1 (J 37))
(G 39 (AM (J 38))
(G 40 (BC 7 (J 9))
(G 41 (Ac .free (AS 49 [(J 39),(J 40)]))
(G 42 (AU 0 (J 41))
(G 43 (AU 1 (J 41))
(G 4 (Aa 42)
(G 5 (Aa 43)
Ai))))))))))
def sD:C:=(G 29 (BC 7 (J 7))
(G 30 (AS 9 [(J 0),(J 29)])
(G 31 (AU 0 (J 30))
(G 32 (AU 1 (J 30))
(G 9 (BN 7 CY)
(cDo (AZ 7 (J 9) (J 31))
(G 8 (Aa 32)
(G 34 (Af iNe .i64 (J 8) (W (AI AT 0)))
(Bg 34
(G 4 (AP (W (.slice By 0 0)))
(G 5 (Aa 8)
Ai))
haM)))))))))
def haD:C:=sD
def ae:C:=(G 4 (AP (W (.slice By 0 0)))
(G 5 (AP (W (AI AT 0)))
(G 11 (AS 27 [(J 0)])
(G 6 (Aa 11)
(G 13 (Af iNe .i64 (J 6) (W (AI AT 0)))
(Bg 13
(G 4 (AP (W (.slice By 0 0)))
(G 5 (Aa 6)
Ai))
(G 17 (Bh (J 0))
(G 18 (AE 1 (J 17))
(G 19 (AM (J 18))
(G 21 (AS 48 [(J 19),(J 1)])
(G 22 (AU 0 (J 21))
(G 23 (AU 1 (J 21))
(G 7 (BN 7 OR)
(cDo (AZ 7 (J 7) (J 22))
(G 8 (Aa 23)
(G 25 (Af iNe .i64 (J 8) (W (AI AT 0)))
(Bg 25
(G 4 (AP (W (.slice By 0 0)))
(G 5 (Aa 8)
Ai))
haD)))))))))))))))))
def d21:C:=ae
def b21:Body:=⟨[.t (J 4),.t (J 5)],d21⟩
def d22:C:=
(G 2 (CV (J 0))
(G 3 (CV (J 1))
(G 4 (AP (W (.bool IT)))
(G 5 (AE 0 (J 2))
(G 6 (AM (J 5))
(G 7 (AE 0 (J 3))
(G 8 (AM (J 7))
(G 9 (Af iEq .i64 (J 6) (J 8))
(Ae 9 IN 11 (AE 1 (J 2))
(Ae 9 IN 12 (AM (J 11))
(Ae 9 IN 13 (AE 1 (J 3))
(Ae 9 IN 14 (AM (J 13))
(Ae 9 IN 15 (Af iEq .i64 (J 12) (J 14))
(G 16 (A2 (J 9) (J 15) (W (.bool IT)))
(Ae 16 IN 18 (AE 2 (J 2))
(Ae 16 IN 19 (AM (J 18))
(Ae 16 IN 20 (AE 2 (J 3))
(Ae 16 IN 21 (AM (J 20))
(Ae 16 IN 22 (Af iEq .u8 (J 19) (J 21))
(G 23 (A2 (J 16) (J 22) (W (.bool IT)))
(Ae 23 IN 25 (AE 3 (J 2))
(Ae 23 IN 26 (AM (J 25))
(Ae 23 IN 27 (AE 3 (J 3))
(Ae 23 IN 28 (AM (J 27))
(Ae 23 IN 29 (Af iEq .i64 (J 26) (J 28))
(G 30 (A2 (J 23) (J 29) (W (.bool IT)))
(Ae 30 IN 32 (AE 4 (J 2))
(Ae 30 IN 33 (AM (J 32))
(Ae 30 IN 34 (AE 4 (J 3))
(Ae 30 IN 35 (AM (J 34))
(Ae 30 IN 36 (AS 43 [(J 33),(J 35)])
(G 37 (A2 (J 30) (J 36) (W (.bool IT)))
(Ae 37 IN 39 (AE 5 (J 2))
(Ae 37 IN 40 (AM (J 39))
(Ae 37 IN 41 (AE 5 (J 3))
(Ae 37 IN 42 (AM (J 41))
(Ae 37 IN 43 (AS 50 [(J 40),(J 42)])
(G 44 (A2 (J 37) (J 43) (W (.bool IT)))
(Ae 44 IN 46 (AE 6 (J 2))
(Ae 44 IN 47 (AM (J 46))
(Ae 44 IN 48 (AE 6 (J 3))
(Ae 44 IN 49 (AM (J 48))
(Ae 44 IN 50 (Af iEq .i64 (J 47) (J 49))
(G 51 (A2 (J 44) (J 50) (W (.bool IT)))
(G 4 (Aa 51)
Ai)))))))))))))))))))))))))))))))))))))))))))))
def b22:Body:=⟨[.t (J 4)],d22⟩
def gtE:C:=(G 57 (B4 (J 7) [])
(G 58 (AU 0 (J 57))
(G 59 (AU 1 (J 57))
(G 10 (Aa 58)
(G 11 (Aa 59)
(G 61 (AE 5 (J 9))
(cDo (AZ 1 (J 61) (J 10))
(G 63 (DG (J 11))
(Ae 63 IT 65 (BC 7 (J 9))
(Ae 63 IT 66 (AS 52 [(J 65)])
(Ae 63 IT 67 (DG (J 66))
(G 68 (A2 (J 63) (W (.bool IN)) (J 67))
(Bg 68
(G 69 (BG F9.zero [])
(cDo (AZ 7 (J 4) (J 69))
(G 5 (AP (W (AI AT 110)))
Ai)))
(G 70 (BC 7 (J 9))
(cDo (AZ 7 (J 4) (J 70))
(G 5 (AP (W (AI AT 0)))
Ai))))))))))))))))
def gtB:C:=(B2 (G 39 (AE 4 (J 9))
(Ee (J 39) (Ci (J 39) []
(G 40 (AM (J 39))
(G 42 (Fv [(J 39)] (B4 (J 6) [(W (AI AT 1099511627776))]))
(G 44 (Fv [(J 39)] (B4 (J 6) [(W (AI AT 255))]))
(G 46 (Fv [(J 39)] (B4 (J 6) [(W (AI AT 1099511627776))]))
(G 48 (Fv [(J 39)] (B4 (J 6) [(W (AI AT 9))]))
(G 49 (CW .u8 (J 48))
(G 50 (BG KZ.zero [(0,1,(J 42)),(1,1,(J 44)),(2,1,(J 46)),(3,1,(J 49))])
(G 51 (Ac .AEv (Ab 1 (BP KZ.zero 1) [(0,4,(J 50))]))
(G 52 (Ac .free (Bk 4 32 90 (J 40) (J 51)))
(G 53 (AE 4 (J 9))
(cDo (Ac .free (AZ 1 (J 53) (J 52)))
Ar)))))))))))))))
def gtI:C:=(G 54 (CH .i64 (BE .i64) (J 37) (W (AI AT 1)))
(G 37 (Aa 54)
Ar))
def gtK:C:=BB (AY 1 gtB) gtI
def jA:C:=(G 38 (Af iLt .i64 (J 37) (J 36))
(Bg 38
gtK
(CC 0)))
def gtL:C:=jA
def gtS:C:=BB (AY 0 (A3 gtL)) gtE
def rx:C:=(G 24 (B4 (J 6) [(W (AI AT 1099511627776))])
(G 26 (B4 (J 6) [(W (AI AT 1099511627776))])
(G 28 (B4 (J 6) [(W (AI AT 9))])
(G 29 (CW .u8 (J 28))
(G 31 (B4 (J 6) [(W (AI AT 1000))])
(G 33 (B4 (J 6) [(W (AI AT 65536))])
(G 34 (BG F9.zero [(0,1,(J 24)),(1,1,(J 26)),(2,1,(J 29)),(3,1,(J 31)),(6,1,(J 33))])
(G 9 (BN 7 CY)
(cDo (AZ 7 (J 9) (J 34))
(G 36 (B4 (J 6) [(W (AI AT 50))])
(G 37 (AP (W (AI AT 0)))
gtS)))))))))))
def gtM:C:=rx
def iF:C:=(G 4 (BN 7 CY)
(G 5 (AP (W (AI AT 0)))
(G 15 (AS 51 [(J 0),(J 1),(W (.int .u8 2))])
(G 16 (AU 0 (J 15))
(G 17 (AU 1 (J 15))
(G 18 (AU 2 (J 15))
(G 6 (Aa 16)
(G 7 (Aa 17)
(G 8 (Aa 18)
(G 20 (Af iNe .i64 (J 8) (W (AI AT 0)))
(Bg 20
(G 21 (BG F9.zero [])
(cDo (AZ 7 (J 4) (J 21))
(G 5 (Aa 8)
Ai)))
gtM)))))))))))
def d23:C:=iF
def b23:Body:=⟨[.cN (J 4) 7,.t (J 5)],d23⟩
def c24:C:=
(G 2 (AP (W (.int .u32 0)))
(G 4 (L9 .u32 (J 0) (W (.int .u64 1)))
(G 6 (LU Nat.land .u32 (J 0) (W (.int .u32 1)))
(G 7 (C8 ABr .u32 (W (.int .u32 2197175160)) (J 6))
(G 8 (LU AAG .u32 (J 4) (J 7))
(G 2 (Aa 8)
Ai))))))
def b24:Body:=⟨[.t (J 2)],c24⟩
def d25:C:=
(G 2 (AP (W (.pointer By)))
(G 3 (AP (W (AI AT 0)))
(G 5 (Af iLt .i64 (J 0) (W (AI AT 1)))
(Ae 5 IT 7 (Aa 0)
(Ae 5 IT 8 (Af iGt .i64 (J 7) (W (AI AT 65536)))
(G 9 (A2 (J 5) (W (.bool IN)) (J 8))
(Bg 9
(G 2 (AP (W (.pointer By)))
(G 3 (AP (W (AI AT 2)))
Ai))
(G 11 (Hi 64 Lb.zero (J 0) (J 0))
(G 12 Y3
(G 13 (BG lg.zero [(0,1,(J 11)),(1,1,(J 12)),(2,1,(W (AI AT (-1))))])
(G 14 (CV (J 13))
(G 2 (Aa 14)
(G 3 (AP (W (AI AT 0)))
Ai)))))))))))))
def b25:Body:=⟨[.t (J 2),.t (J 3)],d25⟩
def d26:C:=
(G 2 (AP (W (.bool IT)))
(G 4 (oEq ZT.k IT (J 0) (W (.pointer By)))
(Ae 4 IT 6 (Aa 0)
(Ae 4 IT 7 (Bh (J 6))
(Ae 4 IT 8 (AE 1 (J 7))
(Ae 4 IT 9 (AM (J 8))
(Ae 4 IT 10 (oEq lZ.k IT (J 9) (W (.map By)))
(G 11 (A2 (J 4) (W (.bool IN)) (J 10))
(G 2 (Aa 11)
Ai)))))))))
def b26:Body:=⟨[.t (J 2)],d26⟩
def d27:C:=
(G 2 (AP (W (AI AT 0)))
(BB (AY 0 (G 5 (oEq Qy.k IT (J 0) (W (.pointer By)))
(Ae 5 IT 7 (Aa 0)
(Ae 5 IT 8 (Bh (J 7))
(Ae 5 IT 9 (AE 2 (J 8))
(Ae 5 IT 10 (AM (J 9))
(Ae 5 IT 11 (oEq IP.k IT (J 10) (W (.pointer By)))
(G 12 (A2 (J 5) (W (.bool IN)) (J 11))
(G 3 (Aa 12)
(Bg 3
(G 2 (AP (W (AI AT 1)))
Ai)
(G 15 (Bh (J 0))
(G 16 (AE 2 (J 15))
(G 17 (AM (J 16))
(G 18 (AS 35 [(J 17)])
(G 13 (Aa 18)
(Bg 13
(G 2 (AP (W (AI AT 17)))
Ai)
(G 21 (Bh (J 0))
(G 22 (AE 0 (J 21))
(G 23 (AM (J 22))
(G 24 (AS 10 [(J 23)])
(G 19 (Aa 24)
(Bg 19
(G 2 (AP (W (AI AT 15)))
Ai)
Ar))))))))))))))))))))))
(G 2 (AP (W (AI AT 0)))
Ai)))
def b27:Body:=⟨[.t (J 2)],d27⟩
def tdA:C:=(Bg 16
(G 18 (AE 0 (J 4))
(G 19 (AM (J 18))
(G 20 (Bh (J 0))
(G 21 (AE 3 (J 20))
(cDo (AZ 1 (J 21) (J 19))
(G 24 (BC 7 (J 4))
(G 25 (B4 (J 2) [(J 0),(J 24)])
(cDo (AZ 7 (J 8) (J 25))
Ar))))))))
Ar)
def tdE:C:=(G 27 (Bh (J 0))
(G 28 (AE 2 (J 27))
(G 29 (AM (J 28))
(G 30 (AS 35 [(J 29)])
(Bg 30
(B2 (G 31 (BG F9.zero [])
(G 32 (AE 3 (J 8))
(G 33 (AM (J 32))
(Ci (J 6) [(J 32)]
(cDo (JQ (J 6) (AZ 7 (J 6) (J 31)))
(G 7 (Aa 33)
Ai)))))))
(B2 (G 34 (AE 0 (J 4))
(Ee (J 34) (Ci (J 34) []
(G 35 (AM (J 34))
(G 36 (AE 1 (J 4))
(Ee (J 36) (Ci (J 36) []
(G 37 (AM (J 36))
(G 38 (AE 2 (J 4))
(Ee (J 38) (Ci (J 38) []
(G 39 (AM (J 38))
(G 41 (Bh (J 0))
(G 42 (AE 2 (J 41))
(G 43 (AM (J 42))
(G 44 (Ac .weak (AS 53 [(J 43)]))
(G 45 (AE 0 (J 8))
(Ci (J 45) [(J 36),(J 38)]
(cDo (JQ (J 45) (AZ 1 (J 45) (J 35)))
(G 46 (AE 1 (J 8))
(Ci (J 46) [(J 38)]
(cDo (JQ (J 46) (AZ 1 (J 46) (J 37)))
(G 47 (AE 2 (J 8))
(cDo (Ac .free (AZ 1 (J 47) (J 39)))
(G 48 (AE 6 (J 8))
(cDo (Ac .free (AZ 1 (J 48) (J 44)))
(G 49 (BC 7 (J 8))
(cDo (AZ 7 (J 6) (J 49))
(G 7 (AP (W (AI AT 0)))
Ai)))))))))))))))))))))))))))))))))))
def lT:C:=(B2 (G 10 (AE 0 (J 4))
(G 11 (AM (J 10))
(G 13 (Bh (J 0))
(G 14 (AE 3 (J 13))
(G 15 (AM (J 14))
(G 16 (Af iGe .i64 (J 11) (J 15))
(BB tdA
tdE))))))))
def tdM:C:=lT
def qu:C:=(G 4 (CV (J 1))
(G 6 (BN 7 CY)
(G 7 (AP (W (AI AT 0)))
(G 9 (BG F9.zero [(3,1,(W (AI AT 120)))])
(G 8 (BN 7 CY)
(cDo (AZ 7 (J 8) (J 9))
tdM))))))
def d28:C:=qu
def b28:Body:=⟨[.cN (J 6) 7,.t (J 7)],d28⟩
def d29:C:=
(G 3 (CV (J 1))
(G 4 (BN 7 CY)
(B2 (G 6 (Bh (J 0))
(G 7 (AE 2 (J 6))
(G 8 (AM (J 7))
(G 9 (AE 3 (J 3))
(G 10 (AM (J 9))
(G 11 (AE 4 (J 3))
(G 12 (AM (J 11))
(G 13 (AE 5 (J 3))
(G 14 (AM (J 13))
(G 15 (AE 6 (J 3))
(G 16 (AM (J 15))
(G 17 (Ac .free (AS 54 [(J 8),(J 10),(J 12),(J 14),(J 16)]))
(G 18 (BG F9.zero [(3,1,(J 17))])
(cDo (Ac .free (AZ 7 (J 4) (J 18)))
Ai)))))))))))))))))
def b29:Body:=⟨[.cN (J 4) 7],d29⟩
def d30:C:=
(G 3 (CV (J 1))
(G 4 (BN 7 CY)
(B2 (G 6 (Bh (J 0))
(G 7 (AE 2 (J 6))
(G 8 (AM (J 7))
(G 9 (AE 3 (J 3))
(G 10 (AM (J 9))
(G 11 (AE 4 (J 3))
(G 12 (AM (J 11))
(G 13 (AE 5 (J 3))
(G 14 (AM (J 13))
(G 15 (Ac .free (AS 55 [(J 8),(J 10),(J 12),(J 14)]))
(G 16 (BG F9.zero [(3,1,(J 15))])
(cDo (Ac .free (AZ 7 (J 4) (J 16)))
Ai)))))))))))))))
def b30:Body:=⟨[.cN (J 4) 7],d30⟩
def d31:C:=
(G 3 (CV (J 1))
(G 4 (BN 7 CY)
(B2 (G 6 (Bh (J 0))
(G 7 (AE 2 (J 6))
(G 8 (AM (J 7))
(G 9 (AE 3 (J 3))
(G 10 (AM (J 9))
(G 11 (AE 4 (J 3))
(G 12 (AM (J 11))
(G 13 (AE 5 (J 3))
(G 14 (AM (J 13))
(G 15 (Ac .free (AS 56 [(J 8),(J 10),(J 12),(J 14)]))
(G 16 (BG F9.zero [(3,1,(J 15))])
(cDo (Ac .free (AZ 7 (J 4) (J 16)))
Ai)))))))))))))))
def b31:Body:=⟨[.cN (J 4) 7],d31⟩
def rdB:C:=(G 30 (DG (J 6))
(G 28 (Aa 30)
(Bg 28
(G 31 (BG F9.zero [(3,1,(W (AI AT 60)))])
(cDo (AZ 7 (J 4) (J 31))
Ai))
(B2 (G 34 (Bh (J 0))
(G 35 (AE 2 (J 34))
(G 36 (AM (J 35))
(G 37 (AE 3 (J 3))
(G 38 (AM (J 37))
(G 39 (AE 4 (J 3))
(G 40 (AM (J 39))
(G 41 (AE 5 (J 3))
(G 42 (AM (J 41))
(G 43 (Ac .free (AS 60 [(J 36),(J 38),(J 40),(J 42)]))
(G 44 (DG (J 43))
(G 32 (Aa 44)
(Bg 32
(G 45 (BG F9.zero [(3,1,(W (AI AT 12)))])
(cDo (AZ 7 (J 4) (J 45))
Ai))
Ar)))))))))))))))))
def rdE:C:=(B2 (G 46 (BC 5 (J 5))
(G 47 (Ac .weak (AS 61 [(J 46)]))
(G 48 (Ac .AEv (Ab 1 (BP KZ.zero 1) [(0,4,(J 47))]))
(G 49 (AE 4 (J 5))
(Ee (J 49) (Ci (J 49) []
(G 50 (AM (J 49))
(G 51 (BG F9.zero [(4,1,(J 48)),(5,1,(J 50))])
(cDo (Ac .free (AZ 7 (J 4) (J 51)))
Ai))))))))))
def rdS:C:=BB (AY 0 rdB) rdE
def tW:C:=(B2 (G 16 (Bh (J 0))
(G 17 (AE 2 (J 16))
(G 18 (AM (J 17))
(G 19 (AE 3 (J 3))
(G 20 (AM (J 19))
(G 21 (AE 4 (J 3))
(G 22 (AM (J 21))
(G 23 (AE 5 (J 3))
(G 24 (AM (J 23))
(G 25 (Ac .weak (AS 59 [(J 18),(J 20),(J 22),(J 24)]))
(G 26 (AU 0 (J 25))
(G 27 (AU 1 (J 25))
(G 5 (Ac .AEv (BN 5 DV))
(cDo (Ac .free (AZ 5 (J 5) (J 26)))
(G 6 (Aa 27)
rdS))))))))))))))))
def rdM:C:=tW
def YU:C:=(G 3 (CV (J 1))
(G 4 (BN 7 CY)
(G 7 (AE 5 (J 3))
(G 8 (AM (J 7))
(G 9 (Af iEq .i64 (J 8) (W (AI AT 0)))
(Bg 9
(G 11 (EZ (.func 58) [] [(J 3)])
(G 12 (AS 57 [(J 0),(J 11)])
(G 13 (BG F9.zero [(4,1,(J 12))])
(cDo (AZ 7 (J 4) (J 13))
Ai))))
rdM))))))
def d32:C:=YU
def b32:Body:=⟨[.cN (J 4) 7],d32⟩
def d33:C:=
(G 3 (CV (J 1))
(G 4 (BN 7 CY)
(G 6 (EZ (.func 62) [] [(J 3)])
(G 7 (AS 57 [(J 0),(J 6)])
(G 8 (BG F9.zero [(4,1,(J 7))])
(cDo (AZ 7 (J 4) (J 8))
Ai))))))
def b33:Body:=⟨[.cN (J 4) 7],d33⟩
def d34:C:=
(G 3 (CV (J 1))
(G 4 (BN 7 CY)
(B2 (G 6 (Bh (J 0))
(G 7 (AE 2 (J 6))
(G 8 (AM (J 7))
(G 9 (AE 3 (J 3))
(G 10 (AM (J 9))
(G 11 (AE 4 (J 3))
(G 12 (AM (J 11))
(G 13 (AE 5 (J 3))
(G 14 (AM (J 13))
(G 15 (Ac .free (AS 63 [(J 8),(J 10),(J 12),(J 14)]))
(G 16 (BG F9.zero [(3,1,(J 15))])
(cDo (Ac .free (AZ 7 (J 4) (J 16)))
Ai)))))))))))))))
def b34:Body:=⟨[.cN (J 4) 7],d34⟩
def d35:C:=
(G 2 (AP (W (.bool IT)))
(G 4 (oEq IP.k IN (J 0) (W (.pointer By)))
(Ae 4 IN 6 (Aa 0)
(Ae 4 IN 7 (Bh (J 6))
(Ae 4 IN 8 (AE 6 (J 7))
(Ae 4 IN 9 (AM (J 8))
(G 10 (A2 (J 4) (J 9) (W (.bool IT)))
(G 2 (Aa 10)
Ai))))))))
def b35:Body:=⟨[.t (J 2)],d35⟩
def d36:C:=
(G 6 (AP (W (.bool IT)))
(G 8 (AS 64 [(J 0),(W (AI AT 1)),(W (AI AT 1099511627776))])
(Ae 8 IN 10 (Aa 1)
(Ae 8 IN 11 (AS 64 [(J 10),(W (AI AT 1)),(W (AI AT 1099511627776))])
(G 12 (A2 (J 8) (J 11) (W (.bool IT)))
(Ae 12 IN 14 (Aa 2)
(Ae 12 IN 15 (Af iGe .u8 (J 14) (W (.int .u8 1)))
(G 16 (A2 (J 12) (J 15) (W (.bool IT)))
(Ae 16 IN 18 (Aa 2)
(Ae 16 IN 19 (Af iLe .u8 (J 18) (W (.int .u8 6)))
(G 20 (A2 (J 16) (J 19) (W (.bool IT)))
(G 6 (Aa 20)
Ai))))))))))))
def b36:Body:=⟨[.t (J 6)],d36⟩
def d37:C:=
(G 8 (AP (W (.bool IT)))
(G 10 (AS 64 [(J 0),(W (AI AT 0)),(W (AI AT 1099511627776))])
(Ae 10 IN 12 (Aa 1)
(Ae 10 IN 13 (AS 64 [(J 12),(W (AI AT 0)),(W (AI AT 254))])
(G 14 (A2 (J 10) (J 13) (W (.bool IT)))
(Ae 14 IN 16 (Aa 2)
(Ae 14 IN 17 (Aa 3)
(Ae 14 IN 18 (AS 64 [(J 16),(J 17),(W (AI AT 1099511627776))])
(G 19 (A2 (J 14) (J 18) (W (.bool IT)))
(G 8 (Aa 19)
Ai))))))))))
def b37:Body:=⟨[.t (J 8)],d37⟩
def Sp:C:=(G 53 (Af iLt .i64 (J 52) (J 51))
(Bg 53
(BB (AY 2 (G 12 (Aa 52)
(G 56 (AM (J 9))
(G 58 (AS 69 [(J 56),(J 12)])
(G 59 (AU 0 (J 58))
(G 60 (AU 1 (J 58))
(G 61 (AU 2 (J 58))
(G 62 (AU 3 (J 58))
(G 13 (BN 6 C1)
(cDo (AZ 6 (J 13) (J 59))
(G 14 (Aa 60)
(G 15 (Aa 61)
(G 16 (Aa 62)
(BB (AY 3 (G 65 (Af iNe .i64 (J 16) (W (AI AT 0)))
(G 63 (Aa 65)
(Bg 63
(G 6 (AP (W (.pointer By)))
(G 7 (Aa 16)
Ai))
(G 67 (Aa 14)
(Bg 67
(G 70 (BC 6 (J 13))
(G 71 (Ab 1 (BP EA.zero 1) [(0,6,(J 70))])
(G 72 (Bk 6 64 124 (J 10) (J 71))
(G 10 (Aa 72)
Ar))))
(G 73 (Aa 15)
(Bg 73
(G 75 (AM (J 9))
(G 76 (Bh (J 75))
(G 77 (AE 5 (J 76))
(G 78 (AM (J 77))
(G 79 (CH .i64 (BE .i64) (J 78) (W (AI AT 1)))
(G 80 (Bh (J 75))
(G 81 (AE 5 (J 80))
(cDo (AZ 1 (J 81) (J 79))
Ar))))))))
Ar))))))))
(Ae 14 IT 84 (Aa 15)
(G 85 (A2 (J 14) (W (.bool IN)) (J 84))
(Bg 85
(G 88 (Ab 1 (BP ty3.zero 1) [(0,1,(J 12))])
(G 89 (Bk 1 8 3 (J 11) (J 88))
(G 11 (Aa 89)
Ar)))
Ar)))))))))))))))))
(G 90 (CH .i64 (BE .i64) (J 52) (W (AI AT 1)))
(G 52 (Aa 90)
Ar)))
(CC 1)))
def Sq:C:=(G 104 (Af iLt .i64 (J 103) (J 102))
(Bg 104
(BB (AY 5 (G 19 (Aa 103)
(G 108 (B4 (J 17) [(J 19)])
(G 109 (DG (J 108))
(Bg 109
(B2 (G 110 (AM (J 9))
(G 111 (AM (J 9))
(G 112 (Bh (J 111))
(G 113 (AE 4 (J 112))
(G 114 (AM (J 113))
(G 116 (Ac .AEv (Ab 1 (BP ty3.zero 1) [(0,1,(J 19))]))
(Ci (J 114) [(J 9)]
(G 117 (JQ (J 114) (Bk 1 8 3 (J 114) (J 116)))
(G 118 (Bh (J 110))
(G 119 (AE 4 (J 118))
(cDo (Ac .free (AZ 1 (J 119) (J 117)))
(G 122 (AS 76 [(J 11),(J 19)])
(Bg 122
(G 125 (Ab 1 (BP ty3.zero 1) [(0,1,(J 19))])
(G 126 (Bk 1 8 3 (J 18) (J 125))
(G 18 (Aa 126)
Ar)))
Ar))))))))))))))
Ar)))))
(G 127 (CH .i64 (BE .i64) (J 103) (W (AI AT 1)))
(G 103 (Aa 127)
Ar)))
(CC 4)))
def tG:C:=(G 128 (AM (J 9))
(G 130 (AS 77 [(J 128),(J 18)])
(G 20 (Aa 130)
(G 132 (Af iNe .i64 (J 20) (W (AI AT 0)))
(Bg 132
(G 6 (AP (W (.pointer By)))
(G 7 (Aa 20)
Ai))
(G 134 (AM (J 9))
(G 6 (Aa 134)
(G 7 (AP (W (AI AT 0)))
Ai))))))))
def tJ:C:=BB (AY 4 (A3 Sq)) tG
def Xd:C:=(G 92 (AS 70 [(J 10),(W (.func (.func 71) #[] #[]))])
(B2 (Ee (J 9) (Ci (J 9) []
(G 93 (AM (J 9))
(G 95 (Ac .weak (AS 72 [(J 10)]))
(G 96 (Bh (J 93))
(G 97 (AE 3 (J 96))
(cDo (Ac .free (AZ 1 (J 97) (J 95)))
(G 98 (EZ (.func 73) [] [(J 9)])
(G 17 (Aa 98)
(G 18 (AP (W (.slice By 0 0)))
(G 101 (AS 68 [(J 2)])
(G 102 (L8 .i64 (J 8) (J 101))
(G 103 (AP (W (AI AT 0)))
tJ)))))))))))))))
def tF:C:=Xd
def tH:C:=BB (AY 1 (A3 Sp)) tF
def iG:C:=(G 6 (AP (W (.pointer By)))
(G 7 (AP (W (AI AT 0)))
(G 22 (AS 67 [(J 0)])
(G 8 (Aa 22)
(BB (AY 0 (G 25 (Af iEq .i64 (J 8) (W (AI AT 0)))
(Ae 25 IT 27 (Aa 1)
(Ae 25 IT 28 (oEq Td.k IT (J 27) (W (.pointer By)))
(G 29 (A2 (J 25) (W (.bool IN)) (J 28))
(G 23 (Aa 29)
(Bg 23
(G 6 (AP (W (.pointer By)))
(G 7 (AP (W (AI AT 1)))
Ai))
(G 32 (AS 68 [(J 2)])
(G 33 (Af iEq .i64 (J 32) (W (AI AT 0)))
(Ae 33 IT 35 (Aa 2)
(Ae 33 IT 36 (AS 68 [(J 35)])
(Ae 33 IT 37 (Aa 8)
(Ae 33 IT 38 (Af iGt .i64 (J 36) (J 37))
(G 39 (A2 (J 33) (W (.bool IN)) (J 38))
(G 30 (Aa 39)
(Bg 30
(G 6 (AP (W (.pointer By)))
(G 7 (AP (W (AI AT 2)))
Ai))
(G 42 (AS 10 [(J 0)])
(G 40 (Aa 42)
(Bg 40
(G 6 (AP (W (.pointer By)))
(G 7 (AP (W (AI AT 15)))
Ai))
Ar)))))))))))))))))))
(G 46 (BG Tb.zero [(0,1,(J 0)),(1,1,(J 1)),(2,1,(J 2))])
(G 47 (CV (J 46))
(G 9 (BN 1 wa)
(cDo (AZ 1 (J 9) (J 47))
(G 10 (AP (W (.slice By 0 0)))
(G 11 (AP (W (.slice By 0 0)))
(G 50 (AS 68 [(J 2)])
(G 51 (L8 .i64 (J 8) (J 50))
(G 52 (AP (W (AI AT 0)))
tH))))))))))))))
def d39:C:=iG
def b39:Body:=⟨[.t (J 6),.t (J 7)],d39⟩
def aaB:C:=(G 14 (Af iLt .i64 (J 13) (J 12))
(Bg 14
(BB (AY 1 (G 15 (CI 6 (J 11) (J 13))
(G 16 (BC 6 (J 15))
(G 5 (BN 6 C1)
(cDo (AZ 6 (J 5) (J 16))
(G 18 (BC 6 (J 5))
(G 19 (AS 78 [(J 18)])
(G 20 (Ab 1 (BP Iu.zero 1) [(0,5,(J 19))])
(G 21 (Bk 5 56 93 (J 3) (J 20))
(G 3 (Aa 21)
Ar))))))))))
(G 22 (CH .i64 (BE .i64) (J 13) (W (AI AT 1)))
(G 13 (Aa 22)
Ar)))
(CC 0)))
def aaE:C:=(G 2 (Aa 3)
Ai)
def aaS:C:=BB (AY 0 (A3 aaB)) aaE
def iH:C:=(G 2 (AP (W (.slice By 0 0)))
(G 7 (oEq IP.k IT (J 0) (W (.pointer By)))
(Bg 7
(G 2 (AP (W (.slice By 0 0)))
Ai)
(G 3 (AP (W (.slice By 0 0)))
(G 9 (Bh (J 0))
(G 10 (AE 3 (J 9))
(G 11 (AM (J 10))
(G 12 (BZ (J 11))
(G 13 (AP (W (AI AT 0)))
aaS)))))))))
def d40:C:=iH
def b40:Body:=⟨[.t (J 2)],d40⟩
def c41:C:=
(G 7 (CV (J 1))
(G 12 (AP (W (.bool IT)))
(G 17 (BC 7 (J 7))
(G 18 (AS 9 [(J 0),(J 17)])
(G 19 (AU 0 (J 18))
(G 20 (AU 1 (J 18))
(G 13 (BN 7 CY)
(cDo (AZ 7 (J 13) (J 19))
(G 14 (Aa 20)
(G 22 (Af iEq .i64 (J 14) (W (AI AT 0)))
(Ae 22 IN 24 (AE 3 (J 13))
(Ae 22 IN 25 (AM (J 24))
(Ae 22 IN 26 (Aa 2)
(Ae 22 IN 27 (Af iEq .i64 (J 25) (J 26))
(G 28 (A2 (J 22) (J 27) (W (.bool IT)))
(Ae 28 IN 30 (AE 4 (J 13))
(Ae 28 IN 31 (AM (J 30))
(Ae 28 IN 32 (BZ (J 31))
(Ae 28 IN 33 (Aa 3)
(Ae 28 IN 34 (Af iEq .i64 (J 32) (J 33))
(G 35 (A2 (J 28) (J 34) (W (.bool IT)))
(Ae 35 IN 37 (AE 5 (J 13))
(Ae 35 IN 38 (AM (J 37))
(Ae 35 IN 39 (Fw (J 38))
(Ae 35 IN 40 (Aa 4)
(Ae 35 IN 41 (KA bEq (J 39) (J 40))
(G 42 (A2 (J 35) (J 41) (W (.bool IT)))
(Ae 42 IN 44 (AE 6 (J 13))
(Ae 42 IN 45 (AM (J 44))
(Ae 42 IN 46 (Aa 5)
(Ae 42 IN 47 (Af iEq .i64 (J 45) (J 46))
(G 48 (A2 (J 42) (J 47) (W (.bool IT)))
(Ae 48 IN 50 (AE 0 (J 13))
(Ae 48 IN 51 (AM (J 50))
(Ae 48 IN 52 (AE 0 (J 7))
(Ae 48 IN 53 (AM (J 52))
(Ae 48 IN 54 (Af iEq .i64 (J 51) (J 53))
(G 55 (A2 (J 48) (J 54) (W (.bool IT)))
(Ae 55 IN 57 (AE 1 (J 13))
(Ae 55 IN 58 (AM (J 57))
(Ae 55 IN 59 (AE 1 (J 7))
(Ae 55 IN 60 (AM (J 59))
(Ae 55 IN 61 (Af iEq .i64 (J 58) (J 60))
(G 62 (A2 (J 55) (J 61) (W (.bool IT)))
(Ae 62 IN 64 (AE 2 (J 13))
(Ae 62 IN 65 (AM (J 64))
(Ae 62 IN 66 (AE 2 (J 7))
(Ae 62 IN 67 (AM (J 66))
(Ae 62 IN 68 (Af iEq .u8 (J 65) (J 67))
(G 69 (A2 (J 62) (J 68) (W (.bool IT)))
(G 12 (Aa 69)
Ai)))))))))))))))))))))))))))))))))))))))))))))))))))
def b41:Body:=⟨[.t (J 12)],c41⟩
def c42:C:=
(G 10 (BN 7 OR)
(G 16 (BG OK.zero [(0,1,(J 0)),(1,1,(W (AI AT 9))),(2,1,(J 1)),(3,1,(J 2)),(5,1,(J 3))])
(G 11 (BN 7 OR)
(cDo (AZ 7 (J 11) (J 16))
(G 18 (PR (J 4))
(G 19 (Af iGt .i64 (J 18) (W (AI AT 0)))
(BB (Bg 19
(G 21 (KC 5 (J 4))
(G 22 (AE 6 (J 11))
(cDo (AZ 1 (J 22) (J 21))
Ar)))
Ar)
(G 23 (BC 7 (J 11))
(cDo (AZ 7 (J 10) (J 23))
Ai)))))))))
def b42:Body:=⟨[.cN (J 10) 7],c42⟩
def siE:C:=(G 4 (AP (W (.bool IN)))
Ai)
def siB:C:=(B2 (G 19 (CI 4 (J 0) (J 5))
(G 20 (BC 4 (J 19))
(G 23 (CI 4 (J 1) (J 5))
(G 24 (BC 4 (J 23))
(G 25 (OX ⟨IN,[.i .i64,.i .i64,.i .i64,.i .u8]⟩ IN (J 20) (J 24))
(Bg 25
(G 4 (AP (W (.bool IT)))
Ai)
Ar)))))))
def siI:C:=(G 16 (CH .i64 (BE .i64) (J 5) (W (AI AT 1)))
(G 5 (Aa 16)
Ar))
def siK:C:=BB (AY 1 siB) siI
def lI:C:=(G 13 (BZ (J 0))
(G 14 (Af iLt .i64 (J 5) (J 13))
(Bg 14
siK
(CC 0))))
def siL:C:=lI
def siS:C:=BB (AY 0 (A3 siL)) siE
def iI:C:=(G 4 (AP (W (.bool IT)))
(G 7 (BZ (J 0))
(G 9 (BZ (J 1))
(G 10 (Af iNe .i64 (J 7) (J 9))
(Bg 10
(G 4 (AP (W (.bool IT)))
Ai)
(G 5 (AP (W (AI AT 0)))
siS))))))
def d43:C:=iI
def b43:Body:=⟨[.t (J 4)],d43⟩
def d44:C:=
(G 2 (CV (J 0))
(G 3 (CV (J 1))
(G 4 (AP (W (.bool IT)))
(G 5 (AE 0 (J 2))
(G 6 (AM (J 5))
(G 7 (AE 0 (J 3))
(G 8 (AM (J 7))
(G 9 (Af iEq .i64 (J 6) (J 8))
(Ae 9 IN 11 (AE 1 (J 2))
(Ae 9 IN 12 (AM (J 11))
(Ae 9 IN 13 (AE 1 (J 3))
(Ae 9 IN 14 (AM (J 13))
(Ae 9 IN 15 (Af iEq .i64 (J 12) (J 14))
(G 16 (A2 (J 9) (J 15) (W (.bool IT)))
(Ae 16 IN 18 (AE 2 (J 2))
(Ae 16 IN 19 (AM (J 18))
(Ae 16 IN 20 (AE 2 (J 3))
(Ae 16 IN 21 (AM (J 20))
(Ae 16 IN 22 (Af iEq .i64 (J 19) (J 21))
(G 23 (A2 (J 16) (J 22) (W (.bool IT)))
(Ae 23 IN 25 (AE 3 (J 2))
(Ae 23 IN 26 (AM (J 25))
(Ae 23 IN 27 (AE 3 (J 3))
(Ae 23 IN 28 (AM (J 27))
(Ae 23 IN 29 (Af iEq .u8 (J 26) (J 28))
(G 30 (A2 (J 23) (J 29) (W (.bool IT)))
(Ae 30 IN 32 (AE 4 (J 2))
(Ae 30 IN 33 (AM (J 32))
(Ae 30 IN 34 (AE 4 (J 3))
(Ae 30 IN 35 (AM (J 34))
(Ae 30 IN 36 (AS 50 [(J 33),(J 35)])
(G 37 (A2 (J 30) (J 36) (W (.bool IT)))
(G 4 (Aa 37)
Ai)))))))))))))))))))))))))))))))))
def b44:Body:=⟨[.t (J 4)],d44⟩
def puB:C:=(G 10 (Af iLt .i64 (J 9) (J 8))
(Bg 10
(BB (AY 1 (G 11 (CI 1 (J 7) (J 9))
(G 12 (AM (J 11))
(G 6 (Aa 12)
(G 15 (CW .u64 (J 6))
(G 16 (AS 79 [(J 0),(J 15)])
(G 0 (Aa 16)
Ar)))))))
(G 17 (CH .i64 (BE .i64) (J 9) (W (AI AT 1)))
(G 9 (Aa 17)
Ar)))
(CC 0)))
def puE:C:=(G 4 (Aa 0)
Ai)
def puS:C:=BB (AY 0 (A3 puB)) puE
def iJ:C:=(G 4 (AP (W (.slice By 0 0)))
(G 7 (Aa 1)
(G 8 (BZ (J 7))
(G 9 (AP (W (AI AT 0)))
puS))))
def d45:C:=iJ
def b45:Body:=⟨[.t (J 4)],d45⟩
def slB:C:=(G 16 (Af iLt .i64 (J 15) (W (AI AT 4)))
(Bg 16
(BB (AY 1 (G 7 (Aa 15)
(G 20 (BZ (J 1))
(G 21 (CH .i64 (BE .i64) (J 20) (W (AI AT 4)))
(G 22 (C8 yi .i64 (J 21) (W (AI AT 1)))
(G 24 (C8 yi .i64 (J 22) (J 7))
(G 27 (C8 ABr .i64 (W (AI AT 8)) (J 7))
(G 28 (L9 .u32 (J 6) (J 27))
(G 29 (CW .u8 (J 28))
(G 30 (CI 1 (J 5) (J 24))
(cDo (AZ 1 (J 30) (J 29))
Ar)))))))))))
(G 31 (CH .i64 (BE .i64) (J 15) (W (AI AT 1)))
(G 15 (Aa 31)
Ar)))
(CC 0)))
def slE:C:=(G 34 (J8 1 (J 5) (J 1))
(G 4 (Aa 5)
Ai))
def slS:C:=BB (AY 0 (A3 slB)) slE
def iK:C:=(G 4 (AP (W (.slice By 0 0)))
(G 9 (BZ (J 1))
(G 10 (CH .i64 (BE .i64) (J 9) (W (AI AT 4)))
(G 11 (Hi 1 ty5.zero (J 10) (J 10))
(G 5 (Aa 11)
(G 14 (AS 80 [(J 0),(J 1)])
(G 6 (Aa 14)
(G 15 (AP (W (AI AT 0)))
slS))))))))
def d46:C:=iK
def b46:Body:=⟨[.t (J 4)],d46⟩
def d47:C:=
(G 4 (AP (W (.slice By 0 0)))
(G 7 (BZ (J 1))
(G 8 (CW .u64 (J 7))
(G 9 (AS 79 [(J 0),(J 8)])
(G 11 (Ab 2 (BP Ja.zero 2) [(0,1,(J 9)),(1,1,(J 1))])
(G 12 (AS 81 [(J 11)])
(G 4 (Aa 12)
Ai)))))))
def b47:Body:=⟨[.t (J 4)],d47⟩
def gaE:C:=(G 45 (DG (J 11))
(Ae 45 IT 47 (BC 7 (J 9))
(Ae 45 IT 48 (AS 12 [(J 47)])
(Ae 45 IT 49 (DG (J 48))
(G 50 (A2 (J 45) (W (.bool IN)) (J 49))
(Bg 50
(G 51 (BG OK.zero [])
(cDo (AZ 7 (J 4) (J 51))
(G 5 (AP (W (AI AT 110)))
Ai)))
(G 52 (BC 7 (J 9))
(cDo (AZ 7 (J 4) (J 52))
(G 5 (AP (W (AI AT 0)))
Ai)))))))))
def ro:C:=(G 24 (B4 (J 6) [(W (AI AT 1099511627776))])
(G 26 (B4 (J 6) [(W (AI AT 1099511627776))])
(G 28 (B4 (J 6) [(W (AI AT 9))])
(G 29 (CW .u8 (J 28))
(G 31 (B4 (J 6) [(W (AI AT 1099511627776))])
(G 33 (B4 (J 6) [(W (AI AT 255))])
(G 35 (B4 (J 6) [(W (AI AT 1099511627776))])
(G 36 (BG OK.zero [(0,1,(J 24)),(1,1,(J 26)),(2,1,(J 29)),(3,1,(J 31)),(4,1,(J 33)),(5,1,(J 35))])
(G 9 (BN 7 OR)
(cDo (AZ 7 (J 9) (J 36))
(G 39 (B4 (J 7) [])
(G 40 (AU 0 (J 39))
(G 41 (AU 1 (J 39))
(G 10 (Aa 40)
(G 11 (Aa 41)
(G 43 (AE 6 (J 9))
(cDo (AZ 1 (J 43) (J 10))
gaE)))))))))))))))))
def gaM:C:=ro
def YV:C:=(G 4 (BN 7 OR)
(G 5 (AP (W (AI AT 0)))
(G 15 (AS 51 [(J 0),(J 1),(W (.int .u8 1))])
(G 16 (AU 0 (J 15))
(G 17 (AU 1 (J 15))
(G 18 (AU 2 (J 15))
(G 6 (Aa 16)
(G 7 (Aa 17)
(G 8 (Aa 18)
(G 20 (Af iNe .i64 (J 8) (W (AI AT 0)))
(Bg 20
(G 21 (BG OK.zero [])
(cDo (AZ 7 (J 4) (J 21))
(G 5 (Aa 8)
Ai)))
gaM)))))))))))
def d48:C:=YV
def b48:Body:=⟨[.cN (J 4) 7,.t (J 5)],d48⟩
def ptE:C:=(G 51 (AE 5 (J 3))
(G 52 (AM (J 51))
(G 53 (AS 47 [(J 6),(J 52)])
(G 54 (AS 46 [(J 0),(J 53)])
(G 4 (Aa 54)
(G 5 (AP (W (AI AT 0)))
Ai))))))
def ptB:C:=(G 34 (CI 4 (J 30) (J 32))
(G 35 (BC 4 (J 34))
(G 8 (BN 4 ZW)
(cDo (AZ 4 (J 8) (J 35))
(G 37 (AE 0 (J 8))
(G 38 (AM (J 37))
(G 39 (AE 1 (J 8))
(G 40 (AM (J 39))
(G 41 (AE 2 (J 8))
(G 42 (AM (J 41))
(G 43 (AE 3 (J 8))
(G 44 (AM (J 43))
(G 45 (CW .i64 (J 44))
(G 46 (Ab 4 (BP ty3.zero 4) [(0,1,(J 38)),(1,1,(J 40)),(2,1,(J 42)),(3,1,(J 45))])
(G 47 (AS 45 [(J 6),(J 46)])
(G 6 (Aa 47)
Ar))))))))))))))))
def ptI:C:=(G 48 (CH .i64 (BE .i64) (J 32) (W (AI AT 1)))
(G 32 (Aa 48)
Ar))
def ptK:C:=BB (AY 1 ptB) ptI
def kh:C:=(G 33 (Af iLt .i64 (J 32) (J 31))
(Bg 33
ptK
(CC 0)))
def ptL:C:=kh
def ptS:C:=BB (AY 0 (A3 ptL)) ptE
def tO:C:=(G 12 (Ab 1 (BP ty5.zero 1) [(0,1,(W (.int .u8 2)))])
(G 13 (AE 0 (J 3))
(G 14 (AM (J 13))
(G 15 (AE 1 (J 3))
(G 16 (AM (J 15))
(G 17 (AE 2 (J 3))
(G 18 (AM (J 17))
(G 19 (CW .i64 (J 18))
(G 20 (AE 3 (J 3))
(G 21 (AM (J 20))
(G 22 (AE 6 (J 3))
(G 23 (AM (J 22))
(G 24 (AE 4 (J 3))
(G 25 (AM (J 24))
(G 26 (BZ (J 25))
(G 27 (Ab 6 (BP ty3.zero 6) [(0,1,(J 14)),(1,1,(J 16)),(2,1,(J 19)),(3,1,(J 21)),(4,1,(J 23)),(5,1,(J 26))])
(G 28 (AS 45 [(J 12),(J 27)])
(G 6 (Aa 28)
(G 29 (AE 4 (J 3))
(G 30 (AM (J 29))
(G 31 (BZ (J 30))
(G 32 (AP (W (AI AT 0)))
ptS))))))))))))))))))))))
def ptM:C:=tO
def iL:C:=(G 3 (CV (J 1))
(G 4 (AP (W (.slice By 0 0)))
(G 5 (AP (W (AI AT 0)))
(G 9 (BC 7 (J 3))
(G 10 (AS 52 [(J 9)])
(G 11 (DG (J 10))
(Bg 11
(G 4 (AP (W (.slice By 0 0)))
(G 5 (AP (W (AI AT 110)))
Ai))
ptM)))))))
def d49:C:=iL
def b49:Body:=⟨[.t (J 4),.t (J 5)],d49⟩
def d50:C:=
(G 4 (AP (W (.bool IT)))
(G 6 (Fw (J 0))
(G 8 (Fw (J 1))
(G 9 (KA bEq (J 6) (J 8))
(G 4 (Aa 9)
Ai)))))
def b50:Body:=⟨[.t (J 4)],d50⟩
def reA:C:=(G 11 (Ac .AEv (BN 1 zt3))
(G 12 (Ac .AEv (BN 1 zt4))
(Ci (J 11) [(J 9),(J 29)]
(cDo (JQ (J 11) (AZ 1 (J 11) (W (AI AT 1))))
(cDo (Ac .free (AZ 1 (J 12) (J 33)))
(G 34 (EZ (.func 83) [] [(J 12),(J 9),(J 11)])
(G 13 (Aa 34)
(G 35 (EZ (.func 85) [] [(J 12),(J 9),(J 11)])
(G 14 (Aa 35)
(G 6 (Aa 13)
(G 7 (Aa 14)
(G 8 (AP (W (AI AT 0)))
Ai))))))))))))
def ZB:C:=(B2 (G 24 (AM (J 9))
(G 25 (BZ (J 24))
(G 26 (Af iEq .i64 (J 25) (W (AI AT 0)))
(Ae 26 IT 28 (AM (J 9))
(Ae 26 IT 29 (CI 1 (J 28) (W (AI AT 0)))
(Ae 26 IT 30 (AM (J 29))
(Ae 26 IT 31 (Aa 2)
(Ae 26 IT 32 (Af iNe .u8 (J 30) (J 31))
(G 33 (A2 (J 26) (W (.bool IN)) (J 32))
reA))))))))))
def reM:C:=ZB
def ai:C:=(G 6 (AP (W .nilFunc))
(G 7 (AP (W .nilFunc))
(G 8 (AP (W (AI AT 0)))
(G 18 (AS 82 [(J 0),(J 1)])
(G 19 (AU 0 (J 18))
(G 20 (AU 1 (J 18))
(G 9 (BN 1 ua)
(cDo (AZ 1 (J 9) (J 19))
(G 10 (Aa 20)
(G 22 (Af iNe .i64 (J 10) (W (AI AT 0)))
(Bg 22
(G 6 (AP (W .nilFunc))
(G 7 (AP (W .nilFunc))
(G 8 (Aa 10)
Ai)))
reM)))))))))))
def d51:C:=ai
def b51:Body:=⟨[.t (J 6),.t (J 7),.t (J 8)],d51⟩
def d52:C:=
(G 1 (CV (J 0))
(G 2 (AP (W (.bool IT)))
(G 4 (AE 0 (J 1))
(G 5 (AM (J 4))
(G 6 (AE 1 (J 1))
(G 7 (AM (J 6))
(G 8 (AE 2 (J 1))
(G 9 (AM (J 8))
(G 10 (AS 36 [(J 5),(J 7),(J 9)])
(Ae 10 IN 12 (AE 3 (J 1))
(Ae 10 IN 13 (AM (J 12))
(Ae 10 IN 14 (AS 64 [(J 13),(W (AI AT 0)),(W (AI AT 1000))])
(G 15 (A2 (J 10) (J 14) (W (.bool IT)))
(Ae 15 IN 17 (AE 4 (J 1))
(Ae 15 IN 18 (AM (J 17))
(Ae 15 IN 19 (BZ (J 18))
(Ae 15 IN 20 (Af iLe .i64 (J 19) (W (AI AT 50)))
(G 21 (A2 (J 15) (J 20) (W (.bool IT)))
(Ae 21 IN 23 (AE 4 (J 1))
(Ae 21 IN 24 (AM (J 23))
(Ae 21 IN 25 (AS 87 [(J 24),(W (.func (.func 88) #[] #[]))])
(Ae 21 IN 26 (DG (J 25))
(G 27 (A2 (J 21) (J 26) (W (.bool IT)))
(Ae 27 IN 29 (AE 5 (J 1))
(Ae 27 IN 30 (AM (J 29))
(Ae 27 IN 31 (BZ (J 30))
(Ae 27 IN 32 (Af iLe .i64 (J 31) (W (AI AT 65536)))
(G 33 (A2 (J 27) (J 32) (W (.bool IT)))
(Ae 33 IN 35 (AE 6 (J 1))
(Ae 33 IN 36 (AM (J 35))
(Ae 33 IN 37 (AS 64 [(J 36),(W (AI AT 0)),(W (AI AT 65536))])
(G 38 (A2 (J 33) (J 37) (W (.bool IT)))
(G 3 (Aa 38)
(Ae 3 IN 41 (AE 3 (J 1))
(Ae 3 IN 42 (AM (J 41))
(Ae 3 IN 43 (Af iEq .i64 (J 42) (W (AI AT 0)))
(Ae 3 IN 44 (Aa 43)
(Ae 44 IT 45 (AE 4 (J 1))
(Ae 44 IT 46 (AM (J 45))
(Ae 44 IT 47 (BZ (J 46))
(Ae 44 IT 48 (AE 5 (J 1))
(Ae 44 IT 49 (AM (J 48))
(Ae 44 IT 50 (BZ (J 49))
(Ae 44 IT 51 (CH .i64 (BE .i64) (J 47) (J 50))
(Ae 44 IT 52 (Af iEq .i64 (J 51) (W (AI AT 0)))
(Ae 3 IN 53 (A2 (J 44) (W (.bool IN)) (J 52))
(G 54 (A2 (J 3) (J 53) (W (.bool IT)))
(G 2 (Aa 54)
Ai))))))))))))))))))))))))))))))))))))))))))))))))
def b52:Body:=⟨[.t (J 2)],d52⟩
def d53:C:=
(G 2 (AP (W (AI AT 0)))
(G 4 (oEq IP.k IT (J 0) (W (.pointer By)))
(Bg 4
(G 2 (AP (W (AI AT 0)))
Ai)
(G 6 (Bh (J 0))
(G 7 (AE 4 (J 6))
(G 8 (AM (J 7))
(G 9 (BZ (J 8))
(G 2 (Aa 9)
Ai))))))))
def b53:Body:=⟨[.t (J 2)],d53⟩
def prC:C:=(G 104 (AS 97 [(J 0),(J 14)])
(G 106 (AS 96 [(J 0),(J 104),(J 15)])
(G 107 (Bk 1 8 70 (J 17) (J 106))
(G 108 (AS 98 [(J 0),(J 107)])
(G 18 (Aa 108)
(G 110 (Af iNe .i64 (J 18) (W (AI AT 0)))
(Bg 110
(G 10 (Aa 18)
Ai)
(G 114 (Bh (J 0))
(G 115 (AE 4 (J 114))
(G 116 (AM (J 115))
(G 117 (Dr 3 1 (J 116) (BY (W (AI AT 1))) By By)
(G 118 (AS 99 [(J 117)])
(G 119 (Bh (J 0))
(G 120 (AE 4 (J 119))
(cDo (AZ 1 (J 120) (J 118))
(B2 (G 123 (Bh (J 0))
(G 124 (AE 3 (J 123))
(G 125 (AM (J 124))
(G 126 (Ac .weak (AS 100 [(J 125)]))
(Ee (J 12) (Ci (J 12) []
(G 127 (BC 5 (J 12))
(G 129 (BG EA.zero [(0,5,(J 127)),(5,1,(J 14))])
(G 130 (Ac .AEv (Ab 1 (BP EA.zero 1) [(0,6,(J 129))]))
(G 131 (Ac .free (Bk 6 64 124 (J 126) (J 130)))
(G 132 (Bh (J 0))
(G 133 (AE 3 (J 132))
(cDo (Ac .free (AZ 1 (J 133) (J 131)))
(G 135 (Bh (J 0))
(G 136 (AE 3 (J 135))
(G 137 (AM (J 136))
(G 138 (AS 70 [(J 137),(W (.func (.func 71) #[] #[]))])
(G 10 (AP (W (AI AT 0)))
Ai))))))))))))))))))))))))))))))))))
def kY:C:=(B2 (G 81 (Bh (J 0))
(G 82 (AE 1 (J 81))
(G 83 (AM (J 82))
(G 84 (BC 5 (J 12))
(G 85 (Ac .free (AS 95 [(J 83),(J 84)]))
(G 86 (AU 0 (J 85))
(G 87 (AU 1 (J 85))
(G 15 (Aa 86)
(G 16 (Aa 87)
(G 17 (AP (W (.slice By 0 0)))
(G 89 (BZ (J 4))
(G 90 (Af iGt .i64 (J 89) (W (AI AT 0)))
(BB (Bg 90
(B2 (G 94 (Ac .weak (AS 97 [(J 0),(J 14)]))
(G 95 (CH .i64 (BE .i64) (J 94) (W (AI AT 1)))
(G 96 (AE 4 (J 12))
(Ee (J 96) (Ci (J 96) []
(G 97 (AM (J 96))
(G 98 (Ac .free (AS 96 [(J 0),(J 95),(J 97)]))
(G 17 (Aa 98)
Ar)))))))))
Ar)
prC))))))))))))))
def prB:C:=kY
def OU:C:=(G 10 (AP (W (AI AT 0)))
(G 20 (AS 89 [(J 0)])
(G 11 (Aa 20)
(G 22 (Af iNe .i64 (J 11) (W (AI AT 0)))
(Bg 22
(G 10 (Aa 11)
Ai)
(G 28 (AS 90 [(J 4)])
(G 29 (BG Iu.zero [(0,1,(J 1)),(1,1,(J 2)),(2,1,(J 3)),(3,1,(W (.int .u8 1))),(4,1,(J 28))])
(G 12 (BN 5 DV)
(cDo (AZ 5 (J 12) (J 29))
(G 30 (BC 5 (J 12))
(G 31 (AS 91 [(J 30)])
(G 32 (DG (J 31))
(Ae 32 IT 34 (Aa 4)
(Ae 32 IT 35 (BZ (J 34))
(Ae 32 IT 36 (Aa 0)
(Ae 32 IT 37 (Bh (J 36))
(Ae 32 IT 38 (AE 2 (J 37))
(Ae 32 IT 39 (AM (J 38))
(Ae 32 IT 40 (Af iGt .i64 (J 35) (J 39))
(G 41 (A2 (J 32) (W (.bool IN)) (J 40))
(Bg 41
(G 10 (AP (W (AI AT 2)))
Ai)
(G 46 (AS 92 [(J 0),(J 1),(J 2),(J 3)])
(G 13 (Aa 46)
(G 48 (Af iGe .i64 (J 13) (W (AI AT 0)))
(Bg 48
(G 50 (Bh (J 0))
(G 51 (AE 3 (J 50))
(G 52 (AM (J 51))
(G 54 (CI 6 (J 52) (J 13))
(G 55 (AE 0 (J 54))
(G 56 (AE 4 (J 55))
(G 57 (AM (J 56))
(G 59 (AS 93 [(J 57),(J 4)])
(Bg 59
(G 10 (AP (W (AI AT 0)))
Ai)
(G 10 (AP (W (AI AT 60)))
Ai))))))))))
(BB (AY 0 (G 65 (AS 94 [(J 0),(J 1),(J 2),(J 3)])
(G 60 (Aa 65)
(Bg 60
(G 10 (AP (W (AI AT 61)))
Ai)
(G 68 (Bh (J 0))
(G 69 (AE 4 (J 68))
(G 70 (AM (J 69))
(G 71 (BZ (J 70))
(G 72 (Af iEq .i64 (J 71) (W (AI AT 0)))
(G 66 (Aa 72)
(Bg 66
(G 10 (AP (W (AI AT 62)))
Ai)
Ar)))))))))))
(G 74 (Bh (J 0))
(G 75 (AE 4 (J 74))
(G 76 (AM (J 75))
(G 77 (CI 1 (J 76) (W (AI AT 0)))
(G 78 (AM (J 77))
(G 14 (Aa 78)
prB))))))))))))))))))))))))))))))))
def d54:C:=OU
def b54:Body:=⟨[.t (J 10)],d54⟩
def cmE:C:=(G 141 (AS 77 [(J 0),(J 15)])
(G 8 (Aa 141)
Ai))
def cmL:C:=(G 100 (Bh (J 0))
(G 101 (AE 3 (J 100))
(G 102 (AM (J 101))
(G 103 (BZ (J 102))
(G 104 (Af iLt .i64 (J 16) (J 103))
(Bg 104
(AY 2 (G 106 (Bh (J 0))
(G 107 (AE 3 (J 106))
(G 108 (AM (J 107))
(G 110 (CI 6 (J 108) (J 16))
(G 111 (BC 6 (J 110))
(G 17 (BN 6 C1)
(cDo (AZ 6 (J 17) (J 111))
(G 112 (AE 0 (J 17))
(G 113 (AE 0 (J 112))
(G 114 (AM (J 113))
(G 116 (Af iEq .i64 (J 114) (J 1))
(Ae 116 IN 118 (AE 0 (J 17))
(Ae 116 IN 119 (AE 1 (J 118))
(Ae 116 IN 120 (AM (J 119))
(Ae 116 IN 121 (Aa 2)
(Ae 116 IN 122 (Af iEq .i64 (J 120) (J 121))
(G 123 (A2 (J 116) (J 122) (W (.bool IT)))
(Ae 123 IN 125 (AE 0 (J 17))
(Ae 123 IN 126 (AE 2 (J 125))
(Ae 123 IN 127 (AM (J 126))
(Ae 123 IN 128 (Aa 3)
(Ae 123 IN 129 (Af iLt .i64 (J 127) (J 128))
(G 130 (A2 (J 123) (J 129) (W (.bool IT)))
(Bg 130
(G 134 (AS 101 [(J 0),(J 16)])
(G 135 (Ab 1 (BP ty3.zero 1) [(0,1,(J 134))])
(G 136 (Bk 1 8 3 (J 15) (J 135))
(G 15 (Aa 136)
Ar))))
(G 138 (CH .i64 (BE .i64) (J 16) (W (AI AT 1)))
(G 16 (Aa 138)
Ar)))))))))))))))))))))))))))
(CC 1)))))))
def cmS:C:=BB (AY 1 (A3 cmL)) cmE
def pz:C:=(B2 (G 63 (Bh (J 0))
(G 64 (AE 1 (J 63))
(G 65 (AM (J 64))
(G 66 (AE 0 (J 11))
(G 67 (BC 5 (J 66))
(G 68 (Ac .free (AS 95 [(J 65),(J 67)]))
(G 69 (AU 0 (J 68))
(G 70 (AU 1 (J 68))
(G 12 (Aa 69)
(G 13 (Aa 70)
(G 74 (AE 5 (J 11))
(G 75 (AM (J 74))
(G 76 (AS 97 [(J 0),(J 75)])
(G 78 (AS 96 [(J 0),(J 76),(J 12)])
(G 79 (AS 98 [(J 0),(J 78)])
(G 14 (Aa 79)
(G 81 (Af iNe .i64 (J 14) (W (AI AT 0)))
(Bg 81
(G 8 (Aa 14)
Ai)
(G 85 (Bh (J 0))
(G 86 (AE 3 (J 85))
(G 87 (AM (J 86))
(G 88 (AS 100 [(J 87)])
(G 89 (Bh (J 0))
(G 90 (AE 3 (J 89))
(cDo (AZ 1 (J 90) (J 88))
(B2 (G 92 (Bh (J 0))
(G 93 (AE 3 (J 92))
(G 94 (AM (J 93))
(G 96 (BC 6 (J 11))
(G 97 (CI 6 (J 94) (J 10))
(cDo (Ac .free (AZ 6 (J 97) (J 96)))
(G 15 (AP (W (.slice By 0 0)))
(G 16 (AP (W (AI AT 0)))
cmS)))))))))))))))))))))))))))))))))))
def cmB:C:=pz
def QA:C:=(G 8 (AP (W (AI AT 0)))
(G 19 (AS 89 [(J 0)])
(G 9 (Aa 19)
(G 21 (Af iNe .i64 (J 9) (W (AI AT 0)))
(Bg 21
(G 8 (Aa 9)
Ai)
(G 27 (AS 92 [(J 0),(J 1),(J 2),(J 3)])
(G 10 (Aa 27)
(BB (AY 0 (G 30 (Af iGe .i64 (J 10) (W (AI AT 0)))
(Ae 30 IN 32 (Aa 0)
(Ae 30 IN 33 (Bh (J 32))
(Ae 30 IN 34 (AE 3 (J 33))
(Ae 30 IN 35 (AM (J 34))
(Ae 30 IN 36 (Aa 10)
(Ae 30 IN 37 (CI 6 (J 35) (J 36))
(Ae 30 IN 38 (AE 0 (J 37))
(Ae 30 IN 39 (AE 3 (J 38))
(Ae 30 IN 40 (AM (J 39))
(Ae 30 IN 41 (Af iEq .u8 (J 40) (W (.int .u8 2)))
(G 42 (A2 (J 30) (J 41) (W (.bool IT)))
(G 28 (Aa 42)
(Bg 28
(G 8 (AP (W (AI AT 0)))
Ai)
(G 48 (AS 94 [(J 0),(J 1),(J 2),(J 3)])
(G 43 (Aa 48)
(Bg 43
(G 8 (AP (W (AI AT 61)))
Ai)
(G 51 (Af iLt .i64 (J 10) (W (AI AT 0)))
(G 49 (Aa 51)
(Bg 49
(G 8 (AP (W (AI AT 60)))
Ai)
Ar)))))))))))))))))))))
(G 53 (Bh (J 0))
(G 54 (AE 3 (J 53))
(G 55 (AM (J 54))
(G 57 (CI 6 (J 55) (J 10))
(G 58 (BC 6 (J 57))
(G 11 (BN 6 C1)
(cDo (AZ 6 (J 11) (J 58))
(G 59 (AE 0 (J 11))
(G 60 (AE 3 (J 59))
(cDo (AZ 1 (J 60) (W (.int .u8 2)))
cmB))))))))))))))))))
def d55:C:=QA
def b55:Body:=⟨[.t (J 8)],d55⟩
def d56:C:=
(G 8 (AP (W (AI AT 0)))
(G 12 (AS 89 [(J 0)])
(G 9 (Aa 12)
(G 14 (Af iNe .i64 (J 9) (W (AI AT 0)))
(Bg 14
(G 8 (Aa 9)
Ai)
(G 20 (AS 92 [(J 0),(J 1),(J 2),(J 3)])
(G 10 (Aa 20)
(BB (AY 0 (G 26 (AS 94 [(J 0),(J 1),(J 2),(J 3)])
(G 21 (Aa 26)
(Bg 21
(G 8 (AP (W (AI AT 61)))
Ai)
(G 29 (Af iLt .i64 (J 10) (W (AI AT 0)))
(G 27 (Aa 29)
(Bg 27
(G 8 (AP (W (AI AT 0)))
Ai)
Ar)))))))
(G 32 (AS 102 [(J 0),(J 10)])
(G 8 (Aa 32)
Ai))))))))))
def b56:Body:=⟨[.t (J 8)],d56⟩
def nfB:C:=(G 15 (Af iLt .i64 (J 14) (J 13))
(Bg 15
(BB (AY 1 (G 16 (CI 5 (J 12) (J 14))
(G 17 (BC 5 (J 16))
(G 7 (BN 5 DV)
(cDo (AZ 5 (J 7) (J 17))
(G 19 (BC 5 (J 7))
(G 20 (B4 (J 1) [(J 19)])
(Ae 20 IN 22 (Aa 5)
(Ae 20 IN 23 (BZ (J 22))
(Ae 20 IN 24 (Af iLt .i64 (J 23) (W (AI AT 50)))
(G 25 (A2 (J 20) (J 24) (W (.bool IT)))
(Bg 25
(G 27 (BC 5 (J 7))
(G 28 (AS 61 [(J 27)])
(G 29 (Ab 1 (BP KZ.zero 1) [(0,4,(J 28))])
(G 30 (Bk 4 32 90 (J 5) (J 29))
(G 5 (Aa 30)
Ar)))))
Ar))))))))))))
(G 31 (CH .i64 (BE .i64) (J 14) (W (AI AT 1)))
(G 14 (Aa 31)
Ar)))
(CC 0)))
def nfE:C:=(G 4 (Aa 5)
Ai)
def nfS:C:=BB (AY 0 (A3 nfB)) nfE
def iM:C:=(G 4 (AP (W (.slice By 0 0)))
(G 5 (AP (W (.slice By 0 0)))
(G 9 (Bh (J 0))
(G 10 (AE 2 (J 9))
(G 11 (AM (J 10))
(G 12 (AS 40 [(J 11)])
(G 13 (BZ (J 12))
(G 14 (AP (W (AI AT 0)))
nfS))))))))
def d57:C:=iM
def b57:Body:=⟨[.t (J 4)],d57⟩
def d58:C:=
(G 2 (CV (J 0))
(G 3 (AP (W (.bool IT)))
(G 4 (AE 0 (J 2))
(G 5 (AM (J 4))
(G 6 (AE 3 (J 1))
(G 7 (AM (J 6))
(G 8 (Af iEq .i64 (J 5) (J 7))
(Ae 8 IN 10 (AE 1 (J 2))
(Ae 8 IN 11 (AM (J 10))
(Ae 8 IN 12 (AE 4 (J 1))
(Ae 8 IN 13 (AM (J 12))
(Ae 8 IN 14 (Af iEq .i64 (J 11) (J 13))
(G 15 (A2 (J 8) (J 14) (W (.bool IT)))
(G 3 (Aa 15)
Ai))))))))))))))
def b58:Body:=⟨[.t (J 3)],d58⟩
def d59:C:=
(G 8 (BN 5 DV)
(G 9 (AP (W (.bool IT)))
(G 12 (oEq IP.k IT (J 0) (W (.pointer By)))
(Bg 12
(G 13 (BG Iu.zero [])
(cDo (AZ 5 (J 8) (J 13))
(G 9 (AP (W (.bool IT)))
Ai)))
(G 18 (AS 92 [(J 0),(J 1),(J 2),(J 3)])
(G 10 (Aa 18)
(G 20 (Af iLt .i64 (J 10) (W (AI AT 0)))
(Bg 20
(G 21 (BG Iu.zero [])
(cDo (AZ 5 (J 8) (J 21))
(G 9 (AP (W (.bool IT)))
Ai)))
(G 23 (Bh (J 0))
(G 24 (AE 3 (J 23))
(G 25 (AM (J 24))
(G 27 (CI 6 (J 25) (J 10))
(G 28 (BC 6 (J 27))
(G 29 (AS 78 [(J 28)])
(cDo (AZ 5 (J 8) (J 29))
(G 9 (AP (W (.bool IN)))
Ai))))))))))))))))
def b59:Body:=⟨[.cN (J 8) 5,.t (J 9)],d59⟩
def sdT:C:=(B2 (G 39 (Af iEq .i64 (J 13) (W (AI AT 0)))
(Ae 39 IN 41 (Aa 11)
(G 42 (A2 (J 39) (J 41) (W (.bool IT)))
(Ae 42 IN 44 (AE 0 (J 10))
(Ae 42 IN 45 (AE 0 (J 44))
(Ae 42 IN 46 (AM (J 45))
(Ae 42 IN 47 (Aa 1)
(Ae 42 IN 48 (Af iEq .i64 (J 46) (J 47))
(G 49 (A2 (J 42) (J 48) (W (.bool IT)))
(Ae 49 IN 51 (AE 0 (J 10))
(Ae 49 IN 52 (AE 1 (J 51))
(Ae 49 IN 53 (AM (J 52))
(Ae 49 IN 54 (Aa 2)
(Ae 49 IN 55 (Af iEq .i64 (J 53) (J 54))
(G 56 (A2 (J 49) (J 55) (W (.bool IT)))
(Ae 56 IN 58 (AE 0 (J 10))
(Ae 56 IN 59 (AE 2 (J 58))
(Ae 56 IN 60 (AM (J 59))
(Ae 56 IN 61 (Aa 3)
(Ae 56 IN 62 (Af iEq .i64 (J 60) (J 61))
(G 63 (A2 (J 56) (J 62) (W (.bool IT)))
(Ae 63 IN 65 (AE 0 (J 10))
(Ae 63 IN 66 (AE 3 (J 65))
(Ae 63 IN 67 (AM (J 66))
(Ae 63 IN 68 (Aa 0)
(Ae 63 IN 69 (Bh (J 68))
(Ae 63 IN 70 (AE 3 (J 69))
(Ae 63 IN 71 (AM (J 70))
(Ae 63 IN 72 (Aa 9)
(Ae 63 IN 73 (CI 6 (J 71) (J 72))
(Ae 63 IN 74 (AE 0 (J 73))
(Ae 63 IN 75 (AE 3 (J 74))
(Ae 63 IN 76 (AM (J 75))
(Ae 63 IN 77 (Af iEq .u8 (J 67) (J 76))
(G 78 (A2 (J 63) (J 77) (W (.bool IT)))
(Ae 78 IN 80 (AE 0 (J 10))
(Ae 78 IN 81 (AE 4 (J 80))
(Ae 78 IN 82 (AM (J 81))
(Ae 78 IN 83 (Aa 0)
(Ae 78 IN 84 (Bh (J 83))
(Ae 78 IN 85 (AE 3 (J 84))
(Ae 78 IN 86 (AM (J 85))
(Ae 78 IN 87 (Aa 9)
(Ae 78 IN 88 (CI 6 (J 86) (J 87))
(Ae 78 IN 89 (AE 0 (J 88))
(Ae 78 IN 90 (AE 4 (J 89))
(Ae 78 IN 91 (AM (J 90))
(Ae 78 IN 92 (Ac .free (AS 93 [(J 82),(J 91)]))
(G 93 (A2 (J 78) (J 92) (W (.bool IT)))
(G 8 (Aa 93)
Ai)))))))))))))))))))))))))))))))))))))))))))))))))))
def YW:C:=(G 8 (AP (W (.bool IT)))
(G 15 (oEq IP.k IT (J 0) (W (.pointer By)))
(Bg 15
(G 8 (AP (W (.bool IT)))
Ai)
(G 20 (AS 92 [(J 0),(J 1),(J 2),(J 3)])
(G 9 (Aa 20)
(G 22 (Af iLt .i64 (J 9) (W (AI AT 0)))
(Bg 22
(G 8 (AP (W (.bool IT)))
Ai)
(G 26 (Bh (J 0))
(G 27 (AE 3 (J 26))
(G 28 (AM (J 27))
(G 30 (CI 6 (J 28) (J 9))
(G 31 (AE 5 (J 30))
(G 32 (AM (J 31))
(G 33 (AS 69 [(J 0),(J 32)])
(G 34 (AU 0 (J 33))
(G 35 (AU 1 (J 33))
(G 36 (AU 2 (J 33))
(G 37 (AU 3 (J 33))
(G 10 (BN 6 C1)
(cDo (AZ 6 (J 10) (J 34))
(G 11 (Aa 35)
(G 12 (Aa 36)
(G 13 (Aa 37)
sdT)))))))))))))))))))))))
def d60:C:=YW
def b60:Body:=⟨[.t (J 8)],d60⟩
def d61:C:=
(G 1 (CV (J 0))
(G 2 (BN 4 ZW)
(G 3 (AE 0 (J 1))
(G 4 (AM (J 3))
(G 5 (AE 1 (J 1))
(G 6 (AM (J 5))
(G 7 (AE 2 (J 1))
(G 8 (AM (J 7))
(G 9 (AE 3 (J 1))
(G 10 (AM (J 9))
(G 11 (BG KZ.zero [(0,1,(J 4)),(1,1,(J 6)),(2,1,(J 8)),(3,1,(J 10))])
(cDo (AZ 4 (J 2) (J 11))
Ai))))))))))))
def b61:Body:=⟨[.cN (J 2) 4],d61⟩
def d62:C:=
(G 2 (CV (J 0))
(G 3 (AP (W (.bool IT)))
(BB (AY 0 (G 5 (AE 0 (J 2))
(G 6 (AM (J 5))
(G 7 (AE 3 (J 1))
(G 8 (AM (J 7))
(G 9 (Af iNe .i64 (J 6) (J 8))
(G 4 (Aa 9)
(Bg 4
(G 10 (AE 0 (J 2))
(G 11 (AM (J 10))
(G 12 (AE 3 (J 1))
(G 13 (AM (J 12))
(G 14 (Af iGt .i64 (J 11) (J 13))
(G 3 (Aa 14)
Ai))))))
(G 16 (AE 1 (J 2))
(G 17 (AM (J 16))
(G 18 (AE 4 (J 1))
(G 19 (AM (J 18))
(G 20 (Af iNe .i64 (J 17) (J 19))
(G 15 (Aa 20)
(Bg 15
(G 21 (AE 1 (J 2))
(G 22 (AM (J 21))
(G 23 (AE 4 (J 1))
(G 24 (AM (J 23))
(G 25 (Af iGt .i64 (J 22) (J 24))
(G 3 (Aa 25)
Ai))))))
Ar)))))))))))))))
(G 26 (AE 2 (J 2))
(G 27 (AM (J 26))
(G 28 (AE 5 (J 1))
(G 29 (AM (J 28))
(G 30 (Af iGt .i64 (J 27) (J 29))
(G 3 (Aa 30)
Ai)))))))))
def b62:Body:=⟨[.t (J 3)],d62⟩
def dpE:C:=(G 8 (AP (W (AI AT 0)))
Ai)
def dpL:C:=(G 25 (Af iGe .i64 (J 10) (W (AI AT 0)))
(Bg 25
(BB (AY 1 (G 29 (Bh (J 0))
(G 30 (AE 3 (J 29))
(G 31 (AM (J 30))
(G 33 (CI 6 (J 31) (J 10))
(G 34 (BC 6 (J 33))
(G 11 (BN 6 C1)
(cDo (AZ 6 (J 11) (J 34))
(G 35 (AE 0 (J 11))
(G 36 (AE 0 (J 35))
(G 37 (AM (J 36))
(G 39 (Af iEq .i64 (J 37) (J 1))
(Ae 39 IN 41 (AE 0 (J 11))
(Ae 39 IN 42 (AE 1 (J 41))
(Ae 39 IN 43 (AM (J 42))
(Ae 39 IN 44 (Aa 2)
(Ae 39 IN 45 (Af iEq .i64 (J 43) (J 44))
(G 46 (A2 (J 39) (J 45) (W (.bool IT)))
(Ae 46 IN 48 (AE 0 (J 11))
(Ae 46 IN 49 (AE 2 (J 48))
(Ae 46 IN 50 (AM (J 49))
(Ae 46 IN 51 (Aa 3)
(Ae 46 IN 52 (Af iLe .i64 (J 50) (J 51))
(G 53 (A2 (J 46) (J 52) (W (.bool IT)))
(Bg 53
(G 56 (AS 102 [(J 0),(J 10)])
(G 12 (Aa 56)
(G 58 (Af iNe .i64 (J 12) (W (AI AT 0)))
(Bg 58
(G 8 (Aa 12)
Ai)
Ar))))
Ar)))))))))))))))))))))))))
(G 27 (C8 yi .i64 (J 10) (W (AI AT 1)))
(G 10 (Aa 27)
Ar)))
(CC 0)))
def dpS:C:=BB (AY 0 (A3 dpL)) dpE
def iO:C:=(G 8 (AP (W (AI AT 0)))
(G 14 (AS 89 [(J 0)])
(G 9 (Aa 14)
(G 16 (Af iNe .i64 (J 9) (W (AI AT 0)))
(Bg 16
(G 8 (Aa 9)
Ai)
(G 19 (Bh (J 0))
(G 20 (AE 3 (J 19))
(G 21 (AM (J 20))
(G 22 (BZ (J 21))
(G 23 (C8 yi .i64 (J 22) (W (AI AT 1)))
(G 10 (Aa 23)
dpS)))))))))))
def d63:C:=iO
def b63:Body:=⟨[.t (J 8)],d63⟩
def d64:C:=
(G 6 (AP (W (.bool IT)))
(G 9 (Af iGe .i64 (J 0) (J 1))
(Ae 9 IN 11 (Aa 0)
(Ae 9 IN 12 (Aa 2)
(Ae 9 IN 13 (Af iLe .i64 (J 11) (J 12))
(G 14 (A2 (J 9) (J 13) (W (.bool IT)))
(G 6 (Aa 14)
Ai)))))))
def b64:Body:=⟨[.t (J 6)],d64⟩
def d67:C:=
(G 2 (AP (W (AI AT 0)))
(G 4 (AS 26 [(J 0)])
(Bg 4
(G 2 (AP (W (AI AT 0)))
Ai)
(G 6 (Bh (J 0))
(G 7 (AE 0 (J 6))
(G 8 (AM (J 7))
(G 9 (BZ (J 8))
(G 2 (Aa 9)
Ai))))))))
def b67:Body:=⟨[.t (J 2)],d67⟩
def d68:C:=
(G 2 (AP (W (AI AT 0)))
(G 4 (Af iLt .i64 (J 0) (W (AI AT 0)))
(Ae 4 IT 6 (Aa 0)
(Ae 4 IT 7 (Af iGt .i64 (J 6) (W (AI AT 65536)))
(G 8 (A2 (J 4) (W (.bool IN)) (J 7))
(Bg 8
(G 2 (AP (W (AI AT 0)))
Ai)
(G 10 (CH .i64 (BE .i64) (J 0) (W (AI AT 64)))
(G 11 (C8 yi .i64 (J 10) (W (AI AT 1)))
(G 12 (L8 .i64 (J 11) (W (AI AT 64)))
(G 13 (CH .i64 (BE .i64) (W (AI AT 1)) (J 12))
(G 2 (Aa 13)
Ai)))))))))))
def b68:Body:=⟨[.t (J 2)],d68⟩
def lkC:C:=(G 61 (AS 110 [(J 0),(J 1),(J 12)])
(G 62 (AU 0 (J 61))
(G 63 (AU 1 (J 61))
(G 64 (AE 4 (J 11))
(cDo (AZ 1 (J 64) (J 62))
(G 9 (Aa 63)
(G 66 (Af iNe .i64 (J 9) (W (AI AT 0)))
(Bg 66
(G 67 (BG EA.zero [])
(cDo (AZ 6 (J 4) (J 67))
(G 5 (AP (W (.bool IT)))
(G 6 (AP (W (.bool IT)))
(G 7 (Aa 9)
Ai)))))
(B2 (G 70 (Bh (J 0))
(G 71 (AE 1 (J 70))
(G 72 (AM (J 71))
(G 73 (AE 4 (J 11))
(G 74 (AM (J 73))
(G 75 (Ac .free (AS 80 [(J 72),(J 74)]))
(G 77 (Af iNe .u32 (J 75) (J 13))
(Bg 77
(G 78 (BG EA.zero [])
(cDo (AZ 6 (J 4) (J 78))
(G 5 (AP (W (.bool IT)))
(G 6 (AP (W (.bool IN)))
(G 7 (AP (W (AI AT 0)))
Ai)))))
(G 79 (BC 5 (J 11))
(G 81 (BG EA.zero [(0,5,(J 79)),(5,1,(J 1))])
(cDo (AZ 6 (J 4) (J 81))
(G 5 (AP (W (.bool IN)))
(G 6 (AP (W (.bool IT)))
(G 7 (AP (W (AI AT 0)))
Ai)))))))))))))))))))))))
def Yn:C:=(G 45 (DG (J 14))
(Ae 45 IT 47 (Aa 12)
(Ae 45 IT 48 (Aa 0)
(Ae 45 IT 49 (Bh (J 48))
(Ae 45 IT 50 (AE 2 (J 49))
(Ae 45 IT 51 (AM (J 50))
(Ae 45 IT 52 (Af iGt .i64 (J 47) (J 51))
(G 53 (A2 (J 45) (W (.bool IN)) (J 52))
(Bg 53
(G 54 (BG EA.zero [])
(G 56 (DG (J 10))
(cDo (AZ 6 (J 4) (J 54))
(G 5 (AP (W (.bool IT)))
(G 6 (Aa 56)
(G 7 (AP (W (AI AT 0)))
Ai))))))
lkC)))))))))
def lkB:C:=Yn
def YX:C:=(G 4 (BN 6 C1)
(G 5 (AP (W (.bool IT)))
(G 6 (AP (W (.bool IT)))
(G 7 (AP (W (AI AT 0)))
(B2 (G 17 (Bh (J 0))
(G 18 (AE 0 (J 17))
(Ee (J 18) (Ci (J 18) []
(G 19 (AM (J 18))
(G 22 (Ac .weak (AS 97 [(J 0),(J 1)]))
(G 23 (Ac .free (AS 106 [(J 19),(J 22)]))
(G 24 (AU 0 (J 23))
(G 25 (AU 1 (J 23))
(G 8 (Aa 24)
(G 9 (Aa 25)
(G 27 (Af iNe .i64 (J 9) (W (AI AT 0)))
(Bg 27
(G 28 (BG EA.zero [])
(cDo (AZ 6 (J 4) (J 28))
(G 5 (AP (W (.bool IT)))
(G 6 (AP (W (.bool IT)))
(G 7 (Aa 9)
Ai)))))
(G 31 (AS 107 [(J 8),(W (.func (.func 108) #[] #[]))])
(G 32 (DG (J 31))
(G 10 (Aa 32)
(G 35 (Bh (J 0))
(G 36 (AE 1 (J 35))
(G 37 (AM (J 36))
(G 39 (AS 109 [(J 37),(J 8)])
(G 40 (AU 0 (J 39))
(G 41 (AU 1 (J 39))
(G 42 (AU 2 (J 39))
(G 43 (AU 3 (J 39))
(G 11 (BN 5 DV)
(cDo (AZ 5 (J 11) (J 40))
(G 12 (Aa 41)
(G 13 (Aa 42)
(G 14 (Aa 43)
lkB))))))))))))))))))))))))))))))))))
def d69:C:=YX
def b69:Body:=⟨[.cN (J 4) 6,.t (J 5),.t (J 6),.t (J 7)],d69⟩
def d70:C:=
(G 6 (BZ (J 0))
(G 4 (Aa 6)
(G 10 (CW .u64 (J 4))
(G 11 (AS 112 [(J 10)])
(G 13 (AS 111 [(J 0),(W (AI AT 0)),(J 4),(J 11),(J 1)])
Ar)))))
def b70:Body:=⟨[],d70⟩
def d71:C:=
(G 2 (CV (J 0))
(G 3 (CV (J 1))
(G 4 (AP (W (AI AT 0)))
(B2 (G 5 (AE 0 (J 2))
(G 6 (AE 0 (J 5))
(G 7 (AM (J 6))
(G 8 (AE 0 (J 3))
(G 9 (AE 0 (J 8))
(G 10 (AM (J 9))
(G 11 (Ac .weak (AS 114 [(J 7),(J 10)]))
(G 12 (AE 0 (J 2))
(G 13 (AE 1 (J 12))
(Ee (J 13) (Ci (J 13) []
(G 14 (AM (J 13))
(G 15 (AE 0 (J 3))
(G 16 (AE 1 (J 15))
(Ee (J 16) (Ci (J 16) []
(G 17 (AM (J 16))
(G 18 (Ac .weak (AS 114 [(J 14),(J 17)]))
(G 19 (AE 0 (J 2))
(G 20 (AE 2 (J 19))
(Ee (J 20) (Ci (J 20) []
(G 21 (AM (J 20))
(G 22 (AE 0 (J 3))
(G 23 (AE 2 (J 22))
(Ee (J 23) (Ci (J 23) []
(G 24 (AM (J 23))
(G 25 (Ac .weak (AS 114 [(J 21),(J 24)]))
(G 26 (AE 5 (J 2))
(Ee (J 26) (Ci (J 26) []
(G 27 (AM (J 26))
(G 28 (AE 5 (J 3))
(Ee (J 28) (Ci (J 28) []
(G 29 (AM (J 28))
(G 30 (Ac .free (AS 114 [(J 27),(J 29)]))
(G 31 (Ac .AEv (Ab 4 (BP ty3.zero 4) [(0,1,(J 11)),(1,1,(J 18)),(2,1,(J 25)),(3,1,(J 30))]))
(G 32 (Ac .free (AS 113 [(J 31)]))
(G 4 (Aa 32)
Ai)))))))))))))))))))))))))))))))))))))))))))))
def b71:Body:=⟨[.t (J 4)],d71⟩
def coB:C:=(G 11 (Af iLt .i64 (J 10) (J 9))
(Bg 11
(BB (AY 1 (G 13 (CI 6 (J 8) (J 10))
(G 14 (BC 6 (J 13))
(G 5 (BN 6 C1)
(G 4 (Aa 10)
(cDo (AZ 6 (J 5) (J 14))
(G 15 (EZ (.func 115) [] [(J 5)])
(G 6 (Aa 15)
(G 16 (EZ (.func 116) [] [(J 5)])
(G 7 (Aa 16)
(G 19 (AS 74 [(J 0),(J 6)])
(G 20 (DG (J 19))
(Ae 20 IN 22 (Aa 0)
(Ae 20 IN 23 (Aa 4)
(Ae 20 IN 24 (Dr 124 6 (J 22) By (BY (J 23)) By)
(Ae 20 IN 25 (Aa 7)
(Ae 20 IN 26 (AS 74 [(J 24),(J 25)])
(Ae 20 IN 27 (DG (J 26))
(G 28 (A2 (J 20) (J 27) (W (.bool IT)))
(Bg 28
(G 30 (BC 6 (J 5))
(G 31 (Ab 1 (BP EA.zero 1) [(0,6,(J 30))])
(G 32 (Bk 6 64 124 (J 3) (J 31))
(G 3 (Aa 32)
Ar))))
Ar))))))))))))))))))))
(G 33 (CH .i64 (BE .i64) (J 10) (W (AI AT 1)))
(G 10 (Aa 33)
Ar)))
(CC 0)))
def coE:C:=G 2 (Aa 3) Ai
def coS:C:=BB (AY 0 (A3 coB)) coE
def iP:C:=(G 2 (AP (W (.slice By 0 0)))
(G 3 (AP (W (.slice By 0 0)))
(G 8 (Aa 0)
(G 9 (BZ (J 8))
(G 10 (AP (W (AI AT 0)))
coS)))))
def d72:C:=iP
def b72:Body:=⟨[.t (J 2)],d72⟩
def d73:C:=
(G 2 (CV (J 0))
(G 3 (AP (W (.bool IT)))
(G 4 (AM (J 1))
(G 5 (Bh (J 4))
(G 6 (AE 3 (J 5))
(G 7 (AM (J 6))
(G 8 (EZ (.func 75) [] [(J 2)])
(G 9 (AS 74 [(J 7),(J 8)])
(G 3 (Aa 9)
Ai)))))))))
def b73:Body:=⟨[.t (J 3)],d73⟩
def d74:C:=
(G 4 (AP (W (.bool IT)))
(G 7 (AS 117 [(J 0),(J 1)])
(G 8 (Af iGe .i64 (J 7) (W (AI AT 0)))
(G 4 (Aa 8)
Ai))))
def b74:Body:=⟨[.t (J 4)],d74⟩
def d76:C:=
(G 4 (AP (W (.bool IT)))
(G 7 (AS 118 [(J 0),(J 1)])
(G 8 (Af iGe .i64 (J 7) (W (AI AT 0)))
(G 4 (Aa 8)
Ai))))
def b76:Body:=⟨[.t (J 4)],d76⟩
def skB:C:=(G 14 (Af iLt .i64 (J 13) (J 12))
(Bg 14
(BB (AY 1 (G 15 (CI 1 (J 11) (J 13))
(G 16 (AM (J 15))
(G 7 (BN 1 zt3)
(cDo (AZ 1 (J 7) (J 16))
(G 18 (EZ (.func 119) [] [(J 2),(J 7)])
(G 19 (Ab 1 (BP Te.zero 1) [(0,1,(J 18))])
(G 20 (Bk 1 8 70 (J 5) (J 19))
(G 5 (Aa 20)
Ar)))))))))
(G 21 (CH .i64 (BE .i64) (J 13) (W (AI AT 1)))
(G 13 (Aa 21)
Ar)))
(CC 0)))
def skE:C:=(B2 (G 22 (AM (J 2))
(G 24 (AM (J 2))
(G 25 (Bh (J 24))
(G 26 (AE 0 (J 25))
(G 27 (AM (J 26))
(G 28 (EZ (.func 121) [(J 27)] [])
(G 29 (Ac .AEv (Ab 1 (BP Te.zero 1) [(0,1,(J 28))]))
(Ci (J 5) [(J 2)]
(G 30 (JQ (J 5) (Bk 1 8 70 (J 5) (J 29)))
(G 31 (Ac .free (AS 98 [(J 22),(J 30)]))
(G 4 (Aa 31)
Ai))))))))))))
def skS:C:=BB (AY 0 (A3 skB)) skE
def YY:C:=(G 2 (CV (J 0))
(G 4 (AP (W (AI AT 0)))
(G 9 (BZ (J 1))
(G 10 (Af iEq .i64 (J 9) (W (AI AT 0)))
(Bg 10
(G 4 (AP (W (AI AT 0)))
Ai)
(G 5 (AP (W (.slice By 0 0)))
(G 11 (Aa 1)
(G 12 (BZ (J 11))
(G 13 (AP (W (AI AT 0)))
skS)))))))))
def d77:C:=YY
def b77:Body:=⟨[.t (J 4)],d77⟩
def d78:C:=
(G 1 (CV (J 0))
(G 2 (BN 5 DV)
(G 3 (AE 0 (J 1))
(G 4 (AE 4 (J 3))
(G 5 (AM (J 4))
(G 6 (AS 90 [(J 5)])
(G 7 (AE 0 (J 1))
(G 8 (AE 4 (J 7))
(cDo (AZ 1 (J 8) (J 6))
(G 9 (AE 0 (J 1))
(G 10 (BC 5 (J 9))
(cDo (AZ 5 (J 2) (J 10))
Ai))))))))))))
def b78:Body:=⟨[.cN (J 2) 5],d78⟩
def OL:C:=(G 6 (Af iGt .u64 (J 1) (W (.int .u64 127)))
(Bg 6
(AY 1 (G 9 (Sk .u64 (J 1) (W (.int .u64 128)))
(G 10 (CH .u64 (BE .u64) (J 9) (W (.int .u64 128)))
(G 11 (CW .u8 (J 10))
(G 12 (Ab 1 (BP ty5.zero 1) [(0,1,(J 11))])
(G 13 (Bk 1 1 5 (J 0) (J 12))
(G 15 (L8 .u64 (J 1) (W (.int .u64 128)))
(G 0 (Aa 13)
(G 1 (Aa 15)
Ar)))))))))
(CC 0)))
def fQ:C:=(G 18 (CW .u8 (J 1))
(G 19 (Ab 1 (BP ty5.zero 1) [(0,1,(J 18))])
(G 20 (Bk 1 1 5 (J 0) (J 19))
(G 4 (Aa 20)
Ai))))
def d79:C:=G 4 (AP (W (.slice By 0 0))) (BB (AY 0 (A3 OL)) fQ)
def b79:Body:=⟨[.t (J 4)],d79⟩
def suB:C:=(G 12 (Af iLt .i64 (J 11) (J 10))
(Bg 12
(BB (AY 1 (G 6 (Aa 11)
(B2 (G 16 (CW .u8 (J 5))
(G 19 (CI 1 (J 1) (J 6))
(G 20 (AM (J 19))
(G 21 (LU AAG .u8 (J 16) (J 20))
(G 22 (Bh (J 0))
(G 23 (Cv 256 1 (J 22) (J 21))
(G 24 (AM (J 23))
(G 26 (L9 .u32 (J 5) (W (.int .u64 8)))
(G 27 (LU AAG .u32 (J 24) (J 26))
(G 5 (Aa 27)
Ar)))))))))))))
(G 28 (CH .i64 (BE .i64) (J 11) (W (AI AT 1)))
(G 11 (Aa 28)
Ar)))
(CC 0)))
def suE:C:=(G 30 (C8 yi .u32 (W (.int .u32 4294967295)) (J 5))
(G 4 (Aa 30)
Ai))
def suS:C:=BB (AY 0 (A3 suB)) suE
def iQ:C:=(G 4 (AP (W (.int .u32 0)))
(G 8 (oEq Td.k IT (J 0) (W (.pointer By)))
(Bg 8
(G 4 (AP (W (.int .u32 0)))
Ai)
(G 5 (AP (W (.int .u32 4294967295)))
(G 10 (BZ (J 1))
(G 11 (AP (W (AI AT 0)))
suS))))))
def d80:C:=iQ
def b80:Body:=⟨[.t (J 4)],d80⟩
def ccA:C:=(G 12 (Af iLt .i64 (J 11) (J 10))
(Bg 12
(BB (AY 1 (G 13 (CI 1 (J 9) (J 11))
(G 14 (AM (J 13))
(G 5 (Aa 14)
(G 17 (BZ (J 5))
(G 18 (CH .i64 (BE .i64) (J 3) (J 17))
(G 3 (Aa 18)
(G 20 (Af iLt .i64 (J 3) (W (AI AT 0)))
(Bg 20
(G 21 (JT 9 (W (.string ⟨#[108,101,110,32,111,117,116,32,111,102,32,114,97,110,103,101]⟩)))
(cDo oNo
Ar))
Ar)))))))))
(G 22 (CH .i64 (BE .i64) (J 11) (W (AI AT 1)))
(G 11 (Aa 22)
Ar)))
(CC 0)))
def ccB:C:=(G 28 (Af iLt .i64 (J 27) (J 26))
(Bg 28
(BB (AY 3 (G 29 (CI 1 (J 25) (J 27))
(G 30 (AM (J 29))
(G 8 (Aa 30)
(G 33 (Bk 1 1 5 (J 6) (J 8))
(G 6 (Aa 33)
Ar))))))
(G 34 (CH .i64 (BE .i64) (J 27) (W (AI AT 1)))
(G 27 (Aa 34)
Ar)))
(CC 2)))
def ccE:C:=(G 2 (Aa 6)
Ai)
def ccT:C:=BB (AY 2 (A3 ccB)) ccE
def pn:C:=(G 24 (AS 122 [(W (.slice By 0 0)),(J 3)])
(G 6 (Aa 24)
(G 25 (Aa 0)
(G 26 (BZ (J 25))
(G 27 (AP (W (AI AT 0)))
ccT)))))
def ccM:C:=pn
def ccS:C:=BB (AY 0 (A3 ccA)) ccM
def iR:C:=(G 2 (AP (W (.slice By 0 0)))
(G 3 (AP (W (AI AT 0)))
(G 9 (Aa 0)
(G 10 (BZ (J 9))
(G 11 (AP (W (AI AT 0)))
ccS)))))
def d81:C:=iR
def b81:Body:=⟨[.t (J 2)],d81⟩
def d82:C:=
(G 4 (AP (W (.slice By 0 0)))
(G 5 (AP (W (AI AT 0)))
(G 8 (BZ (J 1))
(G 9 (Af iLt .i64 (J 8) (W (AI AT 4)))
(Bg 9
(G 4 (AP (W (.slice By 0 0)))
(G 5 (AP (W (AI AT 11)))
Ai))
(G 12 (BZ (J 1))
(G 13 (C8 yi .i64 (J 12) (W (AI AT 4)))
(G 14 (Dr 5 1 (J 1) By (BY (J 13)) By)
(G 15 (AS 90 [(J 14)])
(G 6 (Aa 15)
(B2 (G 18 (Ac .weak (AS 46 [(J 0),(J 6)]))
(G 19 (Fw (J 18))
(Ee (J 1) (Ci (J 1) []
(G 21 (Fw (J 1))
(G 22 (KA (λa b=> !bEq a b) (J 19) (J 21))
(Bg 22
(G 4 (AP (W (.slice By 0 0)))
(G 5 (AP (W (AI AT 12)))
Ai))
(G 4 (Aa 6)
(G 5 (AP (W (AI AT 0)))
Ai))))))))))))))))))))
def b82:Body:=⟨[.t (J 4),.t (J 5)],d82⟩
def d83:C:=
(G 5 (AP (W (AI AT 0)))
(G 9 (AM (J 1))
(Bg 9
(G 5 (AP (W (AI AT 0)))
Ai)
(G 11 (AM (J 2))
(G 12 (AM (J 3))
(G 13 (AS 84 [(J 11),(J 12)])
(G 14 (AU 0 (J 13))
(G 15 (AU 1 (J 13))
(G 16 (AU 2 (J 13))
(G 6 (Aa 14)
(G 7 (Aa 15)
(G 8 (Aa 16)
(G 18 (Af iNe .i64 (J 8) (W (AI AT 0)))
(Ae 18 IT 20 (Aa 6)
(Ae 18 IT 21 (Aa 0)
(Ae 18 IT 22 (CW .u64 (J 21))
(Ae 18 IT 23 (Af iGt .u64 (J 20) (J 22))
(G 24 (A2 (J 18) (W (.bool IN)) (J 23))
(cDo (AZ 1 (J 1) (J 24))
(G 25 (AM (J 1))
(Bg 25
(G 5 (AP (W (AI AT 0)))
Ai)
(cDo (AZ 1 (J 3) (J 7))
(G 28 (CW .i64 (J 6))
(G 5 (Aa 28)
Ai))))))))))))))))))))))))
def b83:Body:=⟨[.t (J 5)],d83⟩
def Rx:C:=(G 22 (BZ (J 0))
(G 23 (Af iLt .i64 (J 8) (J 22))
(Bg 23
(BB (AY 1 (G 28 (CI 1 (J 0) (J 8))
(G 29 (AM (J 28))
(G 32 (C8 yi .i64 (J 8) (J 1))
(G 9 (Aa 29)
(G 10 (Aa 32)
(G 34 (Af iGt .i64 (J 10) (W (AI AT 0)))
(Ae 34 IN 36 (Aa 9)
(Ae 34 IN 37 (Af iEq .u8 (J 36) (W (.int .u8 0)))
(G 38 (A2 (J 34) (J 37) (W (.bool IT)))
(Ae 38 IT 40 (Aa 10)
(Ae 38 IT 41 (Af iGt .i64 (J 40) (W (AI AT 8)))
(Ae 38 IT 42 (Aa 41)
(Ae 42 IN 43 (Aa 9)
(Ae 42 IN 44 (Af iGt .u8 (J 43) (W (.int .u8 1)))
(Ae 38 IT 45 (A2 (J 42) (J 44) (W (.bool IT)))
(G 46 (A2 (J 38) (W (.bool IN)) (J 45))
(Bg 46
(G 4 (AP (W (.int .u64 0)))
(G 5 (AP (W (AI AT 0)))
(G 6 (AP (W (AI AT 10)))
Ai)))
(G 49 (Sk .u8 (J 9) (W (.int .u8 128)))
(G 50 (CW .u64 (J 49))
(G 52 (C8 ABr .i64 (W (AI AT 7)) (J 10))
(G 53 (Ob .u64 (J 50) (J 52))
(G 54 (CH .u64 (BE .u64) (J 7) (J 53))
(G 7 (Aa 54)
(G 56 (Af iLt .u8 (J 9) (W (.int .u8 128)))
(Bg 56
(G 59 (CH .i64 (BE .i64) (J 8) (W (AI AT 1)))
(G 4 (Aa 7)
(G 5 (Aa 59)
(G 6 (AP (W (AI AT 0)))
Ai))))
Ar))))))))))))))))))))))))))
(G 25 (CH .i64 (BE .i64) (J 8) (W (AI AT 1)))
(G 8 (Aa 25)
Ar)))
(CC 0))))
def rp:C:=(G 4 (AP (W (.int .u64 0))) (G 5 (AP (W (AI AT 0))) (G 6 (AP (W (AI AT 11))) Ai)))
def NO:C:=G 7 (AP (W (.int .u64 0))) (G 8 (Aa 1) (BB (AY 0 (A3 Rx)) rp))
def iS:C:=(G 4 (AP (W (.int .u64 0)))
(G 5 (AP (W (AI AT 0)))
(G 6 (AP (W (AI AT 0)))
(G 12 (Af iLt .i64 (J 1) (W (AI AT 0)))
(Ae 12 IT 14 (Aa 1)
(Ae 12 IT 15 (Aa 0)
(Ae 12 IT 16 (BZ (J 15))
(Ae 12 IT 17 (Af iGt .i64 (J 14) (J 16))
(G 18 (A2 (J 12) (W (.bool IN)) (J 17))
(Bg 18
(G 4 (AP (W (.int .u64 0)))
(G 5 (AP (W (AI AT 0)))
(G 6 (AP (W (AI AT 2)))
Ai)))
NO))))))))))
def d84:C:=iS
def b84:Body:=⟨[.t (J 4),.t (J 5),.t (J 6)],d84⟩
def d85:C:=
(G 3 (AP (W (.slice By 0 0)))
(G 4 (AP (W (.bool IT)))
(G 8 (AM (J 0))
(Bg 8
(G 3 (AP (W (.slice By 0 0)))
(G 4 (AP (W (.bool IT)))
Ai))
(G 10 (AM (J 1))
(G 11 (AM (J 2))
(G 12 (AS 86 [(J 10),(J 11),(W (AI AT 65536))])
(G 13 (AU 0 (J 12))
(G 14 (AU 1 (J 12))
(G 15 (AU 2 (J 12))
(G 5 (Aa 13)
(G 6 (Aa 14)
(G 7 (Aa 15)
(B2 (G 18 (Af iEq .i64 (J 7) (W (AI AT 0)))
(Ae 18 IN 20 (Aa 6)
(Ae 18 IN 21 (AM (J 1))
(Ae 18 IN 22 (BZ (J 21))
(Ae 18 IN 23 (Af iEq .i64 (J 20) (J 22))
(G 24 (A2 (J 18) (J 23) (W (.bool IT)))
(G 3 (Aa 5)
(G 4 (Aa 24)
Ai))))))))))))))))))))))
def b85:Body:=⟨[.t (J 3),.t (J 4)],d85⟩
def gbE:C:=(G 43 (Dr 5 1 (J 0) (BY (J 10)) By By)
(G 45 (Dr 5 1 (J 43) By (BY (J 9)) By)
(G 13 (Aa 45)
(G 47 (AS 90 [(J 13)])
(G 50 (BZ (J 13))
(G 51 (CH .i64 (BE .i64) (J 10) (J 50))
(G 6 (Aa 47)
(G 7 (Aa 51)
(G 8 (AP (W (AI AT 0)))
Ai)))))))))
def gbS:C:=(AY 0 (G 28 (Af iNe .i64 (J 11) (W (AI AT 0)))
(G 26 (Aa 28)
(Bg 26
(G 6 (AP (W (.slice By 0 0)))
(G 7 (AP (W (AI AT 0)))
(G 8 (Aa 11)
Ai)))
(G 32 (Af iLt .i64 (J 2) (W (AI AT 0)))
(G 30 (Aa 32)
(BB (Bg 30
Ar
(G 35 (CW .u64 (J 2))
(G 36 (Af iGt .u64 (J 9) (J 35))
(G 30 (Aa 36)
Ar))))
(Bg 30
(G 6 (AP (W (.slice By 0 0)))
(G 7 (AP (W (AI AT 0)))
(G 8 (AP (W (AI AT 3)))
Ai)))
(G 40 (Af iGt .u64 (J 9) (J 12))
(G 37 (Aa 40)
(Bg 37
(G 6 (AP (W (.slice By 0 0)))
(G 7 (AP (W (AI AT 0)))
(G 8 (AP (W (AI AT 11)))
Ai)))
Ar)))))))))))
def gbQ:C:=BB gbS gbE
def au:C:=(G 6 (AP (W (.slice By 0 0)))
(G 7 (AP (W (AI AT 0)))
(G 8 (AP (W (AI AT 0)))
(G 17 (AS 84 [(J 0),(J 1)])
(G 18 (AU 0 (J 17))
(G 19 (AU 1 (J 17))
(G 20 (AU 2 (J 17))
(G 9 (Aa 18)
(G 10 (Aa 19)
(G 11 (Aa 20)
(G 22 (BZ (J 0))
(G 24 (C8 yi .i64 (J 22) (J 10))
(G 25 (CW .u64 (J 24))
(G 12 (Aa 25)
gbQ))))))))))))))
def d86:C:=au
def b86:Body:=⟨[.t (J 6),.t (J 7),.t (J 8)],d86⟩
def d87:C:=
(G 4 (AP (W (.bool IT)))
(G 7 (AS 123 [(J 0),(J 1)])
(G 8 (Af iGe .i64 (J 7) (W (AI AT 0)))
(G 4 (Aa 8)
Ai))))
def b87:Body:=⟨[.t (J 4)],d87⟩
def d88:C:=
(G 1 (CV (J 0))
(G 2 (AP (W (.bool IT)))
(G 3 (AE 0 (J 1))
(G 4 (AM (J 3))
(G 5 (AE 1 (J 1))
(G 6 (AM (J 5))
(G 7 (AE 2 (J 1))
(G 8 (AM (J 7))
(G 9 (AS 37 [(J 4),(J 6),(J 8),(W (AI AT 1))])
(G 10 (DG (J 9))
(Ae 10 IT 12 (AE 3 (J 1))
(Ae 10 IT 13 (AM (J 12))
(Ae 10 IT 14 (Af iNe .u8 (J 13) (W (.int .u8 1)))
(Ae 10 IT 15 (Aa 14)
(Ae 15 IN 16 (AE 3 (J 1))
(Ae 15 IN 17 (AM (J 16))
(Ae 15 IN 18 (Af iNe .u8 (J 17) (W (.int .u8 2)))
(Ae 10 IT 19 (A2 (J 15) (J 18) (W (.bool IT)))
(G 20 (A2 (J 10) (W (.bool IN)) (J 19))
(G 2 (Aa 20)
Ai))))))))))))))))))))
def b88:Body:=⟨[.t (J 2)],d88⟩
def d89:C:=
(G 2 (AP (W (AI AT 0)))
(BB (AY 0 (G 5 (oEq IP.k IT (J 0) (W (.pointer By)))
(Ae 5 IT 7 (Aa 0)
(Ae 5 IT 8 (Bh (J 7))
(Ae 5 IT 9 (AE 0 (J 8))
(Ae 5 IT 10 (AM (J 9))
(Ae 5 IT 11 (oEq ZT.k IT (J 10) (W (.pointer By)))
(G 12 (A2 (J 5) (W (.bool IN)) (J 11))
(G 3 (Aa 12)
(Bg 3
(G 2 (AP (W (AI AT 1)))
Ai)
(G 15 (Bh (J 0))
(G 16 (AE 6 (J 15))
(G 17 (AM (J 16))
(G 13 (Aa 17)
(Bg 13
(G 2 (AP (W (AI AT 17)))
Ai)
Ar)))))))))))))))
(G 2 (AP (W (AI AT 0)))
Ai)))
def b89:Body:=⟨[.t (J 2)],d89⟩
def d90:C:=
(G 2 (AP (W (.slice By 0 0)))
(G 4 (oEq Ja.k IT (J 0) (W (.slice By 0 0)))
(Bg 4
(G 2 (AP (W (.slice By 0 0)))
Ai)
(G 5 (Ab 0 (BP ty5.zero 0) [])
(G 7 (Bk 1 1 5 (J 5) (J 0))
(G 2 (Aa 7)
Ai))))))
def b90:Body:=⟨[.t (J 2)],d90⟩
def d91:C:=
(G 1 (CV (J 0))
(G 2 (AP (W (.bool IT)))
(G 3 (AE 0 (J 1))
(G 4 (AM (J 3))
(G 5 (Af iGe .i64 (J 4) (W (AI AT 0)))
(Ae 5 IN 7 (AE 0 (J 1))
(Ae 5 IN 8 (AM (J 7))
(Ae 5 IN 9 (Af iLe .i64 (J 8) (W (AI AT 1099511627776)))
(G 10 (A2 (J 5) (J 9) (W (.bool IT)))
(Ae 10 IN 12 (AE 1 (J 1))
(Ae 10 IN 13 (AM (J 12))
(Ae 10 IN 14 (Af iGe .i64 (J 13) (W (AI AT 0)))
(G 15 (A2 (J 10) (J 14) (W (.bool IT)))
(Ae 15 IN 17 (AE 1 (J 1))
(Ae 15 IN 18 (AM (J 17))
(Ae 15 IN 19 (Af iLt .i64 (J 18) (W (AI AT 255)))
(G 20 (A2 (J 15) (J 19) (W (.bool IT)))
(Ae 20 IN 22 (AE 2 (J 1))
(Ae 20 IN 23 (AM (J 22))
(Ae 20 IN 24 (Af iGe .i64 (J 23) (W (AI AT 1)))
(G 25 (A2 (J 20) (J 24) (W (.bool IT)))
(Ae 25 IN 27 (AE 2 (J 1))
(Ae 25 IN 28 (AM (J 27))
(Ae 25 IN 29 (Af iLe .i64 (J 28) (W (AI AT 1099511627776)))
(G 30 (A2 (J 25) (J 29) (W (.bool IT)))
(Ae 30 IN 32 (AE 3 (J 1))
(Ae 30 IN 33 (AM (J 32))
(Ae 30 IN 34 (Af iEq .u8 (J 33) (W (.int .u8 1)))
(Ae 30 IN 35 (Aa 34)
(Ae 35 IT 36 (AE 3 (J 1))
(Ae 35 IT 37 (AM (J 36))
(Ae 35 IT 38 (Af iEq .u8 (J 37) (W (.int .u8 2)))
(Ae 30 IN 39 (A2 (J 35) (W (.bool IN)) (J 38))
(G 40 (A2 (J 30) (J 39) (W (.bool IT)))
(Ae 40 IN 42 (AE 4 (J 1))
(Ae 40 IN 43 (AM (J 42))
(Ae 40 IN 44 (BZ (J 43))
(Ae 40 IN 45 (Af iLe .i64 (J 44) (W (AI AT 65536)))
(G 46 (A2 (J 40) (J 45) (W (.bool IT)))
(G 2 (Aa 46)
Ai))))))))))))))))))))))))))))))))))))))))
def b91:Body:=⟨[.t (J 2)],d91⟩
def d92:C:=
(G 5 (CV (J 1))
(G 6 (CV (J 2))
(G 7 (CV (J 3))
(G 8 (AP (W (AI AT 0)))
(G 10 (Bh (J 0))
(G 11 (AE 3 (J 10))
(G 12 (AM (J 11))
(G 13 (EZ (.func 124) [] [(J 5),(J 6),(J 7)])
(G 14 (AS 117 [(J 12),(J 13)])
(G 8 (Aa 14)
Ai))))))))))
def b92:Body:=⟨[.t (J 8)],d92⟩
def ebB:C:=(G 14 (Af iLt .i64 (J 13) (J 12))
(Bg 14
(BB (AY 1 (G 5 (Aa 13)
(B2 (G 18 (CI 1 (J 0) (J 5))
(G 19 (AM (J 18))
(G 22 (CI 1 (J 1) (J 5))
(G 23 (AM (J 22))
(G 24 (Af iNe .u8 (J 19) (J 23))
(Bg 24
(G 4 (AP (W (.bool IT)))
Ai)
Ar)))))))))
(G 25 (CH .i64 (BE .i64) (J 13) (W (AI AT 1)))
(G 13 (Aa 25)
Ar)))
(CC 0)))
def eqE:C:=G 4 (AP (W (.bool IN))) Ai
def eqS:C:=BB (AY 0 (A3 ebB)) eqE
def av:C:=(G 4 (AP (W (.bool IT)))
(G 7 (BZ (J 0))
(G 9 (BZ (J 1))
(G 10 (Af iNe .i64 (J 7) (J 9))
(Bg 10
(G 4 (AP (W (.bool IT)))
Ai)
(G 12 (BZ (J 0))
(G 13 (AP (W (AI AT 0)))
eqS)))))))
def d93:C:=av
def b93:Body:=⟨[.t (J 4)],d93⟩
def d94:C:=
(G 8 (AP (W (.bool IT)))
(G 13 (AS 125 [(J 0),(J 1),(J 2)])
(G 9 (Aa 13)
(G 15 (Af iGe .i64 (J 9) (W (AI AT 0)))
(Ae 15 IN 17 (Aa 0)
(Ae 15 IN 18 (Bh (J 17))
(Ae 15 IN 19 (AE 3 (J 18))
(Ae 15 IN 20 (AM (J 19))
(Ae 15 IN 21 (Aa 9)
(Ae 15 IN 22 (CI 6 (J 20) (J 21))
(Ae 15 IN 23 (AE 0 (J 22))
(Ae 15 IN 24 (AE 2 (J 23))
(Ae 15 IN 25 (AM (J 24))
(Ae 15 IN 26 (Aa 3)
(Ae 15 IN 27 (Af iGe .i64 (J 25) (J 26))
(G 28 (A2 (J 15) (J 27) (W (.bool IT)))
(G 8 (Aa 28)
Ai)))))))))))))))))
def b94:Body:=⟨[.t (J 8)],d94⟩
def heB:C:=(G 36 (Af iLt .i64 (J 35) (J 34))
(Bg 36
(BB (AY 1 (G 37 (CI 1 (J 33) (J 35))
(G 38 (AM (J 37))
(G 8 (Aa 38)
(G 41 (AS 79 [(J 6),(J 8)])
(G 6 (Aa 41)
Ar))))))
(G 42 (CH .i64 (BE .i64) (J 35) (W (AI AT 1)))
(G 35 (Aa 42)
Ar)))
(CC 0)))
def heE:C:=(G 46 (BZ (J 6))
(G 47 (C8 yi .i64 (W (AI AT 60)) (J 46))
(G 48 (FM 1 1 5 ty5.zero (J 6) (J 47))
(G 49 (AS 46 [(J 0),(J 48)])
(G 4 (Aa 49)
(G 5 (AP (W (AI AT 0)))
Ai))))))
def heS:C:=BB (AY 0 (A3 heB)) heE
def ay:C:=(G 3 (CV (J 1))
(G 4 (AP (W (.slice By 0 0)))
(G 5 (AP (W (AI AT 0)))
(G 9 (BC 5 (J 3))
(G 10 (AS 91 [(J 9)])
(G 11 (DG (J 10))
(Bg 11
(G 4 (AP (W (.slice By 0 0)))
(G 5 (AP (W (AI AT 2)))
Ai))
(G 6 (AP (W (.slice By 0 0)))
(B2 (G 12 (AE 3 (J 3))
(Ee (J 12) (Ci (J 12) []
(G 13 (AM (J 12))
(G 14 (CW .u64 (J 13))
(G 15 (AE 0 (J 3))
(Ee (J 15) (Ci (J 15) []
(G 16 (AM (J 15))
(G 17 (CW .u64 (J 16))
(G 18 (AE 1 (J 3))
(Ee (J 18) (Ci (J 18) []
(G 19 (AM (J 18))
(G 20 (CW .u64 (J 19))
(G 21 (AE 2 (J 3))
(Ee (J 21) (Ci (J 21) []
(G 22 (AM (J 21))
(G 23 (CW .u64 (J 22))
(G 24 (AE 4 (J 3))
(Ee (J 24) (Ci (J 24) []
(G 25 (AM (J 24))
(G 26 (BZ (J 25))
(G 27 (CW .u64 (J 26))
(G 29 (AE 4 (J 3))
(G 30 (AM (J 29))
(G 31 (Ac .weak (AS 80 [(J 0),(J 30)]))
(G 32 (CW .u64 (J 31))
(G 33 (Ac .AEv (Ab 6 (BP Tc.zero 6) [(0,1,(J 14)),(1,1,(J 17)),(2,1,(J 20)),(3,1,(J 23)),(4,1,(J 27)),(5,1,(J 32))]))
(G 34 (BZ (J 33))
(G 35 (AP (W (AI AT 0)))
heS))))))))))))))))))))))))))))))))))))))))))
def d95:C:=ay
def b95:Body:=⟨[.t (J 4),.t (J 5)],d95⟩
def wrB:C:=(G 13 (BZ (J 2))
(G 14 (Af iLt .i64 (J 8) (J 13))
(Bg 14
(BB (AY 1 (G 17 (Hi 1 ty5.zero (W (AI AT 64)) (W (AI AT 64)))
(G 9 (BN 1 ua)
(cDo (AZ 1 (J 9) (J 17))
(B2 (G 18 (AM (J 9))
(G 21 (Dr 5 1 (J 2) (BY (J 8)) By By)
(G 22 (Ac .free (J8 1 (J 18) (J 21)))
(G 25 (L8 .i64 (J 8) (W (AI AT 64)))
(G 26 (CH .i64 (BE .i64) (J 1) (J 25))
(G 10 (BN 1 zt3)
(cDo (AZ 1 (J 10) (J 26))
(G 28 (EZ (.func 126) [] [(J 3),(J 10),(J 9)])
(G 29 (Ab 1 (BP Te.zero 1) [(0,1,(J 28))])
(G 30 (Bk 1 8 70 (J 7) (J 29))
(G 7 (Aa 30)
Ar))))))))))))))))
(G 16 (CH .i64 (BE .i64) (J 8) (W (AI AT 64)))
(G 8 (Aa 16)
Ar)))
(CC 0))))
def wrE:C:=(G 32 (AM (J 3))
(G 33 (Bh (J 32))
(G 34 (AE 0 (J 33))
(G 35 (AM (J 34))
(G 36 (EZ (.func 121) [(J 35)] [])
(G 37 (Ab 1 (BP Te.zero 1) [(0,1,(J 36))])
(G 38 (Bk 1 8 70 (J 7) (J 37))
(G 6 (Aa 38)
Ai))))))))
def wrS:C:=BB (AY 0 (A3 wrB)) wrE
def iT:C:=(G 3 (CV (J 0))
(G 6 (AP (W (.slice By 0 0)))
(G 7 (AP (W (.slice By 0 0)))
(G 8 (AP (W (AI AT 0)))
wrS))))
def d96:C:=iT
def b96:Body:=⟨[.t (J 6)],d96⟩
def d97:C:=
(G 4 (AP (W (AI AT 0)))
(G 7 (Bh (J 0))
(G 8 (AE 2 (J 7))
(G 9 (AM (J 8))
(G 10 (AS 68 [(J 9)])
(G 11 (C8 ABr .i64 (J 1) (J 10))
(G 4 (Aa 11)
Ai)))))))
def b97:Body:=⟨[.t (J 4)],d97⟩
def alB:C:=(G 11 (Af iLt .i64 (J 10) (J 9))
(Bg 11
(BB (AY 1 (G 12 (CI 1 (J 8) (J 10))
(G 13 (AM (J 12))
(G 6 (Aa 13)
(G 15 (B4 (J 6) [])
(G 7 (Aa 15)
(G 17 (Af iNe .i64 (J 7) (W (AI AT 0)))
(Bg 17
(G 19 (Bh (J 0))
(G 20 (AE 6 (J 19))
(cDo (AZ 1 (J 20) (W (.bool IN)))
(G 4 (Aa 7)
Ai))))
Ar))))))))
(G 22 (CH .i64 (BE .i64) (J 10) (W (AI AT 1)))
(G 10 (Aa 22)
Ar)))
(CC 0)))
def alE:C:=G 4 (AP (W (AI AT 0))) Ai
def alS:C:=BB (AY 0 (A3 alB)) alE
def iU:C:=(G 4 (AP (W (AI AT 0)))
(G 8 (Aa 1)
(G 9 (BZ (J 8))
(G 10 (AP (W (AI AT 0)))
alS))))
def d98:C:=iU
def b98:Body:=⟨[.t (J 4)],d98⟩
def d99:C:=
(G 2 (AP (W (.slice By 0 0)))
(G 4 (oEq VY.k IT (J 0) (W (.slice By 0 0)))
(Bg 4
(G 2 (AP (W (.slice By 0 0)))
Ai)
(G 5 (Ab 0 (BP ty3.zero 0) [])
(G 7 (Bk 1 8 3 (J 5) (J 0))
(G 2 (Aa 7)
Ai))))))
def b99:Body:=⟨[.t (J 2)],d99⟩
def aU:C:=
(G 2 (AP (W (.slice By 0 0)))
(G 4 (oEq Pm.k IT (J 0) (W (.slice By 0 0)))
(Bg 4
(G 2 (AP (W (.slice By 0 0)))
Ai)
(G 5 (Ab 0 (BP EA.zero 0) [])
(G 7 (Bk 6 64 124 (J 5) (J 0))
(G 2 (Aa 7)
Ai))))))
def ml:Body:=⟨[.t (J 2)],aU⟩
def qG:C:=
(G 4 (AP (W (AI AT 0)))
(G 7 (Bh (J 0))
(G 8 (AE 3 (J 7))
(G 9 (AM (J 8))
(G 11 (CI 6 (J 9) (J 1))
(G 12 (AE 5 (J 11))
(G 13 (AM (J 12))
(G 5 (Aa 13)
(G 16 (Bh (J 0))
(G 17 (AE 3 (J 16))
(G 18 (AM (J 17))
(G 19 (AS 100 [(J 18)])
(G 22 (CH .i64 (BE .i64) (J 1) (W (AI AT 1)))
(G 23 (AS 127 [(J 19),(J 1),(J 22)])
(G 24 (Bh (J 0))
(G 25 (AE 3 (J 24))
(cDo (AZ 1 (J 25) (J 23))
(G 28 (Bh (J 0))
(G 29 (AE 4 (J 28))
(G 30 (AM (J 29))
(G 31 (AS 99 [(J 30)])
(G 33 (Ab 1 (BP ty3.zero 1) [(0,1,(J 5))])
(G 34 (Bk 1 8 3 (J 31) (J 33))
(G 35 (Bh (J 0))
(G 36 (AE 4 (J 35))
(cDo (AZ 1 (J 36) (J 34))
(G 38 (Bh (J 0))
(G 39 (AE 4 (J 38))
(G 40 (AM (J 39))
(G 41 (AS 104 [(J 40)])
(G 4 (Aa 5)
Ai)))))))))))))))))))))))))))))))
def mo:Body:=⟨[.t (J 4)],qG⟩
def qH:C:=
(G 4 (AP (W (AI AT 0)))
(G 8 (Bh (J 0))
(G 9 (AE 3 (J 8))
(G 10 (AM (J 9))
(G 12 (CI 6 (J 10) (J 1))
(G 13 (AE 5 (J 12))
(G 14 (AM (J 13))
(G 15 (Ab 1 (BP ty3.zero 1) [(0,1,(J 14))])
(G 16 (AS 77 [(J 0),(J 15)])
(G 5 (Aa 16)
(G 18 (Af iNe .i64 (J 5) (W (AI AT 0)))
(Bg 18
(G 4 (Aa 5)
Ai)
(G 22 (AS 101 [(J 0),(J 1)])
(G 4 (AP (W (AI AT 0)))
Ai))))))))))))))
def mq:Body:=⟨[.t (J 4)],qH⟩
def qI:C:=
(G 4 (BZ (J 0))
(G 2 (Aa 4)
(G 8 (CW .u64 (J 2))
(G 9 (AS 112 [(J 8)])
(G 10 (AS 129 [(J 0),(W (AI AT 0)),(J 2),(J 9)])
Ar)))))
def mr:Body:=⟨[],qI⟩
def qJ:C:=
(G 4 (AP (W (.slice By 0 0)))
(G 5 (AP (W (AI AT 0)))
(G 11 (AS 130 [(J 0),(J 1)])
(G 6 (Aa 11)
(G 13 (Af iNe .i64 (J 6) (W (AI AT 0)))
(Bg 13
(G 4 (AP (W (.slice By 0 0)))
(G 5 (Aa 6)
Ai))
(G 17 (Bh (J 0))
(G 18 (AE 1 (J 17))
(G 19 (AM (J 18))
(G 21 (HQ ⟨IT,[.i .i64]⟩ (.agg ⟨Lb.zero⟩) IN (J 19) (J 1))
(G 22 (AU 0 (J 21))
(G 23 (AU 1 (J 21))
(G 7 (BN 64 Jc)
(cDo (AZ 64 (J 7) (J 22))
(G 8 (Aa 23)
(G 25 (DG (J 8))
(BB (Bg 25
(G 27 (Bh (J 0))
(G 28 (AE 0 (J 27))
(G 29 (AM (J 28))
(G 31 (CI 64 (J 29) (J 1))
(G 32 (BC 64 (J 31))
(cDo (AZ 64 (J 7) (J 32))
Ar))))))
Ar)
(G 33 (GT 64 1 (J 7) By By By)
(G 4 (Aa 33)
(G 5 (AP (W (AI AT 0)))
Ai))))))))))))))))))))
def mu:Body:=⟨[.t (J 4),.t (J 5)],qJ⟩
def YT:C:=
(G 4 (AP (W (.bool IT)))
(G 7 (AS 131 [(J 0),(J 1)])
(G 8 (Af iGe .i64 (J 7) (W (AI AT 0)))
(G 4 (Aa 8)
Ai))))
def mw:Body:=⟨[.t (J 4)],YT⟩
def qK:C:=
(G 2 (AP (W (.bool IT)))
(G 4 (Af iNe .u8 (J 0) (W (.int .u8 0)))
(G 2 (Aa 4)
Ai)))
def my:Body:=⟨[.t (J 2)],qK⟩
def paB:C:=(G 30 (Af iLt .i64 (J 29) (W (AI AT 6)))
(Bg 30
(BB (AY 1 (G 12 (Aa 29)
(G 36 (AS 84 [(J 8),(J 11)])
(G 37 (AU 0 (J 36))
(G 38 (AU 1 (J 36))
(G 39 (AU 2 (J 36))
(G 40 (Cv 6 1 (J 10) (J 12))
(cDo (AZ 1 (J 40) (J 37))
(G 11 (Aa 38)
(G 9 (Aa 39)
(G 42 (Af iNe .i64 (J 9) (W (AI AT 0)))
(Ae 42 IT 44 (Aa 12)
(Ae 42 IT 45 (Cv 6 1 (J 10) (J 44))
(Ae 42 IT 46 (AM (J 45))
(Ae 42 IT 47 (Af iGt .u64 (J 46) (W (.int .u64 1099511627776)))
(G 48 (A2 (J 42) (W (.bool IN)) (J 47))
(Bg 48
(G 49 (BG Iu.zero [])
(cDo (AZ 5 (J 4) (J 49))
(G 5 (AP (W (AI AT 0)))
(G 6 (AP (W (.int .u32 0)))
(G 7 (AP (W (.bool IT)))
Ai)))))
Ar)))))))))))))))))
(G 50 (CH .i64 (BE .i64) (J 29) (W (AI AT 1)))
(G 29 (Aa 50)
Ar)))
(CC 0)))
def paE:C:=(G 51 (Cv 6 1 (J 10) (W (AI AT 0)))
(G 52 (AM (J 51))
(G 53 (Y4 (J 52) (W (.int .u64 9)))
(G 54 (CW .u8 (J 53))
(G 55 (Cv 6 1 (J 10) (W (AI AT 1)))
(G 56 (AM (J 55))
(G 57 (CW .i64 (J 56))
(G 58 (Cv 6 1 (J 10) (W (AI AT 2)))
(G 59 (AM (J 58))
(G 60 (CW .i64 (J 59))
(G 61 (Cv 6 1 (J 10) (W (AI AT 3)))
(G 62 (AM (J 61))
(G 63 (CW .i64 (J 62))
(G 64 (BG Iu.zero [(3,1,(J 54)),(0,1,(J 57)),(1,1,(J 60)),(2,1,(J 63))])
(G 13 (BN 5 DV)
(cDo (AZ 5 (J 13) (J 64))
(G 14 (AP (W (.func (.func 132) #[] #[])))
(G 65 (BC 5 (J 13))
(G 66 (AS 91 [(J 65)])
(G 67 (DG (J 66))
(Ae 67 IT 69 (Cv 6 1 (J 10) (W (AI AT 4)))
(Ae 67 IT 70 (AM (J 69))
(Ae 67 IT 71 (Af iGt .u64 (J 70) (W (.int .u64 65536)))
(G 72 (A2 (J 67) (W (.bool IN)) (J 71))
(Ae 72 IT 74 (Cv 6 1 (J 10) (W (AI AT 5)))
(Ae 72 IT 75 (AM (J 74))
(Ae 72 IT 76 (Af iGt .u64 (J 75) (W (.int .u64 4294967295)))
(G 77 (A2 (J 72) (W (.bool IN)) (J 76))
(Ae 77 IT 79 (Aa 8)
(Ae 77 IT 80 (Aa 11)
(Ae 77 IT 81 (Dr 5 1 (J 79) (BY (J 80)) By By)
(Ae 77 IT 82 (Aa 14)
(Ae 77 IT 83 (AS 107 [(J 81),(J 82)])
(G 84 (A2 (J 77) (W (.bool IN)) (J 83))
(Bg 84
(G 85 (BG Iu.zero [])
(cDo (AZ 5 (J 4) (J 85))
(G 5 (AP (W (AI AT 0)))
(G 6 (AP (W (.int .u32 0)))
(G 7 (AP (W (.bool IT)))
Ai)))))
(B2 (G 86 (BC 5 (J 13))
(G 87 (Cv 6 1 (J 10) (W (AI AT 4)))
(G 88 (AM (J 87))
(G 89 (CW .i64 (J 88))
(G 90 (Cv 6 1 (J 10) (W (AI AT 5)))
(G 91 (AM (J 90))
(G 92 (CW .u32 (J 91))
(Ci (J 4) [(J 87),(J 90)]
(cDo (JQ (J 4) (AZ 5 (J 4) (J 86)))
(G 5 (Aa 89)
(G 6 (Aa 92)
(G 7 (AP (W (.bool IN)))
Ai))))))))))))))))))))))))))))))))))))))))))))))))
def paS:C:=BB (AY 0 (A3 paB)) paE
def Li:C:=(G 4 (BN 5 DV)
(G 5 (AP (W (AI AT 0)))
(G 6 (AP (W (.int .u32 0)))
(G 7 (AP (W (.bool IT)))
(G 18 (AS 82 [(J 0),(J 1)])
(G 19 (AU 0 (J 18))
(G 20 (AU 1 (J 18))
(G 8 (Aa 19)
(G 9 (Aa 20)
(G 22 (Af iNe .i64 (J 9) (W (AI AT 0)))
(Ae 22 IT 24 (Aa 8)
(Ae 22 IT 25 (BZ (J 24))
(Ae 22 IT 26 (Af iNe .i64 (J 25) (W (AI AT 60)))
(G 27 (A2 (J 22) (W (.bool IN)) (J 26))
(Bg 27
(G 28 (BG Iu.zero [])
(cDo (AZ 5 (J 4) (J 28))
(G 5 (AP (W (AI AT 0)))
(G 6 (AP (W (.int .u32 0)))
(G 7 (AP (W (.bool IT)))
Ai)))))
(G 10 (BN 6 Pq)
(G 11 (AP (W (AI AT 0)))
(G 29 (AP (W (AI AT 0)))
paS))))))))))))))))))
def qL:C:=Li
def mz:Body:=⟨[.cN (J 4) 5,.t (J 5),.t (J 6),.t (J 7)],qL⟩
def reB:C:=(G 13 (BZ (J 8))
(G 15 (Af iLt .i64 (J 13) (J 2))
(Bg 15
(BB (AY 1 (B2 (G 20 (Bh (J 0))
(G 21 (AE 0 (J 20))
(Ee (J 21) (Ci (J 21) []
(G 22 (AM (J 21))
(G 25 (Ac .weak (AS 97 [(J 0),(J 1)]))
(G 26 (CH .i64 (BE .i64) (J 25) (W (AI AT 1)))
(G 28 (CH .i64 (BE .i64) (J 26) (J 9))
(G 29 (Ac .free (AS 106 [(J 22),(J 28)]))
(G 30 (AU 0 (J 29))
(G 31 (AU 1 (J 29))
(G 10 (Aa 30)
(G 11 (Aa 31)
(G 33 (Af iNe .i64 (J 11) (W (AI AT 0)))
(Bg 33
(G 6 (AP (W (.slice By 0 0)))
(G 7 (Aa 11)
Ai))
(G 37 (Bk 1 1 5 (J 8) (J 10))
(G 8 (Aa 37)
Ar)))))))))))))))))))
(G 17 (CH .i64 (BE .i64) (J 9) (W (AI AT 1)))
(G 9 (Aa 17)
Ar)))
(CC 0))))
def reE:C:=(G 41 (Dr 5 1 (J 8) By (BY (J 2)) (BY (J 2)))
(G 6 (Aa 41)
(G 7 (AP (W (AI AT 0)))
Ai)))
def reS:C:=BB (AY 0 (A3 reB)) reE
def WT:C:=(G 6 (AP (W (.slice By 0 0)))
(G 7 (AP (W (AI AT 0)))
(G 8 (AP (W (.slice By 0 0)))
(G 9 (AP (W (AI AT 0)))
reS))))
def qM:C:=WT
def nC:Body:=⟨[.t (J 6),.t (J 7)],qM⟩
def pdT:C:=(G 32 (Af iEq .i64 (J 3) (W (AI AT 0)))
(Bg 32
(G 37 (AS 134 [(J 0),(J 1),(J 2),(J 4)])
Ai)
(G 39 (DG (J 10))
(BB (Bg 39
(G 44 (AS 135 [(J 0),(J 1),(J 2),(J 4)])
(G 46 (C8 yi .i64 (J 3) (W (AI AT 1)))
(G 3 (Aa 46)
Ar)))
Ar)
(G 52 (AS 136 [(J 0),(J 1),(J 2),(J 4)])
(G 53 (AU 0 (J 52))
(G 54 (AU 1 (J 52))
(G 13 (Aa 53)
(G 14 (Aa 54)
(G 56 (Af iEq .i64 (J 14) (W (AI AT 2)))
(BB (Bg 56
(G 61 (AS 137 [(J 0),(J 1),(J 2),(J 4)])
(G 63 (C8 yi .i64 (J 2) (W (AI AT 1)))
(G 66 (C8 yi .i64 (J 13) (J 1))
(G 67 (C8 yi .i64 (J 63) (J 66))
(G 13 (Aa 67)
(G 14 (AP (W (AI AT 1)))
Ar))))))
Ar)
(Ae 10 IN 70 (Aa 11)
(G 71 (A2 (J 10) (J 70) (W (.bool IT)))
(Ae 71 IN 73 (Aa 14)
(Ae 71 IN 74 (Af iEq .i64 (J 73) (W (AI AT 1)))
(G 75 (A2 (J 71) (J 74) (W (.bool IT)))
(BB (Bg 75
(G 80 (AS 138 [(J 0),(J 1),(J 2),(J 4)])
(Bg 80
Ai
Ar))
Ar)
(B2 (G 82 (Af iGt .i64 (J 1) (W (AI AT 0)))
(Ae 82 IN 84 (Aa 4)
(Ae 82 IN 85 (Aa 0)
(Ae 82 IN 86 (Aa 1)
(Ae 82 IN 87 (C8 yi .i64 (J 86) (W (AI AT 1)))
(Ae 82 IN 88 (CI 6 (J 85) (J 87))
(Ae 82 IN 89 (BC 6 (J 88))
(Ae 82 IN 90 (Aa 0)
(Ae 82 IN 91 (Aa 13)
(Ae 82 IN 92 (CI 6 (J 90) (J 91))
(Ae 82 IN 93 (BC 6 (J 92))
(Ae 82 IN 94 (Ac .free (B4 (J 84) [(J 89),(J 93)]))
(Ae 82 IN 95 (Af iLt .i64 (J 94) (W (AI AT 0)))
(Ae 82 IN 96 (DG (J 95))
(G 97 (A2 (J 82) (J 96) (W (.bool IT)))
(Bg 97
(G 103 (AS 139 [(J 0),(J 1),(J 2),(J 13),(J 4)])
(G 15 (Aa 103)
(G 1 (Aa 15)
(CC 1))))
(G 111 (AS 140 [(J 0),(J 1),(J 2),(J 13),(J 4)])
(G 112 (AU 0 (J 111))
(G 113 (AU 1 (J 111))
(G 16 (Aa 112)
(G 17 (Aa 113)
(G 11 (Aa 17)
(G 117 (C8 yi .i64 (J 16) (J 1))
(G 120 (C8 yi .i64 (J 2) (J 16))
(G 18 (Aa 117)
(G 19 (Aa 120)
(G 122 (L8 .i64 (J 12) (W (AI AT 8)))
(G 20 (Aa 122)
(G 125 (Af iLt .i64 (J 18) (J 19))
(Bg 125
(G 128 (Af iGe .i64 (J 18) (J 20))
(G 10 (Aa 128)
(G 134 (AS 111 [(J 0),(J 1),(J 16),(J 3),(J 4)])
(G 136 (CH .i64 (BE .i64) (J 16) (W (AI AT 1)))
(G 1 (Aa 136)
Ar)))))
(G 139 (Af iGe .i64 (J 19) (J 20))
(G 10 (Aa 139)
(G 142 (CH .i64 (BE .i64) (J 16) (W (AI AT 1)))
(G 146 (AS 111 [(J 0),(J 142),(J 2),(J 3),(J 4)])
(G 2 (Aa 16)
Ar)))))))))))))))))))))))))))))))))))))))))))))))))))))
def kT:C:=(AY 1 (G 23 (C8 yi .i64 (J 2) (J 1))
(G 12 (Aa 23)
(G 25 (Af iLe .i64 (J 12) (W (AI AT 12)))
(Bg 25
(G 30 (AS 133 [(J 0),(J 1),(J 2),(J 4)])
Ai)
pdT)))))
def pdB:C:=kT
def WV:C:=G 10 (AP (W (.bool IN))) (G 11 (AP (W (.bool IN))) (AY 0 (A3 pdB)))
def qN:C:=WV
def nE:Body:=⟨[],qN⟩
def qO:C:=
(G 2 (AP (W (AI AT 0)))
(Iy (W (.bool IT))
(G 4 (CW .u32 (J 0))
(G 5 (AS 141 [(J 4)])
(G 2 (Aa 5)
Ai)))
(G 7 (AS 142 [(J 0)])
(G 2 (Aa 7)
Ai))))
def nF:Body:=⟨[.t (J 2)],qO⟩
def orB:C:=(G 9 (Af iLt .i64 (J 8) (J 7))
(Bg 9
(BB (AY 1 (G 10 (CI 1 (J 6) (J 8))
(G 11 (AM (J 10))
(G 5 (Aa 11)
(G 14 (Af iNe .i64 (J 5) (J 3))
(Bg 14
(G 2 (Aa 5)
Ai)
Ar))))))
(G 16 (CH .i64 (BE .i64) (J 8) (W (AI AT 1)))
(G 8 (Aa 16)
Ar)))
(CC 0)))
def orE:C:=G 2 (Aa 3) Ai
def orS:C:=BB (AY 0 (A3 orB)) orE
def WX:C:=(G 2 (AP (W (AI AT 0)))
(G 3 (AP (W (AI AT 0)))
(G 6 (Aa 0)
(G 7 (BZ (J 6))
(G 8 (AP (W (AI AT 0)))
orS)))))
def qP:C:=WX
def nG:Body:=⟨[.t (J 2)],qP⟩
def qQ:C:=
(G 4 (AP (W (AI AT 0)))
(G 8 (AS 143 [(J 0)])
(G 5 (Aa 8)
(G 10 (AS 143 [(J 1)])
(G 6 (Aa 10)
(Bg 5
(Bg 6
(G 4 (AP (W (AI AT 0)))
Ai)
(G 4 (AP (W (AI AT (-1))))
Ai))
(Bg 6
(G 4 (AP (W (AI AT 1)))
Ai)
(G 16 (Af iLt .i64 (J 0) (J 1))
(Bg 16
(G 4 (AP (W (AI AT (-1))))
Ai)
(G 19 (Af iGt .i64 (J 0) (J 1))
(Bg 19
(G 4 (AP (W (AI AT 1)))
Ai)
(G 4 (AP (W (AI AT 0)))
Ai))))))))))))
def nH:Body:=⟨[.t (J 4)],qQ⟩
def kiB:C:=(G 9 (Af iLt .i64 (J 8) (J 7))
(Bg 9
(BB (AY 1 (G 5 (Aa 8)
(G 14 (CI 6 (J 0) (J 5))
(G 15 (BC 6 (J 14))
(G 16 (B4 (J 1) [(J 15)])
(Bg 16
(G 4 (Aa 5)
Ai)
Ar))))))
(G 18 (CH .i64 (BE .i64) (J 8) (W (AI AT 1)))
(G 8 (Aa 18)
Ar)))
(CC 0)))
def kiE:C:=G 4 (AP (W (AI AT (-1)))) Ai
def kiS:C:=BB (AY 0 (A3 kiB)) kiE
def WZ:C:=(G 4 (AP (W (AI AT 0)))
(G 7 (BZ (J 0))
(G 8 (AP (W (AI AT 0)))
kiS)))
def qR:C:=WZ
def nI:Body:=⟨[.t (J 4)],qR⟩
def ixB:C:=(G 9 (Af iLt .i64 (J 8) (J 7))
(Bg 9
(BB (AY 1 (G 5 (Aa 8)
(G 14 (CI 1 (J 0) (J 5))
(G 15 (AM (J 14))
(G 16 (Af iEq .i64 (J 1) (J 15))
(Bg 16
(G 4 (Aa 5)
Ai)
Ar))))))
(G 18 (CH .i64 (BE .i64) (J 8) (W (AI AT 1)))
(G 8 (Aa 18)
Ar)))
(CC 0)))
def ixE:C:=(G 4 (AP (W (AI AT (-1))))
Ai)
def ixS:C:=BB (AY 0 (A3 ixB)) ixE
def Wa:C:=(G 4 (AP (W (AI AT 0)))
(G 7 (BZ (J 0))
(G 8 (AP (W (AI AT 0)))
ixS)))
def qS:C:=Wa
def nJ:Body:=⟨[.t (J 4)],qS⟩
def qT:C:=
(G 2 (AP (W (AI AT 0)))
(B2 (Ee (J 0) (Ci (J 0) []
(G 3 (AM (J 0))
(G 4 (Bh (J 3))
(G 5 (AE 0 (J 4))
(Ee (J 5) (Ci (J 5) []
(G 6 (AM (J 5))
(G 7 (AM (J 0))
(G 8 (AM (J 1))
(G 9 (Ac .weak (AS 97 [(J 7),(J 8)]))
(G 10 (Ac .AEv (Hi 1 ty5.zero (W (AI AT 64)) (W (AI AT 64))))
(G 11 (Ac .free (AS 120 [(J 6),(J 9),(J 10)]))
(G 2 (Aa 11)
Ai))))))))))))))))
def nL:Body:=⟨[.t (J 2)],qT⟩
def qU:C:=
(G 6 (AP (W (AI AT 0)))
(G 11 (AS 130 [(J 0),(J 1)])
(G 7 (Aa 11)
(G 13 (Af iNe .i64 (J 7) (W (AI AT 0)))
(Bg 13
(G 6 (Aa 7)
Ai)
(G 16 (BZ (J 2))
(G 17 (Af iNe .i64 (J 16) (W (AI AT 64)))
(Bg 17
(G 6 (AP (W (AI AT 2)))
Ai)
(G 19 (AS 144 [(J 0)])
(G 8 (Aa 19)
(G 21 (Af iNe .i64 (J 8) (W (AI AT 0)))
(Bg 21
(G 6 (Aa 8)
Ai)
(B2 (G 24 (Bh (J 0))
(G 25 (AE 1 (J 24))
(G 26 (AM (J 25))
(G 29 (Se 64 (J 2))
(G 30 (BC 64 (J 29))
(cDo (Ac .free (Fa ⟨IT,[.i .i64]⟩ (J 26) (J 1) (J 30)))
(G 6 (AP (W (AI AT 0)))
Ai))))))))))))))))))))
def nM:Body:=⟨[.t (J 6)],qU⟩
def fE:C:=(G 35 (Bh (J 0))
(G 36 (AE 1 (J 35))
(G 37 (AM (J 36))
(cDo (Fj (J 37))
(G 2 (AP (W (AI AT 0)))
Ai)))))
def fW:C:=(Jh ⟨21,22,23,0,[22,23,24,25,26,6,5,27,28,29,30,31,32,33],[]⟩ (G 22 (Hj (J 21))
(G 23 (AU 0 (J 22))
(Bg 23
(AY 1 (G 24 (JS (J 21))
(G 25 (AU 0 (J 24))
(G 26 (AU 1 (J 24))
(G 6 (BN 64 Jc)
(G 5 (Aa 25)
(cDo (AZ 64 (J 6) (J 26))
(B2 (G 28 (Bh (J 0))
(G 29 (AE 0 (J 28))
(G 30 (AM (J 29))
(G 32 (BC 64 (J 6))
(G 33 (CI 64 (J 30) (J 5))
(cDo (Ac .free (AZ 64 (J 33) (J 32)))
Ar))))))))))))))
(CC 0)))))
def fS:C:=BB (AY 0 fW) fE
def Wb:C:=(G 2 (AP (W (AI AT 0)))
(G 8 (AS 130 [(J 0),(W (AI AT 0))])
(G 3 (Aa 8)
(G 10 (Af iNe .i64 (J 3) (W (AI AT 0)))
(Bg 10
(G 2 (Aa 3)
Ai)
(G 13 (AS 144 [(J 0)])
(G 4 (Aa 13)
(G 15 (Af iNe .i64 (J 4) (W (AI AT 0)))
(Bg 15
(G 2 (Aa 4)
Ai)
(G 18 (Bh (J 0))
(G 19 (AE 1 (J 18))
(G 20 (AM (J 19))
(G 21 (LV (J 20))
fS)))))))))))))
def qV:C:=Wb
def nN:Body:=⟨[.t (J 2)],qV⟩
def qW:C:=
(G 4 (AP (W (.slice By 0 0)))
(G 6 (Af iLt .i64 (J 1) (W (AI AT 0)))
(BB (Bg 6
(G 7 (JT 9 (W (.string ⟨#[99,97,110,110,111,116,32,98,101,32,110,101,103,97,116,105,118,101]⟩)))
(cDo oNo
Ar))
Ar)
(G 10 (Nk (J 0))
(G 12 (BZ (J 0))
(G 13 (C8 yi .i64 (J 10) (J 12))
(G 14 (C8 yi .i64 (J 1) (J 13))
(G 1 (Aa 14)
(G 16 (Af iGt .i64 (J 1) (W (AI AT 0)))
(BB (Bg 16
(G 19 (Nk (J 0))
(G 20 (Dr 5 1 (J 0) By (BY (J 19)) By)
(G 22 (FM 1 1 5 ty5.zero (J 20) (J 1))
(G 24 (BZ (J 0))
(G 25 (Dr 5 1 (J 22) By (BY (J 24)) By)
(G 0 (Aa 25)
Ar))))))
Ar)
(G 4 (Aa 0)
Ai)))))))))))
def nO:Body:=⟨[.t (J 4)],qW⟩
def iyB:C:=(G 9 (Af iLt .i64 (J 8) (J 7))
(Bg 9
(BB (AY 1 (G 5 (Aa 8)
(G 14 (CI 4 (J 0) (J 5))
(G 15 (BC 4 (J 14))
(G 16 (B4 (J 1) [(J 15)])
(Bg 16
(G 4 (Aa 5)
Ai)
Ar))))))
(G 18 (CH .i64 (BE .i64) (J 8) (W (AI AT 1)))
(G 8 (Aa 18)
Ar)))
(CC 0)))
def iyE:C:=(G 4 (AP (W (AI AT (-1))))
Ai)
def iyS:C:=BB (AY 0 (A3 iyB)) iyE
def Wc:C:=(G 4 (AP (W (AI AT 0)))
(G 7 (BZ (J 0))
(G 8 (AP (W (AI AT 0)))
iyS)))
def qX:C:=Wc
def nP:Body:=⟨[.t (J 4)],qX⟩
def qY:C:=
(G 4 (CV (J 0))
(G 5 (AP (W (.bool IT)))
(G 6 (AE 0 (J 4))
(G 7 (AE 0 (J 6))
(G 8 (AM (J 7))
(G 9 (AM (J 1))
(G 10 (Af iEq .i64 (J 8) (J 9))
(Ae 10 IN 12 (AE 0 (J 4))
(Ae 10 IN 13 (AE 1 (J 12))
(Ae 10 IN 14 (AM (J 13))
(Ae 10 IN 15 (AM (J 2))
(Ae 10 IN 16 (Af iEq .i64 (J 14) (J 15))
(G 17 (A2 (J 10) (J 16) (W (.bool IT)))
(Ae 17 IN 19 (AE 0 (J 4))
(Ae 17 IN 20 (AE 2 (J 19))
(Ae 17 IN 21 (AM (J 20))
(Ae 17 IN 22 (AM (J 3))
(Ae 17 IN 23 (Af iEq .i64 (J 21) (J 22))
(G 24 (A2 (J 17) (J 23) (W (.bool IT)))
(G 5 (Aa 24)
Ai))))))))))))))))))))
def nQ:Body:=⟨[.t (J 5)],qY⟩
def qZ:C:=
(G 4 (CV (J 1))
(G 5 (CV (J 2))
(G 6 (AP (W (AI AT 0)))
(G 8 (Bh (J 0))
(G 9 (AE 3 (J 8))
(G 10 (AM (J 9))
(G 11 (EZ (.func 145) [] [(J 4),(J 5)])
(G 12 (AS 117 [(J 10),(J 11)])
(G 6 (Aa 12)
Ai)))))))))
def nR:Body:=⟨[.t (J 6)],qZ⟩
def qa:C:=
(G 3 (AP (W (AI AT 0)))
(B2 (G 4 (AM (J 0))
(G 5 (Bh (J 4))
(G 6 (AE 0 (J 5))
(G 7 (AM (J 6))
(G 8 (AM (J 1))
(G 9 (AM (J 2))
(G 10 (Ac .free (AS 120 [(J 7),(J 8),(J 9)]))
(G 3 (Aa 10)
Ai))))))))))
def nT:Body:=⟨[.t (J 3)],qa⟩
def qc:C:=
(G 6 (AP (W (.slice By 0 0)))
(G 12 (BZ (J 0))
(G 13 (Dr 124 6 (J 0) (BY (J 1)) (BY (J 2)) (BY (J 12)))
(G 16 (Af iEq .i64 (J 1) (J 2))
(Bg 16
(G 6 (Aa 0)
Ai)
(G 19 (BZ (J 0))
(G 7 (Aa 19)
(B2 (G 22 (Dr 124 6 (J 0) By (BY (J 1)) By)
(G 25 (Dr 124 6 (J 0) (BY (J 2)) By By)
(G 26 (Ac .free (Bk 6 64 124 (J 22) (J 25)))
(G 0 (Aa 26)
(G 29 (BZ (J 0))
(G 31 (Dr 124 6 (J 0) (BY (J 29)) (BY (J 7)) By)
(cDo (Nl EA.zero (J 31))
(G 6 (Aa 0)
Ai))))))))))))))))
def nU:Body:=⟨[.t (J 6)],qc⟩
def npT:C:=(G 29 (Af iEq .i64 (J 3) (W (AI AT 0)))
(Bg 29
(G 33 (AS 147 [(J 0),(J 1),(J 2)])
Ai)
(G 35 (DG (J 8))
(BB (Bg 35
(G 39 (AS 148 [(J 0),(J 1),(J 2)])
(G 41 (C8 yi .i64 (J 3) (W (AI AT 1)))
(G 3 (Aa 41)
Ar)))
Ar)
(G 46 (AS 149 [(J 0),(J 1),(J 2)])
(G 47 (AU 0 (J 46))
(G 48 (AU 1 (J 46))
(G 11 (Aa 47)
(G 12 (Aa 48)
(G 50 (Af iEq .i64 (J 12) (W (AI AT 2)))
(BB (Bg 50
(G 54 (AS 150 [(J 0),(J 1),(J 2)])
(G 56 (C8 yi .i64 (J 2) (W (AI AT 1)))
(G 59 (C8 yi .i64 (J 11) (J 1))
(G 60 (C8 yi .i64 (J 56) (J 59))
(G 11 (Aa 60)
(G 12 (AP (W (AI AT 1)))
Ar))))))
Ar)
(Ae 8 IN 63 (Aa 9)
(G 64 (A2 (J 8) (J 63) (W (.bool IT)))
(Ae 64 IN 66 (Aa 12)
(Ae 64 IN 67 (Af iEq .i64 (J 66) (W (AI AT 1)))
(G 68 (A2 (J 64) (J 67) (W (.bool IT)))
(BB (Bg 68
(G 72 (AS 151 [(J 0),(J 1),(J 2)])
(Bg 72
Ai
Ar))
Ar)
(B2 (G 74 (Af iGt .i64 (J 1) (W (AI AT 0)))
(Ae 74 IN 76 (Aa 0)
(Ae 74 IN 77 (Aa 1)
(Ae 74 IN 78 (C8 yi .i64 (J 77) (W (AI AT 1)))
(Ae 74 IN 79 (CI 1 (J 76) (J 78))
(Ae 74 IN 80 (AM (J 79))
(Ae 74 IN 81 (Aa 0)
(Ae 74 IN 82 (Aa 11)
(Ae 74 IN 83 (CI 1 (J 81) (J 82))
(Ae 74 IN 84 (AM (J 83))
(Ae 74 IN 85 (Ac .free (AS 152 [(J 80),(J 84)]))
(Ae 74 IN 86 (DG (J 85))
(G 87 (A2 (J 74) (J 86) (W (.bool IT)))
(Bg 87
(G 92 (AS 153 [(J 0),(J 1),(J 2),(J 11)])
(G 13 (Aa 92)
(G 1 (Aa 13)
(CC 1))))
(G 99 (AS 154 [(J 0),(J 1),(J 2),(J 11)])
(G 100 (AU 0 (J 99))
(G 101 (AU 1 (J 99))
(G 14 (Aa 100)
(G 15 (Aa 101)
(G 9 (Aa 15)
(G 105 (C8 yi .i64 (J 14) (J 1))
(G 108 (C8 yi .i64 (J 2) (J 14))
(G 16 (Aa 105)
(G 17 (Aa 108)
(G 110 (L8 .i64 (J 10) (W (AI AT 8)))
(G 18 (Aa 110)
(G 113 (Af iLt .i64 (J 16) (J 17))
(Bg 113
(G 116 (Af iGe .i64 (J 16) (J 18))
(G 8 (Aa 116)
(G 121 (AS 129 [(J 0),(J 1),(J 14),(J 3)])
(G 123 (CH .i64 (BE .i64) (J 14) (W (AI AT 1)))
(G 1 (Aa 123)
Ar)))))
(G 126 (Af iGe .i64 (J 17) (J 18))
(G 8 (Aa 126)
(G 129 (CH .i64 (BE .i64) (J 14) (W (AI AT 1)))
(G 132 (AS 129 [(J 0),(J 129),(J 2),(J 3)])
(G 2 (Aa 14)
Ar)))))))))))))))))))))))))))))))))))))))))))))))))))
def su:C:=(AY 1 (G 21 (C8 yi .i64 (J 2) (J 1))
(G 10 (Aa 21)
(G 23 (Af iLe .i64 (J 10) (W (AI AT 12)))
(Bg 23
(G 27 (AS 146 [(J 0),(J 1),(J 2)])
Ai)
npT)))))
def npB:C:=su
def aV:C:=G 8 (AP (W (.bool IN))) (G 9 (AP (W (.bool IN))) (AY 0 (A3 npB)))
def qd:C:=aV
def nV:Body:=⟨[],qd⟩
def qf:C:=
(G 4 (AP (W (AI AT 0)))
(BB (AY 0 (G 7 (AS 26 [(J 0)])
(G 5 (Aa 7)
(Bg 5
(G 4 (AP (W (AI AT 1)))
Ai)
(G 10 (Bh (J 0))
(G 11 (AE 3 (J 10))
(G 12 (AM (J 11))
(G 8 (Aa 12)
(Bg 8
(G 4 (AP (W (AI AT 15)))
Ai)
(G 15 (Af iLt .i64 (J 1) (W (AI AT 0)))
(Ae 15 IT 17 (Aa 1)
(Ae 15 IT 18 (Aa 0)
(Ae 15 IT 19 (Bh (J 18))
(Ae 15 IT 20 (AE 0 (J 19))
(Ae 15 IT 21 (AM (J 20))
(Ae 15 IT 22 (BZ (J 21))
(Ae 15 IT 23 (Af iGe .i64 (J 17) (J 22))
(G 24 (A2 (J 15) (W (.bool IN)) (J 23))
(G 13 (Aa 24)
(Bg 13
(G 4 (AP (W (AI AT 50)))
Ai)
Ar))))))))))))))))))))
(G 4 (AP (W (AI AT 0)))
Ai)))
def nW:Body:=⟨[.t (J 4)],qf⟩
def ifB:C:=(G 9 (Af iLt .i64 (J 8) (J 7))
(Bg 9
(BB (AY 1 (G 5 (Aa 8)
(G 14 (CI 1 (J 0) (J 5))
(G 15 (AM (J 14))
(G 16 (B4 (J 1) [(J 15)])
(Bg 16
(G 4 (Aa 5)
Ai)
Ar))))))
(G 18 (CH .i64 (BE .i64) (J 8) (W (AI AT 1)))
(G 8 (Aa 18)
Ar)))
(CC 0)))
def ifE:C:=G 4 (AP (W (AI AT (-1)))) Ai
def ifS:C:=BB (AY 0 (A3 ifB)) ifE
def Ot:C:=(G 4 (AP (W (AI AT 0)))
(G 7 (BZ (J 0))
(G 8 (AP (W (AI AT 0)))
ifS)))
def qh:C:=Ot
def nX:Body:=⟨[.t (J 4)],qh⟩
def qj:C:=
(G 2 (AP (W (.bool IT)))
(G 4 (Af iNe .u8 (J 0) (W (.int .u8 0)))
(G 2 (Aa 4)
Ai)))
def nY:Body:=⟨[.t (J 2)],qj⟩
def swB:C:=(B2 (G 41 (C8 yi .i64 (J 9) (W (AI AT 1)))
(G 44 (C8 yi .i64 (J 9) (W (AI AT 1)))
(G 45 (CI 6 (J 0) (J 44))
(G 46 (BC 6 (J 45))
(G 49 (CI 6 (J 0) (J 9))
(G 50 (BC 6 (J 49))
(G 51 (CI 6 (J 0) (J 9))
(cDo (Ac .free (AZ 6 (J 51) (J 46)))
(G 52 (CI 6 (J 0) (J 41))
(cDo (Ac .free (AZ 6 (J 52) (J 50)))
Ar)))))))))))
def cI:C:=(B2 (G 20 (Af iGt .i64 (J 9) (J 1))
(Ae 20 IN 22 (Aa 3)
(Ae 20 IN 23 (Aa 0)
(Ae 20 IN 24 (Aa 9)
(Ae 20 IN 25 (CI 6 (J 23) (J 24))
(Ae 20 IN 26 (BC 6 (J 25))
(Ae 20 IN 27 (Aa 0)
(Ae 20 IN 28 (Aa 9)
(Ae 20 IN 29 (C8 yi .i64 (J 28) (W (AI AT 1)))
(Ae 20 IN 30 (CI 6 (J 27) (J 29))
(Ae 20 IN 31 (BC 6 (J 30))
(Ae 20 IN 32 (Ac .free (B4 (J 22) [(J 26),(J 31)]))
(Ae 20 IN 33 (Af iLt .i64 (J 32) (W (AI AT 0)))
(G 34 (A2 (J 20) (J 33) (W (.bool IT)))
(Bg 34
(BB (AY 3 swB)
(G 36 (C8 yi .i64 (J 9) (W (AI AT 1)))
(G 9 (Aa 36)
Ar)))
(CC 2)))))))))))))))))
def jnB:C:=cI
def cJ:C:=(G 14 (Af iLt .i64 (J 8) (J 2))
(Bg 14
(BB (AY 1 (G 9 (Aa 8)
(AY 2 (A3 jnB))))
(G 16 (CH .i64 (BE .i64) (J 8) (W (AI AT 1)))
(G 8 (Aa 16)
Ar)))
(CC 0)))
def jsB:C:=cJ
def We:C:=G 11 (CH .i64 (BE .i64) (J 1) (W (AI AT 1))) (G 8 (Aa 11) (AY 0 (A3 jsB)))
def qk:C:=We
def nZ:Body:=⟨[],qk⟩
def ql:C:=
(G 2 (AP (W (AI AT 0)))
(G 4 (Af iGe .u64 (J 0) (W (.int .u64 4294967296)))
(BB (Bg 4
(G 6 (L9 .u64 (J 0) (W (.int .u64 32)))
(G 0 (Aa 6)
(G 2 (AP (W (AI AT 32)))
Ar)))
Ar)
(G 8 (Af iGe .u64 (J 0) (W (.int .u64 65536)))
(BB (Bg 8
(G 10 (L9 .u64 (J 0) (W (.int .u64 16)))
(G 0 (Aa 10)
(G 12 (CH .i64 (BE .i64) (J 2) (W (AI AT 16)))
(G 2 (Aa 12)
Ar))))
Ar)
(G 14 (Af iGe .u64 (J 0) (W (.int .u64 256)))
(BB (Bg 14
(G 16 (L9 .u64 (J 0) (W (.int .u64 8)))
(G 0 (Aa 16)
(G 18 (CH .i64 (BE .i64) (J 2) (W (AI AT 8)))
(G 2 (Aa 18)
Ar))))
Ar)
(G 21 (CW .u8 (J 0))
(G 22 (JR (W (.string ⟨#[0,1,2,2,3,3,3,3,4,4,4,4,4,4,4,4,5,5,5,5,5,5,5,5,5,5,5,5,5,5,5,5,6,6,6,6,6,6,6,6,6,6,6,6,6,6,6,6,6,6,6,6,6,6,6,6,6,6,6,6,6,6,6,6,7,7,7,7,7,7,7,7,7,7,7,7,7,7,7,7,7,7,7,7,7,7,7,7,7,7,7,7,7,7,7,7,7,7,7,7,7,7,7,7,7,7,7,7,7,7,7,7,7,7,7,7,7,7,7,7,7,7,7,7,7,7,7,7,8,8,8,8,8,8,8,8,8,8,8,8,8,8,8,8,8,8,8,8,8,8,8,8,8,8,8,8,8,8,8,8,8,8,8,8,8,8,8,8,8,8,8,8,8,8,8,8,8,8,8,8,8,8,8,8,8,8,8,8,8,8,8,8,8,8,8,8,8,8,8,8,8,8,8,8,8,8,8,8,8,8,8,8,8,8,8,8,8,8,8,8,8,8,8,8,8,8,8,8,8,8,8,8,8,8,8,8,8,8,8,8,8,8,8,8,8,8,8,8,8,8,8,8,8,8,8,8]⟩)) (J 21))
(G 23 (CW .i64 (J 22))
(G 24 (CH .i64 (BE .i64) (J 2) (J 23))
(G 2 (Aa 24)
Ai))))))))))))
def nc:Body:=⟨[.t (J 2)],ql⟩
def iD:C:=
(G 2 (AP (W (.bool IT)))
(G 5 (Af iNe .i64 (J 0) (J 0))
(G 2 (Aa 5)
Ai)))
def nf:Body:=⟨[.t (J 2)],iD⟩
def qn:C:=
(G 2 (AP (W (AI AT 0)))
(G 4 (Bh (J 0))
(G 5 (AE 2 (J 4))
(G 6 (AM (J 5))
(G 7 (Af iEq .i64 (J 6) (W (AI AT 0)))
(Bg 7
(G 10 (Bh (J 0))
(G 11 (AE 3 (J 10))
(cDo (AZ 1 (J 11) (W (.bool IN)))
(G 12 (Bh (J 0))
(G 13 (AE 2 (J 12))
(cDo (AZ 1 (J 13) (W (AI AT (-1))))
(G 2 (AP (W (AI AT 15)))
Ai)))))))
(G 16 (Bh (J 0))
(G 17 (AE 2 (J 16))
(G 18 (AM (J 17))
(G 19 (C8 yi .i64 (J 18) (W (AI AT 1)))
(G 20 (VF (J 19) (W (AI AT (-1))))
(G 21 (Bh (J 0))
(G 22 (AE 2 (J 21))
(cDo (AZ 1 (J 22) (J 20))
(G 2 (AP (W (AI AT 0)))
Ai)))))))))))))))
def ng:Body:=⟨[.t (J 2)],qn⟩
def qo:C:=
(G 3 (CV (J 0))
(G 4 (AP (W (.bool IT)))
(G 5 (AE 0 (J 3))
(G 6 (AE 0 (J 5))
(G 7 (AM (J 6))
(G 8 (AM (J 1))
(G 9 (Af iEq .i64 (J 7) (J 8))
(Ae 9 IN 11 (AE 0 (J 3))
(Ae 9 IN 12 (AE 1 (J 11))
(Ae 9 IN 13 (AM (J 12))
(Ae 9 IN 14 (AM (J 2))
(Ae 9 IN 15 (Af iEq .i64 (J 13) (J 14))
(G 16 (A2 (J 9) (J 15) (W (.bool IT)))
(Ae 16 IN 18 (AE 0 (J 3))
(Ae 16 IN 19 (AE 3 (J 18))
(Ae 16 IN 20 (AM (J 19))
(Ae 16 IN 21 (Af iEq .u8 (J 20) (W (.int .u8 2)))
(G 22 (A2 (J 16) (J 21) (W (.bool IT)))
(G 4 (Aa 22)
Ai)))))))))))))))))))
def nh:Body:=⟨[.t (J 4)],qo⟩
def nwB:C:=(B2 (G 37 (C8 yi .i64 (J 7) (W (AI AT 1)))
(G 40 (C8 yi .i64 (J 7) (W (AI AT 1)))
(G 41 (CI 1 (J 0) (J 40))
(G 42 (AM (J 41))
(G 45 (CI 1 (J 0) (J 7))
(G 46 (AM (J 45))
(G 47 (CI 1 (J 0) (J 7))
(cDo (Ac .free (AZ 1 (J 47) (J 42)))
(G 48 (CI 1 (J 0) (J 37))
(cDo (Ac .free (AZ 1 (J 48) (J 46)))
Ar)))))))))))
def ce:C:=(B2 (G 18 (Af iGt .i64 (J 7) (J 1))
(Ae 18 IN 20 (Aa 0)
(Ae 18 IN 21 (Aa 7)
(Ae 18 IN 22 (CI 1 (J 20) (J 21))
(Ae 18 IN 23 (AM (J 22))
(Ae 18 IN 24 (Aa 0)
(Ae 18 IN 25 (Aa 7)
(Ae 18 IN 26 (C8 yi .i64 (J 25) (W (AI AT 1)))
(Ae 18 IN 27 (CI 1 (J 24) (J 26))
(Ae 18 IN 28 (AM (J 27))
(Ae 18 IN 29 (Ac .free (AS 152 [(J 23),(J 28)]))
(G 30 (A2 (J 18) (J 29) (W (.bool IT)))
(Bg 30
(BB (AY 3 nwB)
(G 32 (C8 yi .i64 (J 7) (W (AI AT 1)))
(G 7 (Aa 32)
Ar)))
(CC 2)))))))))))))))
def nnB:C:=ce
def jb:C:=(G 12 (Af iLt .i64 (J 6) (J 2))
(Bg 12
(BB (AY 1 (G 7 (Aa 6)
(AY 2 (A3 nnB))))
(G 14 (CH .i64 (BE .i64) (J 6) (W (AI AT 1)))
(G 6 (Aa 14)
Ar)))
(CC 0)))
def noB:C:=jb
def aW:C:=G 9 (CH .i64 (BE .i64) (J 1) (W (AI AT 1))) (G 6 (Aa 9) (AY 0 (A3 noB)))
def qp:C:=aW
def nk:Body:=⟨[],qp⟩
def qq:C:=
(G 4 (AP (W (.bool IT)))
(G 6 (AS 143 [(J 0)])
(Ae 6 IN 8 (Aa 1)
(Ae 6 IN 9 (AS 143 [(J 8)])
(Ae 6 IN 10 (DG (J 9))
(G 11 (A2 (J 6) (J 10) (W (.bool IT)))
(Ae 11 IT 13 (Aa 0)
(Ae 11 IT 14 (Aa 1)
(Ae 11 IT 15 (Af iLt .i64 (J 13) (J 14))
(G 16 (A2 (J 11) (W (.bool IN)) (J 15))
(G 4 (Aa 16)
Ai)))))))))))
def nr:Body:=⟨[.t (J 4)],qq⟩
theorem QZ{a b:String}(h:(a == b)=IT):a≠b:=by simpa using h
theorem oFn{g:Nat}{f:Func}{b:Body}(A:List Nat)(c:xk.funcs[g]? =BY f)(d:(f.name == "runtime.NumGoroutine")=IT)(a:Zx ty A f=BY b):BH xk ty g b:=Or.inl ⟨f,A,c,QZ d,a⟩
theorem o4:BH xk ty 4 b4:=oFn [24,29,34,36,40,47,48,53,55,60,61,62,66,68,69,74,76,77,79,85,89,96,103,105,107,111,112,116,118,122] Tryz.func4 (by kernel_rfl) (by kernel_rfl)
theorem o5:BH xk ty 5 b5:=oFn [8,9,11,13,18,19,23,24,26,28,32] AEN (by kernel_rfl) (by kernel_rfl)
theorem o6:BH xk ty 6 b6:=oFn [9,13,14,15,19,20,21,23] Tryz.func6 (by kernel_rfl) (by kernel_rfl)
theorem o7:BH xk ty 7 b7:=oFn [4,7,14,15] Tryz.func7 (by kernel_rfl) (by kernel_rfl)
theorem o8:BH xk ty 8 b8:=oFn [5,6,9,13,15,16,22,23,24,29] Tryz.func8 (by kernel_rfl) (by kernel_rfl)
theorem o9:BH xk ty 9 b9:=oFn [7,9,12,21,28,35,42,49,54] Tryz.func9 (by kernel_rfl) (by kernel_rfl)
theorem o10:BH xk ty 10 b10:=oFn [3,6] Tryz.func10 (by kernel_rfl) (by kernel_rfl)
theorem o11:BH xk ty 11 b11:=oFn [3,5] Tryz.func11 (by kernel_rfl) (by kernel_rfl)
theorem o12:BH xk ty 12 b12:=oFn [7,21] Tryz.func12 (by kernel_rfl) (by kernel_rfl)
theorem o15:BH xk ty 15 b15:=oFn [10,11,12,13,17,19,20,21,22] Tryz.func15 (by kernel_rfl) (by kernel_rfl)
theorem o16:BH xk ty 16 b16:=oFn [3,5] Tryz.func16 (by kernel_rfl) (by kernel_rfl)
theorem o17:BH xk ty 17 b17:=oFn [3,5] Tryz.func17 (by kernel_rfl) (by kernel_rfl)
theorem o18:BH xk ty 18 b18:=oFn [11,15,16,20,22,26,29,34,39,44,45,50,52,59,60,63,68,73] AEI (by kernel_rfl) (by kernel_rfl)
theorem o19:BH xk ty 19 b19:=oFn [6,8,11,12,15,17,18,21,22] Tryz.func19 (by kernel_rfl) (by kernel_rfl)
theorem o20:BH xk ty 20 b20:=oFn [26,27] Tryz.func20 (by kernel_rfl) (by kernel_rfl)
theorem o21:BH xk ty 21 b21:=oFn [10,12,14,15,16,20,24,26,27,28,33,35,36] Tryz.func21 (by kernel_rfl) (by kernel_rfl)
theorem o22:BH xk ty 22 b22:=oFn [10,17,24,31,38,45] Tryz.func22 (by kernel_rfl) (by kernel_rfl)
theorem o23:BH xk ty 23 b23:=oFn [12,13,14,19,22,23,25,27,30,32,35,41,43,45,47,55,56,60,62,64] Tryz.func23 (by kernel_rfl) (by kernel_rfl)
theorem o24:BH xk ty 24 b24:=oFn [3,5] Tryz.func24 (by kernel_rfl) (by kernel_rfl)
theorem o25:BH xk ty 25 b25:=oFn [4,6,10] Tryz.func25 (by kernel_rfl) (by kernel_rfl)
theorem o26:BH xk ty 26 b26:=oFn [3,5] Tryz.func26 (by kernel_rfl) (by kernel_rfl)
theorem o27:BH xk ty 27 b27:=oFn [4,6,14,20] Tryz.func27 (by kernel_rfl) (by kernel_rfl)
theorem o28:BH xk ty 28 b28:=oFn [12,17,22,23,26,40] Tryz.func28 (by kernel_rfl) (by kernel_rfl)
theorem o29:BH xk ty 29 b29:=oFn [5] Tryz.func29 (by kernel_rfl) (by kernel_rfl)
theorem o30:BH xk ty 30 b30:=oFn [5] Tryz.func30 (by kernel_rfl) (by kernel_rfl)
theorem o31:BH xk ty 31 b31:=oFn [5] Tryz.func31 (by kernel_rfl) (by kernel_rfl)
theorem o32:BH xk ty 32 b32:=oFn [10,14,15,29,33] Tryz.func32 (by kernel_rfl) (by kernel_rfl)
theorem o33:BH xk ty 33 b33:=oFn [5] Tryz.func33 (by kernel_rfl) (by kernel_rfl)
theorem o34:BH xk ty 34 b34:=oFn [5] Tryz.func34 (by kernel_rfl) (by kernel_rfl)
theorem o35:BH xk ty 35 b35:=oFn [3,5] Tryz.func35 (by kernel_rfl) (by kernel_rfl)
theorem o36:BH xk ty 36 b36:=oFn [7,9,13,17] Tryz.func36 (by kernel_rfl) (by kernel_rfl)
theorem o37:BH xk ty 37 b37:=oFn [9,11,15] Tryz.func37 (by kernel_rfl) (by kernel_rfl)
theorem o39:BH xk ty 39 b39:=oFn [21,24,26,31,34,41,43,44,45,48,49,54,55,57,64,66,68,69,74,82,83,86,87,91,94,99,100,105,106,107,115,120,121,123,124,129,131,133] Tryz.func39 (by kernel_rfl) (by kernel_rfl)
theorem o40:BH xk ty 40 b40:=oFn [6,8,17,23] Tryz.func40 (by kernel_rfl) (by kernel_rfl)
theorem o41:BH xk ty 41 b41:=oFn [15,16,21,23,29,36,43,49,56,63] Tryz.func41 (by kernel_rfl) (by kernel_rfl)
theorem o42:BH xk ty 42 b42:=oFn [12,13,14,15,17,20] Tryz.func42 (by kernel_rfl) (by kernel_rfl)
theorem o43:BH xk ty 43 b43:=oFn [6,8,11,12,15,17,18,21,22] Tryz.func43 (by kernel_rfl) (by kernel_rfl)
theorem o44:BH xk ty 44 b44:=oFn [10,17,24,31] Tryz.func44 (by kernel_rfl) (by kernel_rfl)
theorem o45:BH xk ty 45 b45:=oFn [13,14,18] Tryz.func45 (by kernel_rfl) (by kernel_rfl)
theorem o46:BH xk ty 46 b46:=oFn [8,12,13,17,18,19,23,25,26,32,33,35] Tryz.func46 (by kernel_rfl) (by kernel_rfl)
theorem o47:BH xk ty 47 b47:=oFn [5,6,10] Tryz.func47 (by kernel_rfl) (by kernel_rfl)
theorem o48:BH xk ty 48 b48:=oFn [12,13,14,19,22,23,25,27,30,32,34,37,38,42,44,46] Tryz.func48 (by kernel_rfl) (by kernel_rfl)
theorem o49:BH xk ty 49 b49:=oFn [36,49,50] Tryz.func49 (by kernel_rfl) (by kernel_rfl)
theorem o50:BH xk ty 50 b50:=oFn [5,7] Tryz.func50 (by kernel_rfl) (by kernel_rfl)
theorem o51:BH xk ty 51 b51:=oFn [15,16,17,21,23,27,36,37] Tryz.func51 (by kernel_rfl) (by kernel_rfl)
theorem o52:BH xk ty 52 b52:=oFn [11,16,22,28,34,39,40] Tryz.func52 (by kernel_rfl) (by kernel_rfl)
theorem o53:BH xk ty 53 b53:=oFn [3,5] Tryz.func53 (by kernel_rfl) (by kernel_rfl)
theorem o54:BH xk ty 54 b54:=oFn [19,21,23,24,25,26,27,33,42,43,44,45,47,49,53,58,61,62,63,64,67,73,79,80,88,91,92,93,99,100,101,102,103,105,109,111,112,113,121,122,128,134] Tryz.func54 (by kernel_rfl) (by kernel_rfl)
theorem o55:BH xk ty 55 b55:=oFn [18,20,22,23,24,25,26,29,31,44,45,46,47,50,52,56,61,62,71,72,73,77,80,82,83,84,91,95,98,99,105,109,115,117,124,131,132,133,137,139,140] Tryz.func55 (by kernel_rfl) (by kernel_rfl)
theorem o56:BH xk ty 56 b56:=oFn [11,13,15,16,17,18,19,22,23,24,25,28,30,31] Tryz.func56 (by kernel_rfl) (by kernel_rfl)
theorem o57:BH xk ty 57 b57:=oFn [8,18,21,26,32] Tryz.func57 (by kernel_rfl) (by kernel_rfl)
theorem o58:BH xk ty 58 b58:=oFn [9] Tryz.func58 (by kernel_rfl) (by kernel_rfl)
theorem o59:BH xk ty 59 b59:=oFn [11,14,15,16,17,19,22,26] Tryz.func59 (by kernel_rfl) (by kernel_rfl)
theorem o60:BH xk ty 60 b60:=oFn [14,16,17,18,19,21,23,24,25,29,38,40,43,50,57,64,79] Tryz.func60 (by kernel_rfl) (by kernel_rfl)
theorem o61:BH xk ty 61 b61:=oFn [] Tryz.func61 (by kernel_rfl) (by kernel_rfl)
theorem o62:BH xk ty 62 b62:=oFn [] Tryz.func62 (by kernel_rfl) (by kernel_rfl)
theorem o63:BH xk ty 63 b63:=oFn [13,15,17,18,24,26,28,32,38,40,47,54,55,57,59] Tryz.func63 (by kernel_rfl) (by kernel_rfl)
theorem o64:BH xk ty 64 b64:=oFn [7,8,10] Tryz.func64 (by kernel_rfl) (by kernel_rfl)
theorem o67:BH xk ty 67 b67:=oFn [3,5] Tryz.func67 (by kernel_rfl) (by kernel_rfl)
theorem o68:BH xk ty 68 b68:=oFn [3,5,9] Tryz.func68 (by kernel_rfl) (by kernel_rfl)
theorem o69:BH xk ty 69 b69:=oFn [15,16,20,21,26,29,30,33,34,38,44,46,55,57,58,59,60,65,68,69,76,80] Tryz.func69 (by kernel_rfl) (by kernel_rfl)
theorem o70:BH xk ty 70 b70:=oFn [5,7,8,9,12] Tryz.func70 (by kernel_rfl) (by kernel_rfl)
theorem o71:BH xk ty 71 b71:=oFn [] Tryz.func71 (by kernel_rfl) (by kernel_rfl)
theorem o72:BH xk ty 72 b72:=oFn [12,17,18,21,29,34] Tryz.func72 (by kernel_rfl) (by kernel_rfl)
theorem o73:BH xk ty 73 b73:=oFn [] Tryz.func73 (by kernel_rfl) (by kernel_rfl)
theorem o74:BH xk ty 74 b74:=oFn [5,6] Tryz.func74 (by kernel_rfl) (by kernel_rfl)
theorem o76:BH xk ty 76 b76:=oFn [5,6] Tryz.func76 (by kernel_rfl) (by kernel_rfl)
theorem o77:BH xk ty 77 b77:=oFn [8,17,23] Tryz.func77 (by kernel_rfl) (by kernel_rfl)
theorem o78:BH xk ty 78 b78:=oFn [] Tryz.func78 (by kernel_rfl) (by kernel_rfl)
theorem o79:BH xk ty 79 b79:=oFn [5,7,8,14,16,17] Tryz.func79 (by kernel_rfl) (by kernel_rfl)
theorem o80:BH xk ty 80 b80:=oFn [7,9,13,14,15,17,18,25,29] Tryz.func80 (by kernel_rfl) (by kernel_rfl)
theorem o81:BH xk ty 81 b81:=oFn [15,16,19,23,31,32,35] Tryz.func81 (by kernel_rfl) (by kernel_rfl)
theorem o82:BH xk ty 82 b82:=oFn [7,10,11,16,17,20,23] Tryz.func82 (by kernel_rfl) (by kernel_rfl)
theorem o83:BH xk ty 83 b83:=oFn [10,17,19,26,27] Tryz.func83 (by kernel_rfl) (by kernel_rfl)
theorem o84:BH xk ty 84 b84:=oFn [11,13,19,20,21,24,26,27,30,31,33,35,39,47,48,51,55,57,58] Tryz.func84 (by kernel_rfl) (by kernel_rfl)
theorem o85:BH xk ty 85 b85:=oFn [9,16,17,19] Tryz.func85 (by kernel_rfl) (by kernel_rfl)
theorem o86:BH xk ty 86 b86:=oFn [14,15,16,21,23,27,29,31,33,34,38,39,41,42,44,46,48,49] Tryz.func86 (by kernel_rfl) (by kernel_rfl)
theorem o87:BH xk ty 87 b87:=oFn [5,6] Tryz.func87 (by kernel_rfl) (by kernel_rfl)
theorem o88:BH xk ty 88 b88:=oFn [11] Tryz.func88 (by kernel_rfl) (by kernel_rfl)
theorem o89:BH xk ty 89 b89:=oFn [4,6,14] Tryz.func89 (by kernel_rfl) (by kernel_rfl)
theorem o90:BH xk ty 90 b90:=oFn [3,6] Tryz.func90 (by kernel_rfl) (by kernel_rfl)
theorem o91:BH xk ty 91 b91:=oFn [6,11,16,21,26,31,41] Tryz.func91 (by kernel_rfl) (by kernel_rfl)
theorem o92:BH xk ty 92 b92:=oFn [9] Tryz.func92 (by kernel_rfl) (by kernel_rfl)
theorem o93:BH xk ty 93 b93:=oFn [6,8,11,15,16,17,20,21] Tryz.func93 (by kernel_rfl) (by kernel_rfl)
theorem o94:BH xk ty 94 b94:=oFn [10,11,12,14,16] Tryz.func94 (by kernel_rfl) (by kernel_rfl)
theorem o95:BH xk ty 95 b95:=oFn [28,39,40,43,44,45] Tryz.func95 (by kernel_rfl) (by kernel_rfl)
theorem o96:BH xk ty 96 b96:=oFn [11,12,15,19,20,23,24,27,31] Tryz.func96 (by kernel_rfl) (by kernel_rfl)
theorem o97:BH xk ty 97 b97:=oFn [5,6] Tryz.func97 (by kernel_rfl) (by kernel_rfl)
theorem o98:BH xk ty 98 b98:=oFn [14,16,18,21] Tryz.func98 (by kernel_rfl) (by kernel_rfl)
theorem o99:BH xk ty 99 b99:=oFn [3,6] Tryz.func99 (by kernel_rfl) (by kernel_rfl)
theorem vN:BH xk ty 100 ml:=oFn [3,6] Tryz.func100 (by kernel_rfl) (by kernel_rfl)
theorem vO:BH xk ty 101 mo:=oFn [6,10,14,15,20,21,26,27,32,37,42] Tryz.func101 (by kernel_rfl) (by kernel_rfl)
theorem vP:BH xk ty 102 mq:=oFn [6,7,11,17,19,20,21] Tryz.func102 (by kernel_rfl) (by kernel_rfl)
theorem vQ:BH xk ty 104 mr:=oFn [3,5,6,7] Tryz.func104 (by kernel_rfl) (by kernel_rfl)
theorem vR:BH xk ty 106 mu:=oFn [9,10,12,14,15,16,20,24,26,30] Tryz.func106 (by kernel_rfl) (by kernel_rfl)
theorem vS:BH xk ty 107 mw:=oFn [5,6] Tryz.func107 (by kernel_rfl) (by kernel_rfl)
theorem vT:BH xk ty 108 my:=oFn [3] Tryz.func108 (by kernel_rfl) (by kernel_rfl)
theorem vU:BH xk ty 109 mz:=oFn [15,16,17,21,23,31,32,33,34,35,41,43,68,73,78] Tryz.func109 (by kernel_rfl) (by kernel_rfl)
theorem vV:BH xk ty 110 nC:=oFn [12,14,16,18,19,23,24,27,32,34,35,36,38,39,40] Tryz.func110 (by kernel_rfl) (by kernel_rfl)
theorem vW:BH xk ty 111 nE:=oFn [21,22,24,26,27,28,29,31,33,34,35,36,38,40,41,42,43,45,47,48,49,50,51,55,57,58,59,60,62,64,65,68,69,72,76,77,78,79,81,83,98,99,100,101,102,104,105,106,107,108,109,110,114,115,116,118,119,121,123,124,126,127,129,130,131,132,133,135,137,138,140,141,143,144,145,147] Tryz.func111 (by kernel_rfl) (by kernel_rfl)
theorem vX:BH xk ty 112 nF:=oFn [3,6] Tryz.func112 (by kernel_rfl) (by kernel_rfl)
theorem vY:BH xk ty 113 nG:=oFn [12,13,15,17] Tryz.func113 (by kernel_rfl) (by kernel_rfl)
theorem vZ:BH xk ty 114 nH:=oFn [7,9,11,12,13,14,15,17,18] Tryz.func114 (by kernel_rfl) (by kernel_rfl)
theorem va:BH xk ty 117 nI:=oFn [6,10,11,12,13,17] Tryz.func117 (by kernel_rfl) (by kernel_rfl)
theorem vd:BH xk ty 118 nJ:=oFn [6,10,11,12,13,17] Tryz.func118 (by kernel_rfl) (by kernel_rfl)
theorem ve:BH xk ty 119 nL:=oFn [] Tryz.func119 (by kernel_rfl) (by kernel_rfl)
theorem vf:BH xk ty 120 nM:=oFn [9,10,12,14,15,18,20,22,23,27,28] Tryz.func120 (by kernel_rfl) (by kernel_rfl)
theorem vg:BH xk ty 121 nN:=oFn [7,9,11,12,14,16,17,27,31,34] Tryz.func121 (by kernel_rfl) (by kernel_rfl)
theorem vk:BH xk ty 122 nO:=oFn [5,8,9,11,15,17,18,21,23,26] Tryz.func122 (by kernel_rfl) (by kernel_rfl)
theorem vm:BH xk ty 123 nP:=oFn [6,10,11,12,13,17] Tryz.func123 (by kernel_rfl) (by kernel_rfl)
theorem vo:BH xk ty 124 nQ:=oFn [11,18] Tryz.func124 (by kernel_rfl) (by kernel_rfl)
theorem vp:BH xk ty 125 nR:=oFn [7] Tryz.func125 (by kernel_rfl) (by kernel_rfl)
theorem vq:BH xk ty 126 nT:=oFn [] Tryz.func126 (by kernel_rfl) (by kernel_rfl)
theorem vr:BH xk ty 127 nU:=oFn [8,9,10,11,14,15,17,18,20,21,23,24,27,28,30,32] Tryz.func127 (by kernel_rfl) (by kernel_rfl)
theorem vt:BH xk ty 129 nV:=oFn [19,20,22,24,25,26,28,30,31,32,34,36,37,38,40,42,43,44,45,49,51,52,53,55,57,58,61,62,65,69,70,71,73,75,88,89,90,91,93,94,95,96,97,98,102,103,104,106,107,109,111,112,114,115,117,118,119,120,122,124,125,127,128,130,131,133] Tryz.func129 (by kernel_rfl) (by kernel_rfl)
theorem vu:BH xk ty 130 nW:=oFn [6,9,14,16] Tryz.func130 (by kernel_rfl) (by kernel_rfl)
theorem vw:BH xk ty 131 nX:=oFn [6,10,11,12,13,17] Tryz.func131 (by kernel_rfl) (by kernel_rfl)
theorem vx:BH xk ty 132 nY:=oFn [3] Tryz.func132 (by kernel_rfl) (by kernel_rfl)
theorem vy:BH xk ty 133 nZ:=oFn [10,12,13,15,17,18,19,21,35,37,38,39,40,42,43,47,48] Tryz.func133 (by kernel_rfl) (by kernel_rfl)
theorem vz:BH xk ty 142 nc:=oFn [3,5,7,9,11,13,15,17,19,20] Tryz.func142 (by kernel_rfl) (by kernel_rfl)
theorem v7:BH xk ty 143 nf:=oFn [3,4] Tryz.func143 (by kernel_rfl) (by kernel_rfl)
theorem wA:BH xk ty 144 ng:=oFn [3,8,9,14,15] Tryz.func144 (by kernel_rfl) (by kernel_rfl)
theorem wB:BH xk ty 145 nh:=oFn [10,17] Tryz.func145 (by kernel_rfl) (by kernel_rfl)
theorem wC:BH xk ty 146 nk:=oFn [8,10,11,13,15,16,17,19,31,33,34,35,36,38,39,43,44] Tryz.func146 (by kernel_rfl) (by kernel_rfl)
theorem wD:BH xk ty 152 nr:=oFn [5,7,12] Tryz.func152 (by kernel_rfl) (by kernel_rfl)
theorem A8(i:Nat):BH xk ty i A6:=Or.inr (.inl rfl)
def ndL(b:Body):FT:=.nd b .mt .mt
theorem ndO{a:Nat->Nat}{b:Body}(h:BH xk ty (a 0) b):FT.All (BH xk ty) (ndL b) a:=⟨h,OF,OF⟩
def HD:FT:=(.nd A6 (.nd A6 (.nd A6 (.nd b7 (.nd b15 (.nd b31 (.nd b63 (ndL nU) .mt) (.nd b95 (ndL A6) .mt)) (.nd b47 (.nd b79 (ndL nf) .mt) (.nd nE (ndL A6) .mt))) (.nd b23 (.nd b39 (.nd b71 (ndL A6) .mt) (.nd A6 (ndL A6) .mt)) (.nd b55 (.nd b87 (ndL A6) .mt) (ndL nL)))) (.nd b11 (.nd b19 (.nd b35 (.nd b67 (ndL nX) .mt) (.nd b99 (ndL A6) .mt)) (.nd b51 (.nd b83 (ndL A6) .mt) (.nd A6 (ndL A6) .mt))) (.nd b27 (.nd b43 (.nd A6 (ndL A6) .mt) (.nd mw (ndL A6) .mt)) (.nd b59 (.nd b91 (ndL A6) .mt) (ndL nP))))) (.nd b5 (.nd b9 (.nd b17 (.nd b33 (.nd A6 (ndL nV) .mt) (.nd b97 (ndL A6) .mt)) (.nd b49 (.nd b81 (ndL nh) .mt) (.nd nG (ndL A6) .mt))) (.nd b25 (.nd b41 (.nd b73 (ndL A6) .mt) (.nd A6 (ndL A6) .mt)) (.nd b57 (.nd b89 (ndL A6) .mt) (ndL nN)))) (.nd A6 (.nd b21 (.nd b37 (.nd b69 (ndL nZ) .mt) (.nd mo (ndL A6) .mt)) (.nd b53 (.nd b85 (ndL A6) .mt) (.nd nI (ndL A6) .mt))) (.nd b29 (.nd b45 (.nd b77 (ndL A6) .mt) (.nd mz (ndL A6) .mt)) (.nd b61 (.nd b93 (ndL A6) .mt) (ndL nR)))))) (.nd A6 (.nd b4 (.nd b8 (.nd b16 (.nd b32 (.nd b64 (ndL A6) .mt) (.nd b96 (ndL A6) .mt)) (.nd b48 (.nd b80 (ndL ng) .mt) (.nd nF (ndL A6) .mt))) (.nd b24 (.nd b40 (.nd b72 (ndL A6) .mt) (.nd mr (ndL A6) .mt)) (.nd b56 (.nd b88 (ndL nr) .mt) (ndL nM)))) (.nd b12 (.nd b20 (.nd b36 (.nd b68 (ndL nY) .mt) (.nd ml (ndL A6) .mt)) (.nd b52 (.nd b84 (ndL A6) .mt) (.nd A6 (ndL A6) .mt))) (.nd b28 (.nd b44 (.nd b76 (ndL A6) .mt) (.nd my (ndL A6) .mt)) (.nd b60 (.nd b92 (ndL A6) .mt) (ndL nQ))))) (.nd b6 (.nd b10 (.nd b18 (.nd b34 (.nd A6 (ndL nW) .mt) (.nd b98 (ndL A6) .mt)) (.nd b50 (.nd b82 (ndL nk) .mt) (.nd nH (ndL A6) .mt))) (.nd b26 (.nd b42 (.nd b74 (ndL A6) .mt) (.nd mu (ndL A6) .mt)) (.nd b58 (.nd b90 (ndL A6) .mt) (ndL nO)))) (.nd A6 (.nd b22 (.nd A6 (.nd b70 (ndL A6) .mt) (.nd mq (ndL A6) .mt)) (.nd b54 (.nd b86 (ndL A6) .mt) (ndL nJ))) (.nd b30 (.nd b46 (.nd b78 (ndL nc) .mt) (.nd nC (ndL A6) .mt)) (.nd b62 (.nd b94 (ndL A6) .mt) (ndL nT)))))))
theorem Tu:FT.All (BH xk ty) HD id:=⟨A8 _,⟨A8 _,⟨A8 _,⟨o7,⟨o15,⟨o31,⟨o63,ndO vr,OF⟩,⟨o95,ndO (A8 _),OF⟩⟩,⟨o47,⟨o79,ndO v7,OF⟩,⟨vW,ndO (A8 _),OF⟩⟩⟩,⟨o23,⟨o39,⟨o71,ndO (A8 _),OF⟩,⟨A8 _,ndO (A8 _),OF⟩⟩,⟨o55,⟨o87,ndO (A8 _),OF⟩,ndO ve⟩⟩⟩,⟨o11,⟨o19,⟨o35,⟨o67,ndO vw,OF⟩,⟨o99,ndO (A8 _),OF⟩⟩,⟨o51,⟨o83,ndO (A8 _),OF⟩,⟨A8 _,ndO (A8 _),OF⟩⟩⟩,⟨o27,⟨o43,⟨A8 _,ndO (A8 _),OF⟩,⟨vS,ndO (A8 _),OF⟩⟩,⟨o59,⟨o91,ndO (A8 _),OF⟩,ndO vm⟩⟩⟩⟩,⟨o5,⟨o9,⟨o17,⟨o33,⟨A8 _,ndO vt,OF⟩,⟨o97,ndO (A8 _),OF⟩⟩,⟨o49,⟨o81,ndO wB,OF⟩,⟨vY,ndO (A8 _),OF⟩⟩⟩,⟨o25,⟨o41,⟨o73,ndO (A8 _),OF⟩,⟨A8 _,ndO (A8 _),OF⟩⟩,⟨o57,⟨o89,ndO (A8 _),OF⟩,ndO vg⟩⟩⟩,⟨A8 _,⟨o21,⟨o37,⟨o69,ndO vy,OF⟩,⟨vO,ndO (A8 _),OF⟩⟩,⟨o53,⟨o85,ndO (A8 _),OF⟩,⟨va,ndO (A8 _),OF⟩⟩⟩,⟨o29,⟨o45,⟨o77,ndO (A8 _),OF⟩,⟨vU,ndO (A8 _),OF⟩⟩,⟨o61,⟨o93,ndO (A8 _),OF⟩,ndO vp⟩⟩⟩⟩⟩,⟨A8 _,⟨o4,⟨o8,⟨o16,⟨o32,⟨o64,ndO (A8 _),OF⟩,⟨o96,ndO (A8 _),OF⟩⟩,⟨o48,⟨o80,ndO wA,OF⟩,⟨vX,ndO (A8 _),OF⟩⟩⟩,⟨o24,⟨o40,⟨o72,ndO (A8 _),OF⟩,⟨vQ,ndO (A8 _),OF⟩⟩,⟨o56,⟨o88,ndO wD,OF⟩,ndO vf⟩⟩⟩,⟨o12,⟨o20,⟨o36,⟨o68,ndO vx,OF⟩,⟨vN,ndO (A8 _),OF⟩⟩,⟨o52,⟨o84,ndO (A8 _),OF⟩,⟨A8 _,ndO (A8 _),OF⟩⟩⟩,⟨o28,⟨o44,⟨o76,ndO (A8 _),OF⟩,⟨vT,ndO (A8 _),OF⟩⟩,⟨o60,⟨o92,ndO (A8 _),OF⟩,ndO vo⟩⟩⟩⟩,⟨o6,⟨o10,⟨o18,⟨o34,⟨A8 _,ndO vu,OF⟩,⟨o98,ndO (A8 _),OF⟩⟩,⟨o50,⟨o82,ndO wC,OF⟩,⟨vZ,ndO (A8 _),OF⟩⟩⟩,⟨o26,⟨o42,⟨o74,ndO (A8 _),OF⟩,⟨vR,ndO (A8 _),OF⟩⟩,⟨o58,⟨o90,ndO (A8 _),OF⟩,ndO vk⟩⟩⟩,⟨A8 _,⟨o22,⟨A8 _,⟨o70,ndO (A8 _),OF⟩,⟨vP,ndO (A8 _),OF⟩⟩,⟨o54,⟨o86,ndO (A8 _),OF⟩,ndO vd⟩⟩,⟨o30,⟨o46,⟨o78,ndO vz,OF⟩,⟨vV,ndO (A8 _),OF⟩⟩,⟨o62,⟨o94,ndO (A8 _),OF⟩,ndO vq⟩⟩⟩⟩⟩⟩
theorem mU:DO xk ty:=uB (by kernel_rfl) (by kernel_rfl)
theorem Om(n:Nat):Dn xk ty (call HD n):=Jj mU (by kernel_rfl) Tu n
end
noncomputable section
open Go
set_option maxHeartbeats 0 in
theorem YM:dP (call HD 64 18 [] I8)=IN:=by kernel_rfl
theorem Tp:Md xk ty 18 Kn:=ZS ⟨Tryz.f18,AEI,QZ (by kernel_rfl),by kernel_rfl⟩ (eH Om YM)
theorem oA:BH xk ty 18 Kn:=Or.inr (.inr Tp)
open Go.RowKit Go.WideShapes Go.ChangeShapes
def mR(a:List xU)(b:List xU)(h:Hp):R:=match b with
 |[]=>.ok (.agg ⟨a⟩) h
 |_::_=>.no
def Oj(a:List xU):Body:=⟨[.x (λ_=>mR a)],cNo⟩
def isW:xU->Bool
 |.int .u32 a=>decide (0<=a) && decide (a<4294967296)
 |_=>IT
def dO:R->Bool
 |.ok (.agg ⟨a⟩) _=>a.all isW && yA a.length 256
 |_=>IT
def sv:R->List xU
 |.ok (.agg ⟨a⟩) _=>a
 |_=>[]
def OG:List xU:=sv (call HD 64 5 [] I8)
set_option maxHeartbeats 0 in
theorem lS:dO (call HD 64 5 [] I8)=IN:=by kernel_rfl
theorem QU{v:xU}(h:isW v=IN):∃n:Nat,v=.int .u32 (n:Int)/\n<4294967296:=by
 unfold isW at h;split at h
 ·rename_i n
  simp only[yE,decide_eq_true_eq]at h;obtain⟨a,rfl⟩:=zn h.1;exact⟨a,rfl,by omega⟩
 ·cases h
theorem VV:∃h',call HD 64 5 [] I8=.ok (.agg ⟨OG⟩) h'/\OG.length=256/\∀v∈OG,isW v=IN:=by
 have a:=lS;unfold OG;generalize call HD 64 5 [] I8=c at a;unfold dO at a;split at a
 ·rename_i b h'
  simp only[yE,List.all_eq_true]at a;exact⟨h',rfl,Nat.eq_of_beq_eq_true a.2,a.1⟩
 ·cases a
theorem Sa{φ:Phi}:∀{a b:List xU},AE5 φ a b->(∀v∈a,isW v=IN)->b=a
 |_,_,.nil,_=>rfl
 |_,_,.cons (v:=v) d f,c=>by
  rw[Sa f λg e=>c g (xn _ e)];obtain⟨h,rfl,_⟩:=QU (c v xp);cases d;rfl
theorem Sb(φ:Phi):∀{a:List xU},(∀v∈a,isW v=IN)->AE5 φ a a
 |[],_=>.nil
 |v::a,b=>by
  obtain⟨e,rfl,_⟩:=QU (b v xp);exact .cons (.int _ _) (Sb φ λd c=>b d (xn _ c))
theorem ZP(w:World):Calls xk 5 #[] w λe w'=>e=.returned (.agg ⟨OG⟩)/\Below w.heap.size w w':=by
 obtain⟨b,h,_,j⟩:=VV;obtain⟨_,c⟩:=Om _ 5 [] I8 _ b h;refine(c tL w [] .nil (Ph ty w)).mono λe w' ⟨n,o,a,i,_,ev⟩=>?_
 cases i with
 |agg f=>
  rw[Sa f j]at a;exact⟨a,⟨ev.os,ev.tape,ev.output,ev.size,λk d=>ev.frame k d λl m g=>by cases g⟩⟩
theorem Yp{P:Program}{ty:TTy}{f:Nat}{a:List xU}(m:∀v∈a,isW v=IN)(n:∃c,P.funcs[f]? =BY c/\c.name≠"runtime.NumGoroutine" /\c.body.isNone=IT)(o:∀w:World,Calls P f #[] w λe w'=>e=.returned (.agg ⟨a⟩)/\Below w.heap.size w w'):Md P ty f (Oj a):=λq g k v l _ b=>⟨n,λi w s j d=>by
 have b:mR a g k=.ok v l:=b;cases g with
 |cons r t=>cases b
 |nil=>
  cases b;cases j;exact(o w).mono λe w' ⟨p,h⟩=>⟨_,i,p,.agg (Sb i m),(HU d h).1,(HU d h).2⟩⟩
theorem ey:Md xk ty 5 (Oj OG):=Yp (VV.choose_spec.2.2) ⟨Tryz.f5,AEN,QZ (by kernel_rfl),by kernel_rfl⟩ ZP
theorem oT:BH xk ty 5 (Oj OG):=Or.inr (.inr ey)
theorem YR{bs:FT}{n f:Nat}{a:List xU}(b:bs.get f=BY (Oj a)){h:Hp}:call bs (xz n) f [] h=.ok (.agg ⟨a⟩) h:=by
 rw[P6 b];rfl
end
noncomputable section
open Go
def AC:FT:=(.nd A6 (.nd A6 (.nd A6 (.nd b7 (.nd b15 (.nd b31 (.nd b63 (ndL nU) .mt) (.nd b95 (ndL A6) .mt)) (.nd b47 (.nd b79 (ndL nf) .mt) (.nd nE (ndL A6) .mt))) (.nd b23 (.nd b39 (.nd b71 (ndL A6) .mt) (.nd A6 (ndL A6) .mt)) (.nd b55 (.nd b87 (ndL A6) .mt) (ndL nL)))) (.nd b11 (.nd b19 (.nd b35 (.nd b67 (ndL nX) .mt) (.nd b99 (ndL A6) .mt)) (.nd b51 (.nd b83 (ndL A6) .mt) (.nd A6 (ndL A6) .mt))) (.nd b27 (.nd b43 (.nd A6 (ndL A6) .mt) (.nd mw (ndL A6) .mt)) (.nd b59 (.nd b91 (ndL A6) .mt) (ndL nP))))) (.nd (Oj OG) (.nd b9 (.nd b17 (.nd b33 (.nd A6 (ndL nV) .mt) (.nd b97 (ndL A6) .mt)) (.nd b49 (.nd b81 (ndL nh) .mt) (.nd nG (ndL A6) .mt))) (.nd b25 (.nd b41 (.nd b73 (ndL A6) .mt) (.nd A6 (ndL A6) .mt)) (.nd b57 (.nd b89 (ndL A6) .mt) (ndL nN)))) (.nd A6 (.nd b21 (.nd b37 (.nd b69 (ndL nZ) .mt) (.nd mo (ndL A6) .mt)) (.nd b53 (.nd b85 (ndL A6) .mt) (.nd nI (ndL A6) .mt))) (.nd b29 (.nd b45 (.nd b77 (ndL A6) .mt) (.nd mz (ndL A6) .mt)) (.nd b61 (.nd b93 (ndL A6) .mt) (ndL nR)))))) (.nd A6 (.nd b4 (.nd b8 (.nd b16 (.nd b32 (.nd b64 (ndL A6) .mt) (.nd b96 (ndL A6) .mt)) (.nd b48 (.nd b80 (ndL ng) .mt) (.nd nF (ndL A6) .mt))) (.nd b24 (.nd b40 (.nd b72 (ndL A6) .mt) (.nd mr (ndL A6) .mt)) (.nd b56 (.nd b88 (ndL nr) .mt) (ndL nM)))) (.nd b12 (.nd b20 (.nd b36 (.nd b68 (ndL nY) .mt) (.nd ml (ndL A6) .mt)) (.nd b52 (.nd b84 (ndL A6) .mt) (.nd A6 (ndL A6) .mt))) (.nd b28 (.nd b44 (.nd b76 (ndL A6) .mt) (.nd my (ndL A6) .mt)) (.nd b60 (.nd b92 (ndL A6) .mt) (ndL nQ))))) (.nd b6 (.nd b10 (.nd Kn (.nd b34 (.nd A6 (ndL nW) .mt) (.nd b98 (ndL A6) .mt)) (.nd b50 (.nd b82 (ndL nk) .mt) (.nd nH (ndL A6) .mt))) (.nd b26 (.nd b42 (.nd b74 (ndL A6) .mt) (.nd mu (ndL A6) .mt)) (.nd b58 (.nd b90 (ndL A6) .mt) (ndL nO)))) (.nd A6 (.nd b22 (.nd A6 (.nd b70 (ndL A6) .mt) (.nd mq (ndL A6) .mt)) (.nd b54 (.nd b86 (ndL A6) .mt) (ndL nJ))) (.nd b30 (.nd b46 (.nd b78 (ndL nc) .mt) (.nd nC (ndL A6) .mt)) (.nd b62 (.nd b94 (ndL A6) .mt) (ndL nT)))))))
theorem YP:FT.All (BH xk ty) AC id:=⟨A8 _,⟨A8 _,⟨A8 _,⟨o7,⟨o15,⟨o31,⟨o63,ndO vr,OF⟩,⟨o95,ndO (A8 _),OF⟩⟩,⟨o47,⟨o79,ndO v7,OF⟩,⟨vW,ndO (A8 _),OF⟩⟩⟩,⟨o23,⟨o39,⟨o71,ndO (A8 _),OF⟩,⟨A8 _,ndO (A8 _),OF⟩⟩,⟨o55,⟨o87,ndO (A8 _),OF⟩,ndO ve⟩⟩⟩,⟨o11,⟨o19,⟨o35,⟨o67,ndO vw,OF⟩,⟨o99,ndO (A8 _),OF⟩⟩,⟨o51,⟨o83,ndO (A8 _),OF⟩,⟨A8 _,ndO (A8 _),OF⟩⟩⟩,⟨o27,⟨o43,⟨A8 _,ndO (A8 _),OF⟩,⟨vS,ndO (A8 _),OF⟩⟩,⟨o59,⟨o91,ndO (A8 _),OF⟩,ndO vm⟩⟩⟩⟩,⟨oT,⟨o9,⟨o17,⟨o33,⟨A8 _,ndO vt,OF⟩,⟨o97,ndO (A8 _),OF⟩⟩,⟨o49,⟨o81,ndO wB,OF⟩,⟨vY,ndO (A8 _),OF⟩⟩⟩,⟨o25,⟨o41,⟨o73,ndO (A8 _),OF⟩,⟨A8 _,ndO (A8 _),OF⟩⟩,⟨o57,⟨o89,ndO (A8 _),OF⟩,ndO vg⟩⟩⟩,⟨A8 _,⟨o21,⟨o37,⟨o69,ndO vy,OF⟩,⟨vO,ndO (A8 _),OF⟩⟩,⟨o53,⟨o85,ndO (A8 _),OF⟩,⟨va,ndO (A8 _),OF⟩⟩⟩,⟨o29,⟨o45,⟨o77,ndO (A8 _),OF⟩,⟨vU,ndO (A8 _),OF⟩⟩,⟨o61,⟨o93,ndO (A8 _),OF⟩,ndO vp⟩⟩⟩⟩⟩,⟨A8 _,⟨o4,⟨o8,⟨o16,⟨o32,⟨o64,ndO (A8 _),OF⟩,⟨o96,ndO (A8 _),OF⟩⟩,⟨o48,⟨o80,ndO wA,OF⟩,⟨vX,ndO (A8 _),OF⟩⟩⟩,⟨o24,⟨o40,⟨o72,ndO (A8 _),OF⟩,⟨vQ,ndO (A8 _),OF⟩⟩,⟨o56,⟨o88,ndO wD,OF⟩,ndO vf⟩⟩⟩,⟨o12,⟨o20,⟨o36,⟨o68,ndO vx,OF⟩,⟨vN,ndO (A8 _),OF⟩⟩,⟨o52,⟨o84,ndO (A8 _),OF⟩,⟨A8 _,ndO (A8 _),OF⟩⟩⟩,⟨o28,⟨o44,⟨o76,ndO (A8 _),OF⟩,⟨vT,ndO (A8 _),OF⟩⟩,⟨o60,⟨o92,ndO (A8 _),OF⟩,ndO vo⟩⟩⟩⟩,⟨o6,⟨o10,⟨oA,⟨o34,⟨A8 _,ndO vu,OF⟩,⟨o98,ndO (A8 _),OF⟩⟩,⟨o50,⟨o82,ndO wC,OF⟩,⟨vZ,ndO (A8 _),OF⟩⟩⟩,⟨o26,⟨o42,⟨o74,ndO (A8 _),OF⟩,⟨vR,ndO (A8 _),OF⟩⟩,⟨o58,⟨o90,ndO (A8 _),OF⟩,ndO vk⟩⟩⟩,⟨A8 _,⟨o22,⟨A8 _,⟨o70,ndO (A8 _),OF⟩,⟨vP,ndO (A8 _),OF⟩⟩,⟨o54,⟨o86,ndO (A8 _),OF⟩,ndO vd⟩⟩,⟨o30,⟨o46,⟨o78,ndO vz,OF⟩,⟨vV,ndO (A8 _),OF⟩⟩,⟨o62,⟨o94,ndO (A8 _),OF⟩,ndO vq⟩⟩⟩⟩⟩⟩
theorem aI(n:Nat):Dn xk ty (call AC n):=Jj mU (by kernel_rfl) YP n
theorem Zo:AC.get 18=BY Kn:=by kernel_rfl
theorem ez:AC.get 5=BY (Oj OG):=by kernel_rfl
def BQ(f:Nat)(e:List RV)(d:C):Prop:=∀{c:Nat} {a:List xU} {b:Hp},yI (Dw a) 240=IN->call AC (xz c) f a b=H7 e (d (call AC c) (Au e0 0 a) b)
theorem BR{f:Nat}{a:List RV}{d:C}(b:AC.get f=BY ⟨a,d⟩)(e:Qz a=By):BQ f a d:=λc=>by rw[P6 b,bU c e]
theorem un:BQ 7 [] d7:=BR (by kernel_rfl) rfl
theorem oI:BQ 10 [.t (J 2)] d10:=BR (by kernel_rfl) rfl
theorem Ty:BQ 19 [.t (J 4)] d19:=BR (by kernel_rfl) rfl
theorem oP:BQ 25 [.t (J 2),.t (J 3)] d25:=BR (by kernel_rfl) rfl
theorem oQ:BQ 26 [.t (J 2)] d26:=BR (by kernel_rfl) rfl
theorem oY:BQ 35 [.t (J 2)] d35:=BR (by kernel_rfl) rfl
theorem od:BQ 39 [.t (J 6),.t (J 7)] d39:=BR (by kernel_rfl) rfl
theorem oe:BQ 40 [.t (J 2)] d40:=BR (by kernel_rfl) rfl
theorem oo:BQ 44 [.t (J 4)] d44:=BR (by kernel_rfl) rfl
theorem ot:BQ 46 [.t (J 4)] d46:=BR (by kernel_rfl) rfl
theorem aB:BQ 50 [.t (J 4)] d50:=BR (by kernel_rfl) rfl
theorem pA:BQ 53 [.t (J 2)] d53:=BR (by kernel_rfl) rfl
theorem JE:BQ 54 [.t (J 10)] d54:=BR (by kernel_rfl) rfl
theorem Ms:BQ 55 [.t (J 8)] d55:=BR (by kernel_rfl) rfl
theorem UC:BQ 56 [.t (J 8)] d56:=BR (by kernel_rfl) rfl
theorem pE:BQ 59 [.cN (J 8) 5,.t (J 9)] d59:=BR (by kernel_rfl) rfl
theorem aD:BQ 60 [.t (J 8)] d60:=BR (by kernel_rfl) rfl
theorem pH:BQ 63 [.t (J 8)] d63:=BR (by kernel_rfl) rfl
theorem pJ:BQ 67 [.t (J 2)] d67:=BR (by kernel_rfl) rfl
theorem pK:BQ 68 [.t (J 2)] d68:=BR (by kernel_rfl) rfl
theorem pL:BQ 69 [.cN (J 4) 6,.t (J 5),.t (J 6),.t (J 7)] d69:=BR (by kernel_rfl) rfl
theorem aE:BQ 70 [] d70:=BR (by kernel_rfl) rfl
theorem pM:BQ 71 [.t (J 4)] d71:=BR (by kernel_rfl) rfl
theorem pN:BQ 72 [.t (J 2)] d72:=BR (by kernel_rfl) rfl
theorem pO:BQ 73 [.t (J 3)] d73:=BR (by kernel_rfl) rfl
theorem pP:BQ 74 [.t (J 4)] d74:=BR (by kernel_rfl) rfl
theorem pQ:BQ 76 [.t (J 4)] d76:=BR (by kernel_rfl) rfl
theorem UD:BQ 77 [.t (J 4)] d77:=BR (by kernel_rfl) rfl
theorem pR:BQ 78 [.cN (J 2) 5] d78:=BR (by kernel_rfl) rfl
theorem pS:BQ 79 [.t (J 4)] d79:=BR (by kernel_rfl) rfl
theorem pT:BQ 80 [.t (J 4)] d80:=BR (by kernel_rfl) rfl
theorem P3:BQ 82 [.t (J 4),.t (J 5)] d82:=BR (by kernel_rfl) rfl
theorem aF:BQ 84 [.t (J 4),.t (J 5),.t (J 6)] d84:=BR (by kernel_rfl) rfl
theorem pX:BQ 89 [.t (J 2)] d89:=BR (by kernel_rfl) rfl
theorem JF:BQ 90 [.t (J 2)] d90:=BR (by kernel_rfl) rfl
theorem pY:BQ 91 [.t (J 2)] d91:=BR (by kernel_rfl) rfl
theorem pZ:BQ 92 [.t (J 8)] d92:=BR (by kernel_rfl) rfl
theorem UG:BQ 93 [.t (J 4)] d93:=BR (by kernel_rfl) rfl
theorem pf:BQ 94 [.t (J 8)] d94:=BR (by kernel_rfl) rfl
theorem aH:BQ 95 [.t (J 4),.t (J 5)] d95:=BR (by kernel_rfl) rfl
theorem ph:BQ 96 [.t (J 6)] d96:=BR (by kernel_rfl) rfl
theorem pi:BQ 97 [.t (J 4)] d97:=BR (by kernel_rfl) rfl
theorem pj:BQ 98 [.t (J 4)] d98:=BR (by kernel_rfl) rfl
theorem Kx:BQ 99 [.t (J 2)] d99:=BR (by kernel_rfl) rfl
theorem Pz:BQ 100 [.t (J 2)] aU:=BR (by kernel_rfl) rfl
theorem gJ:BQ 101 [.t (J 4)] qG:=BR (by kernel_rfl) rfl
theorem gK:BQ 102 [.t (J 4)] qH:=BR (by kernel_rfl) rfl
theorem gM:BQ 106 [.t (J 4),.t (J 5)] qJ:=BR (by kernel_rfl) rfl
theorem MF:BQ 107 [.t (J 4)] YT:=BR (by kernel_rfl) rfl
theorem gN:BQ 108 [.t (J 2)] qK:=BR (by kernel_rfl) rfl
theorem Ji:BQ 109 [.cN (J 4) 5,.t (J 5),.t (J 6),.t (J 7)] qL:=BR (by kernel_rfl) rfl
theorem WF:BQ 110 [.t (J 6),.t (J 7)] qM:=BR (by kernel_rfl) rfl
theorem WG:BQ 111 [] qN:=BR (by kernel_rfl) rfl
theorem gO:BQ 112 [.t (J 2)] qO:=BR (by kernel_rfl) rfl
theorem WH:BQ 113 [.t (J 2)] qP:=BR (by kernel_rfl) rfl
theorem gP:BQ 114 [.t (J 4)] qQ:=BR (by kernel_rfl) rfl
theorem WJ:BQ 117 [.t (J 4)] qR:=BR (by kernel_rfl) rfl
theorem gQ:BQ 118 [.t (J 4)] qS:=BR (by kernel_rfl) rfl
theorem gR:BQ 119 [.t (J 2)] qT:=BR (by kernel_rfl) rfl
theorem gS:BQ 120 [.t (J 6)] qU:=BR (by kernel_rfl) rfl
theorem gT:BQ 121 [.t (J 2)] qV:=BR (by kernel_rfl) rfl
theorem gW:BQ 124 [.t (J 5)] qY:=BR (by kernel_rfl) rfl
theorem gX:BQ 125 [.t (J 6)] qZ:=BR (by kernel_rfl) rfl
theorem gY:BQ 126 [.t (J 3)] qa:=BR (by kernel_rfl) rfl
theorem gZ:BQ 127 [.t (J 6)] qc:=BR (by kernel_rfl) rfl
theorem gb:BQ 130 [.t (J 4)] qf:=BR (by kernel_rfl) rfl
theorem MG:BQ 131 [.t (J 4)] qh:=BR (by kernel_rfl) rfl
theorem gc:BQ 132 [.t (J 2)] qj:=BR (by kernel_rfl) rfl
theorem WK:BQ 133 [] qk:=BR (by kernel_rfl) rfl
theorem gd:BQ 142 [.t (J 2)] ql:=BR (by kernel_rfl) rfl
theorem WL:BQ 143 [.t (J 2)] iD:=BR (by kernel_rfl) rfl
theorem ge:BQ 144 [.t (J 2)] qn:=BR (by kernel_rfl) rfl
theorem gf:BQ 145 [.t (J 4)] qo:=BR (by kernel_rfl) rfl
end
set_option linter.unusedVariables false
set_option linter.unusedSimpArgs false
noncomputable section
open Go
theorem YG:BP ty5.zero 1=[.int .u8 0]:=by kernel_rfl
theorem rG:d79=G 4 (AP (W (.slice By 0 0))) (BB (AY 0 (A3 OL)) fQ):=rfl
def Hp.AFu(h:Hp)(k en:Nat)(v:xU)(xs:List xU):Prop:=h.Own k en v xs\/∃(a:Nat) (b:List Nat),xs=b.map bv/\v=.slice (BY ⟨a,0,By⟩) xs.length xs.length/\h.Row a 0 xs
theorem Sv{h0 h:Hp}{eb en k:Nat}{v:xU}{xs:List xU}{n:Nat}(g:h0.Ext h)(hk:h0.next<=k)(t:k<=h.next)(o:h.AFu k en v xs)(j:(xs.length+2)*(eb+1)<=1099511627776):
  ∃h' v',DU 1 eb en v (.slice (BY ⟨h.next,0,By⟩) 1 1) (h.AEg 0 [.int .u8 (n:Int)])=.ok v' h'/\h0.Ext h'/\h'.Own k en v' (xs++[.int .u8 (n:Int)])/\h'.next=h.next+2/\∀b el f,¬AE1 v b->h.Row b el f->h'.Row b el f/\¬AE1 v' b:=by
 rcases o with o|⟨b,u,rfl,rfl,w⟩
 ·exact kR g hk t o j
 ·have a:=g.wf
  have e:=(Hp.Ext.refl a).AEg 0 [yy .u8 (n:Int)];have p:(h.AEg 0 [.int .u8 (n:Int)]).AE7 (.slice (BY ⟨h.next,0,By⟩) 1 1) ([n].map bv):=Nq a;obtain⟨s,q,i,r,x⟩:=Q9 (eb:=eb) (en:=en) (c:=(u.map bv).length) (m:=[n]) e.wf (w.ext a e) p.bytes (by show _<_+1;omega) (by show(_+1+1)*_<=_;exact j);have z:(h.AEg 0 [.int .u8 (n:Int)]).next=h.next+1:=rfl;refine⟨s,_,q,(g.AEg _ _).trans i,.inr ⟨_,by rw[xY];rfl,r,by omega,by have:=a.big;omega⟩,by omega,λy el f _ l=>⟨(l.ext a e).ext e.wf i,λ⟨o,A,B,d⟩=>?_⟩⟩;have:=l.lt a;injection d with d
  injection d with d
  injection d with d
  omega
theorem ZU{F:AEh}{h0 h:Hp}{k:Nat}(W:h0.Ext h)(hk:h0.next<=k)(P:k<=h.next){v:xU}{l:List Nat}(o:h.AFu k 5 v (l.map bv))(Z:l.length<=1000000){N:Nat}(w:N<18446744073709551616){e:Env}(s0:J 0 e=v)(s1:J 1 e=.int .u64 (N:Int)):
  ∃a h' v' xs m,A3 OL F e h=.exit 0 a h'/\J 0 a=v'/\J 1 a=.int .u64 ((m:Nat):Int)/\m<128/\l++BD N=xs++[m]/\h0.Ext h'/\h'.AFu k 5 v' (xs.map bv)/\h.next<=h'.next/\(∀b el c,¬AE1 v b->h.Row b el c->h'.Row b el c/\¬AE1 v' b):=by
 have Y:=G9 w;refine Bd (I:=λz a h'=>∃v' xs m,J 0 a=v'/\J 1 a=.int .u64 ((m:Nat):Int)/\m<18446744073709551616/\l++BD N=xs++BD m/\z+(BD m).length=(BD N).length/\h0.Ext h'/\h'.AFu k 5 v' (xs.map bv)/\h.next<=h'.next/\(∀b el c,¬AE1 v b->h.Row b el c->h'.Row b el c/\¬AE1 v' b))
  (Q:=λV=>∃a h' v' xs m,V=.exit 0 a h'/\J 0 a=v'/\J 1 a=.int .u64 ((m:Nat):Int)/\m<128/\l++BD N=xs++[m]/\h0.Ext h'/\h'.AFu k 5 v' (xs.map bv)/\h.next<=h'.next/\(∀b el c,¬AE1 v b->h.Row b el c->h'.Row b el c/\¬AE1 v' b)) 20 (by omega) (λz a h' ⟨v',xs,m,t0,t1,hm,g,x,t,A,y,fr⟩=>?_)
  ⟨v,l,N,s0,s1,w,rfl,xZ _,W,o,xW _,λb el c j r=>⟨r,j⟩⟩
 have p:=congrArg AAC g;rw[xY,xY]at p;by_cases u:m<128
 ·right
  have i:iGt (m:Int) 127=IT:=by rw[HJ];simp;omega
  have q:OL F a h'=.exit 0 (Env.set 6 (.bool IT) a) h':=by
   unfold OL;simp only[sT,xT,sh,reduceIte,AK,AJ,t1,i]
  rw[q];refine⟨rfl,_,_,v',xs,m,rfl,by simp[AG,t0],by simp[AG,t1],u,?_,t,A,y,fr⟩;rw[g,FP u]
 ·left
  have C:=t.wf;have i:iGt (m:Int) 127=IN:=by rw[HJ];simp;omega
  have s:eC .u64 (.int .u64 (m:Int)) (.int .u64 128) h'=.ok (.int .u64 ((m % 128:Nat):Int)) h':=by rw[Xm (by omega)];rfl
  have D:GC .u64 (.int .u64 ((m % 128:Nat):Int)) (.int .u64 128) h'=.ok (.int .u64 ((m % 128+128:Nat):Int)) h':=by
   have:ACv.wrap (((m % 128:Nat):Int)+128)=((m % 128+128:Nat):Int):=by
    rw[show((m % 128:Nat):Int)+128=((m % 128+128:Nat):Int)by omega];exact DJ (by omega)
   rw[EQ,this]
  have U:Ct .u8 (.int .u64 ((m % 128+128:Nat):Int)) h'=.ok (.int .u8 ((m % 128+128:Nat):Int)) h':=by
   rw[Bu,Ff,AAA (show m % 128+128<256 by omega)]
  have S:∀e,J 11 e=.int .u8 ((m % 128+128:Nat):Int)->Ab 1 (BP ty5.zero 1) [(0,1,J 11)] F e h'=.ok (.slice (BY ⟨h'.next,0,By⟩) 1 1) (h'.AEg 0 [.int .u8 ((m % 128+128:Nat):Int)]):=λe O=>by rw[YG];exact Fk C O rfl rfl
  have a3:=Lc (m/128);rw[G8 (n:=m) (by omega)]at x p g;rw[xh]at x p;obtain⟨f,B,E,X,R,a0,M⟩:=Sv (eb:=1) (n:=m % 128+128) t hk (yS P y) A (by rw[xa];omega);have L:UT .u64 (.int .u64 (m:Int)) (.int .u64 128) f=.ok (.int .u64 ((m/128:Nat):Int)) f:=by
   have:ACv.wrap ((m:Int).tdiv 128)=((m/128:Nat):Int):=DJ (n:=m/128) (by omega);rw[MJ (by omega),this]
  have q:∃d,OL F a h'=.norm d f/\J 0 d=B/\J 1 d=.int .u64 ((m/128:Nat):Int):=by
   unfold OL;simp only[sT,xT,sh,reduceIte,AK,AJ,t1,i,Qg,s,BW,D,Bi,U,S,Bb,t0,E,J9,L];exact⟨_,rfl,by simp[AG]⟩
  obtain⟨d,G,H,K⟩:=q;refine⟨by omega,d,f,G,B,xs++[m % 128+128],m/128,H,K,by omega,?_,by omega,X,?_,by omega,λb el c j r=>?_⟩
  ·rw[g];simp
  ·rw[yZ];exact .inl R
  ·obtain⟨s,T⟩:=fr b el c j r
   exact M b el c T s
theorem OM{n:Nat}{h0 h:Hp}{k:Nat}(I:h0.Ext h)(hk:h0.next<=k)(g:k<=h.next){v:xU}{l:List Nat}(o:h.AFu k 5 v (l.map bv))(w:l.length<=1000000){N:Nat}(f:N<18446744073709551616):
  ∃h' v',call AC (n+1) 79 [v,.int .u64 (N:Int)] h=.ok v' h'/\h0.Ext h'/\h'.Own k 5 v' ((l++BD N).map bv)/\h.next<=h'.next/\(∀b el c,¬AE1 v b->h.Row b el c->h'.Row b el c/\¬AE1 v' b):=by
 obtain⟨M,d,Q,R,a,C,s0,s1,O,i,j,z,y,fr⟩:=ZU (F:=call AC n) I hk g o w f (e:=Env.set 4 (.slice By 0 0) (Env.set 1 (.int .u64 (N:Int)) (Env.set 0 v e0))) (by simp[AG]) (by simp[AG]);have m:=j.wf;have L:=G9 f;have x:=congrArg AAC i;rw[xY,xY,yd]at x;have q:Ct .u8 (.int .u64 (a:Int)) d=.ok (.int .u8 (a:Int)) d:=by
  rw[Bu,Ff,AAA (show a<256 by omega)]
 have B:∀e,J 18 e=.int .u8 (a:Int)->Ab 1 (BP ty5.zero 1) [(0,1,J 18)] (call AC n) e d=.ok (.slice (BY ⟨d.next,0,By⟩) 1 1) (d.AEg 0 [.int .u8 (a:Int)]):=λe u=>by rw[YG];exact Fk m u rfl rfl
 obtain⟨s,H,p,K,A,P,r⟩:=Sv (eb:=1) (n:=a) j hk (yS g y) z (by rw[xa];omega);refine⟨s,H,?_,K,?_,by omega,λb el c t D=>?_⟩
 ·rw[pS rfl,rG]
  simp only[iN,xV,AG,xT,sh,reduceIte,Hs,ID,En,IB,EY,A7,Ap];rw[C];simp only[A5,Ay];unfold fQ;simp only[sT,xT,sh,reduceIte,Bi,s1,q,B,Bb,s0,p,lV0]
 ·rw[i,yZ];exact A
 ·obtain⟨E,G⟩:=fr b el c t D
  exact r b el c G E
theorem ll{n:Nat}{h0 h:Hp}{k:Nat}(f:h0.Ext h)(hk:h0.next<=k)(d:k<=h.next){v:xU}{l:List Nat}(o:h.Own k 5 v (l.map bv))(e:l.length<=1000000){N:Nat}(c:N<18446744073709551616):
 ∃h' v',call AC (n+1) 79 [v,.int .u64 (N:Int)] h=.ok v' h'/\h0.Ext h'/\h'.Own k 5 v' ((l++BD N).map bv)/\h.next<=h'.next/\(∀b el a,¬AE1 v b->h.Row b el a->h'.Row b el a/\¬AE1 v' b):=OM f hk d (.inl o) e c
def mX(l:List Nat)(p:Nat)(a b c:Int):Prop:=(∃v d:Nat,Fe 0 0 (l.drop p)=BY (v,d)/\a=(v:Int)/\b=((p+d:Nat):Int)/\c=0)\/(Fe 0 0 (l.drop p)=By/\c≠0)
def QL:C:=(Bg 46
(G 4 (AP (W (.int .u64 0)))
(G 5 (AP (W (AI AT 0)))
(G 6 (AP (W (AI AT 10)))
Ai)))
(G 49 (Sk .u8 (J 9) (W (.int .u8 128)))
(G 50 (CW .u64 (J 49))
(G 52 (C8 ABr .i64 (W (AI AT 7)) (J 10))
(G 53 (Ob .u64 (J 50) (J 52))
(G 54 (CH .u64 (BE .u64) (J 7) (J 53))
(G 7 (Aa 54)
(G 56 (Af iLt .u8 (J 9) (W (.int .u8 128)))
(Bg 56
(G 59 (CH .i64 (BE .i64) (J 8) (W (AI AT 1)))
(G 4 (Aa 7)
(G 5 (Aa 59)
(G 6 (AP (W (AI AT 0)))
Ai))))
Ar)))))))))
def rq(K:C):C:=(G 34 (Af iGt .i64 (J 10) (W (AI AT 0)))
(Ae 34 IN 36 (Aa 9)
(Ae 34 IN 37 (Af iEq .u8 (J 36) (W (.int .u8 0)))
(G 38 (A2 (J 34) (J 37) (W (.bool IT)))
(Ae 38 IT 40 (Aa 10)
(Ae 38 IT 41 (Af iGt .i64 (J 40) (W (AI AT 8)))
(Ae 38 IT 42 (Aa 41)
(Ae 42 IN 43 (Aa 9)
(Ae 42 IN 44 (Af iGt .u8 (J 43) (W (.int .u8 1)))
(Ae 38 IT 45 (A2 (J 42) (J 44) (W (.bool IT)))
(G 46 (A2 (J 38) (W (.bool IN)) (J 45))
K)))))))))))
theorem Wx:Rx=G 22 (BZ (J 0)) (G 23 (Af iLt .i64 (J 8) (J 22)) (Bg 23 (BB (AY 1 (G 28 (CI 1 (J 0) (J 8)) (G 29 (AM (J 28)) (G 32 (C8 yi .i64 (J 8) (J 1)) (G 9 (Aa 29) (G 10 (Aa 32) (rq QL))))))) (G 25 (CH .i64 (BE .i64) (J 8) (W (AI AT 1))) (G 8 (Aa 25) Ar))) (CC 0))):=rfl
theorem i7{K:C}{F:AEh}{h:Hp}{e:Env}{c i:Nat}{b1 b2 b3 b4:Bool}(s9:J 9 e=.int .u8 (c:Int))(s10:J 10 e=AI AT (i:Int))(b:iGt (i:Int) 0=b1)(i2:iEq (c:Int) 0=b2)(d:iGt (i:Int) 8=b3)(f:iGt (c:Int) 1=b4):
  ∃a,rq K F e h=K F a h/\J 46 a=.bool ((b1 && b2) || (b3 && b4))/\J 0 a=J 0 e/\J 1 a=J 1 e/\J 7 a=J 7 e/\J 8 a=J 8 e/\J 9 a=J 9 e/\J 10 a=J 10 e:=by
 unfold rq;cases b1<;>cases b2<;>cases b3<;>cases b4<;>
 ·simp only[sT,xT,sh,reduceIte,gD,AK,AJ,s9,s10,b,i2,d,f]
  exact⟨_,rfl,by simp[AG],by simp[AG],by simp[AG],by simp[AG],by simp[AG],by simp only[AG,xT,sh,reduceIte,s9],by simp only[AG,xT,sh,reduceIte,s10]⟩
theorem Sz{i:Nat}(hi:i<=9):2 ^ (7*i)<=9223372036854775808:=by
 have:2 ^ (7*i)<=2 ^ 63:=Nat.pow_le_pow_right (by omega) (by omega);have a:(2:Nat) ^ 63=9223372036854775808:=rfl;omega
theorem bg{F:AEh}{h:Hp}{u:xU}{l:List Nat}{p:Nat}(V:h.AE7 u (l.map bv))(hb:∀x∈l,x<256)(hp:p<=l.length)(hl:l.length<=1000000){e:Env}(s0:J 0 e=u)(s1:J 1 e=AI AT (p:Int))(s7:J 7 e=.int .u64 0)(s8:J 8 e=AI AT (p:Int)):
  (∃e',A3 Rx F e h=.exit 0 e' h/\Fe 0 0 (l.drop p)=By)\/(∃e' a b c,A3 Rx F e h=.ret e' h/\J 4 e'=.int .u64 a/\J 5 e'=AI AT b/\J 6 e'=AI AT c/\mX l p a b c):=by
 have Vl:AFB u h=.ok (AI AT (l.length:Int)) h:=by have:=V.len;rwa [xa]at this
 refine Bd (I:=λi e' h'=>h'=h/\∃acc:Nat,J 0 e'=u/\J 1 e'=AI AT (p:Int)/\J 7 e'=.int .u64 (acc:Int)/\J 8 e'=AI AT ((p+i:Nat):Int)/\acc<2 ^ (7*i)/\i<=9/\p+i<=l.length/\Fe 0 0 (l.drop p)=Fe i acc (l.drop (p+i)))
  (Q:=λx=>(∃e',x=.exit 0 e' h/\Fe 0 0 (l.drop p)=By)\/(∃e' a b c,x=.ret e' h/\J 4 e'=.int .u64 a/\J 5 e'=AI AT b/\J 6 e'=AI AT c/\mX l p a b c)) 20 (by omega) (λi e' h' ⟨hh,acc,t0,t1,t7,t8,hacc,hi9,hpi,hu⟩=>?_)
  ⟨rfl,0,s0,s1,s7,s8,by decide,by omega,hp,rfl⟩
 subst hh;by_cases hlt:p+i<l.length
 ·have hc:l.getD (p+i) 0<256:=hb _ (by rw[xe,xc hlt];exact AAF hlt)
  have hd:l.drop (p+i)=l.getD (p+i) 0::l.drop (p+i+1):=by
   rw[zf hlt,xe,xc hlt];rfl
  have hel:(l.map bv).getD (p+i) AEl=.int .u8 ((l.getD (p+i) 0:Nat):Int):=by
   rw[xe,zE,xe,xc hlt];rfl
  obtain⟨a,g1,g2⟩:=V.at (i:=p+i) (by rw[xa];exact hlt);rw[hel]at g2;rw[hd]at hu;generalize l.getD (p+i) 0=c at hc g2 hu;have c1:iLt ((p+i:Nat):Int) (l.length:Int)=IN:=by rw[Da];simp;omega
  have a2:Fp yi .i64 (AI AT ((p+i:Nat):Int)) (AI AT (p:Int)) h'=.ok (AI AT (i:Int)) h':=by
   have:yi ((p+i:Nat):Int) (p:Int)=(i:Int):=by show((p+i:Nat):Int) - (p:Int)=i;omega
   rw[Cn,this,Bf (by omega)]
  have a3:GC .i64 (AI AT ((p+i:Nat):Int)) (AI AT 1) h'=.ok (AI AT ((p+(i+1):Nat):Int)) h':=by
   have:((p+i:Nat):Int)+1=((p+(i+1):Nat):Int):=by omega
   rw[EQ,this,Bf (by omega)]
  have pre:∃e2,Rx F e' h'=ZF (Ko 1 (QL F e2 h')) (G 25 (CH .i64 (BE .i64) (J 8) (W (AI AT 1))) (G 8 (Aa 25) Ar)) F/\J 46 e2=.bool ((decide (0<i) && decide (c=0)) || (decide (8<i) && decide (1<c)))/\J 0 e2=u/\J 1 e2=AI AT (p:Int)/\J 7 e2=.int .u64 (acc:Int)/\J 8 e2=AI AT ((p+i:Nat):Int)/\J 9 e2=.int .u8 (c:Int)/\J 10 e2=AI AT (i:Int):=by
   obtain⟨e2,q1,q2,q3,q4,q5,q6,q7,q8⟩:=i7 (K:=QL) (F:=F) (h:=h') (e:=Env.set 10 (AI AT (i:Int)) (Env.set 9 (.int .u8 (c:Int)) (Env.set 32 (AI AT (i:Int)) (Env.set 29 (.int .u8 (c:Int)) (Env.set 28 (.pointer (BY a)) (Env.set 23 (.bool IN) (Env.set 22 (AI AT (l.length:Int)) e'))))))) (c:=c) (i:=i) (b1:=decide (0<i)) (b2:=decide (c=0)) (b3:=decide (8<i)) (b4:=decide (1<c))
    (by simp[AG]) (by simp[AG]) (by rw[HJ,decide_eq_decide];omega) (by rw[Dv,zk,beq_iff_eq,decide_eq_true_eq];omega) (by rw[HJ,decide_eq_decide];omega) (by rw[HJ,decide_eq_decide];omega)
   refine⟨e2,?_,q2,?_,?_,?_,?_,?_,?_⟩
   ·rw[Wx]
    simp only[Hs,Hr,Px,A7,Ap,ID,JI,En,IB,EY,AG,xT,sh,reduceIte,AX,t0,Vl,AK,AJ,t8,c1,BA,g1,AN,g2,B6,t1,a2,q1]
   ·rw[q3];simp only[AG,xT,sh,reduceIte];exact t0
   ·rw[q4];simp only[AG,xT,sh,reduceIte];exact t1
   ·rw[q5];simp only[AG,xT,sh,reduceIte];exact t7
   ·rw[q6];simp only[AG,xT,sh,reduceIte];exact t8
   ·rw[q7];simp only[AG,xT,sh,reduceIte]
   ·rw[q8];simp only[AG,xT,sh,reduceIte]
  obtain⟨e2,p1,p46,p0,pp1,p7,p8,p9,p10⟩:=pre;rw[Fe]at hu;by_cases AHH:(0<i/\c=0)\/(8<i/\1<c)
  ·right
   have hB:((decide (0<i) && decide (c=0)) || (decide (8<i) && decide (1<c)))=IN:=by simpa using AHH
   rw[hB]at p46;rw[If AHH]at hu;have hrun:∃e3,QL F e2 h'=.ret e3 h'/\J 4 e3=.int .u64 0/\J 5 e3=AI AT 0/\J 6 e3=AI AT 10:=by
    unfold QL;simp only[sT,xT,sh,reduceIte,p46];exact⟨_,rfl,by simp[AG]⟩
   obtain⟨e3,r1,r4,r5,r6⟩:=hrun;rw[p1,r1,CE,Cr];exact⟨rfl,.inr ⟨e3,0,0,10,rfl,r4,r5,r6,.inr ⟨hu,by omega⟩⟩⟩
  ·have hB:((decide (0<i) && decide (c=0)) || (decide (8<i) && decide (1<c)))=IT:=by
    rw[<- Bool.not_eq_true];simpa using AHH
   rw[hB]at p46;rw[No AHH]at hu;have hle:acc+c % 128*2 ^ (7*i)<2 ^ (7*(i+1)):=by
    rw[Ny];have h1:c % 128<=127:=by omega
    have h2:=AB4 (2 ^ (7*i)) h1;omega
   have ALJ:c % 128*2 ^ (7*i)<=9223372036854775808/\acc<9223372036854775808:=by
    have h3:=Sz hi9;refine⟨?_,by omega⟩;rcases yM i 9 with h4|h4
    ·have h5:2 ^ (7*(i+1))<=9223372036854775808:=Sz (by omega)
     omega
    ·have h5:c % 128<=1:=by omega
     have h6:=AB4 (2 ^ (7*i)) h5;omega
   have m1:eC .u8 (.int .u8 (c:Int)) (.int .u8 128) h'=.ok (.int .u8 ((c % 128:Nat):Int)) h':=by rw[Xm (by omega)];rfl
   have m2:Ct .u64 (.int .u8 ((c % 128:Nat):Int)) h'=.ok (.int .u64 ((c % 128:Nat):Int)) h':=by rw[Bu,DJ (by omega)]
   have m3:Fp ABr .i64 (AI AT 7) (AI AT (i:Int)) h'=.ok (AI AT ((7*i:Nat):Int)) h':=by
    have:ABr 7 (i:Int)=((7*i:Nat):Int):=by show(7:Int)*(i:Int)=_;omega
    rw[Cn,this,Bf (by omega)]
   have m4:lG .u64 (.int .u64 ((c % 128:Nat):Int)) (AI AT ((7*i:Nat):Int)) h'=.ok (.int .u64 ((c % 128*2 ^ (7*i):Nat):Int)) h':=by
    have:min (7*i) ACv.bits=7*i:=AAb (by show 7*i<=64;omega);rw[lH,this,DJ (by omega)]
   have m5:GC .u64 (.int .u64 (acc:Int)) (.int .u64 ((c % 128*2 ^ (7*i):Nat):Int)) h'=.ok (.int .u64 ((acc+c % 128*2 ^ (7*i):Nat):Int)) h':=by
    rw[EQ,<- Int.natCast_add,DJ (by omega)]
   by_cases hsm:c<128
   ·right
    rw[If hsm]at hu;have c2:iLt (c:Int) 128=IN:=by rw[Da];simp;omega
    have hrun:∃e3,QL F e2 h'=.ret e3 h'/\J 4 e3=.int .u64 ((acc+c % 128*2 ^ (7*i):Nat):Int)/\J 5 e3=AI AT ((p+(i+1):Nat):Int)/\J 6 e3=AI AT 0:=by
     unfold QL;simp only[sT,xT,sh,reduceIte,p46,Qg,p9,m1,Bi,m2,B6,p10,m3,Xa,m4,BW,p7,m5,AK,AJ,c2,p8,a3];exact⟨_,rfl,by simp[AG]⟩
    obtain⟨e3,r1,r4,r5,r6⟩:=hrun;rw[p1,r1,CE,Cr];refine⟨rfl,.inr ⟨e3,_,_,_,rfl,r4,r5,r6,.inl ⟨_,_,hu,?_,rfl,rfl⟩⟩⟩;rw[AAA hsm]
   ·left
    rw[No hsm]at hu;have hi8:i<=8:=by omega
    have c2:iLt (c:Int) 128=IT:=by rw[Da];simp;omega
    have hrun:∃e3,QL F e2 h'=.norm e3 h'/\J 0 e3=u/\J 1 e3=AI AT (p:Int)/\J 7 e3=.int .u64 ((acc+c % 128*2 ^ (7*i):Nat):Int)/\J 8 e3=AI AT ((p+i:Nat):Int):=by
     unfold QL;simp only[sT,xT,sh,reduceIte,p46,Qg,p9,m1,Bi,m2,B6,p10,m3,Xa,m4,BW,p7,m5,AK,AJ,c2,p8,a3];exact⟨_,rfl,by simp[AG,p0,pp1,p8]⟩
    obtain⟨e3,r1,r0,rr1,r7,r8⟩:=hrun;have AG9:∃e4,Rx F e' h'=.norm e4 h'/\J 0 e4=u/\J 1 e4=AI AT (p:Int)/\J 7 e4=.int .u64 ((acc+c % 128*2 ^ (7*i):Nat):Int)/\J 8 e4=AI AT ((p+(i+1):Nat):Int):=by
     rw[p1,r1];simp only[Bt,Ay,Hs,ID,BW,r8,EY,a3,En,IB,Mr,AG,xT,sh,reduceIte];exact⟨_,rfl,by simp[AG,r0,rr1,r7]⟩
    obtain⟨e4,k1,k2,k3,k4,k5⟩:=AG9;exact⟨by omega,e4,h',k1,rfl,_,k2,k3,k4,k5,hle,by omega,by omega,hu⟩
 ·right
  have c1:iLt ((p+i:Nat):Int) (l.length:Int)=IT:=by rw[Da];simp;omega
  have hrun:∃e2,Rx F e' h'=.exit 0 e2 h':=by
   rw[Wx];simp only[sT,xT,sh,reduceIte,AX,t0,Vl,AK,AJ,t8,c1];exact⟨_,rfl⟩
  obtain⟨e2,r1⟩:=hrun;rw[r1];refine⟨rfl,.inl ⟨e2,rfl,?_⟩⟩;rw[hu,ym (by omega)];rfl
theorem Wz:NO=G 7 (AP (W (.int .u64 0))) (G 8 (Aa 1) (BB (AY 0 (A3 Rx)) rp)):=rfl
theorem aq:d84=iS:=rfl
theorem Ub{n:Nat}{h:Hp}{u:xU}{l:List Nat}{p:Nat}(V:h.AE7 u (l.map bv))(hb:∀x∈l,x<256)(hp:p<=l.length)(hl:l.length<=1000000):
  ∃a b c,call AC (n+1) 84 [u,AI AT (p:Int)] h=.ok (.tuple ⟨[.int .u64 a,AI AT b,AI AT c]⟩) h/\mX l p a b c:=by
 have Vl:AFB u h=.ok (AI AT (l.length:Int)) h:=by have:=V.len;rwa [xa]at this
 have c0:iLt (p:Int) 0=IT:=by rw[Da];simp
 have c1:iGt (p:Int) (l.length:Int)=IT:=by rw[HJ];simp;omega
 have pre:∃e1,iS (call AC n) (Au e0 0 [u,AI AT (p:Int)]) h=NO (call AC n) e1 h/\J 0 e1=u/\J 1 e1=AI AT (p:Int):=by
  unfold iS;simp only[iN,xV,Hs,Hr,Px,ID,Ht,En,IB,EY,AG,xT,sh,reduceIte,gD,AK,AJ,c0,AX,Vl,c1];exact⟨_,rfl,by simp[AG]⟩
 obtain⟨e1,p1,p2,p3⟩:=pre;have H:=bg (F:=call AC n) (e:=Env.set 8 (AI AT (p:Int)) (Env.set 7 (.int .u64 0) e1)) V hb hp hl (by simp[AG,p2]) (by simp[AG,p3]) (by simp[AG]) (by simp[AG]);rcases H with ⟨e2,q1,q2⟩|⟨e2,a,b,c,q1,q4,q5,q6,q7⟩
 ·refine⟨0,0,11,?_,.inr ⟨q2,by omega⟩⟩
  rw[aF rfl,aq,p1,Wz];simp only[Hs,ID,En,IB,EY,AG,xT,sh,reduceIte,p3,A7,Ap];rw[q1];simp only[A5,Ay];unfold rp;simp only[sT,xT,sh,reduceIte,Av,Eh]
 ·refine⟨a,b,c,?_,q7⟩
  rw[aF rfl,aq,p1,Wz];simp only[Hs,ID,En,IB,EY,AG,xT,sh,reduceIte,p3,A7,Ap];rw[q1];simp only[CE,Cr];simp only[Av,Eh,q4,q5,q6]
end
noncomputable section
open Go
def Qv(T:List Nat):Nat->List Nat->Nat
 |s,[]=>s
 |s,a::b=>Qv T (AAG (T.getD (AAG (s % 256) a) 0) (s/256)) b
def CJ(T l:List Nat):Nat:=4294967295 - Qv T 4294967295 l
def AFQ(T:List Nat):Prop:=T.length=256/\∀a,T.getD a 0<4294967296
theorem lr{a b:Nat}(c:a<256)(d:b<256):AAG a b<256:=ADN (n:=8) c d
theorem fZ{a b:Nat}(c:a<4294967296)(d:b<4294967296):AAG a b<4294967296:=ADN (n:=32) c d
theorem Pk{T:List Nat}(a:AFQ T){s:Nat}(c:s<4294967296)(b:Nat):AAG (T.getD (AAG (s % 256) b) 0) (s/256)<4294967296:=fZ (a.2 _) (by omega)
theorem X4{T:List Nat}(c:AFQ T):∀(l:List Nat) (s:Nat),s<4294967296->Qv T s l<4294967296
 |[],s,a=>a
 |b::l,s,a=>X4 c l _ (Pk c a b)
theorem Ip(T l:List Nat):CJ T l<4294967296:=by unfold CJ;omega
def Hb(s:Nat):List Nat:=[s/16777216 % 256,s/65536 % 256,s/256 % 256,s % 256]
def DH(T l:List Nat):List Nat:=l++Hb (CJ T l)
theorem Fm(T l:List Nat):(DH T l).length=l.length+4:=by unfold DH;rw[xY];rfl
theorem lN(s x:Nat)(h:x∈Hb s):x<256:=by
 unfold Hb at h;simp only[yC,ACW,or_false]at h;omega
theorem KK{T l:List Nat}(h:∀x∈l,x<256):∀x∈DH T l,x<256:=λx b=>by
 rcases yO.1 b with a|a
 ·exact h x a
 ·exact lN _ x a
def CB(ns:List Nat):List Nat:=ns.flatMap BD
theorem FQ(n:Nat)(ns:List Nat):CB (n::ns)=BD n++CB ns:=rfl
theorem Va(a b:List Nat):CB (a++b)=CB a++CB b:=List.flatMap_append
theorem Pn{ns:List Nat}:∀x∈CB ns,x<256:=λx b=>by
 obtain⟨c,_,a⟩:=List.mem_flatMap.1 b;exact IQ c x a
theorem Jb:∀{ns:List Nat},(∀v∈ns,v<18446744073709551616)->(CB ns).length<=10*ns.length
 |[],_=>xW _
 |n::ns,a=>by
  have c:=G9 (a n xp);have d:=Jb λv b=>a v (xn _ b)
  rw[FQ,xY,xh];omega
def Qo(l:List Nat):List Nat:=l++xx (60 - l.length) 0
theorem Nt{l:List Nat}(h:l.length<=60):(Qo l).length=60:=by unfold Qo;rw[xY,yn];omega
theorem Xh{l:List Nat}(h:∀x∈l,x<256):∀x∈Qo l,x<256:=λx b=>by
 rcases yO.1 b with a|a
 ·exact h x a
 ·rw[AAi a];decide
def L7(ns:List Nat):List Nat:=Qo (CB ns)
def rdN:Nat->List Nat->Nat->Option (List Nat×Nat)
 |0,_,a=>BY ([],a)
 |k+1,b,a=>match Fe 0 0 (b.drop a)with
  |none=>By
  |some (v,c)=>if v<=1099511627776 then(match rdN k b (a+c)with
   |none=>By
   |some (vs,d)=>BY (v::vs,d))else By
theorem MU:∀(ns:List Nat) (a r:List Nat),(∀v∈ns,v<=1099511627776)->rdN ns.length (a++(CB ns++r)) a.length=BY (ns,a.length+(CB ns).length)
 |[],a,r,_=>rfl
 |v::ns,a,r,b=>by
  have c:=b v xp;rw[xh,rdN,ABM,FQ,yD,VZ (by omega)];simp only;have:=MU ns (a++BD v) r λe d=>b e (xn _ d)
  rw[yD,xY]at this;rw[If c,this];simp only[xY,Nat.add_assoc]
theorem MT:∀(k:Nat) (l:List Nat) (p:Nat) (ns:List Nat) (q:Nat),(∀x∈l,x<256)->p<=l.length->rdN k l p=BY (ns,q)->ns.length=k/\l.drop p=CB ns++l.drop q/\q=p+(CB ns).length/\q<=l.length/\∀v∈ns,v<=1099511627776
 |0,l,p,ns,q,d,g,a=>by
  cases a;exact⟨rfl,rfl,rfl,g,λv b=>by cases b⟩
 |k+1,l,p,ns,q,d,g,a=>by
  rw[rdN]at a;cases c:Fe 0 0 (l.drop p)with
  |none=>rw[c]at a;cases a
  |some s=>
   obtain⟨v,h⟩:=s;rw[c]at a;simp only at a;by_cases b:v<=1099511627776
   ·rw[If b]at a
    have f:∀x∈l.drop p,x<256:=λx hx=>d x (zd hx)
    have i:=YB f c;rw[yX]at i;obtain⟨g1,g2,g3⟩:=fO f c;cases e:rdN k l (p+h)with
    |none=>rw[e]at a;cases a
    |some t=>
     obtain⟨vs,u⟩:=t;rw[e]at a;cases a;obtain⟨j,m,n,o,r⟩:=MT k l (p+h) vs q d (by omega) e;refine⟨by rw[xh,j],?_,?_,o,λx hx=>?_⟩
     ·rw[g1,List.drop_drop,m,FQ,yD]
     ·rw[n,FQ,xY];omega
     ·rcases yC.1 hx with rfl|hx
      ·exact b
      ·exact r x hx
   ·rw[No b]at a;cases a
def AEz(a b c:Int)(s n:Nat):Bool:=decide (0<=a/\a<=1099511627776/\0<=b/\b<255/\1<=c/\c<=1099511627776/\(s=1\/s=2)/\n<=65536)
def at6(ns:List Nat)(i:Nat):Nat:=ns.getD i 0
def C3(T l:List Nat):Option (List Nat):=if l.length<4 then By else if DH T (l.take (l.length - 4))=l then BY (l.take (l.length - 4))else By
def Qh(ns:List Nat):Prop:=AEz (at6 ns 1) (at6 ns 2) (at6 ns 3) (min (at6 ns 0) 9) 0=IN/\at6 ns 4<=65536/\at6 ns 5<=4294967295
def kD(ns:List Nat):Prop:=at6 ns 0<=2/\at6 ns 4<=65536/\at6 ns 5<=4294967295/\AEz (at6 ns 1) (at6 ns 2) (at6 ns 3) (at6 ns 0) 0=IN
theorem kE{ns:List Nat}:Qh ns↔kD ns:=by
 unfold Qh kD AEz;simp only[decide_eq_true_eq];generalize at6 ns 0=l;constructor
 ·rintro⟨⟨a,c,d,e,f,g,j,h⟩,i,b⟩
  exact⟨by omega,i,b,a,c,d,e,f,g,by omega,h⟩
 ·rintro⟨k,i,b,a,c,d,e,f,g,j,h⟩
  exact⟨⟨a,c,d,e,f,g,by omega,h⟩,i,b⟩
def L1(T l ns:List Nat):Prop:=∃a b,C3 T l=BY a/\a.length=60/\rdN 6 a 0=BY (ns,b)/\Qh ns/\∀c∈a.drop b,c=0
def we(T l ns:List Nat):Prop:=∃a,rdN 6 l 0=BY (ns,a)/\kD ns/\DH T (L7 ns)=l
theorem Ka{T l a:List Nat}(h:C3 T l=BY a):DH T a=l/\a=l.take (l.length - 4):=by
 unfold C3 at h;split at h
 ·cases h
 ·split at h
  ·rename_i b
   cases h;exact⟨b,rfl⟩
  ·cases h
theorem Es(T a:List Nat):C3 T (DH T a)=BY a:=by
 have b:(DH T a).take ((DH T a).length - 4)=a:=by
  rw[Fm,Nat.add_sub_cancel];unfold DH;exact ACy
 unfold C3;rw[b,No (by rw[Fm];omega),If rfl]
theorem ff{l:List Nat}(h:∀x∈l,x=0):l=xx l.length 0:=List.eq_replicate_iff.2 ⟨rfl,h⟩
theorem Sw{T l ns:List Nat}(g:∀x∈l,x<256):L1 T l ns↔we T l ns:=by
 constructor
 ·rintro⟨a,c,d,f,e,i,j⟩
  obtain⟨h,q⟩:=Ka d;have k:∀x∈a,x<256:=λx b=>g x (by rw[q]at b;exact zJ b)
  obtain⟨g1,g2,g3,g4,g5⟩:=MT 6 a 0 ns c k (yH _) e;rw[yk]at g2;have p:=ff j;have m:L7 ns=a:=by
   unfold L7 Qo;rw[show 60 - (CB ns).length=(a.drop c).length by rw[yX];omega,<- p,<- g2]
  refine⟨(CB ns).length,?_,kE.1 i,by rw[m];exact h⟩;have:=MU ns [] (a.drop c++Hb (CJ T a)) g5;rw[g1]at this;rw[<- h];unfold DH;rw[yT,<- yD,<- g2]at this
  simpa using this
 ·rintro⟨c,d,f,e⟩
  obtain⟨g1,g2,g3,g4,g5⟩:=MT 6 l 0 ns c g (yH _) d;have n:(CB ns).length<=60:=by
   have:=Jb (ns:=ns) λv o=>by have:=g5 v o;omega
   omega
  refine⟨L7 ns,(CB ns).length,by rw[<- e];exact Es T _,Nt n,?_,kE.2 f,λx b=>?_⟩
  ·have:=MU ns [] (xx (60 - (CB ns).length) 0) g5
   rw[g1]at this;unfold L7 Qo
   simpa using this
  ·unfold L7 Qo at b
   rw[ABM]at b;exact AAi b
abbrev pt(b:Nat):xU:=.pointer (BY ⟨b,0,By⟩)
def wv(n:Nat):xU:=.int .u32 (n:Int)
theorem Am{a:Addr}{h:Hp}:Yo (.pointer (BY a)) h=.ok (.pointer (BY a)) h:=rfl
theorem Ax{F:AEh}{e:Env}{h:Hp}{x:O}:Bh x F e h=Yo (x e) h:=rfl
theorem mW:Td.k=.ptr 26:=by kernel_rfl
theorem tR{F:AEh}{e:Env}{h:Hp}{a:Addr}{g:O}(b:g e=.pointer (BY a)):oEq Td.k IT g (W (.pointer By)) F e h=.ok (.bool IT) h:=by
 show(match eqV Td.k (g e) (.pointer By)with|some c=>okB (IT != c) h|none=>.no)=_;rw[mW,b];exact FU
theorem uA{h:Hp}{tb:Nat}{T:List Nat}(R:h.Row tb 0 (T.map wv))(hT:AFQ T){k:IntKind}{x:Nat}(hx:x<256):OV 256 1 (pt tb) (.int k (x:Int)) h=.ok (.pointer (BY ⟨tb,x,By⟩)) h/\I7 (.pointer (BY ⟨tb,x,By⟩)) h=.ok (wv (T.getD x 0)) h:=by
 refine⟨?_,?_⟩
 ·have:=XG (h:=h) (n:=256) (es:=1) (b:=tb) (off:=0) (i:=x) (k:=k) hx
  rwa [xZ,zw]at this
 ·have hx':x<T.length:=by rw[hT.1];exact hx
  rw[AQ,R.AEi (off:=x) (by rw[xa];exact hx'),xe,zE,xe,xc hx'];rfl
theorem Jg{h:Hp}{u:xU}{l:List Nat}(b:h.AE7 u (l.map bv)){i:Nat}(hi:i<l.length):∃a,AFV 1 u (AI AT (i:Int)) h=.ok (.pointer (BY a)) h/\I7 (.pointer (BY a)) h=.ok (.int .u8 ((l.getD i 0:Nat):Int)) h:=by
 obtain⟨a,g1,g2⟩:=b.at (i:=i) (by rw[xa];exact hi);refine⟨a,g1,?_⟩;rw[g2,xe,zE,xe,xc hi];rfl
theorem iz{l:List Nat}(b:∀x∈l,x<256)(i:Nat):l.getD i 0<256:=by
 rw[xe];cases a:l[i]? with
 |none=>decide
 |some x=>exact b x (xy a)
theorem Gj{l:List Nat}{i:Nat}(hi:i<l.length):l.drop i=l.getD i 0::l.drop (i+1):=by
 rw[zf hi,xe,xc hi];rfl
theorem Hp.AE7.bl{h:Hp}{u:xU}{l:List Nat}(a:h.AE7 u (l.map bv))(g:Hp):AFB u g=.ok (AI AT (l.length:Int)) g:=by
 obtain⟨c,d,b⟩:=a.shape;rw[b,xa];rfl
theorem xS{a b:Nat}(c:a<256)(d:b<256){h:Hp}:Zu AAG .u8 (.int .u8 (a:Int)) (.int .u8 (b:Int)) h=.ok (.int .u8 ((AAG a b:Nat):Int)) h:=V5 (by show a<=255;omega) (by show b<=255;omega)
theorem wX{a b:Nat}(c:a<4294967296)(d:b<4294967296){h:Hp}:Zu AAG .u32 (.int .u32 (a:Int)) (.int .u32 (b:Int)) h=.ok (.int .u32 ((AAG a b:Nat):Int)) h:=V5 (by show a<=4294967295;omega) (by show b<=4294967295;omega)
theorem Ti{n:Nat}(h:n<=4294967295):IntKind.u32.wrap (n:Int)=n:=EB .u32 n h
theorem Cc{i:Nat}(hi:i<=1000000000){h:Hp}:GC .i64 (AI AT (i:Int)) (AI AT 1) h=.ok (AI AT ((i+1:Nat):Int)) h:=by
 have:(i:Int)+1=((i+1:Nat):Int):=by omega
 rw[EQ,this,Bf (by omega)]
theorem EU{a b:Nat}(h:a<b):iLt (a:Int) (b:Int)=IN:=by rw[Da];simp;omega
theorem Cz{a b:Nat}(h:b<=a):iLt (a:Int) (b:Int)=IT:=by rw[Da];simp;omega
def Hp.VR(h:Hp)(u:xU)(l:List Nat):Prop:=h.AE7 u (l.map bv)\/((∃a,u=.chan (BY a))/\l=[])
theorem Hp.VR.bl{h:Hp}{u:xU}{l:List Nat}(a:h.VR u l)(g:Hp):AFB u g=.ok (AI AT (l.length:Int)) g:=by
 rcases a with a|⟨⟨b,rfl⟩,rfl⟩
 ·exact a.bl g
 ·rfl
theorem Hp.VR.here{h:Hp}{u:xU}{l:List Nat}{i:Nat}(a:h.VR u l)(hi:i<l.length):h.AE7 u (l.map bv):=by
 rcases a with a|⟨_,rfl⟩
 ·exact a
 ·exact absurd hi (Nat.not_lt_zero _)
theorem Hp.VR.ext{h h':Hp}{u:xU}{l:List Nat}(a:h.VR u l)(b:h.Wf)(x:h.Ext h'):h'.VR u l:=a.imp (λa=>a.ext b x) id
theorem Hp.VR.lenV{h:Hp}{u:xU}{l:List Nat}(a:h.VR u l):lenV u=.ok (l.map bv).length:=by
 rcases a with a|⟨⟨b,rfl⟩,rfl⟩
 ·exact a.lenV
 ·rfl
theorem Hp.VR.src{h:Hp}{u:xU}{l:List Nat}(a:h.VR u l){n:Nat}(b:n=(l.map bv).length)(k:List xU->R):BM h 1 u n k=k (l.map bv):=by
 rcases a with a|⟨⟨c,rfl⟩,rfl⟩
 ·exact a.src b k
 ·rfl
theorem tz:suS=BB (AY 0 (A3 suB)) suE:=rfl
theorem rH:d80=iQ:=rfl
theorem lM{F:AEh}{h:Hp}{f:Nat}{T:List Nat}(R:h.Row f 0 (T.map wv))(r:AFQ T){u:xU}{l:List Nat}(C:h.VR u l)(G:∀x∈l,x<256)(hl:l.length<=900000){e:Env}(s0:J 0 e=pt f)(s1:J 1 e=u)(s5:J 5 e=.int .u32 ((4294967295:Nat):Int))(s10:J 10 e=AI AT (l.length:Int))(s11:J 11 e=AI AT ((0:Nat):Int)):
  ∃b h',A3 suB F e h=.exit 0 b h'/\(h'=h\/h'=h.marked)/\J 5 b=.int .u32 ((Qv T 4294967295 l:Nat):Int):=by
 refine Bd (I:=λi b h'=>(h'=h\/h'=h.marked)/\∃a:Nat,J 0 b=pt f/\J 1 b=u/\J 5 b=.int .u32 (a:Int)/\J 10 b=AI AT (l.length:Int)/\J 11 b=AI AT (i:Int)/\i<=l.length/\a<4294967296/\Qv T 4294967295 l=Qv T a (l.drop i))
  (Q:=λx=>∃b h',x=.exit 0 b h'/\(h'=h\/h'=h.marked)/\J 5 b=.int .u32 ((Qv T 4294967295 l:Nat):Int)) l.length (by omega) (λi b h' ⟨A,a,t0,t1,t5,t10,t11,hi,K,o⟩=>?_) ⟨.inl rfl,4294967295,s0,s1,s5,s10,s11,yH _,by decide,rfl⟩
 have H:h'.marked=h.marked:=by rcases A with rfl|rfl<;>rfl
 by_cases d:i<l.length
 ·left
  have D:h.marked.AE7 u (l.map bv):=(C.here d).same rfl;have B:h.marked.Row f 0 (T.map wv):=R.same rfl;obtain⟨Z,g1,g2⟩:=Jg D d;have s:=iz G i;rw[Gj d]at o;generalize l.getD i 0=g at g2 s o;have p:=EU d;have W:Ct .u8 (.int .u32 (a:Int)) h.marked=.ok (.int .u8 ((a % 256:Nat):Int)) h.marked:=by rw[Bu,Ff]
  have X:=xS (h:=h.marked) (show a % 256<256 by omega) s;have M:=lr (show a % 256<256 by omega) s;obtain⟨N,w⟩:=uA B r (k:=.u8) M;have V:eO .u32 (.int .u32 (a:Int)) (.int .u64 8) h.marked=.ok (.int .u32 ((a/256:Nat):Int)) h.marked:=Xp (j:=.u32) (q:=.u64) (m:=a) (n:=8);have Y:=wX (h:=h.marked) (r.2 (AAG (a % 256) g)) (show a/256<4294967296 by omega);have w:I7 (.pointer (BY ⟨f,AAG (a % 256) g,By⟩)) h.marked=.ok (.int .u32 ((T.getD (AAG (a % 256) g) 0:Nat):Int)) h.marked:=w;have L:=Pk r K g;have E:=Cc (i:=i) (h:=h.marked) (by omega);have t:∃c,suB F b h'=.norm c h.marked/\J 0 c=pt f/\J 1 c=u/\J 5 c=.int .u32 ((AAG (T.getD (AAG (a % 256) g) 0) (a/256):Nat):Int)/\J 10 c=AI AT (l.length:Int)/\J 11 c=AI AT ((i+1:Nat):Int):=by
   unfold suB;simp only[sT,xT,sh,reduceIte,AK,AJ,t11,t10,p,Aw,H,Bi,t5,W,BA,t1,g1,AN,g2,ji,X,Ax,t0,Am,Dc,N,w,Xb,V,Y,BW,E];exact⟨_,rfl,by simp[AG,t0,t1,t10]⟩
  obtain⟨c,y,z,O,P,S,U⟩:=t;exact⟨d,c,h.marked,y,.inr rfl,_,z,O,P,S,U,d,L,o⟩
 ·right
  have p:=Cz (show l.length<=i by omega);have t:∃c,suB F b h'=.exit 0 c h'/\J 5 c=.int .u32 (a:Int):=by
   unfold suB;simp only[sT,xT,sh,reduceIte,AK,AJ,t11,t10,p];exact⟨_,rfl,by simp[AG,t5]⟩
  obtain⟨c,y,z⟩:=t;rw[y];refine⟨rfl,c,h',rfl,A,?_⟩;rw[z,o,ym (by omega)];rfl
theorem X5{n:Nat}{h:Hp}{b:Nat}{T:List Nat}(R:h.Row b 0 (T.map wv))(e:AFQ T){u:xU}{l:List Nat}(d:h.VR u l)(i:∀x∈l,x<256)(k:l.length<=900000):
  ∃h',call AC (n+1) 80 [pt b,u] h=.ok (.int .u32 ((CJ T l:Nat):Int)) h'/\(h'=h\/h'=h.marked):=by
 have m:∀c:Env,J 0 c=pt b->oEq Td.k IT (J 0) (W (.pointer By)) (call AC n) c h=.ok (.bool IT) h:=λc j=>tR j
 have f:=d.bl h;have w:∃a,iQ (call AC n) (Au e0 0 [pt b,u]) h=suS (call AC n) a h/\J 0 a=pt b/\J 1 a=u/\J 5 a=.int .u32 ((4294967295:Nat):Int)/\J 10 a=AI AT (l.length:Int)/\J 11 a=AI AT ((0:Nat):Int):=by
  unfold iQ;simp only[iN,xV,sT,xT,sh,reduceIte,m,AX,f];exact⟨_,rfl,by simp[AG]⟩
 obtain⟨a,o,p,q,r,s,t⟩:=w;obtain⟨B,h',y,z,A⟩:=lM (F:=call AC n) R e d i k p q r s t;have g:Fp yi .u32 (.int .u32 4294967295) (.int .u32 ((Qv T 4294967295 l:Nat):Int)) h'=.ok (.int .u32 ((CJ T l:Nat):Int)) h':=by
  have C:=X4 e l 4294967295 (by decide);have:yi 4294967295 ((Qv T 4294967295 l:Nat):Int)=((CJ T l:Nat):Int):=by
   show(4294967295:Int) - _=_;unfold CJ;omega
  rw[Cn,this,Ti (by unfold CJ;omega)]
 refine⟨h',?_,z⟩;rw[pT rfl,rH,o,tz];simp only[A7,Ap,y,A5,Ay];unfold suE;simp only[sT,xT,sh,reduceIte,B6,A,g,lV0]
theorem eo{n:Nat}{h:Hp}{a:Nat}{T:List Nat}(R:h.Row a 0 (T.map wv))(c:AFQ T){u:xU}{l:List Nat}(b:h.AE7 u (l.map bv))(d:∀x∈l,x<256)(e:l.length<=900000):
 ∃h',call AC (n+1) 80 [pt a,u] h=.ok (.int .u32 ((CJ T l:Nat):Int)) h'/\(h'=h\/h'=h.marked):=X5 R c (.inl b) d e
def Mk(h:Hp)(k:Nat)(v:xU)(l:List Nat):Prop:=∃a b,v=.slice (BY ⟨a,0,By⟩) l.length l.length/\(b=0\/b=6)/\h.Row a b (l.map bv)/\k<=a
theorem Mk.vals{h:Hp}{k:Nat}{v:xU}{l:List Nat}(m:Mk h k v l):h.AE7 v (l.map bv):=by
 obtain⟨a,b,c,e,d,f⟩:=m;exact .inr ⟨a,0,l.length,b,_,by rw[xa];exact c,d,by simp,by rw[yk,List.take_length]⟩
theorem Mk.ext{h h':Hp}{k:Nat}{v:xU}{l:List Nat}(m:Mk h k v l)(a:h.Wf)(x:h.Ext h'):Mk h' k v l:=by
 obtain⟨b,c,d,e,f,g⟩:=m;exact⟨b,c,d,e,f.ext a x,g⟩
theorem Mk.same{h h':Hp}{k:Nat}{v:xU}{l:List Nat}(m:Mk h k v l)(g:h'.bl=h.bl):Mk h' k v l:=by
 obtain⟨a,b,c,d,e,f⟩:=m;exact⟨a,b,c,d,e.same g,f⟩
theorem Mk.le{h:Hp}{k k':Nat}{v:xU}{l:List Nat}(m:Mk h k v l)(hk:k'<=k):Mk h k' v l:=by
 obtain⟨a,b,c,d,e,f⟩:=m;exact⟨a,b,c,d,e,by omega⟩
theorem Hp.Own.mk{h:Hp}{k:Nat}{v:xU}{l:List Nat}(o:h.Own k 5 v (l.map bv))(f:0<l.length):Mk h k v l:=by
 rcases o with ⟨_,a⟩|⟨c,b,a,d,e⟩
 ·have:=congrArg AAC a
  rw[xa,yU]at this;omega
 ·rw[xa]at b
  exact⟨c,6,b,.inr rfl,a,d⟩
theorem MW:∀n:Nat,BP ty5.zero n=(xx n 0).map bv:=λn=>by
 have a:ty5.zero=[bv 0]:=by kernel_rfl
 rw[a]
 induction n with
 |zero=>rfl
 |succ n b=>show [bv 0]++BP [bv 0] n=_;rw[b];rfl
theorem Ss{A B:List xU}{x y:xU}:over (A++x::B) A.length [y]=A++y::B:=by
 unfold over;have a:A++x::B=(A++[x])++B:=by simp
 rw[ACy,a,show A.length+[y].length=(A++[x]).length by simp,ABM];simp
theorem Ns{A B a:List xU}(h:A.length=a.length):over (A++B) 0 a=a++B:=by
 unfold over;rw[xZ,<- h,ABM];simp
theorem ZM{s i:Nat}(hi:i<4):(Hb s).drop (3 - i)=(s/2 ^ min (8*i) 32) % 256::(Hb s).drop (4 - i):=by
 have:i=0\/i=1\/i=2\/i=3:=by omega
 rcases this with rfl|rfl|rfl|rfl
 ·show [s % 256]=s/1 % 256::[]
  rw[Nat.div_one]
 ·rfl
 ·rfl
 ·rfl
theorem Mj{a b:List Nat}(ha:∀x∈a,x<256)(hb:∀x∈b,x<256):bEq (a.map AAw) (b.map AAw)=decide (a=b):=by
 rw[Mi,zk,beq_iff_eq,decide_eq_true_eq];refine⟨λh=>?_,λh=>by rw[h]⟩;have h1:=congrArg (List.map AC2) h;rw[ACs,ACs]at h1;have e:∀l:List Nat,(∀x∈l,x<256)->l.map (AC2∘AAw)=l:=λl hl=>by
  have:l.map (AC2∘AAw)=l.map id:=List.map_congr_left λx hx=>by
   show(AAw x).toNat=x;rw[UInt8.toNat_ofNat',AAA (hl x hx)]
  rw[this,List.map_id]
 rwa [e a ha,e b hb]at h1
theorem wM{n:Nat}{h:Hp}{u v:xU}{a b:List Nat}(c:h.AE7 u (a.map bv))(d:h.AE7 v (b.map bv))(e:∀x∈a,x<256)(f:∀x∈b,x<256):call AC (n+1) 50 [u,v] h=.ok (.bool (decide (a=b))) h:=by
 have g:=Mj e f;rw[aB rfl];unfold d50;simp only[iN,xV,sT,xT,sh,reduceIte,Im,c.bytes.str,d.bytes.str,MS,MK,g,lV0]
theorem tu:slS=BB (AY 0 (A3 slB)) slE:=rfl
theorem rA:d46=iK:=rfl
theorem lK{F:AEh}{h h0:Hp}(W0:h0.Wf)(x:h0.Ext h){r s N:Nat}(hr:h0.next<=r){u:xU}{l:List Nat}(V:h0.VR u l)(hN:N=l.length+4)(hl:l.length<=900000)(hs:s<4294967296)(R:h.Row r 0 ((xx N 0).map bv)){e:Env}
  (s1:J 1 e=u)(s5:J 5 e=.slice (BY ⟨r,0,By⟩) N N)(s6:J 6 e=.int .u32 (s:Int))(s15:J 15 e=AI AT ((0:Nat):Int)):
  ∃e' h',A3 slB F e h=.exit 0 e' h'/\h0.Ext h'/\h'.Row r 0 ((xx l.length 0++Hb s).map bv)/\J 1 e'=u/\J 5 e'=.slice (BY ⟨r,0,By⟩) N N:=by
 refine Bd (I:=λi e' h'=>h0.Ext h'/\h'.Row r 0 ((xx (N - i) 0++(Hb s).drop (4 - i)).map bv)/\J 1 e'=u/\J 5 e'=.slice (BY ⟨r,0,By⟩) N N/\J 6 e'=.int .u32 (s:Int)/\J 15 e'=AI AT (i:Int)/\i<=4)
  (Q:=λx=>∃e' h',x=.exit 0 e' h'/\h0.Ext h'/\h'.Row r 0 ((xx l.length 0++Hb s).map bv)/\J 1 e'=u/\J 5 e'=.slice (BY ⟨r,0,By⟩) N N) 4 (by omega) (λi e' h' ⟨x',R',t1,t5,t6,t15,hi⟩=>?_)
  ⟨x,by rw[ADh,ym (show(Hb s).length<=4 - 0 from xW _),yF];exact R,s1,s5,s6,s15,by omega⟩
 by_cases hlt:i<4
 ·left
  have W:=x'.wf;have Vl:=V.bl h';have c1:iLt (i:Int) 4=IN:=EU hlt;have a1:GC .i64 (AI AT (l.length:Int)) (AI AT 4) h'=.ok (AI AT (N:Int)) h':=by
   rw[EQ,show(l.length:Int)+4=(N:Int)by omega,Bf (by omega)]
  have a2:Fp yi .i64 (AI AT (N:Int)) (AI AT 1) h'=.ok (AI AT ((N - 1:Nat):Int)) h':=by
   have:yi (N:Int) 1=((N - 1:Nat):Int):=by show(N:Int) - 1=_;omega
   rw[Cn,this,Bf (by omega)]
  have a3:Fp yi .i64 (AI AT ((N - 1:Nat):Int)) (AI AT (i:Int)) h'=.ok (AI AT ((N - (i+1):Nat):Int)) h':=by
   have:yi ((N - 1:Nat):Int) (i:Int)=((N - (i+1):Nat):Int):=by show((N - 1:Nat):Int) - (i:Int)=_;omega
   rw[Cn,this,Bf (by omega)]
  have a4:Fp ABr .i64 (AI AT 8) (AI AT (i:Int)) h'=.ok (AI AT ((8*i:Nat):Int)) h':=by
   have:ABr 8 (i:Int)=((8*i:Nat):Int):=by show(8:Int)*(i:Int)=_;omega
   rw[Cn,this,Bf (by omega)]
  have r1:eO .u32 (.int .u32 (s:Int)) (AI AT ((8*i:Nat):Int)) h'=.ok (.int .u32 ((s/2 ^ min (8*i) 32:Nat):Int)) h':=Xp (j:=.u32) (q:=.i64) (m:=s) (n:=8*i);have v1:Ct .u8 (.int .u32 ((s/2 ^ min (8*i) 32:Nat):Int)) h'=.ok (.int .u8 ((s/2 ^ min (8*i) 32 % 256:Nat):Int)) h':=by rw[Bu,Ff]
  have i1:AFV 1 (.slice (BY ⟨r,0,By⟩) N N) (AI AT ((N - (i+1):Nat):Int)) h'=.ok (.pointer (BY ⟨r,N - (i+1),By⟩)) h':=by
   have:=Cy (h:=h') (n:=N) (c:=N) (es:=1) (b:=r) (off:=0) (i:=N - (i+1)) (k:=.i64) (by omega)
   rwa [xZ,zw]at this
  have AJR:=ZM (s:=s) hlt;generalize s / 2 ^ min (8 * i) 32 % 256=c at v1 AJR;have AId:(xx (N - i) 0++(Hb s).drop (4 - i)).map bv=(xx (N - (i+1)) 0).map bv++bv 0::((Hb s).drop (4 - i)).map bv:=by
   rw[show N - i=(N - (i+1))+1 by omega,List.replicate_succ',yZ,yZ,yD];rfl
  rw[AId]at R';have hAl:((xx (N - (i+1)) 0).map bv).length=N - (i+1):=by simp
  have ho:N - (i+1)+[yy .u8 (c:Int)].length<=((xx (N - (i+1)) 0).map bv++bv 0::((Hb s).drop (4 - i)).map bv).length:=by
   simp only[xY,xh,yU,hAl];omega
  have AEs:256<=r:=by have:=W0.big;omega
  have st:=R'.AEn (n:=1) (off:=N - (i+1)) W AEs (v:=.int .u8 (c:Int)) rfl ho rfl;have wr:=R'.AEt W (off:=N - (i+1)) (vs:=[.int .u8 (c:Int)]) ho;have xw:=R'.AFC x' hr (off:=N - (i+1)) (vs:=[.int .u8 (c:Int)]) ho;have a5:=Cc (i:=i) (h:=h'.wr r (N - (i+1)) [.int .u8 (c:Int)]) (by omega);have hov:over ((xx (N - (i+1)) 0).map bv++bv 0::((Hb s).drop (4 - i)).map bv) (N - (i+1)) [.int .u8 (c:Int)]=(xx (N - (i+1)) 0++(Hb s).drop (4 - (i+1))).map bv:=by
   have:=Ss (A:=(xx (N - (i+1)) 0).map bv) (B:=((Hb s).drop (4 - i)).map bv) (x:=bv 0) (y:=bv c);rw[hAl]at this;rw[show 4 - (i+1)=3 - i by omega,AJR,yZ,List.map_cons];exact this
  rw[hov]at wr;rw[Cj]at st;have hrun:∃e2,slB F e' h'=.norm e2 (h'.wr r (N - (i+1)) [.int .u8 (c:Int)])/\J 1 e2=u/\J 5 e2=.slice (BY ⟨r,0,By⟩) N N/\J 6 e2=.int .u32 (s:Int)/\J 15 e2=AI AT ((i+1:Nat):Int):=by
   unfold slB;simp only[sT,xT,sh,reduceIte,AK,AJ,t15,c1,AX,t1,Vl,BW,a1,B6,a2,a3,a4,Xb,t6,r1,Bi,v1,BA,t5,i1,AW,st,a5];exact⟨_,rfl,by simp[AG,t1,t5,t6]⟩
  obtain⟨e2,q1,q2,q3,q4,q5⟩:=hrun;exact⟨hlt,e2,_,q1,xw,wr,q2,q3,q4,q5,hlt⟩
 ·right
  have hi4:i=4:=by omega
  subst hi4;have c1:=Cz (show 4<=4 by omega);have hrun:∃e2,slB F e' h'=.exit 0 e2 h'/\J 1 e2=u/\J 5 e2=.slice (BY ⟨r,0,By⟩) N N:=by
   unfold slB;have c1:iLt ((4:Nat):Int) 4=IT:=c1;simp only[sT,xT,sh,reduceIte,AK,AJ,t15,c1];exact⟨_,rfl,by simp[AG,t1,t5]⟩
  obtain⟨e2,q1,q2,q3⟩:=hrun;rw[q1];refine⟨rfl,e2,h',rfl,x',?_,q2,q3⟩;have e1:N - 4=l.length:=by omega
  have e2:4 - 4=0:=rfl;rw[e1,e2,yk]at R';exact R'
theorem Qf{F:AEh}{e:Env}{h:Hp}(a:h.Wf){x y:O}{N:Nat}(d:x e=AI AT (N:Int))(f:y e=AI AT (N:Int))(g:N<=1000000):Hi 1 ty5.zero x y F e h=.ok (.slice (BY ⟨h.next,0,By⟩) N N) (h.AEg 0 ((xx N 0).map bv)):=by
 unfold Hi;rw[d,f,Dm];unfold SW;have b:yI N N=IN:=As.2 (xW N);have c:yI (yv (xz N) (xz 1)) most=IN:=As.2 (by
  show(N+1)*2<=1099511627776;omega)
 simp only[b,c,cond_true];rw[Cm a,MW];rfl
theorem gp{F:AEh}{e:Env}{h:Hp}(b:h.Wf){x y:O}{r N:Nat}{u:xU}{l A B:List Nat}(j:x e=.slice (BY ⟨r,0,By⟩) N N)(k:y e=u)(a:h.VR u l)(d:256<=r)(g:A.length=l.length)(i:N=(A++B).length)(R:h.Row r 0 ((A++B).map bv)):
  J8 1 x y F e h=.ok (AI AT (l.length:Int)) (h.wr r 0 (l.map bv))/\(h.wr r 0 (l.map bv)).Row r 0 ((l++B).map bv):=by
 have c:0+(l.map bv).length<=((A++B).map bv).length:=by simp;omega
 have f:Bc (l.map bv)=IN:=DD l;refine⟨?_,?_⟩
 ·unfold J8 RN
  rw[j,k];simp only[a.lenV,Ao,BU,xa];rw[AAb (show l.length<=N by rw[i,xY];omega)];rw[a.src (n:=l.length) (by rw[xa])];rw[R.store b d c f];rfl
 ·have:=R.AEt b c
  rw[yZ,Ns (by simp[g])]at this;rw[yZ];exact this
theorem eJ{n:Nat}{h:Hp}(a:h.Wf){g:Nat}{T:List Nat}(R:h.Row g 0 (T.map wv))(E:AFQ T){u:xU}{l:List Nat}(d:h.VR u l)(G:∀x∈l,x<256)(m:l.length<=900000):
  ∃h' v,call AC (n+2) 46 [pt g,u] h=.ok v h'/\h.Ext h'/\Mk h' h.next v (DH T l):=by
 have c:=(Hp.Ext.refl a).AEg 0 ((xx (l.length+4) 0).map bv);have j:=Hp.Row.new a 0 ((xx (l.length+4) 0).map bv);have mk:=λ(e:Env) (o:J 10 e=AI AT ((l.length+4:Nat):Int))=>Qf (F:=call AC (n+1)) (e:=e) a (x:=J 10) (y:=J 10) o o (by omega)
 generalize h.AEg 0 ((xx (l.length+4) 0).map bv)=D at c j mk;obtain⟨f,I,p⟩:=X5 (n:=n) (R.ext a c) E (d.ext a c) G m;have H:f.bl=D.bl:=by rcases p with rfl|rfl<;>rfl
 have U:h.Ext f:=by
  rcases p with rfl|rfl
  ·exact c
  ·exact c.marked
 have s:=d.bl h;have t:GC .i64 (AI AT (l.length:Int)) (AI AT 4) h=.ok (AI AT ((l.length+4:Nat):Int)) h:=by
  rw[EQ,show(l.length:Int)+4=((l.length+4:Nat):Int)by omega,Bf (by omega)]
 have P:∃b,iK (call AC (n+1)) (Au e0 0 [pt g,u]) h=slS (call AC (n+1)) b f/\J 1 b=u/\J 5 b=.slice (BY ⟨h.next,0,By⟩) (l.length+4) (l.length+4)/\J 6 b=.int .u32 ((CJ T l:Nat):Int)/\J 15 b=AI AT ((0:Nat):Int):=by
  unfold iK;simp only[iN,xV,sT,xT,sh,reduceIte,AX,s,BW,t,mk,cA0,I];exact⟨_,rfl,by simp[AG]⟩
 obtain⟨b,K,L,M,N,O⟩:=P;obtain⟨C,W,Q,i,k,S,q⟩:=lK (F:=call AC (n+1)) a U (xW _) d rfl m (Ip T l) (j.same H) L M N O;have r:=a.big;obtain⟨w,z⟩:=gp (F:=call AC (n+1)) (e:=C) i.wf (x:=J 5) (y:=J 1) q S (d.ext a i) r (A:=xx l.length 0) (B:=Hb (CJ T l)) (by simp) (by rw[xY,yn];rfl) k;have V:=k.AFC i (xW _) (off:=0) (vs:=l.map bv) (by rw[xa,xa,xY,yn];omega);refine⟨_,.slice (BY ⟨h.next,0,By⟩) (l.length+4) (l.length+4),?_,V,⟨h.next,0,by rw[Fm],.inl rfl,z,xW _⟩⟩;rw[ot rfl,rA,K,tu];simp only[A7,Ap,Q,A5,Ay];unfold slE;simp only[sT,xT,sh,reduceIte,w,q,lV0]
theorem MX{n:Nat}{h:Hp}(c:h.Wf){a:Nat}{T:List Nat}(R:h.Row a 0 (T.map wv))(d:AFQ T){u:xU}{l:List Nat}(b:h.AE7 u (l.map bv))(e:∀x∈l,x<256)(f:l.length<=900000):
 ∃h' v,call AC (n+2) 46 [pt a,u] h=.ok v h'/\h.Ext h'/\Mk h' h.next v (DH T l):=eJ c R d (.inl b) e f
theorem fN:Ja.k=.slice 5:=by kernel_rfl
theorem sk{F:AEh}{e:Env}{h:Hp}{a:Addr}{n c:Nat}{g:O}(b:g e=.slice (BY a) n c):oEq Ja.k IT g (W (.slice By 0 0)) F e h=.ok (.bool IT) h:=by
 show(match eqV Ja.k (g e) (.slice By 0 0)with|some d=>okB (IT != d) h|none=>.no)=_;rw[fN,b];exact FU
theorem QJ{h0 h:Hp}{eb en k b:Nat}{u:xU}{ys:List xU}(g:h0.Ext h)(p:k<=h.next)(r:h.Row b 0 [])(y:h.AE7 u ys)(t:0<ys.length)(o:Bc ys=IN)(s:(ys.length+1)*(eb+1)<=1099511627776):
  ∃h' v',DU 1 eb en (.slice (BY ⟨b,0,By⟩) 0 0) u h=.ok v' h'/\h0.Ext h'/\h'.Own k en v' ys:=by
 have c:=g.wf;obtain⟨f,a,q⟩:=r.rowOf;obtain⟨e,n,d⟩:=EF ys f [] 0 q (.inr rfl);have d:e.Is ys:=by simpa using d
 refine⟨h.push (.cells e ys.length (en+1)),.slice (BY ⟨h.next,0,By⟩) ys.length ys.length,?_,g.push _,.inr ⟨h.next,rfl,⟨e,by rw[c.AE8,If rfl],d⟩,p,c.big⟩⟩;unfold DU DL;simp only[y.lenV,y.src rfl,Ao,zS,xZ];have j:yI ys.length 0=IT:=by
  cases i:yI ys.length 0
  ·rfl
  ·have:=As.1 i;omega
 have l:yI (yv (xz ys.length) (xz eb)) JP=IN:=As.2 (HO s);rw[j];simp only[l,cond_true,o];unfold Gs;have a:rowOf h b=.ok f 0 0:=a;have m:yA 0 (yv 0 1)=IN:=rfl;simp only[a,m,n];unfold Eu;simp only[a,Bm,zS,xZ];unfold Cb;rw[Ao,C7 c];rfl
theorem RT{F:AEh}{e:Env}{h:Hp}(a:h.Wf):Ab 0 (BP ty5.zero 0) [] F e h=.ok (.slice (BY ⟨h.next,0,By⟩) 0 0) (h.AEg 0 []):=by
 have:BP ty5.zero 0=[]:=rfl;rw[this,B5,Bo,Cm a];rfl
theorem Mz{n:Nat}{h:Hp}(d:h.Wf){a:Addr}{c:Nat}{l:List Nat}(j:h.AE7 (.slice (BY a) l.length c) (l.map bv))(A:l.length<=900000):∃h' v,call AC (n+1) 90 [.slice (BY a) l.length c] h=.ok v h'/\h.Ext h'/\Mk h' h.next v l:=by
 have b:=(Hp.Ext.refl d).AEg 0 [];have R:=Hp.Row.new d 0 [];have i:=λ(e:Env)=>RT (F:=call AC n) (e:=e) d
 have y:(h.AEg 0 []).next=h.next+1:=rfl;generalize h.AEg 0 []=m at b R i y;have g:∀e:Env,J 0 e=.slice (BY a) l.length c->oEq Ja.k IT (J 0) (W (.slice By 0 0)) (call AC n) e h=.ok (.bool IT) h:=λe w=>sk w
 rcases yl l.length with f|f
 ·have x:l=[]:=zA f
  subst x;have o:=d.big;have t:DU 1 1 5 (.slice (BY ⟨h.next,0,By⟩) 0 0) (.slice (BY a) 0 c) m=.ok (.slice (BY ⟨h.next,0,By⟩) 0 0) (m.wr h.next 0 []):=RA (l:=[]) b.wf o R (j.ext d b).bytes (xW _) (xW _);have p:=R.AEt b.wf (off:=0) (vs:=[]) (xW _);have z:=R.AFC b (xW _) (off:=0) (vs:=[]) (xW _);refine⟨_,.slice (BY ⟨h.next,0,By⟩) 0 0,?_,z,⟨h.next,0,rfl,.inl rfl,p,xW _⟩⟩;rw[JF rfl];unfold d90;have g:∀e:Env,J 0 e=.slice (BY a) 0 c->oEq Ja.k IT (J 0) (W (.slice By 0 0)) (call AC n) e h=.ok (.bool IT) h:=g;simp only[iN,xV,sT,xT,sh,reduceIte,yU,g,i,Bb,t,lV0]
 ·obtain⟨u,v,q,r,s⟩:=QJ (eb:=1) (en:=5) (k:=h.next) b (by omega) R (j.ext d b) (by rw[xa];exact f) (DD l) (by rw[xa];omega)
  refine⟨u,v,?_,r,s.mk f⟩;rw[JF rfl];unfold d90;simp only[iN,xV,sT,xT,sh,reduceIte,g,i,Bb,q,lV0]
theorem M5{F:AEh}{e:Env}{h:Hp}{x y:O}{a:Addr}{el N C m:Nat}(j:x e=.slice (BY a) N C)(k:y e=AI AT (m:Int))(i:m<=C):Dr el 1 x By (BY y) By F e h=.ok (.slice (BY a) m C) h:=by
 show(match x e with|.slice a c f=>DY e c f By (BY y) By (λd b m=>ES el 1 a IT d b m h)|_=>.no)=_;rw[j];show Cs e (BY y) N C (λb=>Cs e By 0 b λd=>ES el 1 (BY a) IT d b C h)=_;have g:∀K:Nat->R,Cs e (BY y) N C K=K m:=λK=>by
  show(match Db (y e)with|.ok c=>(bif yI c C then K c else .no)|.no=>.no)=_;rw[k,Dm];simp only;rw[As.2 i];rfl
 rw[g];show Bz (BY a) 1 0 m C h=_;unfold Bz;simp only[Ao];cases C with
 |zero=>rfl
 |succ C=>rfl
theorem dR{F:AEh}{e:Env}{h:Hp}{k:C}{o:Addr}{n c:Nat}(a:o.block<h.mark):Ir (.slice (BY o) n c) k F e h=k F e h:=by
 show(bif Nat.blt o.block h.mark then k F e h else .no)=_;rw[BV.2 a];rfl
theorem Hp.AE7.blt{h:Hp}(d:h.Wf){o:Addr}{n c:Nat}{xs:List xU}(b:h.AE7 (.slice (BY o) n c) xs):o.block<h.next:=by
 rcases b with ⟨a,_⟩|⟨g,k,i,j,f,a,e,_⟩
 ·cases a
 ·cases a;exact e.lt d
def Oe(u:xU):Prop:=∀c b a,u=.slice c b a->b<=a
theorem Mk.cap{h:Hp}{k:Nat}{v:xU}{l:List Nat}(m:Mk h k v l):Oe v:=λg f d a=>by
 obtain⟨c,e,b,_⟩:=m;rw[b]at a;cases a;exact xW _
def unC(l:List Nat):Int:=if l.length<4 then 11 else 12
def ud(T l:List Nat)(h h':Hp)(r:R):Prop:=(∃b v,C3 T l=BY b/\r=.ok (.tuple ⟨[v,AI AT 0]⟩) h'/\Mk h' h.next v b)\/(C3 T l=By/\∃a:Int,(a≠0/\a=unC l)/\r=.ok (.tuple ⟨[.slice By 0 0,AI AT a]⟩) h')
theorem Po{n:Nat}{h:Hp}(j:h.Wf){y:Nat}{T:List Nat}(R:h.Row y 0 (T.map wv))(hT:AFQ T){u:xU}{l:List Nat}(i:h.AE7 u (l.map bv))(hC:Oe u)(G:∀x∈l,x<256)(hl:l.length<=900000):
  ∃h',h.Ext h'/\ud T l h h' (call AC (n+3) 82 [pt y,u] h):=by
 have s:=i.bl h;by_cases g:l.length<4
 ·have o:iLt (l.length:Int) 4=IN:=EU g
  refine⟨h,.refl j,.inr ⟨by unfold C3;rw[If g],11,⟨by omega,by unfold unC;rw[If g]⟩,?_⟩⟩;rw[P3 rfl];unfold d82;simp only[iN,xV,sT,xT,sh,reduceIte,AX,s,AK,AJ,o,Av,CO]
 ·have o:iLt (l.length:Int) 4=IT:=Cz (a:=l.length) (b:=4) (by omega)
  have B:Fp yi .i64 (AI AT (l.length:Int)) (AI AT 4) h=.ok (AI AT ((l.length - 4:Nat):Int)) h:=by
   have:yi (l.length:Int) 4=((l.length - 4:Nat):Int):=by show(l.length:Int) - 4=_;omega
   rw[Cn,this,Bf (by omega)]
  have K:(l.map bv).length=l.length:=xa ..;obtain⟨m,D,k,r⟩:=i.cut (n:=l.length - 4) (by rw[K];omega);rw[K]at k;have I:(l.take (l.length - 4)).length=l.length - 4:=by rw[yP];omega
  have r:h.AE7 (.slice (BY m) (l.take (l.length - 4)).length D) ((l.take (l.length - 4)).map bv):=by rw[I,List.map_take];exact r
  obtain⟨c,v,w,S,L⟩:=Mz (n:=n+1) j r (by omega);rw[I]at w;have H:∀x∈l.take (l.length - 4),x<256:=λx hx=>G x (zJ hx)
  have A:=S.marked;have Y:=A.wf;have W:h.Ext c.marked.quiet:=A.quiet;obtain⟨f,Q,k2,U,m2⟩:=MX (n:=n) W.wf (R.ext j W) hT ((L.same (h':=c.marked.quiet) rfl).vals) H (by omega);have N:∀(e:AEh) (d:Env),e=call AC (n+2)->J 0 d=pt y->J 6 d=v->Ac .weak (AS 46 [J 0,J 6]) e d c.marked=.ok Q (c.marked.back f):=λe d hF h0 F=>by
   subst hF;refine Cq ?_ U (xW _);rw[BX,AV,AV,A4,h0,F];exact k2
  have V:c.marked.Ext (c.marked.back f):=Hp.Ext.back U;have z:=A.trans V;have m3:Mk (c.marked.back f) c.marked.quiet.next Q (DH T (l.take (l.length - 4))):=m2.same rfl;have m4:Mk (c.marked.back f) h.next v (l.take (l.length - 4)):=(L.same (h':=c.marked) rfl).ext Y V;have X:=i.ext j z;have O:=m3.vals.bytes.str;have P:=X.bytes.str;have p:=Mj (KK (T:=T) H) G;have a0:m.block<(c.marked.back f).mark:=by
   have h5:m.block<h.next:=by rw[k]at i;exact i.blt j
   have F:=S.next;show m.block<c.next;omega
  have M:∀(t:C) (e:AEh) (d:Env),Ir u t e d (c.marked.back f)=t e d (c.marked.back f):=λt e d=>by rw[k];exact dR a0
  have E:∀(e:AEh) (d:Env),J 1 d=u->J 13 d=AI AT ((l.length - 4:Nat):Int)->Dr 5 1 (J 1) By (BY (J 13)) By e d h=.ok (.slice (BY m) (l.length - 4) D) h:=λe d Z e2=>by
   have:=hC _ _ _ k;exact M5 (Z.trans k) e2 (by omega)
  by_cases q:DH T (l.take (l.length - 4))=l
  ·refine⟨_,z,.inl ⟨_,v,by unfold C3;rw[No g,If q],?_,m4⟩⟩
   rw[decide_eq_true q]at p;rw[P3 rfl];unfold d82;simp only[iN,xV,sT,xT,sh,reduceIte,AX,s,AK,AJ,o,B6,B,E,cA0,w,Aw,N,Im,O,ED,M,DQ,P,MS,MK,p,yY,Av,CO]
  ·refine⟨_,z,.inr ⟨by unfold C3;rw[No g,No q],12,⟨by omega,by unfold unC;rw[No g]⟩,?_⟩⟩
   rw[decide_eq_false q]at p;rw[P3 rfl];unfold d82;simp only[iN,xV,sT,xT,sh,reduceIte,AX,s,AK,AJ,o,B6,B,E,cA0,w,Aw,N,Im,O,ED,M,DQ,P,MS,MK,p,yg,Av,CO]
def Bn(a b c:Int)(s:Nat)(u:xU):xU:=.agg ⟨[AI AT a,AI AT b,AI AT c,.int .u8 (s:Int),u]⟩
def A9(a b c:Int)(s:Nat)(u:xU):List xU:=[AI AT a,AI AT b,AI AT c,.int .u8 (s:Int),u]
theorem TU{F:AEh}{h:Hp}(d:h.Wf){a b c:Int}{s:Nat}{u:xU}{g:O}{e:Env}(f:g e=Bn a b c s u):CV g F e h=.ok (.pointer (BY ⟨h.next,0,By⟩)) (h.AEg 0 (A9 a b c s u)):=by
 rw[DN,f,DM d];rfl
theorem Bw{h:Hp}{r:Nat}{a b c:Int}{s:Nat}{u:xU}(R:h.Row r 0 (A9 a b c s u)):AEi ⟨r,0,By⟩ h=.ok (AI AT a) h/\AEi ⟨r,1,By⟩ h=.ok (AI AT b) h/\AEi ⟨r,2,By⟩ h=.ok (AI AT c) h/\AEi ⟨r,3,By⟩ h=.ok (.int .u8 (s:Int)) h/\AEi ⟨r,4,By⟩ h=.ok u h/\loadN 5 ⟨r,0,By⟩ h=.ok (Bn a b c s u) h:=
 ⟨R.AEi (off:=0) (by show 0<5;omega),R.AEi (off:=1) (by show 1<5;omega),R.AEi (off:=2) (by show 2<5;omega),R.AEi (off:=3) (by show 3<5;omega),R.AEi (off:=4) (by show 4<5;omega),R.loadN (off:=0) (n:=5) (by show 0+5<=5;omega)⟩
theorem GL{a b:Int}(h:b<=a):iGe a b=IN:=(Ue a b).trans (decide_eq_true h)
theorem EX{a b:Int}(h:¬b<=a):iGe a b=IT:=(Ue a b).trans (decide_eq_false h)
theorem Gv{a b:Int}(h:a<=b):iLe a b=IN:=(QM a b).trans (decide_eq_true h)
theorem Lm{a b:Int}(h:¬a<=b):iLe a b=IT:=(QM a b).trans (decide_eq_false h)
theorem H0{a b:Int}(h:a<b):iLt a b=IN:=(Da a b).trans (decide_eq_true h)
theorem FI{a b:Int}(h:¬a<b):iLt a b=IT:=(Da a b).trans (decide_eq_false h)
theorem GM{a b:Int}(h:b<a):iGt a b=IN:=(HJ a b).trans (decide_eq_true h)
theorem FW{a b:Int}(h:¬b<a):iGt a b=IT:=(HJ a b).trans (decide_eq_false h)
theorem CP{a b:Int}(h:a=b):iEq a b=IN:=by rw[Dv];simpa using h
theorem CF{a b:Int}(h:¬a=b):iEq a b=IT:=by rw[Dv];simpa using h
theorem EG{a b:Int}(h:¬a=b):iNe a b=IN:=by rw[H3];simpa using h
theorem B0{a b:Int}(h:a=b):iNe a b=IT:=by rw[H3];simpa using h
theorem VM{F:AEh}{h:Hp}(z:h.Wf){a b c:Int}{s n:Nat}{u:xU}(i:∀g,AFB u g=.ok (AI AT (n:Int)) g):H7 [.t (J 2)] (d91 F (Au e0 0 [Bn a b c s u]) h)=.ok (.bool (AEz a b c s n)) (h.AEg 0 (A9 a b c s u)):=by
 have R:=Hp.Row.new z 0 (A9 a b c s u);have d:∀y:Env,J 0 y=Bn a b c s u->CV (J 0) F y h=.ok (.pointer (BY ⟨h.next,0,By⟩)) (h.AEg 0 (A9 a b c s u)):=λy K=>TU z K
 generalize h.AEg 0 (A9 a b c s u)=L at R d;obtain⟨j,k,l,m,o,_⟩:=Bw R;unfold d91;by_cases A:0<=a
 ·have e:iGe a 0=IN:=GL A
  by_cases B:a<=1099511627776
  ·have f:iLe a 1099511627776=IN:=Gv B
   by_cases C:0<=b
   ·have p:iGe b 0=IN:=GL C
    by_cases D:b<255
    ·have c4:iLt b 255=IN:=H0 D
     by_cases E:1<=c
     ·have c5:iGe c 1=IN:=GL E
      by_cases G:c<=1099511627776
      ·have q:iLe c 1099511627776=IN:=Gv G
       by_cases H:(s:Int)=1
       ·have t:iEq (s:Int) 1=IN:=CP H
        by_cases w:(n:Int)<=65536
        ·have r:iLe (n:Int) 65536=IN:=Gv w
         rw[show AEz a b c s n=IN from decide_eq_true (by omega)];simp only[iN,xV,sT,xT,sh,reduceIte,gD,d,AH,AO,AN,AQ,j,k,l,m,o,AK,AJ,AX,i,e,f,p,c4,c5,q,t,r,lV0]
        ·have r:iLe (n:Int) 65536=IT:=Lm w
         rw[show AEz a b c s n=IT from decide_eq_false (by omega)];simp only[iN,xV,sT,xT,sh,reduceIte,gD,d,AH,AO,AN,AQ,j,k,l,m,o,AK,AJ,AX,i,e,f,p,c4,c5,q,t,r,lV0]
       ·have t:iEq (s:Int) 1=IT:=CF H
        by_cases I:(s:Int)=2
        ·have x:iEq (s:Int) 2=IN:=CP I
         by_cases w:(n:Int)<=65536
         ·have r:iLe (n:Int) 65536=IN:=Gv w
          rw[show AEz a b c s n=IN from decide_eq_true (by omega)];simp only[iN,xV,sT,xT,sh,reduceIte,gD,d,AH,AO,AN,AQ,j,k,l,m,o,AK,AJ,AX,i,e,f,p,c4,c5,q,t,x,r,lV0]
         ·have r:iLe (n:Int) 65536=IT:=Lm w
          rw[show AEz a b c s n=IT from decide_eq_false (by omega)];simp only[iN,xV,sT,xT,sh,reduceIte,gD,d,AH,AO,AN,AQ,j,k,l,m,o,AK,AJ,AX,i,e,f,p,c4,c5,q,t,x,r,lV0]
        ·have x:iEq (s:Int) 2=IT:=CF I
         rw[show AEz a b c s n=IT from decide_eq_false (by omega)];simp only[iN,xV,sT,xT,sh,reduceIte,gD,d,AH,AO,AN,AQ,j,k,l,m,o,AK,AJ,AX,i,e,f,p,c4,c5,q,t,x,lV0]
      ·have q:iLe c 1099511627776=IT:=Lm G
       rw[show AEz a b c s n=IT from decide_eq_false (by omega)];simp only[iN,xV,sT,xT,sh,reduceIte,gD,d,AH,AO,AN,AQ,j,k,l,m,o,AK,AJ,AX,i,e,f,p,c4,c5,q,lV0]
     ·have c5:iGe c 1=IT:=EX E
      rw[show AEz a b c s n=IT from decide_eq_false (by omega)];simp only[iN,xV,sT,xT,sh,reduceIte,gD,d,AH,AO,AN,AQ,j,k,l,m,o,AK,AJ,AX,i,e,f,p,c4,c5,lV0]
    ·have c4:iLt b 255=IT:=FI D
     rw[show AEz a b c s n=IT from decide_eq_false (by omega)];simp only[iN,xV,sT,xT,sh,reduceIte,gD,d,AH,AO,AN,AQ,j,k,l,m,o,AK,AJ,AX,i,e,f,p,c4,lV0]
   ·have p:iGe b 0=IT:=EX C
    rw[show AEz a b c s n=IT from decide_eq_false (by omega)];simp only[iN,xV,sT,xT,sh,reduceIte,gD,d,AH,AO,AN,AQ,j,k,l,m,o,AK,AJ,AX,i,e,f,p,lV0]
  ·have f:iLe a 1099511627776=IT:=Lm B
   rw[show AEz a b c s n=IT from decide_eq_false (by omega)];simp only[iN,xV,sT,xT,sh,reduceIte,gD,d,AH,AO,AN,AQ,j,k,l,m,o,AK,AJ,AX,i,e,f,lV0]
 ·have e:iGe a 0=IT:=EX A
  rw[show AEz a b c s n=IT from decide_eq_false (by omega)];simp only[iN,xV,sT,xT,sh,reduceIte,gD,d,AH,AO,AN,AQ,j,k,l,m,o,AK,AJ,AX,i,e,lV0]
theorem KG{n:Nat}{h:Hp}(d:h.Wf){a b c:Int}{s m:Nat}{u:xU}(e:∀g,AFB u g=.ok (AI AT (m:Int)) g):call AC (n+1) 91 [Bn a b c s u] h=.ok (.bool (AEz a b c s m)) (h.AEg 0 (A9 a b c s u)):=by
 rw[pY rfl];exact VM d e
def Pc(z:Int):Nat:=if z<0\/65536<z then 0 else 1+(z.toNat+63)/64
theorem sd{F:AEh}{e:Env}{h:Hp}{x y:O}{k j:IntKind}{a b:Int}(f:x e=.int k a)(g:y e=.int j b):Y4 x y F e h=.ok (.int k (min a b)) h:=by
 show H9 IN (x e) (y e) h=_;rw[f,g];show(bif iLt b a then R.ok (.int k b) h else .ok (.int k a) h)=_;rw[Da];rcases Int.lt_or_le b a with d|c
 ·rw[decide_eq_true d,Int.min_eq_right (by omega)];rfl
 ·rw[decide_eq_false (by omega),Int.min_eq_left c];rfl
theorem Xu{n:Nat}{h:Hp}{z:Int}:call AC (n+1) 68 [AI AT z] h=.ok (AI AT (Pc z:Nat)) h:=by
 rw[pK rfl];unfold d68;by_cases d:z<0
 ·have b:iLt z 0=IN:=H0 d
  rw[show Pc z=0 from If (by omega)];simp only[iN,xV,sT,xT,sh,reduceIte,gD,AK,AJ,b,lV0];rfl
 ·have b:iLt z 0=IT:=FI d
  by_cases e:65536<z
  ·have c:iGt z 65536=IN:=GM e
   rw[show Pc z=0 from If (by omega)];simp only[iN,xV,sT,xT,sh,reduceIte,gD,AK,AJ,b,c,lV0];rfl
  ·have c:iGt z 65536=IT:=FW e
   obtain⟨a,rfl⟩:=zn (show 0<=z by omega);have f:GC .i64 (AI AT (a:Int)) (AI AT 64) h=.ok (AI AT ((a+64:Nat):Int)) h:=by
    rw[EQ,show(a:Int)+64=((a+64:Nat):Int)by omega,Bf (by omega)]
   have g:Fp yi .i64 (AI AT ((a+64:Nat):Int)) (AI AT 1) h=.ok (AI AT ((a+63:Nat):Int)) h:=by
    have:yi ((a+64:Nat):Int) 1=((a+63:Nat):Int):=by show((a+64:Nat):Int) - 1=_;omega
    rw[Cn,this,Bf (by omega)]
   have i:UT .i64 (AI AT ((a+63:Nat):Int)) (AI AT 64) h=.ok (AI AT (((a+63)/64:Nat):Int)) h:=by
    have:IntKind.i64.wrap (((a+63:Nat):Int).tdiv 64)=(((a+63)/64:Nat):Int):=Bf (n:=(a+63)/64) (by omega);rw[MJ (by omega),this]
   have j:GC .i64 (AI AT 1) (AI AT (((a+63)/64:Nat):Int)) h=.ok (AI AT ((Pc (a:Int):Nat):Int)) h:=by
    rw[show Pc (a:Int)=1+((a:Int).toNat+63)/64 from No (by omega),zL,EQ,show(1:Int)+(((a+63)/64:Nat):Int)=((1+(a+63)/64:Nat):Int)by omega,Bf (by omega)]
   simp only[iN,xV,sT,xT,sh,reduceIte,gD,AK,AJ,b,c,BW,f,B6,g,J9,i,j,lV0]
def CT(a b c s m t:Nat):List Nat:=[s,a,b,c,m,t]
theorem ci{a b c s m t:Nat}(e:a<=1099511627776)(f:b<255)(g:c<=1099511627776)(i:s<256)(h:m<=65536)(j:t<4294967296):∀v∈CT a b c s m t,v<18446744073709551616:=λv d=>by
 unfold CT at d;simp only[yC,ACW,or_false]at d;omega
theorem PP{a b c s m t:Nat}(j:a<=1099511627776)(k:b<255)(l:c<=1099511627776)(o:s<256)(n:m<=65536)(p:t<4294967296):(CB (CT a b c s m t)).length<=40:=by
 have d:=Ed 1 s (by show s<16384;omega);have e:=Ed 5 a (by show a<4398046511104;omega);have f:=Ed 1 b (by show b<16384;omega);have g:=Ed 5 c (by show c<4398046511104;omega);have h:=Ed 2 m (by show m<2097152;omega);have i:=Ed 4 t (by show t<34359738368;omega);show(BD s++(BD a++(BD b++(BD c++(BD m++(BD t++[])))))).length<=40;simp only[xY,yU];omega
theorem K2{k:IntKind}{n:Nat}(a:n<=18446744073709551615){h:Hp}:Ct .u64 (.int k (n:Int)) h=.ok (.int .u64 (n:Int)) h:=by rw[Bu,DJ a]
def wb(T:List Nat)(a b c:Int)(s:Nat)(l:List Nat)(h h':Hp)(r:R):Prop:=(AEz a b c s l.length=IN/\∃v,r=.ok (.tuple ⟨[v,AI AT 0]⟩) h'/\Mk h' h.next v (DH T (L7 (CT a.toNat b.toNat c.toNat s l.length (CJ T l)))))\/(AEz a b c s l.length=IT/\r=.ok (.tuple ⟨[.slice By 0 0,AI AT 2]⟩) h')
def nv(n:Nat):xU:=.int .u64 (n:Int)
theorem Hp.Own.apart{h:Hp}{k en b:Nat}{v:xU}{xs:List xU}(o:h.Own k en v xs)(d:b<k):¬AE1 v b:=by
 rcases o with ⟨rfl,_⟩|⟨a,rfl,_,c,_⟩
 ·exact Jf
 ·exact ME (by omega)
theorem PV{h0 h:Hp}{k n:Nat}{v:xU}{xs:List Nat}(q:h0.Ext h)(hk:h0.next<=k)(t:k<=h.next)(o:h.Own k 5 v (xs.map bv))(J:0<n)(I:xs.length+n<=1000000):
  ∃h' v',IV 1 1 5 ty5.zero v (.ok n) h=.ok v' h'/\h0.Ext h'/\h'.Own k 5 v' ((xs++xx n 0).map bv)/\h.next<=h'.next:=by
 have b:=q.wf;have w:Bc ty5.zero=IN:=by kernel_rfl
 have g:((xx n 0).map bv).length=n:=by simp
 rw[yZ];have f:(xs.map bv).length=xs.length:=xa ..;generalize s:(xx n 0).map bv=a at g;rcases o with ⟨rfl,y⟩|⟨d,rfl,x,H,E⟩
 ·rw[y]
  obtain⟨t1,t2⟩:=IC a;refine⟨h.push (.cells (ofL a) a.length 6),.slice (BY ⟨h.next,0,By⟩) a.length a.length,?_,q.push _,.inr ⟨h.next,rfl,⟨ofL a,by rw[b.AE8,If rfl];rfl,t2⟩,t,b.big⟩,AD2 _⟩;unfold IV;simp only[Ao,zS,xZ];have j:yI n 0=IT:=by
   cases c:yI n 0
   ·rfl
   ·have:=As.1 c;omega
  have l:yI (yv (xz n) (xz 1)) JP=IN:=As.2 (HO (by show(n+1)*2<=1099511627776;omega));rw[j];simp only[l,cond_true,w,MW,s];unfold Gs BM J0;simp only[yT,t1];unfold Eu;simp only[Bm];unfold Cb;rw[Ao,C7 b,g];rfl
 ·obtain⟨z,m,F⟩:=x.rowOf
  rw[f]at m;obtain⟨i,D,e⟩:=EF a z (xs.map bv) xs.length F (.inr f.symm);have e:i.Is (xs.map bv++a):=by
   have c:(xs.map bv).drop (xs.length+a.length)=[]:=ym (by omega);have A:(xs.map bv).take xs.length=xs.map bv:=ze (by omega);rw[c,A]at e
   simpa using e
  have u:(xs.map bv++a).length=xs.length+n:=by rw[xY,f,g]
  have p:=x.lt b;have r:(h.put d .dead).Wf:=b.put p _;have G:h0.Ext (h.put d .dead):=q.put (by omega) p _;refine⟨(h.put d .dead).push (.cells i (xs.length+n) 6),.slice (BY ⟨h.next,0,By⟩) (xs.length+n) (xs.length+n),?_,G.push _,.inr ⟨h.next,by rw[u],⟨i,by
   have:=r.AE8 (.cells i (xs.length+n) 6) h.next;rw[this,If (show h.next=(h.put d .dead).next from rfl),u],e⟩,t,b.big⟩,AD2 _⟩
  rw[f];unfold IV;simp only[Ao,zS];have j:yI (xs.length+n) xs.length=IT:=by
   cases c:yI (xs.length+n) xs.length
   ·rfl
   ·have:=As.1 c;omega
  have l:yI (yv (xz (xs.length+n)) (xz 1)) JP=IN:=As.2 (HO (by show(xs.length+n+1)*2<=1099511627776;omega));rw[j];simp only[l,cond_true,w,MW,s];unfold Gs;have B:yA xs.length (yv xs.length 1)=IN:=A0.2 (zw _).symm;simp only[m,B,D];unfold Eu;have C:Lg 0 xs.length 1 xs.length=IN:=by
   unfold Lg;cases xs.length with
   |zero=>rfl
   |succ n=>exact A0.2 (by show 0+(n+1)*1=n+1;omega)
  simp only[m,Bm,zS,zU,cond_true,C];rw[Ea b E p];unfold Cb;rw[Ao,C7 r,g];rfl
theorem Lq{F:AEh}{e:Env}{h:Hp}{x y:O}{n:Nat}{v:xU}(a:x e=v)(b:y e=AI AT (n:Int)):FM 1 1 5 ty5.zero x y F e h=IV 1 1 5 ty5.zero v (.ok n) h:=by
 unfold FM;rw[a,b,Dm]
theorem mC:BP Tc.zero 6=[nv 0,nv 0,nv 0,nv 0,nv 0,nv 0]:=by kernel_rfl
theorem aK{n:Nat}:cellsOf (nv n)=[nv n]:=rfl
theorem ZH{F:AEh}{e:Env}{h:Hp}(n:h.Wf){g1 g2 g3 g4 g5 g6:O}{a b c d i j:Nat}(f:g1 e=nv a)(h2:g2 e=nv b)(g:g3 e=nv c)(k:g4 e=nv d)(l:g5 e=nv i)(m:g6 e=nv j):
  Ab 6 (BP Tc.zero 6) [(0,1,g1),(1,1,g2),(2,1,g3),(3,1,g4),(4,1,g5),(5,1,g6)] F e h=.ok (.slice (BY ⟨h.next,0,By⟩) 6 6) (h.AEg 0 ([a,b,c,d,i,j].map nv)):=by
 rw[B5,mC,Ad (hk:=by rw[f];rfl),f,Ad (hk:=by rw[h2];rfl),h2,Ad (hk:=by rw[g];rfl),g,Ad (hk:=by rw[k];rfl),k,Ad (hk:=by rw[l];rfl),l,Ad (hk:=by rw[m];rfl),m];simp only[aK,yd,xh,yU,over,AA0,AAo,zp,yT,zK,xV,zg,if_true,Bo,reduceIte];rw[Cm n];rfl
theorem sE:heS=BB (AY 0 (A3 heB)) heE:=rfl
theorem ax:d95=ay:=rfl
theorem jE{n:Nat}{h0 h:Hp}(x0:h0.Ext h){b6:Nat}(hb6:b6<h.next)(hk:h0.next<=h.next){ns:List Nat}(R6:h.Row b6 0 (ns.map nv))(hns:∀v∈ns,v<18446744073709551616)(h6:ns.length=6){p:xU}{e:Env}
  (s0:J 0 e=p)(s6:J 6 e=.slice By 0 0)(s33:J 33 e=.slice (BY ⟨b6,0,By⟩) 6 6)(s34:J 34 e=AI AT 6)(s35:J 35 e=AI AT ((0:Nat):Int)):
  ∃e' h' v,A3 heB (call AC (n+1)) e h=.exit 0 e' h'/\h0.Ext h'/\h'.Own h.next 5 v ((CB ns).map bv)/\J 0 e'=p/\J 6 e'=v/\h.next<=h'.next:=by
 refine Bd (I:=λi e' h'=>∃v,h0.Ext h'/\h'.Own h.next 5 v ((CB (ns.take i)).map bv)/\h'.Row b6 0 (ns.map nv)/\J 0 e'=p/\J 6 e'=v/\J 33 e'=.slice (BY ⟨b6,0,By⟩) 6 6/\J 34 e'=AI AT 6/\J 35 e'=AI AT (i:Int)/\h.next<=h'.next/\i<=6)
  (Q:=λx=>∃e' h' v,x=.exit 0 e' h'/\h0.Ext h'/\h'.Own h.next 5 v ((CB ns).map bv)/\J 0 e'=p/\J 6 e'=v/\h.next<=h'.next) 6 (by omega) (λi e' h' ⟨v,x',o',R',t0,t6,t33,t34,t35,hn,hi⟩=>?_)
  ⟨_,x0,.inl ⟨rfl,rfl⟩,R6,s0,s6,s33,s34,s35,xW _,by omega⟩
 by_cases hlt:i<6
 ·left
  have c1:iLt (i:Int) 6=IN:=EU (b:=6) hlt;have hil:i<ns.length:=by omega
  have i1:AFV 1 (.slice (BY ⟨b6,0,By⟩) 6 6) (AI AT (i:Int)) h'=.ok (.pointer (BY ⟨b6,i,By⟩)) h':=by
   have:=Cy (h:=h') (n:=6) (c:=6) (es:=1) (b:=b6) (off:=0) (i:=i) (k:=.i64) hlt
   rwa [xZ,zw]at this
  have l1:AEi ⟨b6,i,By⟩ h'=.ok (.int .u64 ((ns[i]'hil:Nat):Int)) h':=by
   rw[R'.AEi (off:=i) (by rw[xa];exact hil),xe,zE,xc hil];rfl
  have htl:(CB (ns.take i)).length<=1000000:=by
   have h1:=Jb (ns:=ns.take i) λv hv=>hns v (zJ hv)
   rw[yP]at h1;omega
  obtain⟨h2,v2,k2,x2,o2,hn2,fr⟩:=ll (n:=n) x' hk hn o' htl (hns _ (AAF hil));have a3:=Cc (i:=i) (h:=h2) (by omega);have R2:=(fr b6 0 _ (o'.apart hb6) R').1;have htk:CB (ns.take i)++BD (ns[i]'hil)=CB (ns.take (i+1)):=by
   rw[List.take_succ_eq_append_getElem hil,Va];show _=_++(BD _++[]);rw[yF]
  rw[htk]at o2;have hrun:∃e2,heB (call AC (n+1)) e' h'=.norm e2 h2/\J 0 e2=p/\J 6 e2=v2/\J 33 e2=.slice (BY ⟨b6,0,By⟩) 6 6/\J 34 e2=AI AT 6/\J 35 e2=AI AT ((i+1:Nat):Int):=by
   unfold heB;simp only[sT,xT,sh,reduceIte,AK,AJ,t35,t34,c1,BA,t33,i1,AN,AQ,l1,cA0,t6,k2,BW,a3];exact⟨_,rfl,by simp[AG,t0,t33,t34]⟩
  obtain⟨e2,q1,q2,q3,q4,q5,q6⟩:=hrun;exact⟨by omega,e2,h2,q1,v2,x2,o2,R2,q2,q3,q4,q5,q6,by omega,by omega⟩
 ·right
  have hi6:i=6:=by omega
  subst hi6;have c1:iLt ((6:Nat):Int) 6=IT:=Cz (a:=6) (b:=6) (by omega);have hrun:∃e2,heB (call AC (n+1)) e' h'=.exit 0 e2 h'/\J 0 e2=p/\J 6 e2=v:=by
   unfold heB;simp only[sT,xT,sh,reduceIte,AK,AJ,t35,t34,c1];exact⟨_,rfl,by simp[AG,t0,t6]⟩
  obtain⟨e2,q1,q2,q3⟩:=hrun;rw[q1];rw[ze (by omega)]at o';exact⟨rfl,e2,h',v,rfl,x',o',q2,q3,hn⟩
theorem XC{n:Nat}{h:Hp}(r:h.Wf){z:Nat}{T:List Nat}(R:h.Row z 0 (T.map wv))(Z:AFQ T){a b c:Int}{s:Nat}{u:xU}{l:List Nat}(K:h.AE7 u (l.map bv))(hb:∀x∈l,x<256)(hs:s<256)(hl:l.length<=900000):
  ∃h',h.Ext h'/\wb T a b c s l h h' (call AC (n+3) 95 [pt z,Bn a b c s u] h):=by
 have A:=(Hp.Ext.refl r).AEg 0 (A9 a b c s u);have I:=Hp.Row.new r 0 (A9 a b c s u);have L:∀e:Env,J 1 e=Bn a b c s u->CV (J 1) (call AC (n+2)) e h=.ok (.pointer (BY ⟨h.next,0,By⟩)) (h.AEg 0 (A9 a b c s u)):=λe he=>TU r he
 have n1:(h.AEg 0 (A9 a b c s u)).next=h.next+1:=rfl;generalize h.AEg 0 (A9 a b c s u)=U at A I L n1;obtain⟨_,_,_,_,_,ln⟩:=Bw I;have y:=KG (n:=n+1) A.wf (a:=a) (b:=b) (c:=c) (s:=s) (u:=u) K.bl;have W:=(Hp.Ext.refl A.wf).AEg 0 (A9 a b c s u);have n2:(U.AEg 0 (A9 a b c s u)).next=U.next+1:=rfl;generalize U.AEg 0 (A9 a b c s u)=d at W y n2;have x2:=A.trans W;cases w:AEz a b c s l.length with
 |false=>
  rw[w]at y;refine⟨d,x2,.inr ⟨w,?_⟩⟩;rw[aH rfl,ax];unfold ay;simp only[iN,xV,sT,xT,sh,reduceIte,L,An,Ah,ln,cA0,y,BJ,BI,yg,Av,CO]
 |true=>
  rw[w]at y;obtain⟨a4,b1,a5,b2,b3,b4,b8,hm⟩:=of_decide_eq_true w;have B:=x2.marked;have R2:d.marked.Row h.next 0 (A9 a b c s u):=(I.ext A.wf W).same rfl;obtain⟨m0,m1,m2,m3,m4,_⟩:=Bw R2;have a6:h.next<d.marked.mark:=by show h.next<d.next;omega
  have a8:∀(a2:Nat) (k:C) (p:AEh) (e:Env),Ir (.pointer (BY ⟨h.next,a2,By⟩)) k p e d.marked=k p e d.marked:=λa2 k p e=>Df a6
  have Vl:=K.bl d.marked;obtain⟨f,rfl⟩:=zn a4;obtain⟨g,rfl⟩:=zn a5;obtain⟨i,rfl⟩:=zn (show 0<=c by omega);have Q:=K2 (k:=.u8) (n:=s) (by omega) (h:=d.marked);have M:=K2 (k:=.i64) (n:=f) (by omega) (h:=d.marked);have N:=K2 (k:=.i64) (n:=g) (by omega) (h:=d.marked);have O:=K2 (k:=.i64) (n:=i) (by omega) (h:=d.marked);have P:=K2 (k:=.i64) (n:=l.length) (by omega) (h:=d.marked);obtain⟨q,kq,a0⟩:=eo (n:=n+1) (h:=d.marked.quiet) (R.ext r B.quiet) Z (K.ext r B.quiet) hb hl;have yq:d.marked.quiet.Ext q:=by
   rcases a0 with rfl|rfl
   ·exact Hp.Ext.refl B.quiet.wf
   ·exact(Hp.Ext.refl B.quiet.wf).marked
  have nq:q.next=d.next:=by rcases a0 with rfl|rfl<;>rfl
  have q1:∀e:Env,J 0 e=pt z->J 30 e=u->Ac .weak (AS 80 [J 0,J 30]) (call AC (n+2)) e d.marked=.ok (.int .u32 ((CJ T l:Nat):Int)) (d.marked.back q):=λe h0 F=>by
   refine Cq ?_ yq (xW _);rw[BX,AV,AV,A4,h0,F];exact kq
  have yb:d.marked.Ext (d.marked.back q):=Hp.Ext.back yq;have nb:(d.marked.back q).next=d.next:=nq;have mb:(d.marked.back q).mark=d.next:=rfl;generalize d.marked.back q=j at q1 yb nb mb;have G:=B.trans yb;have S:=K2 (k:=.u32) (n:=CJ T l) (by have:=Ip T l;omega) (h:=j);have y4:j.quiet.Ext (j.quiet.AEg 0 ((CT f g i s l.length (CJ T l)).map nv)):=(Hp.Ext.refl G.quiet.wf).AEg _ _;have R4:=Hp.Row.new G.quiet.wf 0 ((CT f g i s l.length (CJ T l)).map nv);have q2:∀(p:AEh) (e:Env),J 14 e=nv s->J 17 e=nv f->J 20 e=nv g->J 23 e=nv i->J 27 e=nv l.length->J 32 e=nv (CJ T l)->
    Ac .AEv (Ab 6 (BP Tc.zero 6) [(0,1,J 14),(1,1,J 17),(2,1,J 20),(3,1,J 23),(4,1,J 27),(5,1,J 32)]) p e j=.ok (.slice (BY ⟨j.next,0,By⟩) 6 6) (j.back (j.quiet.AEg 0 ((CT f g i s l.length (CJ T l)).map nv))):=λp e o D e3 e4 e5 e6=>
   Cq (ZH G.quiet.wf o D e3 e4 e5 e6) y4 (by omega)
  have z4:j.Ext (j.back (j.quiet.AEg 0 ((CT f g i s l.length (CJ T l)).map nv))):=Hp.Ext.back y4;have n4:(j.back (j.quiet.AEg 0 ((CT f g i s l.length (CJ T l)).map nv))).next=j.next+1:=rfl;have X:(j.back (j.quiet.AEg 0 ((CT f g i s l.length (CJ T l)).map nv))).Row j.next 0 ((CT f g i s l.length (CJ T l)).map nv):=R4.same rfl;generalize j.back (j.quiet.AEg 0 ((CT f g i s l.length (CJ T l)).map nv))=Y at q2 z4 n4 X;have V:=G.trans z4;have a7:=ci (a:=f) (b:=g) (c:=i) (s:=s) (m:=l.length) (t:=CJ T l) (by omega) (by omega) (by omega) hs (by omega) (Ip T l);have b5:=PP (a:=f) (b:=g) (c:=i) (s:=s) (m:=l.length) (t:=CJ T l) (by omega) (by omega) (by omega) hs (by omega) (Ip T l);have a9:∃o,ay (call AC (n+2)) (Au e0 0 [pt z,Bn (f:Int) (g:Int) (i:Int) s u]) h=heS (call AC (n+2)) o Y/\J 0 o=pt z/\J 6 o=.slice By 0 0/\J 33 o=.slice (BY ⟨j.next,0,By⟩) 6 6/\J 34 o=AI AT 6/\J 35 o=AI AT ((0:Nat):Int):=by
   have Q:Ct .u64 (.int .u8 (s:Int)) d.marked=.ok (nv s) d.marked:=Q;have M:Ct .u64 (AI AT (f:Int)) d.marked=.ok (nv f) d.marked:=M;have N:Ct .u64 (AI AT (g:Int)) d.marked=.ok (nv g) d.marked:=N;have O:Ct .u64 (AI AT (i:Int)) d.marked=.ok (nv i) d.marked:=O;have P:Ct .u64 (AI AT (l.length:Int)) d.marked=.ok (nv l.length) d.marked:=P;have S:Ct .u64 (.int .u32 ((CJ T l:Nat):Int)) j=.ok (nv (CJ T l)) j:=S;unfold ay;simp only[iN,xV,sT,xT,sh,reduceIte,L,An,Ah,ln,cA0,y,BJ,BI,yY,Aw,AH,AO,ED,a8,DQ,AN,AQ,m0,m1,m2,m3,m4,Bi,Q,M,N,O,AX,Vl,P,q1,S,q2,EO];exact⟨_,rfl,by simp[AG]⟩
  obtain⟨o,p1,p2,p3,p4,p5,p6⟩:=a9;obtain⟨D,E,v5,r1,x5,o5,r2,r3,n5⟩:=jE (n:=n+1) V (b6:=j.next) (by omega) V.next X a7 rfl p2 p3 p4 p5 p6;have a3:=o5.vals.bl E;have a1:Fp yi .i64 (AI AT 60) (AI AT ((CB (CT f g i s l.length (CJ T l))).length:Int)) E=.ok (AI AT ((60 - (CB (CT f g i s l.length (CJ T l))).length:Nat):Int)) E:=by
   have:yi 60 ((CB (CT f g i s l.length (CJ T l))).length:Int)=((60 - (CB (CT f g i s l.length (CJ T l))).length:Nat):Int):=by
    show(60:Int) - _=_;omega
   rw[Cn,this,Bf (by omega)]
  obtain⟨F,v6,k6,H,o6,n6⟩:=PV x5 (k:=Y.next) V.next n5 o5 (n:=60 - (CB (CT f g i s l.length (CJ T l))).length) (by omega) (by omega);have ap:∀(p:AEh) (e:Env),J 6 e=v5->J 47 e=AI AT ((60 - (CB (CT f g i s l.length (CJ T l))).length:Nat):Int)->FM 1 1 5 ty5.zero (J 6) (J 47) p e E=.ok v6 F:=λp e o D=>(Lq o D).trans k6
  have b7:=Nt (l:=CB (CT f g i s l.length (CJ T l))) (by omega);have Vp:F.AE7 v6 ((Qo (CB (CT f g i s l.length (CJ T l)))).map bv):=o6.vals;obtain⟨h7,b0,k7,y7,m7⟩:=MX (n:=n) H.wf (R.ext r H) Z Vp (Xh Pn) (by omega);refine⟨h7,H.trans y7,.inl ⟨w,b0,?_,?_⟩⟩
  ·rw[aH rfl,ax,p1,sE]
   simp only[A7,Ap,r1,A5,Ay];unfold heE;simp only[sT,xT,sh,reduceIte,AX,r3,a3,B6,a1,ap,cA0,r2,k7,Av,CO]
  ·rw[zL,zL,zL]
   exact m7.le H.next
abbrev AEk:xU:=.slice By 0 0
def okT(ns:List Nat):xU:=.tuple ⟨[Bn (at6 ns 1) (at6 ns 2) (at6 ns 3) (at6 ns 0) AEk,AI AT (at6 ns 4:Nat),.int .u32 (at6 ns 5:Nat),.bool IN]⟩
def noT:xU:=.tuple ⟨[Bn 0 0 0 0 AEk,AI AT 0,.int .u32 0,.bool IT]⟩
theorem Vd:Iu.zero=A9 0 0 0 0 AEk:=by kernel_rfl
theorem Fg:Bs .mt 0 (A9 0 0 0 0 AEk)=BY DV:=by kernel_rfl
theorem fh:Bs .mt 0 ([0,0,0,0,0,0].map nv)=BY Pq:=by kernel_rfl
theorem LB{e:Env}{h:Hp}{g g1 g2 g3:O}{n:Nat}{v:xU}(b:HN n (g e) h=.ok v h):E0 [.cN g n,.t g1,.t g2,.t g3] e h=.ok (.tuple ⟨[v,g1 e,g2 e,g3 e]⟩) h:=by
 have a:Fc e h (.cN g n)=.ok v h:=b;show(match Fc e h (.cN g n)with|.ok v _=>AEw v λv=>AEw (g1 e) (λc=>AEw (g2 e) λd=>AEw (g3 e) λf=>Jv h [v,c,d,f])|.no=>.no)=_;rw[a];simp only[Ba];rfl
theorem MA{h g:Hp}(j:h.Wf)(x:h.Ext g){r:Nat}(l:h.next<=r){d:List xU}(R:g.Row r 0 d)(f:d.length=5){a b c:Int}{s:Nat}{u:xU}(m:oneCell u=IN):
  AEn 5 (pt r) (Bn a b c s u) g=.ok AEl (g.wr r 0 (A9 a b c s u))/\loadN 5 ⟨r,0,By⟩ (g.wr r 0 (A9 a b c s u))=.ok (Bn a b c s u) (g.wr r 0 (A9 a b c s u))/\h.Ext (g.wr r 0 (A9 a b c s u))/\(g.wr r 0 (A9 a b c s u)).Row r 0 (A9 a b c s u)/\(g.wr r 0 (A9 a b c s u)).next=g.next:=by
 have i:256<=r:=by have:=j.big;omega
 have e:0+(A9 a b c s u).length<=d.length:=by rw[f];show 0+5<=5;omega
 have k:Bc (A9 a b c s u)=IN:=by
  show(bif oneCell u then IN else IT)=IN;rw[m];rfl
 have o:=R.AEn (n:=5) (off:=0) x.wf i (v:=Bn a b c s u) rfl e k;have wr:=R.AEt x.wf e;rw[EW (show d.length=(A9 a b c s u).length from f)]at wr;exact⟨o,(Bw wr).2.2.2.2.2,R.AFC x l e,wr,R.AFP e⟩
theorem gC{F:AEh}{e:Env}{h:Hp}{g1 g2 g3 g4:O}{a b c:Int}{s:Nat}(d:g1 e=.int .u8 (s:Int))(h2:g2 e=AI AT a)(f:g3 e=AI AT b)(g:g4 e=AI AT c):
  BG Iu.zero [(3,1,g1),(0,1,g2),(1,1,g3),(2,1,g4)] F e h=.ok (Bn a b c s AEk) h:=by
 rw[CX,Vd,Ad (hk:=by rw[d];rfl),d,Ad (hk:=by rw[h2];rfl),h2,Ad (hk:=by rw[f];rfl),f,Ad (hk:=by rw[g];rfl),g];simp only[Cj,yd,xh,yU,A9,over,AA0,AAo,zp,yT,zK,xV,zg,if_true,Bo,reduceIte];rfl
theorem EC{F:AEh}{e:Env}{h:Hp}:BG Iu.zero [] F e h=.ok (Bn 0 0 0 0 AEk) h:=by
 rw[CX,Bo,Vd];rfl
theorem SE{r k:Nat}(hk:k<6){g:Hp}:OV 6 1 (pt r) (AI AT (k:Int)) g=.ok (.pointer (BY ⟨r,k,By⟩)) g:=by
 have:=XG (h:=g) (n:=6) (es:=1) (b:=r) (off:=0) (i:=k) (k:=.i64) hk
 rwa [xZ,zw]at this
theorem SZ{g:Hp}{r k:Nat}{ns:List Nat}(R:g.Row r 0 (ns.map nv))(b:ns.length=6)(hk:k<6):AEi ⟨r,k,By⟩ g=.ok (.int .u64 ((at6 ns k:Nat):Int)) g:=by
 have a:k<ns.length:=by omega
 unfold at6;rw[R.AEi (off:=k) (by rw[xa];exact a),xe,zE,xe,xc a];rfl
abbrev RX:xU:=.func (.func 132) ⟨[]⟩ ⟨[]⟩
theorem Zv{n:Nat}{h:Hp}{c:Nat}:call AC (n+1) 132 [.int .u8 (c:Int)] h=.ok (.bool (iNe (c:Int) 0)) h:=by
 rw[gc rfl];unfold qj;simp only[iN,xV,sT,xT,sh,reduceIte,AK,AJ,lV0]
theorem QO:ifS=BB (AY 0 (A3 ifB)) ifE:=rfl
theorem MH:qh=Ot:=rfl
theorem jF{n:Nat}{h:Hp}{u:xU}{l:List Nat}(s:h.AE7 u (l.map bv))(F:l.length<=900000){e:Env}(s0:J 0 e=u)(s1:J 1 e=RX)(s7:J 7 e=AI AT (l.length:Int))(s8:J 8 e=AI AT ((0:Nat):Int)):
  (∃a,A3 ifB (call AC (n+1)) e h=.exit 0 a h/\∀x∈l,x=0)\/(∃a i,A3 ifB (call AC (n+1)) e h=.ret a h/\J 4 a=AI AT ((i:Nat):Int)/\∃x∈l,x≠0):=by
 refine Bd (I:=λi a d=>d=h/\J 0 a=u/\J 1 a=RX/\J 7 a=AI AT (l.length:Int)/\J 8 a=AI AT (i:Int)/\i<=l.length/\((∀x∈l,x=0)↔∀x∈l.drop i,x=0))
  (Q:=λx=>(∃a,x=.exit 0 a h/\∀x∈l,x=0)\/(∃a i,x=.ret a h/\J 4 a=AI AT ((i:Nat):Int)/\∃x∈l,x≠0)) l.length (by omega) (λi a d ⟨y,t0,t1,t7,t8,E,o⟩=>?_) ⟨rfl,s0,s1,s7,s8,yH _,by simp⟩
 subst y;by_cases f:i<l.length
 ·obtain⟨D,g1,g2⟩:=Jg s f
  have r:l.getD i 0∈l:=by
   rw[xe,xc f];exact AAF f
  rw[Gj f]at o;generalize l.getD i 0=c at g2 o r;have m:=EU f;have j:=Zv (n:=n) (h:=d) (c:=c);by_cases p:c=0
  ·left
   subst p;have j:call AC (n+1) 132 [.int .u8 ((0:Nat):Int)] d=.ok (.bool IT) d:=j;have t:=Cc (i:=i) (h:=d) (by omega);have g:∃b,ifB (call AC (n+1)) a d=.norm b d/\J 0 b=u/\J 1 b=RX/\J 7 b=AI AT (l.length:Int)/\J 8 b=AI AT ((i+1:Nat):Int):=by
    unfold ifB;simp only[sT,xT,sh,reduceIte,AK,AJ,t8,t7,m,BA,t0,g1,AN,g2,CU,t1,Cf,AV,A4,yT,yF,j,BW,t];exact⟨_,rfl,by simp[AG,t0,t1,t7]⟩
   obtain⟨b,k,q,A,B,C⟩:=g;refine⟨f,b,d,k,rfl,q,A,B,C,f,o.trans ?_⟩;simp
  ·right
   have w:iNe (c:Int) 0=IN:=by rw[H3];simpa using p
   rw[w]at j;have g:∃b,ifB (call AC (n+1)) a d=.ret b d/\J 4 b=AI AT (i:Int):=by
    unfold ifB;simp only[sT,xT,sh,reduceIte,AK,AJ,t8,t7,m,BA,t0,g1,AN,g2,CU,t1,Cf,AV,A4,yT,yF,j];exact⟨_,rfl,by simp[AG]⟩
   obtain⟨b,k,q⟩:=g;rw[k];exact⟨rfl,.inr ⟨b,i,rfl,q,c,r,p⟩⟩
 ·right
  have m:=Cz (show l.length<=i by omega);have g:∃b,ifB (call AC (n+1)) a d=.exit 0 b d:=by
   unfold ifB;simp only[sT,xT,sh,reduceIte,AK,AJ,t8,t7,m];exact⟨_,rfl⟩
  obtain⟨b,k⟩:=g;rw[k];refine⟨rfl,.inl ⟨b,rfl,o.2 ?_⟩⟩;rw[ym (by omega)];intro x z;cases z
theorem YO{n:Nat}{h:Hp}{u:xU}{l:List Nat}(f:h.AE7 u (l.map bv))(m:l.length<=900000):∃r:Bool,call AC (n+3) 107 [u,RX] h=.ok (.bool r) h/\(r=IN↔∃x∈l,x≠0):=by
 have j:=f.bl h;have t:∃a,Ot (call AC (n+1)) (Au e0 0 [u,RX]) h=ifS (call AC (n+1)) a h/\J 0 a=u/\J 1 a=RX/\J 7 a=AI AT (l.length:Int)/\J 8 a=AI AT ((0:Nat):Int):=by
  unfold Ot;simp only[iN,xV,sT,xT,sh,reduceIte,AX,j];exact⟨_,rfl,by simp[AG]⟩
 obtain⟨a,i,o,p,q,s⟩:=t;rcases jF (n:=n) f m o p q s with ⟨k,d,e⟩|⟨k,g,d,e,w⟩
 ·have c:call AC (n+2) 131 [u,RX] h=.ok (AI AT (-1)) h:=by
   rw[MG rfl,MH,i,QO];simp only[A7,Ap,d,A5,Ay];unfold ifE;simp only[sT,xT,sh,reduceIte,lV0]
  refine⟨IT,?_,by simp;exact e⟩;have b:iGe (-1) 0=IT:=EX (by omega);rw[MF rfl];unfold YT;simp only[iN,xV,sT,xT,sh,reduceIte,cA0,c,AK,AJ,b,lV0]
 ·have c:call AC (n+2) 131 [u,RX] h=.ok (AI AT (g:Int)) h:=by
   rw[MG rfl,MH,i,QO];simp only[A7,Ap,d,CE,Cr,lV0,e]
  refine⟨IN,?_,by simp only[true_iff];exact w⟩;have b:iGe (g:Int) 0=IN:=GL (by omega);rw[MF rfl];unfold YT;simp only[iN,xV,sT,xT,sh,reduceIte,cA0,c,AK,AJ,b,lV0]
theorem Oq{h:Hp}{k m:Nat}{v:xU}{l:List Nat}(M:Mk h k v l)(A:m<=l.length):∃w,(∃a,w=.slice (BY a) (l.length - m) (l.length - m))/\(∀(F:AEh) (e:Env) (x y:O),x e=v->y e=AI AT (m:Int)->Dr 5 1 x (BY y) By By F e h=.ok w h)/\h.AE7 w ((l.drop m).map bv):=by
 obtain⟨b,p,C,z,j,_⟩:=M;have f:(l.drop m).length=l.length - m:=yX;have key:∀(F:AEh) (e:Env) (x y:O),x e=v->y e=AI AT (m:Int)->Dr 5 1 x (BY y) By By F e h=ES 5 1 (BY ⟨b,0,By⟩) IT m l.length l.length h:=λF e x y c d=>by
  have t:∀K:Nat->R,Cs e (BY y) 0 l.length K=K m:=λK=>by
   show(match Db (y e)with|.ok i=>(bif yI i l.length then K i else .no)|.no=>.no)=_;rw[d,Dm];simp only;rw[As.2 A];rfl
  show(match x e with|.slice a i q=>DY e i q (BY y) By By (λl g m=>ES 5 1 a IT l g m h)|_=>.no)=_;rw[c,C];show Cs e By l.length l.length (λg=>Cs e (BY y) 0 g λn=>ES 5 1 (BY ⟨b,0,By⟩) IT n g l.length h)=_;show Cs e (BY y) 0 l.length (λn=>ES 5 1 (BY ⟨b,0,By⟩) IT n l.length l.length h)=_;rw[t]
 have o:ES 5 1 (BY ⟨b,0,By⟩) IT m l.length l.length h=Bz (BY ⟨b,0,By⟩) 1 m l.length l.length h:=by
  cases m with
  |zero=>rfl
  |succ m=>
   show(bif FG 5 (BY ⟨b,0,By⟩) h then Bz (BY ⟨b,0,By⟩) 1 (m+1) l.length l.length h else .no)=_;have:FG 5 (BY ⟨b,0,By⟩) h=IN:=by
    obtain⟨D,u,_⟩:=j.rowOf;unfold FG;simp only[u];rcases z with rfl|rfl<;>rfl
   rw[this];rfl
 rcases yM m l.length with G|E
 ·refine⟨.slice (BY ⟨b,m,By⟩) (l.length - m) (l.length - m),⟨_,rfl⟩,?_,.inr ⟨b,m,l.length - m,p,_,by rw[xa,f],j,by rw[xa,xa,f];omega,?_⟩⟩
  ·intro F e x y c d
   rw[key F e x y c d,o];unfold Bz;simp only[Ao];have r:yA l.length m=IT:=by
    cases e:yA l.length m
    ·rfl
    ·have:=A0.1 e;omega
   rw[r];cases m with
   |zero=>rfl
   |succ m=>
    have s:yv (m+1) 1=xz m:=zw _;simp only[s,zS,xZ];rfl
  ·rw[xa,f,<- List.map_drop,ze (by rw[xa,f];exact xW _)]
 ·have B:m=l.length:=by omega
  subst B;refine⟨.slice (BY ⟨b,0,By⟩) 0 0,⟨⟨b,0,By⟩,by rw[ACZ]⟩,?_,.inr ⟨b,0,0,p,_,by rw[ABb];rfl,j,by rw[ABb];exact yH _,by rw[ABb];rfl⟩⟩;intro F e x y c d;rw[key F e x y c d,o];unfold Bz;simp only[Ao,Nat.sub_eq,ACZ,zU]
theorem RP{h:Hp}{k m:Nat}{v:xU}{l:List Nat}(M:Mk h k v l)(a:m<=l.length):∃w,(∀(F:AEh) (e:Env) (x y:O),x e=v->y e=AI AT (m:Int)->Dr 5 1 x (BY y) By By F e h=.ok w h)/\h.AE7 w ((l.drop m).map bv):=by
 obtain⟨w,_,b,c⟩:=Oq M a;exact⟨w,b,c⟩
theorem VG:paS=BB (AY 0 (A3 paB)) paE:=rfl
theorem Jn:qL=Li:=rfl
theorem TB(k:Nat)(l:List Nat)(p:Nat):rdN (k+1) l p=(match Fe 0 0 (l.drop p)with
 |none=>By
 |some (v,j)=>if v<=1099511627776 then(match rdN k l (p+j)with
  |none=>By
  |some (vs,q)=>BY (v::vs,q))else By):=rfl
def Zb(h:Hp)(a:Nat)(e:Env)(g:Hp):Prop:=h.Ext g/\J 4 e=pt a/\J 5 e=AI AT 0/\J 6 e=.int .u32 0/\J 7 e=.bool IT/\loadN 5 ⟨a,0,By⟩ g=.ok (Bn 0 0 0 0 AEk) g
theorem kS{n:Nat}{h hB g:Hp}(W0:h.Wf)(xB:h.Ext hB)(x:hB.Ext g){r4 r10:Nat}(hr4:h.next<=r4)(AKK:hB.next<=r10)(R4:hB.Row r4 0 (A9 0 0 0 0 AEk)){v:xU}{l:List Nat}(V:hB.AE7 v (l.map bv))(hb:∀x∈l,x<256)(hl:l.length<=900000)
  (R10:g.Row r10 0 ([0,0,0,0,0,0].map nv)){e:Env}(s4:J 4 e=pt r4)(s8:J 8 e=v)(s10:J 10 e=pt r10)(s11:J 11 e=AI AT ((0:Nat):Int))(s29:J 29 e=AI AT ((0:Nat):Int)):
  (∃e' g' ns q,A3 paB (call AC (n+1)) e g=.exit 0 e' g'/\hB.Ext g'/\g'.Row r10 0 (ns.map nv)/\rdN 6 l 0=BY (ns,q)/\J 4 e'=pt r4/\J 8 e'=v/\J 10 e'=pt r10/\J 11 e'=AI AT (q:Int))\/
  (∃e' g',A3 paB (call AC (n+1)) e g=.ret e' g'/\rdN 6 l 0=By/\Zb h r4 e' g'):=by
 have WB:=xB.wf;refine Bd (I:=λi e' g'=>hB.Ext g'/\∃(ns:List Nat) (Z:List xU) (p:Nat),ns.length=i/\Z.length=6 - i/\g'.Row r10 0 (ns.map nv++Z)/\J 4 e'=pt r4/\J 8 e'=v/\J 10 e'=pt r10/\J 11 e'=AI AT (p:Int)/\J 29 e'=AI AT (i:Int)/\p<=l.length/\i<=6/\
   rdN 6 l 0=(match rdN (6 - i) l p with|none=>By|some (vs,q)=>BY (ns++vs,q)))
  (Q:=λx=>(∃e' g' ns q,x=.exit 0 e' g'/\hB.Ext g'/\g'.Row r10 0 (ns.map nv)/\rdN 6 l 0=BY (ns,q)/\J 4 e'=pt r4/\J 8 e'=v/\J 10 e'=pt r10/\J 11 e'=AI AT (q:Int))\/
   (∃e' g',x=.ret e' g'/\rdN 6 l 0=By/\Zb h r4 e' g')) 6 (by omega) (λi e' g' ⟨x',ns,Z,p,hns,hZ,R',t4,t8,t10,t11,t29,hp,hi,hr⟩=>?_)
  ⟨x,[],_,0,rfl,rfl,R10,s4,s8,s10,s11,s29,yH _,by omega,by
   rw[ADh];cases rdN 6 l 0 with
   |none=>rfl
   |some y=>rfl⟩
 by_cases hlt:i<6
 ·have W:=x'.wf
  obtain⟨k,hk⟩:∃k,6 - i=k+1:=⟨5 - i,by omega⟩;obtain⟨z,Z',rfl⟩:∃z Z',Z=z::Z':=by
   cases Z with
   |nil=>rw[yU]at hZ;omega
   |cons z Z'=>exact⟨z,Z',rfl⟩
  rw[hk,TB k l p]at hr;have c1:iLt (i:Int) 6=IN:=EU (b:=6) hlt;obtain⟨a,b,c,k1,ALV⟩:=Ub (n:=n) (V.ext WB x') hb hp (by omega);have i1:=SE (r:=r10) hlt (g:=g');have hal:(ns.map nv).length=i:=by rw[xa];exact hns
  have ho:i+[yy .u64 a].length<=(ns.map nv++z::Z').length:=by
   simp only[xY,xh,yU,hal];omega
  have AEs:256<=r10:=by have:=WB.big;omega
  have st:=R'.AEn (n:=1) (off:=i) W AEs (v:=.int .u64 a) rfl ho rfl;rw[Cj]at st;have wr:=R'.AEt W (off:=i) (vs:=[.int .u64 a]) ho;have x2:=R'.AFC x' AKK (off:=i) (vs:=[.int .u64 a]) ho;have hov:over (ns.map nv++z::Z') i [.int .u64 a]=ns.map nv++.int .u64 a::Z':=by
   have:=Ss (A:=ns.map nv) (B:=Z') (x:=z) (y:=.int .u64 a)
   rwa [hal]at this
  rw[hov]at wr;generalize g'.wr r10 i [.int .u64 a]=g2 at st wr x2;have i2:=SE (r:=r10) hlt (g:=g2);have l2:AEi ⟨r10,i,By⟩ g2=.ok (.int .u64 a) g2:=by
   rw[wr.AEi (off:=i) (by simp only[xY,xh,hal];omega),xe,List.getElem?_append_right (by rw[hal];exact xW _),hal,ACZ];rfl
  have a3:=Cc (i:=i) (h:=g2) (by omega);obtain⟨w1,w2,w3,_,_⟩:=MA W0 (xB.trans x2) hr4 (R4.ext WB x2) rfl (a:=0) (b:=0) (c:=0) (s:=0) (u:=AEk) rfl;have fail:rdN 6 l 0=By->(iNe c 0=IN\/iNe c 0=IT/\iGt a 1099511627776=IN)->∃e2,paB (call AC (n+1)) e' g'=.ret e2 (g2.wr r4 0 (A9 0 0 0 0 AEk))/\J 4 e2=pt r4/\J 5 e2=AI AT 0/\J 6 e2=.int .u32 0/\J 7 e2=.bool IT:=λ_ hc=>by
   unfold paB;rcases hc with c2|⟨c2,c3⟩
   ·simp only[sT,xT,sh,reduceIte,gD,AK,AJ,t29,c1,cA0,t8,t11,k1,Aq,Az,A1,Bx,Dc,t10,i1,AW,st,c2,EC,t4,w1]
    exact⟨_,rfl,by simp[AG,t4]⟩
   ·simp only[sT,xT,sh,reduceIte,gD,AK,AJ,t29,c1,cA0,t8,t11,k1,Aq,Az,A1,Bx,Dc,t10,i1,AW,st,c2,i2,AN,AQ,l2,c3,EC,t4,w1]
    exact⟨_,rfl,by simp[AG,t4]⟩
  rcases ALV with ⟨vv,j,hu,rfl,rfl,rfl⟩|⟨hu,hc⟩
  ·rw[hu]at hr
   simp only at hr;have c2:iNe 0 0=IT:=B0 rfl;by_cases hv:vv<=1099511627776
   ·left
    rw[If hv]at hr;have c3:iGt (vv:Int) 1099511627776=IT:=FW (by omega);have hbd:∀x∈l.drop p,x<256:=λx hx=>hb x (zd hx)
    have hj:=YB hbd hu;rw[yX]at hj;have hrun:∃e2,paB (call AC (n+1)) e' g'=.norm e2 g2/\J 4 e2=pt r4/\J 8 e2=v/\J 10 e2=pt r10/\J 11 e2=AI AT ((p+j:Nat):Int)/\J 29 e2=AI AT ((i+1:Nat):Int):=by
     unfold paB;simp only[sT,xT,sh,reduceIte,gD,AK,AJ,t29,c1,cA0,t8,t11,k1,Aq,Az,A1,Bx,Dc,t10,i1,AW,st,c2,i2,AN,AQ,l2,c3,BW,a3];exact⟨_,rfl,by simp[AG,t4,t8,t10]⟩
    obtain⟨e2,q1,q2,q3,q4,q5,q6⟩:=hrun;refine⟨hlt,e2,g2,q1,x2,ns++[vv],Z',p+j,by rw[xY,hns];rfl,by rw[xh]at hZ;omega,?_,q2,q3,q4,q5,q6,by omega,by omega,?_⟩
    ·rw[yZ,yD];exact wr
    ·rw[hr,show 6 - (i+1)=k by omega]
     cases rdN k l (p+j)with
     |none=>rfl
     |some y=>
      obtain⟨vs,q⟩:=y;show BY (ns++vv::vs,q)=BY (ns++[vv]++vs,q);rw[yD];rfl
   ·right
    rw[No hv]at hr;have hr:rdN 6 l 0=By:=hr;obtain⟨e2,q1,q2,q3,q4,q5⟩:=fail hr (.inr ⟨c2,GM (by omega)⟩);rw[q1];exact⟨rfl,.inr ⟨e2,_,rfl,hr,w3,q2,q3,q4,q5,w2⟩⟩
  ·right
   rw[hu]at hr;have hr:rdN 6 l 0=By:=hr;obtain⟨e2,q1,q2,q3,q4,q5⟩:=fail hr (.inl (EG hc));rw[q1];exact⟨rfl,.inr ⟨e2,_,rfl,hr,w3,q2,q3,q4,q5,w2⟩⟩
 ·right
  have hi6:i=6:=by omega
  subst hi6;have c1:iLt ((6:Nat):Int) 6=IT:=Cz (a:=6) (b:=6) (by omega);have hrun:∃e2,paB (call AC (n+1)) e' g'=.exit 0 e2 g'/\J 4 e2=pt r4/\J 8 e2=v/\J 10 e2=pt r10/\J 11 e2=AI AT (p:Int):=by
   unfold paB;simp only[sT,xT,sh,reduceIte,AK,AJ,t29,c1];exact⟨_,rfl,by simp[AG,t4,t8,t10,t11]⟩
  obtain⟨e2,q1,q2,q3,q4,q5⟩:=hrun;rw[q1];have hZ0:Z=[]:=zA hZ;rw[hZ0,yF]at R';have hr:rdN 6 l 0=BY (ns++[],p):=hr;rw[yF]at hr;exact⟨rfl,.inl ⟨e2,g',ns,p,rfl,x',R',hr,q2,q3,q4,q5⟩⟩
theorem Z4{F:AEh}{e:Env}{h:Hp}{x y z:O}{k:C}{a b c i j m:Nat}(f:x e=.pointer (BY ⟨a,i,By⟩))(g:y e=.pointer (BY ⟨b,j,By⟩))(l:z e=.pointer (BY ⟨c,m,By⟩))(d:b≠a)(h2:c≠a):Ci x [y,z] k F e h=k F e h:=by
 have n:yA b a=IT:=by
  cases e:yA b a
  ·rfl
  ·exact absurd (A0.1 e) d
 have o:yA c a=IT:=by
  cases e:yA c a
  ·rfl
  ·exact absurd (A0.1 e) h2
 unfold Ci;rw[f];show(bif Ch a e [y,z]then k F e h else .no)=_;have:Ch a e [y,z]=IN:=by
  unfold Ch;rw[g];show(bif yA b a then IT else Ch a e [z])=IN;rw[n];unfold Ch;rw[l];show(bif yA c a then IT else Ch a e [])=IN;rw[o];rfl
 rw[this];rfl
theorem jh{F:AEh}{e:Env}{h:Hp}(j:h.Wf){x y:O}{r:Nat}{d:List xU}{a b c:Int}{s:Nat}{u:xU}(z:x e=pt r)(A:y e=Bn a b c s u)(R:h.Row r 0 d)(t:d.length=5)(m:256<=r)(w:oneCell u=IN):
  JQ x (AZ 5 x y) F e h=.ok AEl (h.back (h.quiet.wr r 0 (A9 a b c s u))):=by
 have i:h.quiet.Row r 0 d:=R.same rfl;have k:0+(A9 a b c s u).length<=d.length:=by rw[t];show 0+5<=5;omega
 have q:Bc (A9 a b c s u)=IN:=by
  show(bif oneCell u then IN else IT)=IN;rw[w];rfl
 have g:=i.AEn (n:=5) (off:=0) j.quiet m (v:=Bn a b c s u) rfl k q;have g:AEn 5 (pt r) (Bn a b c s u) h.quiet=.ok AEl (h.quiet.wr r 0 (A9 a b c s u)):=g;obtain⟨B,_,l,_⟩:=i.AFt k;have p:(h.quiet.wr r 0 (A9 a b c s u)).low=r:=by
  rw[l];show CD h.next r=r;have:=R.lt j;rw[BU];omega
 have o:(h.quiet.wr r 0 (A9 a b c s u)).high=r:=by
  rw[l];show C9 0 r=r;rw[B8];omega
 show(match AZ 5 x y F e h.quiet with|.ok v f=>bif JD (AE9 (x e)) h f.low f.high then DP h v f else .no|.no=>.no)=_;rw[AW,z,A,g];show(bif JD (.ok r) h (h.quiet.wr r 0 (A9 a b c s u)).low (h.quiet.wr r 0 (A9 a b c s u)).high then DP h AEl (h.quiet.wr r 0 (A9 a b c s u))else .no)=_;rw[p,o];have:JD (.ok r) h r r=IN:=by
  show(bif yI r r then yI r r else IT)=IN;rw[As.2 (xW r)];rfl
 rw[this];show DP h AEl (h.quiet.wr r 0 (A9 a b c s u))=_;unfold DP;simp only[Ao];rfl
def Ok4(h:Hp)(a:Nat)(ns:List Nat)(e:Env)(g:Hp):Prop:=h.Ext g/\J 4 e=pt a/\J 5 e=AI AT (at6 ns 4:Nat)/\J 6 e=.int .u32 (at6 ns 5:Nat)/\J 7 e=.bool IN/\loadN 5 ⟨a,0,By⟩ g=.ok (Bn (at6 ns 1) (at6 ns 2) (at6 ns 3) (at6 ns 0) AEk) g
theorem MV{h g:Hp}{i:Nat}{e:Env}(D:Zb h i e g):H7 [.cN (J 4) 5,.t (J 5),.t (J 6),.t (J 7)] (.ret e g)=.ok noT g:=by
 obtain⟨_,a,b,c,d,f⟩:=D;rw[Av,LB (v:=Bn 0 0 0 0 AEk) (by rw[a];exact f),b,c,d];rfl
theorem tC{h g:Hp}{i:Nat}{ns:List Nat}{e:Env}(D:Ok4 h i ns e g):H7 [.cN (J 4) 5,.t (J 5),.t (J 6),.t (J 7)] (.ret e g)=.ok (okT ns) g:=by
 obtain⟨_,a,b,c,d,f⟩:=D;rw[Av,LB (v:=Bn (at6 ns 1) (at6 ns 2) (at6 ns 3) (at6 ns 0) AEk) (by rw[a];exact f),b,c,d];rfl
theorem wK{n:Nat}{h X g:Hp}(W0:h.Wf)(xB:h.Ext X)(x:X.Ext g){f i k q:Nat}(b5:h.next<=f)(a9:i≠f)(R4:X.Row f 0 (A9 0 0 0 0 AEk)){v:xU}{l ns:List Nat}(M:Mk X k v l)(hl:l.length<=900000)(hq:q<=l.length)
  (D:g.Row i 0 (ns.map nv))(j:ns.length=6)(c6:∀v∈ns,v<=1099511627776){e:Env}(s4:J 4 e=pt f)(s8:J 8 e=v)(s10:J 10 e=pt i)(s11:J 11 e=AI AT (q:Int)):
  (Qh ns/\(∀x∈l.drop q,x=0)/\∃d g2,paE (call AC (n+3)) e g=.ret d g2/\Ok4 h f ns d g2)\/(¬(Qh ns/\∀x∈l.drop q,x=0)/\∃d g2,paE (call AC (n+3)) e g=.ret d g2/\Zb h f d g2):=by
 have E:=x.wf;have WB:=xB.wf;have r:∀o,at6 ns o<=1099511627776:=λo=>by
  unfold at6;rw[xe];cases h:ns[o]? with
  |none=>exact yH _
  |some B=>exact c6 B (xy h)
 have K:∀g:Hp,OV 6 1 (pt i) (AI AT 0) g=.ok (.pointer (BY ⟨i,0,By⟩)) g:=λg=>SE (k:=0) (by omega)
 have L:∀g:Hp,OV 6 1 (pt i) (AI AT 1) g=.ok (.pointer (BY ⟨i,1,By⟩)) g:=λg=>SE (k:=1) (by omega)
 have N:∀g:Hp,OV 6 1 (pt i) (AI AT 2) g=.ok (.pointer (BY ⟨i,2,By⟩)) g:=λg=>SE (k:=2) (by omega)
 have O:∀g:Hp,OV 6 1 (pt i) (AI AT 3) g=.ok (.pointer (BY ⟨i,3,By⟩)) g:=λg=>SE (k:=3) (by omega)
 have Y:∀g:Hp,OV 6 1 (pt i) (AI AT 4) g=.ok (.pointer (BY ⟨i,4,By⟩)) g:=λg=>SE (k:=4) (by omega)
 have Z:∀g:Hp,OV 6 1 (pt i) (AI AT 5) g=.ok (.pointer (BY ⟨i,5,By⟩)) g:=λg=>SE (k:=5) (by omega)
 have P:=SZ D j (k:=0) (by omega);have Q:=SZ D j (k:=1) (by omega);have R:=SZ D j (k:=2) (by omega);have S:=SZ D j (k:=3) (by omega);have a0:=r 0;have a1:=r 1;have a2:=r 2;have a3:=r 3;have a4:=r 4;have a5:=r 5;have c2:min ((at6 ns 0:Nat):Int) 9=((min (at6 ns 0) 9:Nat):Int):=by omega
 have T:∀(F:AEh) (e:Env),J 52 e=.int .u64 ((at6 ns 0:Nat):Int)->Y4 (J 52) (W (.int .u64 9)) F e g=.ok (.int .u64 ((min (at6 ns 0) 9:Nat):Int)) g:=λF e he=>by rw[sd he rfl,c2]
 have v0:Ct .u8 (.int .u64 ((min (at6 ns 0) 9:Nat):Int)) g=.ok (.int .u8 ((min (at6 ns 0) 9:Nat):Int)) g:=by rw[Bu,Ff,AAA (by omega)]
 have H:∀(o:Nat) (g:Hp),Ct .i64 (.int .u64 ((at6 ns o:Nat):Int)) g=.ok (AI AT ((at6 ns o:Nat):Int)) g:=λo g=>by rw[Bu,Bf (by have:=r o;omega)]
 have G:∀(F:AEh) (e:Env),J 54 e=.int .u8 ((min (at6 ns 0) 9:Nat):Int)->J 57 e=AI AT ((at6 ns 1:Nat):Int)->J 60 e=AI AT ((at6 ns 2:Nat):Int)->J 63 e=AI AT ((at6 ns 3:Nat):Int)->
   BG Iu.zero [(3,1,J 54),(0,1,J 57),(1,1,J 60),(2,1,J 63)] F e g=.ok (Bn (at6 ns 1) (at6 ns 2) (at6 ns 3) (min (at6 ns 0) 9) AEk) g:=λF e h1 h2 h3 V=>gC h1 h2 h3 V
 have y:=λ(F:AEh) (e:Env)=>BO (F:=F) (e:=e) (n:=5) (t:=DV) E
 have x1:=(Hp.Ext.refl E).push (.cells DV 5 0);have b2:(g.push (.cells DV 5 0)).Row g.next 0 (A9 0 0 0 0 AEk):=Hp.Row.alloc E Fg rfl;generalize g.push (.cells DV 5 0)=g1 at y x1 b2;obtain⟨A,z,U,b0,_⟩:=MA E x1 (xW _) b2 rfl (a:=at6 ns 1) (b:=at6 ns 2) (c:=at6 ns 3) (s:=min (at6 ns 0) 9) (u:=AEk) rfl;generalize g1.wr g.next 0 (A9 (at6 ns 1) (at6 ns 2) (at6 ns 3) (min (at6 ns 0) 9) AEk)=g2 at A z U b0;have p:=KG (n:=n+2) U.wf (a:=at6 ns 1) (b:=at6 ns 2) (c:=at6 ns 3) (s:=min (at6 ns 0) 9) (m:=0) (u:=AEk) (λ_=>rfl);have y3:=(Hp.Ext.refl U.wf).AEg 0 (A9 (at6 ns 1) (at6 ns 2) (at6 ns 3) (min (at6 ns 0) 9) AEk);generalize g2.AEg 0 (A9 (at6 ns 1) (at6 ns 2) (at6 ns 3) (min (at6 ns 0) 9) AEk)=g3 at p y3;have x3:=U.trans y3;have a7:=x.trans x3;have b8:=xB.trans a7;obtain⟨w1,w2,w3,_,_⟩:=MA W0 b8 b5 (R4.ext WB a7) rfl (a:=0) (b:=0) (c:=0) (s:=0) (u:=AEk) rfl;have a8:=D.ext E x3;have l4:=SZ a8 j (k:=4) (by omega);have l5:=SZ a8 j (k:=5) (by omega);have a6:¬(Qh ns/\∀x∈l.drop q,x=0)->(∃d,paE (call AC (n+3)) e g=.ret d (g3.wr f 0 (A9 0 0 0 0 AEk))/\J 4 d=pt f/\J 5 d=AI AT 0/\J 6 d=.int .u32 0/\J 7 d=.bool IT)->
   (Qh ns/\(∀x∈l.drop q,x=0)/\∃d g2,paE (call AC (n+3)) e g=.ret d g2/\Ok4 h f ns d g2)\/(¬(Qh ns/\∀x∈l.drop q,x=0)/\∃d g2,paE (call AC (n+3)) e g=.ret d g2/\Zb h f d g2):=λhn ⟨d,q1,q2,q3,q4,q5⟩=>.inr ⟨hn,d,_,q1,w3,q2,q3,q4,q5,w2⟩
 cases I:AEz (at6 ns 1) (at6 ns 2) (at6 ns 3) (min (at6 ns 0) 9) 0 with
 |false=>
  rw[I]at p;refine a6 (λw=>by rw[w.1.1]at I;cases I) ?_;unfold paE;simp only[sT,xT,sh,reduceIte,gD,Dc,s10,K,L,N,O,AN,AQ,P,Q,R,S,T,Bi,v0,H,G,y,AW,A,An,Ah,z,cA0,p,BJ,BI,yg,EC,s4,w1];exact⟨_,rfl,by simp[AG,s4]⟩
 |true=>
  rw[I]at p;by_cases V:at6 ns 4<=65536
  ·have c4:iGt ((at6 ns 4:Nat):Int) 65536=IT:=FW (by omega)
   by_cases h5:at6 ns 5<=4294967295
   ·have c5:iGt ((at6 ns 5:Nat):Int) 4294967295=IT:=FW (by omega)
    have M3:=M.ext WB a7;obtain⟨d1,ct,Vw⟩:=RP M3 hq;obtain⟨rb,kb,b6⟩:=YO (n:=n) Vw (by rw[yX];omega);have kb:call AC (n+3) 107 [d1,.func (.func 132) #[] #[]] g3=.ok (.bool rb) g3:=kb;cases rb with
    |true=>
     obtain⟨B,c8,c9⟩:=b6.1 rfl;refine a6 (λw=>c9 (w.2 B c8)) ?_;unfold paE;simp only[sT,xT,sh,reduceIte,gD,Dc,s10,K,L,N,O,Y,Z,AN,AQ,P,Q,R,S,l4,l5,T,Bi,v0,H,G,y,AW,A,An,Ah,z,cA0,p,BJ,BI,yY,AK,AJ,c4,c5,s8,s11,ct,kb,EC,s4,w1];exact⟨_,rfl,by simp[AG,s4]⟩
    |false=>
     have hz:∀x∈l.drop q,x=0:=λB hy=>by
      rcases yl B with h0|h0
      ·exact h0
      ·have:=b6.2 ⟨B,hy,by omega⟩;cases this
     have b4:Qh ns:=⟨I,V,h5⟩;have c3:min (at6 ns 0) 9=at6 ns 0:=AAb (yS (kE.1 b4).1 (by decide));left;refine⟨b4,hz,?_⟩;have xm:=x3.marked;have b1:g3.marked.Row i 0 (ns.map nv):=a8.same rfl;have m4:=SZ b1 j (k:=4) (by omega);have m5:=SZ b1 j (k:=5) (by omega);have c1:g3.marked.Row g.next 0 (A9 (at6 ns 1) (at6 ns 2) (at6 ns 3) (min (at6 ns 0) 9) AEk):=(b0.ext U.wf y3).same rfl;have d0:=(Bw c1).2.2.2.2.2;have v5:Ct .u32 (.int .u64 ((at6 ns 5:Nat):Int)) g3.marked=.ok (.int .u32 ((at6 ns 5:Nat):Int)) g3.marked:=by rw[Bu,Ti h5]
     have ck:∀(k:C) (F:AEh) (e:Env),J 4 e=pt f->J 87 e=.pointer (BY ⟨i,4,By⟩)->J 90 e=.pointer (BY ⟨i,5,By⟩)->Ci (J 4) [J 87,J 90] k F e g3.marked=k F e g3.marked:=λk F e e1 d e3=>Z4 e1 d e3 a9 a9
     have c0:256<=f:=by have:=W0.big;omega
     have b3:g3.marked.Row f 0 (A9 0 0 0 0 AEk):=(R4.ext WB a7).same rfl;have ta:∀(F:AEh) (e:Env),J 4 e=pt f->J 86 e=Bn (at6 ns 1) (at6 ns 2) (at6 ns 3) (min (at6 ns 0) 9) AEk->JQ (J 4) (AZ 5 (J 4) (J 86)) F e g3.marked=.ok AEl (g3.marked.back (g3.marked.quiet.wr f 0 (A9 (at6 ns 1) (at6 ns 2) (at6 ns 3) (min (at6 ns 0) 9) AEk))):=λF e e1 d=>jh xm.wf e1 d b3 rfl c0 rfl
     have b9:=b8.marked;obtain⟨_,z2,z3,z4,_⟩:=MA W0 b9.quiet b5 (b3.same (h':=g3.marked.quiet) rfl) rfl (a:=at6 ns 1) (b:=at6 ns 2) (c:=at6 ns 3) (s:=min (at6 ns 0) 9) (u:=AEk) rfl;have xf:h.Ext (g3.marked.back (g3.marked.quiet.wr f 0 (A9 (at6 ns 1) (at6 ns 2) (at6 ns 3) (min (at6 ns 0) 9) AEk))):=Hp.Ext.AFp b9 z3;have Rf:(g3.marked.back (g3.marked.quiet.wr f 0 (A9 (at6 ns 1) (at6 ns 2) (at6 ns 3) (min (at6 ns 0) 9) AEk))).Row f 0 (A9 (at6 ns 1) (at6 ns 2) (at6 ns 3) (min (at6 ns 0) 9) AEk):=z4.same rfl;generalize g3.marked.back (g3.marked.quiet.wr f 0 (A9 (at6 ns 1) (at6 ns 2) (at6 ns 3) (min (at6 ns 0) 9) AEk))=g4 at ta xf Rf;have b7:=(Bw Rf).2.2.2.2.2;rw[c3]at b7;have c7:∃d,paE (call AC (n+3)) e g=.ret d g4/\J 4 d=pt f/\J 5 d=AI AT (at6 ns 4:Nat)/\J 6 d=.int .u32 (at6 ns 5:Nat)/\J 7 d=.bool IN:=by
      unfold paE;simp only[sT,xT,sh,reduceIte,gD,Dc,s10,K,L,N,O,Y,Z,AN,AQ,P,Q,R,S,l4,l5,T,Bi,v0,H,G,y,AW,A,An,Ah,z,cA0,p,BJ,BI,yY,AK,AJ,c4,c5,s8,s11,ct,kb,Aw,d0,m4,m5,v5,s4,ck,ta];exact⟨_,rfl,by simp[AG,s4]⟩
     obtain⟨d,q1,q2,q3,q4,q5⟩:=c7;exact⟨d,g4,q1,xf,q2,q3,q4,q5,b7⟩
   ·have c5:iGt ((at6 ns 5:Nat):Int) 4294967295=IN:=GM (by omega)
    refine a6 (λw=>h5 w.1.2.2) ?_;unfold paE;simp only[sT,xT,sh,reduceIte,gD,Dc,s10,K,L,N,O,Y,Z,AN,AQ,P,Q,R,S,l4,l5,T,Bi,v0,H,G,y,AW,A,An,Ah,z,cA0,p,BJ,BI,yY,AK,AJ,c4,c5,EC,s4,w1];exact⟨_,rfl,by simp[AG,s4]⟩
  ·have c4:iGt ((at6 ns 4:Nat):Int) 65536=IN:=GM (by omega)
   refine a6 (λw=>V w.1.2.1) ?_;unfold paE;simp only[sT,xT,sh,reduceIte,gD,Dc,s10,K,L,N,O,Y,Z,AN,AQ,P,Q,R,S,l4,T,Bi,v0,H,G,y,AW,A,An,Ah,z,cA0,p,BJ,BI,yY,AK,AJ,c4,EC,s4,w1];exact⟨_,rfl,by simp[AG,s4]⟩
theorem de{n:Nat}{h:Hp}(g:h.Wf){p:Nat}{T:List Nat}(R:h.Row p 0 (T.map wv))(hT:AFQ T){u:xU}{l:List Nat}(a6:h.AE7 u (l.map bv))(hC:Oe u)(hb:∀x∈l,x<256)(hl:l.length<=900000):
  ∃h',h.Ext h'/\((∃ns,L1 T l ns/\call AC (n+4) 109 [pt p,u] h=.ok (okT ns) h')\/((¬ ∃ns,L1 T l ns)/\call AC (n+4) 109 [pt p,u] h=.ok noT h')):=by
 have A:=λ(F:AEh) (e:Env)=>BO (F:=F) (e:=e) (n:=5) (t:=DV) g
 have q:=(Hp.Ext.refl g).push (.cells DV 5 0);have Z:(h.push (.cells DV 5 0)).Row h.next 0 (A9 0 0 0 0 AEk):=Hp.Row.alloc g Fg rfl;have nA:(h.push (.cells DV 5 0)).next=h.next+1:=rfl;generalize h.push (.cells DV 5 0)=hA at A q Z nA;obtain⟨i,X,a5⟩:=Po (n:=n) q.wf (R.ext g q) hT (a6.ext g q) hC hb hl;have r:=q.trans X;have G:=Z.ext q.wf X;obtain⟨w1,w2,C,_,_⟩:=MA g r (xW _) G rfl (a:=0) (b:=0) (c:=0) (s:=0) (u:=AEk) rfl;rcases a5 with ⟨o,v,m,B,E⟩|⟨m,c,hc,B⟩
 ·have z:iNe 0 0=IT:=B0 rfl
  have Vl:=E.vals.bl i;by_cases a1:o.length=60
  ·have I:iNe (o.length:Int) 60=IT:=B0 (by omega)
   have f2:=λ(F:AEh) (e:Env)=>BO (F:=F) (e:=e) (n:=6) (t:=Pq) r.wf
   have y2:=(Hp.Ext.refl r.wf).push (.cells Pq 6 0);have Y:(i.push (.cells Pq 6 0)).Row i.next 0 ([0,0,0,0,0,0].map nv):=Hp.Row.alloc r.wf fh rfl;generalize i.push (.cells Pq 6 0)=a7 at f2 y2 Y;have b1:∃k,Li (call AC (n+3)) (Au e0 0 [pt p,u]) h=paS (call AC (n+3)) k a7/\J 4 k=pt h.next/\J 8 k=v/\J 10 k=pt i.next/\J 11 k=AI AT ((0:Nat):Int)/\J 29 k=AI AT ((0:Nat):Int):=by
    unfold Li;simp only[iN,xV,sT,xT,sh,reduceIte,gD,A,cA0,B,Aq,Az,A1,AK,AJ,z,AX,Vl,I,f2];exact⟨_,rfl,by simp[AG]⟩
   obtain⟨k,O,p2,p3,p4,p5,p6⟩:=b1;obtain⟨b2,a8⟩:=Ka m;have a2:∀x∈o,x<256:=λx hx=>hb x (by rw[a8]at hx;exact zJ hx)
   rcases kS (n:=n+2) g r y2 (xW h.next) (xW _) G E.vals a2 (by omega) Y p2 p3 p4 p5 p6 with ⟨d,a0,ns,a3,j,x2,a4,w,t4,t8,t10,t11⟩|⟨d,a0,j,w,D⟩
   ·obtain⟨g1,g2,g3,g4,g5⟩:=MT 6 o 0 ns a3 a2 (yH _) w
    have a9:i.next≠h.next:=by have:=X.next;omega
    rcases wK (n:=n) g r x2 (xW _) a9 G E (by omega) g4 a4 g1 g5 t4 t8 t10 t11 with ⟨ho,hz,e3,K,W,D⟩|⟨b0,e3,K,W,D⟩
    ·refine⟨K,D.1,.inl ⟨ns,⟨o,a3,m,a1,w,ho,hz⟩,?_⟩⟩
     rw[Ji rfl,Jn,O,VG];simp only[A7,Ap,j,A5,Ay,W];exact tC D
    ·refine⟨K,D.1,.inr ⟨?_,?_⟩⟩
     ·rintro⟨N,H,P,f,M,y,j4,j5⟩
      rw[m]at f;cases f;rw[w]at y;cases y;exact b0 ⟨j4,j5⟩
     ·rw[Ji rfl,Jn,O,VG]
      simp only[A7,Ap,j,A5,Ay,W];exact MV D
   ·refine⟨a0,D.1,.inr ⟨?_,?_⟩⟩
    ·rintro⟨N,H,P,f,M,y,j4,j5⟩
     rw[m]at f;cases f;rw[w]at y;cases y
    ·rw[Ji rfl,Jn,O,VG]
     simp only[A7,Ap,j,CE,Cr];exact MV D
  ·have I:iNe (o.length:Int) 60=IN:=EG (by omega)
   have L:∃d,Li (call AC (n+3)) (Au e0 0 [pt p,u]) h=.ret d (i.wr h.next 0 (A9 0 0 0 0 AEk))/\J 4 d=pt h.next/\J 5 d=AI AT 0/\J 6 d=.int .u32 0/\J 7 d=.bool IT:=by
    unfold Li;simp only[iN,xV,sT,xT,sh,reduceIte,gD,A,cA0,B,Aq,Az,A1,AK,AJ,z,AX,Vl,I,EC,AW,w1];exact⟨_,rfl,by simp[AG]⟩
   obtain⟨d,j,Q,S,U,V⟩:=L;refine⟨_,C,.inr ⟨?_,?_⟩⟩
   ·rintro⟨N,H,P,f,M,_⟩
    rw[m]at f;cases f;exact a1 M
   ·rw[Ji rfl,Jn,j]
    exact MV (h:=h) ⟨C,Q,S,U,V,w2⟩
 ·have z:iNe c 0=IN:=EG hc.1
  have L:∃d,Li (call AC (n+3)) (Au e0 0 [pt p,u]) h=.ret d (i.wr h.next 0 (A9 0 0 0 0 AEk))/\J 4 d=pt h.next/\J 5 d=AI AT 0/\J 6 d=.int .u32 0/\J 7 d=.bool IT:=by
   unfold Li;simp only[iN,xV,sT,xT,sh,reduceIte,gD,A,cA0,B,Aq,Az,A1,AK,AJ,z,EC,AW,w1];exact⟨_,rfl,by simp[AG]⟩
  obtain⟨d,j,Q,S,U,V⟩:=L;refine⟨_,C,.inr ⟨?_,?_⟩⟩
  ·rintro⟨N,H,P,f,_⟩
   rw[m]at f;cases f
  ·rw[Ji rfl,Jn,j]
   exact MV (h:=h) ⟨C,Q,S,U,V,w2⟩
end
end Go.Proofs.YtldjiljipddebaaGreat

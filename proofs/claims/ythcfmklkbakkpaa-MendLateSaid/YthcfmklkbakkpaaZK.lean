/-
  Mendings that are right: the program says so.
  Mendings that are right: their shards, and all of them.
  Mendings: what an index is to be asked.
  Mendings: all that is to be asked; what an answer is an answer to.
-/
import Derived.Test.YthcfmklkbakkpaaZJ
set_option linter.unusedVariables false
set_option linter.unusedSimpArgs false
namespace Go.Proofs.Ythcfmklkbakkpaa
noncomputable section
open Go Go.RowKit Go.ChangeShapes
set_option maxRecDepth 100000
def riseP (lo : Int) : List Int → Prop
  | [] => True
  | v :: l => lo < v ∧ v ≤ 1099511627776 ∧ riseP v l
structure RightMk (m : MD) (k : MM) : Prop where
  rise : riseP m.ver k.ext
  lo : 0 ≤ k.kd
  hi : k.kd ≤ 4
  few : k.ext.length ≤ 50
  com : k.com = true → k.kd = 1 ∨ k.kd = 2
  none : k.kd = 0 → k.ext = []
  ver : m.ver = 0 → (k.kd = 0 ∨ k.kd = 2) ∧ k.com = false
structure RightSh (m : MD) : Prop where
  len : m.which.length = m.shards.length
  need : (m.which.length : Int) ≤ m.need
  ver : m.ver = 0 → m.which = []
  each : ∀ i, i < m.which.length → 0 ≤ m.which.getD i 0 ∧ m.which.getD i 0 < m.marks.length ∧ m.which.getD i 0 ∉ m.which.take i ∧ fitsM m (m.shards.getD i []) = true
structure RightP (m : MD) : Prop where
  st0 : 0 ≤ m.st
  st1 : m.st ≤ 1099511627776
  ver0 : 0 ≤ m.ver
  ver1 : m.ver ≤ 1099511627776
  n0 : 1 ≤ m.marks.length
  n1 : m.marks.length ≤ 255
  need0 : 1 ≤ m.need
  need1 : m.need ≤ m.marks.length
  marks : ∀ i, i < m.marks.length → RightMk m (m.marks.getD i mm0)
  sh : RightSh m
  ph : (m.ph = 1 ∧ wholeP m = false ∧ hopeP m = false) ∨ (m.ph = 2 ∧ wholeP m = true) ∨ (m.ph = 3 ∧ wholeP m = false)
def rmB : C := (AE (AC 15) (AS iLt .i64 (AB 14) (AB 13))
(AO (AB 15)
(As (Ab 1 (AE (AC 16) (A2 1 (AB 12) (AB 14))
(AE (AC 17) (AH (AB 16))
(AE (AC 7) (AF (AB 17))
(AE (AC 20) (AS iLe .i64 (AB 7) (AB 5))
(cG (AB 20) false (AC 22) (AF (AB 7))
(cG (AB 20) false (AC 23) (AS iGt .i64 (AB 22) (kV (.int .i64 1099511627776)))
(AE (AC 24) (AW (AB 20) (kV (.bool true)) (AB 23))
(AO (AB 24)
(AE (AC 4) (AF (kV (.bool false)))
Ak)
(AE (AC 5) (AF (AB 7))
AQ))))))))))
(AE (AC 26) (A9 .i64 (At .i64) (AB 14) (kV (.int .i64 1)))
(AE (AC 14) (AF (AB 26))
AQ)))
(A3 0)))
def rmE : C := (AE (AC 27) (AD 0 (AB 3))
(AE (AC 28) (AH (AB 27))
(AE (AC 29) (AS iEq .i64 (AB 28) (kV (.int .i64 1)))
(cG (AB 29) false (AC 31) (AD 0 (AB 3))
(cG (AB 29) false (AC 32) (AH (AB 31))
(cG (AB 29) false (AC 33) (AS iEq .i64 (AB 32) (kV (.int .i64 2)))
(AE (AC 34) (AW (AB 29) (kV (.bool true)) (AB 33))
(AE (AC 8) (AF (AB 34))
(As (Ab 2 (AE (AC 36) (AD 0 (AB 3))
(AE (AC 37) (AH (AB 36))
(AE (AC 38) (AS iLt .i64 (AB 37) (kV (.int .i64 0)))
(cG (AB 38) false (AC 40) (AD 0 (AB 3))
(cG (AB 38) false (AC 41) (AH (AB 40))
(cG (AB 38) false (AC 42) (AS iGt .i64 (AB 41) (kV (.int .i64 4)))
(AE (AC 43) (AW (AB 38) (kV (.bool true)) (AB 42))
(cG (AB 43) false (AC 45) (AD 2 (AB 3))
(cG (AB 43) false (AC 46) (AH (AB 45))
(cG (AB 43) false (AC 47) (Am (AB 46))
(cG (AB 43) false (AC 48) (AS iGt .i64 (AB 47) (kV (.int .i64 50)))
(AE (AC 49) (AW (AB 43) (kV (.bool true)) (AB 48))
(cG (AB 49) false (AC 51) (AD 1 (AB 3))
(cG (AB 49) false (AC 52) (AH (AB 51))
(cG (AB 49) false (AC 53) (AF (AB 52))
(cG (AB 53) true (AC 54) (AF (AB 8))
(cG (AB 53) true (AC 55) (BF (AB 54))
(cG (AB 49) false (AC 56) (AW (AB 53) (AB 55) (kV (.bool false)))
(AE (AC 57) (AW (AB 49) (kV (.bool true)) (AB 56))
(cG (AB 57) false (AC 59) (AD 0 (AB 3))
(cG (AB 57) false (AC 60) (AH (AB 59))
(cG (AB 57) false (AC 61) (AS iEq .i64 (AB 60) (kV (.int .i64 0)))
(cG (AB 57) false (AC 62) (AF (AB 61))
(cG (AB 62) true (AC 63) (AD 2 (AB 3))
(cG (AB 62) true (AC 64) (AH (AB 63))
(cG (AB 62) true (AC 65) (Am (AB 64))
(cG (AB 62) true (AC 66) (AS iGt .i64 (AB 65) (kV (.int .i64 0)))
(cG (AB 57) false (AC 67) (AW (AB 62) (AB 66) (kV (.bool false)))
(AE (AC 68) (AW (AB 57) (kV (.bool true)) (AB 67))
(AE (AC 35) (AF (AB 68))
(AO (AB 35)
(AE (AC 4) (AF (kV (.bool false)))
Ak)
(AE (AC 70) (AD 1 (AB 2))
(AE (AC 71) (AH (AB 70))
(AE (AC 72) (AS iEq .i64 (AB 71) (kV (.int .i64 0)))
(AE (AC 69) (AF (AB 72))
(AO (AB 69)
(AE (AC 73) (AD 0 (AB 3))
(AE (AC 74) (AH (AB 73))
(AE (AC 75) (AS iEq .i64 (AB 74) (kV (.int .i64 0)))
(cG (AB 75) false (AC 77) (AD 0 (AB 3))
(cG (AB 75) false (AC 78) (AH (AB 77))
(cG (AB 75) false (AC 79) (AS iEq .i64 (AB 78) (kV (.int .i64 2)))
(AE (AC 80) (AW (AB 75) (kV (.bool true)) (AB 79))
(cG (AB 80) true (AC 82) (AD 1 (AB 3))
(cG (AB 80) true (AC 83) (AH (AB 82))
(cG (AB 80) true (AC 84) (BF (AB 83))
(AE (AC 85) (AW (AB 80) (AB 84) (kV (.bool false)))
(AE (AC 4) (AF (AB 85))
Ak))))))))))))
AQ)))))))))))))))))))))))))))))))))))))
(AE (AC 4) (AF (kV (.bool true)))
Ak))))))))))
def rmS : C := (As (Ab 0 (Ay (AE (AC 15) (AS iLt .i64 (AB 14) (AB 13))
(AO (AB 15)
(As (Ab 1 (AE (AC 16) (A2 1 (AB 12) (AB 14))
(AE (AC 17) (AH (AB 16))
(AE (AC 7) (AF (AB 17))
(AE (AC 20) (AS iLe .i64 (AB 7) (AB 5))
(cG (AB 20) false (AC 22) (AF (AB 7))
(cG (AB 20) false (AC 23) (AS iGt .i64 (AB 22) (kV (.int .i64 1099511627776)))
(AE (AC 24) (AW (AB 20) (kV (.bool true)) (AB 23))
(AO (AB 24)
(AE (AC 4) (AF (kV (.bool false)))
Ak)
(AE (AC 5) (AF (AB 7))
AQ))))))))))
(AE (AC 26) (A9 .i64 (At .i64) (AB 14) (kV (.int .i64 1)))
(AE (AC 14) (AF (AB 26))
AQ)))
(A3 0)))))
(AE (AC 27) (AD 0 (AB 3))
(AE (AC 28) (AH (AB 27))
(AE (AC 29) (AS iEq .i64 (AB 28) (kV (.int .i64 1)))
(cG (AB 29) false (AC 31) (AD 0 (AB 3))
(cG (AB 29) false (AC 32) (AH (AB 31))
(cG (AB 29) false (AC 33) (AS iEq .i64 (AB 32) (kV (.int .i64 2)))
(AE (AC 34) (AW (AB 29) (kV (.bool true)) (AB 33))
(AE (AC 8) (AF (AB 34))
(As (Ab 2 (AE (AC 36) (AD 0 (AB 3))
(AE (AC 37) (AH (AB 36))
(AE (AC 38) (AS iLt .i64 (AB 37) (kV (.int .i64 0)))
(cG (AB 38) false (AC 40) (AD 0 (AB 3))
(cG (AB 38) false (AC 41) (AH (AB 40))
(cG (AB 38) false (AC 42) (AS iGt .i64 (AB 41) (kV (.int .i64 4)))
(AE (AC 43) (AW (AB 38) (kV (.bool true)) (AB 42))
(cG (AB 43) false (AC 45) (AD 2 (AB 3))
(cG (AB 43) false (AC 46) (AH (AB 45))
(cG (AB 43) false (AC 47) (Am (AB 46))
(cG (AB 43) false (AC 48) (AS iGt .i64 (AB 47) (kV (.int .i64 50)))
(AE (AC 49) (AW (AB 43) (kV (.bool true)) (AB 48))
(cG (AB 49) false (AC 51) (AD 1 (AB 3))
(cG (AB 49) false (AC 52) (AH (AB 51))
(cG (AB 49) false (AC 53) (AF (AB 52))
(cG (AB 53) true (AC 54) (AF (AB 8))
(cG (AB 53) true (AC 55) (BF (AB 54))
(cG (AB 49) false (AC 56) (AW (AB 53) (AB 55) (kV (.bool false)))
(AE (AC 57) (AW (AB 49) (kV (.bool true)) (AB 56))
(cG (AB 57) false (AC 59) (AD 0 (AB 3))
(cG (AB 57) false (AC 60) (AH (AB 59))
(cG (AB 57) false (AC 61) (AS iEq .i64 (AB 60) (kV (.int .i64 0)))
(cG (AB 57) false (AC 62) (AF (AB 61))
(cG (AB 62) true (AC 63) (AD 2 (AB 3))
(cG (AB 62) true (AC 64) (AH (AB 63))
(cG (AB 62) true (AC 65) (Am (AB 64))
(cG (AB 62) true (AC 66) (AS iGt .i64 (AB 65) (kV (.int .i64 0)))
(cG (AB 57) false (AC 67) (AW (AB 62) (AB 66) (kV (.bool false)))
(AE (AC 68) (AW (AB 57) (kV (.bool true)) (AB 67))
(AE (AC 35) (AF (AB 68))
(AO (AB 35)
(AE (AC 4) (AF (kV (.bool false)))
Ak)
(AE (AC 70) (AD 1 (AB 2))
(AE (AC 71) (AH (AB 70))
(AE (AC 72) (AS iEq .i64 (AB 71) (kV (.int .i64 0)))
(AE (AC 69) (AF (AB 72))
(AO (AB 69)
(AE (AC 73) (AD 0 (AB 3))
(AE (AC 74) (AH (AB 73))
(AE (AC 75) (AS iEq .i64 (AB 74) (kV (.int .i64 0)))
(cG (AB 75) false (AC 77) (AD 0 (AB 3))
(cG (AB 75) false (AC 78) (AH (AB 77))
(cG (AB 75) false (AC 79) (AS iEq .i64 (AB 78) (kV (.int .i64 2)))
(AE (AC 80) (AW (AB 75) (kV (.bool true)) (AB 79))
(cG (AB 80) true (AC 82) (AD 1 (AB 3))
(cG (AB 80) true (AC 83) (AH (AB 82))
(cG (AB 80) true (AC 84) (BF (AB 83))
(AE (AC 85) (AW (AB 80) (AB 84) (kV (.bool false)))
(AE (AC 4) (AF (AB 85))
Ak))))))))))))
AQ)))))))))))))))))))))))))))))))))))))
(AE (AC 4) (AF (kV (.bool true)))
Ak)))))))))))
theorem YW : rmS = As (Ab 0 (Ay rmB)) rmE := rfl
def SS : C := (AE (AC 2) (Bd (AB 0))
(AE (AC 3) (Bd (AB 1))
(AE (AC 4) (AF (kV (.bool false)))
(AE (AC 9) (AD 1 (AB 2))
(AE (AC 10) (AH (AB 9))
(AE (AC 5) (AF (AB 10))
(AE (AC 11) (AD 2 (AB 3))
(AE (AC 12) (AH (AB 11))
(AE (AC 13) (Am (AB 12))
(AE (AC 14) (AF (kV (.int .i64 0)))
rmS))))))))))
def d23 : C := SS
theorem W3 {n : Nat} {args : List Value} {h : Hp} (hl : Nat.ble (Bk args) 320 = true) : call AK (Nat.succ n) 23 args h = Bt [.t (AB 4)] (d23 (call AK n) (Av e0 0 args) h) := by
  have hb : AK.get 23 = some b23 := by kernel_rfl
  rw [BN hb]
  have hd : b23 = ⟨[.t (AB 4)], d23⟩ := by kernel_rfl
  rw [hd, BE hl]
theorem XU : d23 = SS := rfl
theorem UD {F : CallF} {h : Hp} {u : Value} {zs : List Int} {lo : Int} (V : h.Vals u (ints .i64 zs)) (hr : riseP lo zs) (hl : zs.length ≤ 50) {e : Env} (s5 : AB 5 e = .int .i64 lo) (s12 : AB 12 e = u) (s13 : AB 13 e = .int .i64 (zs.length : Int)) (s14 : AB 14 e = .int .i64 ((0 : Nat) : Int)) :
    ∃ e', Ay rmB F e h = .exit 0 e' h ∧ AB 2 e' = AB 2 e ∧ AB 3 e' = AB 3 e := by
  refine B8 (I := fun i e' h' => h' = h ∧ AB 12 e' = u ∧ AB 13 e' = .int .i64 (zs.length : Int) ∧ AB 14 e' = .int .i64 (i : Int) ∧ i ≤ zs.length ∧ (∃ lo', AB 5 e' = .int .i64 lo' ∧ riseP lo' (zs.drop i)) ∧ AB 2 e' = AB 2 e ∧ AB 3 e' = AB 3 e)
    (Q := fun x => ∃ e', x = .exit 0 e' h ∧ AB 2 e' = AB 2 e ∧ AB 3 e' = AB 3 e) zs.length (by omega) (fun i e' h' ⟨hh, t12, t13, t14, hi, ⟨lo', t5, hr'⟩, t2, t3⟩ => ?_) ⟨rfl, s12, s13, s14, Nat.zero_le _, ⟨lo, s5, hr⟩, rfl, rfl⟩
  subst hh
  by_cases hlt : i < zs.length
  · left
    rw [SX hlt] at hr'
    obtain ⟨r1, r2, r3⟩ := hr'
    obtain ⟨a, g1, g2⟩ := V.int hlt
    have c1 := GC hlt
    have c2 : iLe (zs.getD i 0) lo' = false := Na (by omega)
    have c3 : iGt (zs.getD i 0) 1099511627776 = false := DD (by omega)
    have ad := CY (h := h') (i := i) (by omega)
    have hrun : ∃ e2, rmB F e' h' = .norm e2 h' ∧ AB 12 e2 = u ∧ AB 13 e2 = .int .i64 (zs.length : Int) ∧ AB 14 e2 = .int .i64 ((i + 1 : Nat) : Int) ∧ AB 5 e2 = .int .i64 (zs.getD i 0) ∧ AB 2 e2 = AB 2 e' ∧ AB 3 e2 = AB 3 e' := by
      unfold rmB
      simp only [sT, Nat.reduceLT, Nat.reduceEqDiff, if_true, if_false, reduceIte, gD, AZ, AY, t14, t13, c1, BG, t12, g1, AP, g2, t5, c2, c3, Bl, ad]
      exact ⟨_, rfl, by simp only [AG, Nat.reduceLT, Nat.reduceEqDiff, if_true, if_false, reduceIte]; exact t12, by simp only [AG, Nat.reduceLT, Nat.reduceEqDiff, if_true, if_false, reduceIte]; exact t13, by simp [AG], by simp [AG], by simp [AG], by simp [AG]⟩
    obtain ⟨e2, q1, q2, q3, q4, q5, q6, q7⟩ := hrun
    exact ⟨hlt, e2, h', q1, rfl, q2, q3, q4, hlt, ⟨_, q5, r3⟩, q6.trans t2, q7.trans t3⟩
  · right
    have c1 := EP (a := i) (b := zs.length) (by omega)
    have hrun : ∃ e2, rmB F e' h' = .exit 0 e2 h' ∧ AB 2 e2 = AB 2 e' ∧ AB 3 e2 = AB 3 e' := by
      unfold rmB
      simp only [sT, Nat.reduceLT, Nat.reduceEqDiff, if_true, if_false, reduceIte, AZ, AY, t14, t13, c1]
      exact ⟨_, rfl, by simp [AG], by simp [AG]⟩
    obtain ⟨e2, q1, q2, q3⟩ := hrun
    rw [q1]
    exact ⟨rfl, e2, rfl, q2.trans t2, q3.trans t3⟩
theorem MW : iEq 0 0 = true ∧ iEq 0 1 = false ∧ iEq 0 2 = false ∧ iEq 1 0 = false ∧ iEq 1 1 = true ∧ iEq 1 2 = false ∧ iEq 2 0 = false ∧ iEq 2 1 = false ∧ iEq 2 2 = true ∧ iEq 3 0 = false ∧ iEq 3 1 = false ∧ iEq 3 2 = false ∧ iEq 4 0 = false ∧ iEq 4 1 = false ∧ iEq 4 2 = false ∧
    iLt 0 0 = false ∧ iLt 1 0 = false ∧ iLt 2 0 = false ∧ iLt 3 0 = false ∧ iLt 4 0 = false ∧ iGt 0 4 = false ∧ iGt 1 4 = false ∧ iGt 2 4 = false ∧ iGt 3 4 = false ∧ iGt 4 4 = false ∧ iNe 0 1 = true ∧ iNe 1 1 = false ∧ iNe 2 1 = true ∧ iNe 3 1 = true ∧ iNe 4 1 = true ∧ iNe 0 0 = false ∧ iNe 1 0 = true ∧ iNe 2 0 = true ∧ iNe 3 0 = true := ⟨rfl, rfl, rfl, rfl, rfl, rfl, rfl, rfl, rfl, rfl, rfl, rfl, rfl, rfl, rfl, rfl, rfl, rfl, rfl, rfl, rfl, rfl, rfl, rfl, rfl, rfl, rfl, rfl, rfl, rfl, rfl, rfl, rfl, rfl⟩
theorem KG {n : Nat} {h : Hp} (W : h.Wf) {S : Nat → Prop} {m : MD} {um uw us u : Value} {k : MM} (V : h.VS S u (ints .i64 k.ext)) (hk : RightMk m k) : ∃ h', call AK (n + 1) 23 [mendV m um uw us, CP k u] h = .ok (.bool true) h' ∧ h.Ext h' := by
  obtain ⟨h1, bx, R, x1, n1⟩ := Bw W (mendV m um uw us)
  obtain ⟨h2, by_, Rk, x2, n2⟩ := Bw x1.wf (CP k u)
  obtain ⟨l0, l1, l2, l3, l4, l5, l6, l7⟩ := An (R.ext x1.wf x2)
  obtain ⟨k0, k1, k2, k3⟩ := CD Rk
  have V2 := V.ext W (x1.trans x2)
  have ln := V2.ilen (g := h2)
  have pre : ∃ e1, SS (call AK n) (Av e0 0 [mendV m um uw us, CP k u]) h = rmS (call AK n) e1 h2 ∧ AB 5 e1 = .int .i64 m.ver ∧ AB 12 e1 = u ∧ AB 13 e1 = .int .i64 (k.ext.length : Int) ∧ AB 14 e1 = .int .i64 ((0 : Nat) : Int) ∧ AB 2 e1 = pt h.next ∧ AB 3 e1 = pt h1.next := by
    unfold SS
    simp only [Ac, Af, Nat.succ_eq_add_one, Nat.zero_add, Nat.reduceAdd, Br, Bs, AG, Nat.reduceLT, Nat.reduceEqDiff, if_true, if_false, reduceIte, BM, Bz, bx, by_, AJ, AN, AP, AX, l1, k2, Ai, ln]
    exact ⟨_, rfl, by simp [AG], by simp [AG], by simp [AG], by simp only [AG, Nat.reduceLT, Nat.reduceEqDiff, if_true, if_false, reduceIte]; rfl, by simp [AG], by simp [AG]⟩
  obtain ⟨e1, p1, p5, p12, p13, p14, p2, p3⟩ := pre
  obtain ⟨e2, q1, q2, q3⟩ := UD (F := call AK n) V2.vals hk.rise hk.few p5 p12 p13 p14
  have s2 := q2.trans p2
  have s3 := q3.trans p3
  refine ⟨h2, ?_, x1.trans x2⟩
  rw [W3 rfl, XU, p1, YW]
  simp only [Be, BQ, q1, BJ, BB]
  unfold rmE
  have f50 : iGt (k.ext.length : Int) 50 = false := DD (by have := hk.few; omega)
  have hkd : k.kd = 0 ∨ k.kd = 1 ∨ k.kd = 2 ∨ k.kd = 3 ∨ k.kd = 4 := by have := hk.lo; have := hk.hi; omega
  by_cases hv : m.ver = 0
  · obtain ⟨hv1, hv2⟩ := hk.ver hv
    have fv : iEq m.ver 0 = true := Cu hv
    rw [hv2] at k1
    rcases hv1 with hc | hc
    · have f0 : iGt (k.ext.length : Int) 0 = false := DD (by rw [hk.none hc]; simp)
      rw [hc] at k0
      simp only [sT, Nat.reduceLT, Nat.reduceEqDiff, if_true, if_false, reduceIte, gD, s3, s2, Nat.zero_add, AJ, AN, AP, AX, k0, k1, k2, l1, AZ, AY, MW, Ai, ln, f50, f0, fv, BP, BO, Bool.not_false, Ao, Ax]
    · rw [hc] at k0
      simp only [sT, Nat.reduceLT, Nat.reduceEqDiff, if_true, if_false, reduceIte, gD, s3, s2, Nat.zero_add, AJ, AN, AP, AX, k0, k1, k2, l1, AZ, AY, MW, Ai, ln, f50, fv, BP, BO, Bool.not_false, Ao, Ax]
  · have fv : iEq m.ver 0 = false := Cj hv
    rcases hkd with hc | hc | hc | hc | hc
    · have f0 : iGt (k.ext.length : Int) 0 = false := DD (by rw [hk.none hc]; simp)
      have hcm : k.com = false := by
        cases hcc : k.com
        · rfl
        · have := hk.com hcc; omega
      rw [hcm] at k1
      rw [hc] at k0
      simp only [sT, Nat.reduceLT, Nat.reduceEqDiff, if_true, if_false, reduceIte, gD, s3, s2, Nat.zero_add, AJ, AN, AP, AX, k0, k1, k2, l1, AZ, AY, MW, Ai, ln, f50, f0, fv, Ao, Ax]
    · rw [hc] at k0
      cases hcc : k.com <;> rw [hcc] at k1 <;>
        simp only [sT, Nat.reduceLT, Nat.reduceEqDiff, if_true, if_false, reduceIte, gD, s3, s2, Nat.zero_add, AJ, AN, AP, AX, k0, k1, k2, l1, AZ, AY, MW, Ai, ln, f50, fv, BP, BO, Bool.not_true, Ao, Ax]
    · rw [hc] at k0
      cases hcc : k.com <;> rw [hcc] at k1 <;>
        simp only [sT, Nat.reduceLT, Nat.reduceEqDiff, if_true, if_false, reduceIte, gD, s3, s2, Nat.zero_add, AJ, AN, AP, AX, k0, k1, k2, l1, AZ, AY, MW, Ai, ln, f50, fv, BP, BO, Bool.not_true, Ao, Ax]
    · have hcm : k.com = false := by
        cases hcc : k.com
        · rfl
        · have := hk.com hcc; omega
      rw [hcm] at k1
      rw [hc] at k0
      simp only [sT, Nat.reduceLT, Nat.reduceEqDiff, if_true, if_false, reduceIte, gD, s3, s2, Nat.zero_add, AJ, AN, AP, AX, k0, k1, k2, l1, AZ, AY, MW, Ai, ln, f50, fv, Ao, Ax]
    · have hcm : k.com = false := by
        cases hcc : k.com
        · rfl
        · have := hk.com hcc; omega
      rw [hcm] at k1
      rw [hc] at k0
      simp only [sT, Nat.reduceLT, Nat.reduceEqDiff, if_true, if_false, reduceIte, gD, s3, s2, Nat.zero_add, AJ, AN, AP, AX, k0, k1, k2, l1, AZ, AY, MW, Ai, ln, f50, fv, Ao, Ax]
theorem Ov {n : Nat} {h : Hp} (W : h.Wf) {S : Nat → Prop} {m : MD} {um uw us u : Value} {r : Nat} {k : MM} (R : h.Row r 0 (mendL m um uw us)) (V : h.VS S u (ints .i64 k.ext)) (hk : RightMk m k) : ∃ h', call AK (n + 2) 22 [CP k u, pt r] h = .ok (.bool true) h' ∧ h.Ext h' := by
  obtain ⟨h1, bx, Rk, x1, n1⟩ := Bw W (CP k u)
  obtain ⟨k0, k1, k2, k3⟩ := CD Rk
  obtain ⟨l0, l1, l2, l3, l4, l5, l6, l7⟩ := An (R.ext W x1)
  obtain ⟨h2, q, x2⟩ := KG (n := n) (um := um) (uw := uw) (us := us) x1.wf (V.ext W x1) hk
  refine ⟨h2, ?_, x1.trans x2⟩
  rw [Wz rfl]
  unfold d22
  simp only [Ac, Af, Nat.succ_eq_add_one, Nat.zero_add, Nat.reduceAdd, sT, Nat.reduceLT, Nat.reduceEqDiff, if_true, if_false, reduceIte, bx, Aa, AU, l7, k3, Ap, Ae, Al, q, Ao, Ax]
end
end Go.Proofs.Ythcfmklkbakkpaa
set_option linter.unusedVariables false
set_option linter.unusedSimpArgs false
namespace Go.Proofs.Ythcfmklkbakkpaa
noncomputable section
open Go Go.RowKit Go.ChangeShapes
set_option maxRecDepth 100000
theorem GQ {F : CallF} {e : Env} {h : Hp} {x y : O} {a : Addr} {el N C m : Nat} (hx : x e = .slice (some a) N C) (hy : y e = .int .i64 (m : Int)) (hm : m ≤ C) : Ct el 1 x none (some y) none F e h = .ok (.slice (some a) m C) h := by
  show (match x e with | .slice a n c => EW e n c none (some y) none (fun l hh m => F8 el 1 a false l hh m h) | _ => .no) = _
  rw [hx]
  show DS e (some y) N C (fun hh => DS e none 0 hh fun l => F8 el 1 (some a) false l hh C h) = _
  have hb : ∀ K : Nat → R, DS e (some y) N C K = K m := fun K => by
    show (match C9 (y e) with | .ok n => (bif Nat.ble n C then K n else .no) | .no => .no) = _
    rw [hy, Fo]
    simp only
    rw [Az.2 hm]; rfl
  rw [hb]
  show CW (some a) 1 0 m C h = _
  unfold CW
  simp only [A0]
  cases C with
  | zero => rfl
  | succ C => rfl
theorem Mv {F : CallF} {e : Env} {h h' : Hp} {f : Nat} {l : List O} {v : Value} (hc : F f (vals e l) h.quiet = .ok v h') : Aj .free (AV f l) F e h = .ok v (h.back h') := GH (by rw [Ap]; exact hc)
theorem Qz {F : CallF} {e : Env} {h h' : Hp} {f : Nat} {l : List O} {v : Value} {q : Qm} (hc : F f (vals e l) h.quiet = .ok v h') (x : h.quiet.Ext h') (hm : h.mark ≤ h.next) : Aj q (AV f l) F e h = .ok v (h.back h') := Gj (by rw [Ap]; exact hc) x hm
def rsB : C := (AE (AC 35) (AS iLt .i64 (AB 34) (AB 33))
(AO (AB 35)
(As (Ab 1 (AE (AC 37) (A2 1 (AB 32) (AB 34))
(AE (AC 38) (AH (AB 37))
(AE (AC 3) (AF (AB 34))
(AE (AC 4) (AF (AB 38))
(BH (AE (AC 40) (AS iLt .i64 (AB 4) (kV (.int .i64 0)))
(cG (AB 40) false (AC 42) (AF (AB 4))
(cG (AB 40) false (AC 43) (AD 4 (AB 1))
(cG (AB 40) false (AC 44) (AH (AB 43))
(cG (AB 40) false (AC 45) (Am (AB 44))
(cG (AB 40) false (AC 46) (AS iGe .i64 (AB 42) (AB 45))
(AE (AC 47) (AW (AB 40) (kV (.bool true)) (AB 46))
(cG (AB 47) false (AC 49) (AD 5 (AB 1))
(cG (AB 47) false (AC 50) (AH (AB 49))
(cG (AB 47) false (AC 51) (AF (AB 3))
(cG (AB 47) false (AC 52) (Ct 3 1 (AB 50) none (some (AB 51)) none)
(cG (AB 47) false (AC 53) (AF (AB 4))
(cG (AB 47) false (AC 54) (Aj .free (AV 41 [(AB 52), (AB 53)]))
(AE (AC 55) (AW (AB 47) (kV (.bool true)) (AB 54))
(cG (AB 55) false (AC 57) (AL 7 (AB 1))
(cG (AB 55) false (AC 58) (AD 6 (AB 1))
(cG (AB 55) false (AC 59) (AH (AB 58))
(cG (AB 55) false (AC 60) (AF (AB 3))
(cG (AB 55) false (AC 61) (A2 1 (AB 59) (AB 60))
(cG (AB 55) false (AC 62) (AH (AB 61))
(cG (AB 55) false (AC 63) (Aj .free (AV 42 [(AB 57), (AB 62)]))
(cG (AB 55) false (AC 64) (BF (AB 63))
(AE (AC 65) (AW (AB 55) (kV (.bool true)) (AB 64))
(AO (AB 65)
(AE (AC 2) (AF (kV (.bool false)))
Ak)
AQ))))))))))))))))))))))))))))))
(AE (AC 66) (A9 .i64 (At .i64) (AB 34) (kV (.int .i64 1)))
(AE (AC 34) (AF (AB 66))
AQ)))
(A3 0)))
def rsE : C := (AE (AC 2) (AF (kV (.bool true)))
Ak)
def rsS : C := (As (Ab 0 (Ay (AE (AC 35) (AS iLt .i64 (AB 34) (AB 33))
(AO (AB 35)
(As (Ab 1 (AE (AC 37) (A2 1 (AB 32) (AB 34))
(AE (AC 38) (AH (AB 37))
(AE (AC 3) (AF (AB 34))
(AE (AC 4) (AF (AB 38))
(BH (AE (AC 40) (AS iLt .i64 (AB 4) (kV (.int .i64 0)))
(cG (AB 40) false (AC 42) (AF (AB 4))
(cG (AB 40) false (AC 43) (AD 4 (AB 1))
(cG (AB 40) false (AC 44) (AH (AB 43))
(cG (AB 40) false (AC 45) (Am (AB 44))
(cG (AB 40) false (AC 46) (AS iGe .i64 (AB 42) (AB 45))
(AE (AC 47) (AW (AB 40) (kV (.bool true)) (AB 46))
(cG (AB 47) false (AC 49) (AD 5 (AB 1))
(cG (AB 47) false (AC 50) (AH (AB 49))
(cG (AB 47) false (AC 51) (AF (AB 3))
(cG (AB 47) false (AC 52) (Ct 3 1 (AB 50) none (some (AB 51)) none)
(cG (AB 47) false (AC 53) (AF (AB 4))
(cG (AB 47) false (AC 54) (Aj .free (AV 41 [(AB 52), (AB 53)]))
(AE (AC 55) (AW (AB 47) (kV (.bool true)) (AB 54))
(cG (AB 55) false (AC 57) (AL 7 (AB 1))
(cG (AB 55) false (AC 58) (AD 6 (AB 1))
(cG (AB 55) false (AC 59) (AH (AB 58))
(cG (AB 55) false (AC 60) (AF (AB 3))
(cG (AB 55) false (AC 61) (A2 1 (AB 59) (AB 60))
(cG (AB 55) false (AC 62) (AH (AB 61))
(cG (AB 55) false (AC 63) (Aj .free (AV 42 [(AB 57), (AB 62)]))
(cG (AB 55) false (AC 64) (BF (AB 63))
(AE (AC 65) (AW (AB 55) (kV (.bool true)) (AB 64))
(AO (AB 65)
(AE (AC 2) (AF (kV (.bool false)))
Ak)
AQ))))))))))))))))))))))))))))))
(AE (AC 66) (A9 .i64 (At .i64) (AB 34) (kV (.int .i64 1)))
(AE (AC 34) (AF (AB 66))
AQ)))
(A3 0)))))
(AE (AC 2) (AF (kV (.bool true)))
Ak))
theorem YY : rsS = As (Ab 0 (Ay rsB)) rsE := rfl
def ST : C := (AE (AC 1) (Bd (AB 0))
(AE (AC 2) (AF (kV (.bool false)))
(AE (AC 5) (AD 5 (AB 1))
(AE (AC 6) (AH (AB 5))
(AE (AC 7) (Am (AB 6))
(AE (AC 8) (AD 6 (AB 1))
(AE (AC 9) (AH (AB 8))
(AE (AC 10) (Am (AB 9))
(AE (AC 11) (AS iNe .i64 (AB 7) (AB 10))
(cG (AB 11) false (AC 13) (AD 5 (AB 1))
(cG (AB 11) false (AC 14) (AH (AB 13))
(cG (AB 11) false (AC 15) (Am (AB 14))
(cG (AB 11) false (AC 16) (AD 2 (AB 1))
(cG (AB 11) false (AC 17) (AH (AB 16))
(cG (AB 11) false (AC 18) (AS iGt .i64 (AB 15) (AB 17))
(AE (AC 19) (AW (AB 11) (kV (.bool true)) (AB 18))
(cG (AB 19) false (AC 21) (AD 1 (AB 1))
(cG (AB 19) false (AC 22) (AH (AB 21))
(cG (AB 19) false (AC 23) (AS iEq .i64 (AB 22) (kV (.int .i64 0)))
(cG (AB 19) false (AC 24) (AF (AB 23))
(cG (AB 24) true (AC 25) (AD 5 (AB 1))
(cG (AB 24) true (AC 26) (AH (AB 25))
(cG (AB 24) true (AC 27) (Am (AB 26))
(cG (AB 24) true (AC 28) (AS iGt .i64 (AB 27) (kV (.int .i64 0)))
(cG (AB 19) false (AC 29) (AW (AB 24) (AB 28) (kV (.bool false)))
(AE (AC 30) (AW (AB 19) (kV (.bool true)) (AB 29))
(AO (AB 30)
(AE (AC 2) (AF (kV (.bool false)))
Ak)
(AE (AC 31) (AD 5 (AB 1))
(AE (AC 32) (AH (AB 31))
(AE (AC 33) (Am (AB 32))
(AE (AC 34) (AF (kV (.int .i64 0)))
rsS)))))))))))))))))))))))))))))))
def d24 : C := ST
theorem W4 {n : Nat} {args : List Value} {h : Hp} (hl : Nat.ble (Bk args) 320 = true) : call AK (Nat.succ n) 24 args h = Bt [.t (AB 2)] (d24 (call AK n) (Av e0 0 args) h) := by
  have hb : AK.get 24 = some b24 := by kernel_rfl
  rw [BN hb]
  have hd : b24 = ⟨[.t (AB 2)], d24⟩ := by kernel_rfl
  rw [hd, BE hl]
theorem XW : d24 = ST := rfl
theorem UE {n : Nat} {h : Hp} (W : h.Wf) {S : Nat → Prop} {m : MD} {um uw us : Value} {r : Nat} (R : h.Row r 0 (mendL m um uw us)) (M : h.Md S m um uw us) (hs : RightSh m) (hw : m.which.length ≤ 255) {e : Env} (s1 : AB 1 e = pt r) (s32 : AB 32 e = uw) (s33 : AB 33 e = .int .i64 (m.which.length : Int)) (s34 : AB 34 e = .int .i64 ((0 : Nat) : Int)) :
    ∃ e' h', Ay rsB (call AK (n + 2)) e h = .exit 0 e' h' ∧ h.Ext h' := by
  refine B8 (I := fun i e' h' => h.Ext h' ∧ AB 1 e' = pt r ∧ AB 32 e' = uw ∧ AB 33 e' = .int .i64 (m.which.length : Int) ∧ AB 34 e' = .int .i64 (i : Int) ∧ i ≤ m.which.length)
    (Q := fun x => ∃ e' h', x = .exit 0 e' h' ∧ h.Ext h') m.which.length (by omega) (fun i e' h' ⟨x, t1, t32, t33, t34, hi⟩ => ?_) ⟨.refl W, s1, s32, s33, s34, Nat.zero_le _⟩
  by_cases hlt : i < m.which.length
  · left
    have c1 := GC hlt
    obtain ⟨e1, e2, e3, e4⟩ := hs.each i hlt
    have M1 := M.ext W x
    obtain ⟨a, g1, g2⟩ := M1.which.vals.int hlt
    have xm := x.marked
    have Mm := M.ext W xm
    obtain ⟨l0, l1, l2, l3, l4, l5, l6, l7⟩ := An (R.ext W xm)
    have c2 : iLt (m.which.getD i 0) 0 = false := Ek (by omega)
    have c3 : iGe (m.which.getD i 0) (m.marks.length : Int) = false := Py (by omega)
    have ln := Mm.marks.len (g := h'.marked)
    obtain ⟨ao, c, hu, hcap⟩ := M.which.cap
    have hil : (ints .i64 m.which).length = m.which.length := BW
    obtain ⟨o, c', hu2, V1⟩ := (M.ext W xm.quiet).which.vals.cut (n := i) (by rw [hil]; exact hlt)
    rw [hil] at hu hu2 hcap
    obtain ⟨rfl, rfl⟩ : ao = some o ∧ c = c' := by
      rw [hu] at hu2
      injection hu2 with q1 _ q3
      exact ⟨q1, q3⟩
    have V1 : h'.marked.quiet.Vals (.slice (some o) i c) (ints .i64 (m.which.take i)) := by
      have : (ints .i64 m.which).take i = ints .i64 (m.which.take i) := (List.map_take).symm
      rw [← this]; exact V1
    have ct : ∀ (F : CallF) (e : Env), AB 50 e = uw → AB 51 e = .int .i64 (i : Int) → Ct 3 1 (AB 50) none (some (AB 51)) none F e h'.marked = .ok (.slice (some o) i c) h'.marked := fun F e q1 q2 => GQ (q1.trans hu) q2 (by omega)
    have k1 := HL (n := n) (x := m.which.getD i 0) V1 (by rw [List.length_take]; omega)
    rw [decide_eq_false e3] at k1
    have q1 : ∀ (F : CallF) (e : Env), F = call AK (n + 2) → AB 52 e = .slice (some o) i c → AB 53 e = .int .i64 (m.which.getD i 0) → Aj .free (AV 41 [AB 52, AB 53]) F e h'.marked = .ok (.bool false) (h'.marked.back h'.marked.quiet) := fun F e hF h1 h2 => by
      subst hF
      refine Mv ?_
      rw [Ae, Ae, Al, h1, h2]; exact k1
    have x2 : h.Ext (h'.marked.back h'.marked.quiet) := xm.back2 xm.quiet
    have lA := M.ext W x2
    obtain ⟨_, _, _, _, _, _, b6, b7⟩ := An (R.ext W x2)
    obtain ⟨ws, w1, w2, w3⟩ := lA.shards
    have his : i < m.shards.length := by rw [← hs.len]; exact hlt
    obtain ⟨b, g3, g4⟩ := w1.vals.at (i := i) (by rw [w2]; exact his)
    have x3 : h.Ext (h'.marked.back h'.marked.quiet).quiet := x2.quiet
    have w4 := ((w3 i his).same (h' := (h'.marked.back h'.marked.quiet).quiet) rfl).vals
    obtain ⟨h4, k2, x4⟩ := Sb (n := n + 1) x3.wf (M.ext W x3) w4
    rw [e4] at k2
    have q2 : ∀ (F : CallF) (e : Env), F = call AK (n + 2) → AB 57 e = mendV m um uw us → AB 62 e = ws.getD i noRes → Aj .free (AV 42 [AB 57, AB 62]) F e (h'.marked.back h'.marked.quiet) = .ok (.bool true) ((h'.marked.back h'.marked.quiet).back h4) := fun F e hF h1 h2 => by
      subst hF
      refine Mv ?_
      rw [Ae, Ae, Al, h1, h2]; exact k2
    have x5 := x2.back2 (x3.trans x4)
    have ad := CY (h := (h'.marked.back h'.marked.quiet).back h4) (i := i) (by omega)
    have hrun : ∃ e2, rsB (call AK (n + 2)) e' h' = .norm e2 ((h'.marked.back h'.marked.quiet).back h4) ∧ AB 1 e2 = pt r ∧ AB 32 e2 = uw ∧ AB 33 e2 = .int .i64 (m.which.length : Int) ∧ AB 34 e2 = .int .i64 ((i + 1 : Nat) : Int) := by
      unfold rsB
      simp only [sT, Nat.reduceLT, Nat.reduceEqDiff, if_true, if_false, reduceIte, gD, AZ, AY, t34, t33, c1, BG, t32, g1, AP, g2, Bc, c2, AJ, t1, AN, Nat.zero_add, AX, l4, Ai, ln, c3, l5, ct, q1, Aa, AU, b7, b6, g3]
      rw [AX] at g4
      simp only [sT, Nat.reduceLT, Nat.reduceEqDiff, if_true, if_false, reduceIte, gD, g4, q2, BP, BO, Bool.not_true, Bl, t34, ad]
      exact ⟨_, rfl, by simp only [AG, Nat.reduceLT, Nat.reduceEqDiff, if_true, if_false, reduceIte]; exact t1, by simp only [AG, Nat.reduceLT, Nat.reduceEqDiff, if_true, if_false, reduceIte]; exact t32, by simp only [AG, Nat.reduceLT, Nat.reduceEqDiff, if_true, if_false, reduceIte]; exact t33, by simp [AG]⟩
    obtain ⟨e2, p1, p2, p3, p4, p5⟩ := hrun
    exact ⟨hlt, e2, _, p1, x5, p2, p3, p4, p5, hlt⟩
  · right
    have c1 := EP (a := i) (b := m.which.length) (by omega)
    have hrun : ∃ e2, rsB (call AK (n + 2)) e' h' = .exit 0 e2 h' := by
      unfold rsB
      simp only [sT, Nat.reduceLT, Nat.reduceEqDiff, if_true, if_false, reduceIte, AZ, AY, t34, t33, c1]
      exact ⟨_, rfl⟩
    obtain ⟨e2, q1⟩ := hrun
    rw [q1]
    exact ⟨rfl, e2, h', rfl, x⟩
theorem Ij {n : Nat} {h : Hp} (W : h.Wf) {S : Nat → Prop} {m : MD} {um uw us : Value} (M : h.Md S m um uw us) (hs : RightSh m) (hw : m.which.length ≤ 255) : ∃ h', call AK (n + 3) 24 [mendV m um uw us] h = .ok (.bool true) h' ∧ h.Ext h' := by
  obtain ⟨h1, bx, R, x1, n1⟩ := Bw W (mendV m um uw us)
  obtain ⟨l0, l1, l2, l3, l4, l5, l6, l7⟩ := An R
  have M1 := M.ext W x1
  have ln := M1.which.ilen (g := h1)
  have ls := M1.shards.len (g := h1)
  have c1 : iNe (m.which.length : Int) (m.shards.length : Int) = false := Dv (by rw [hs.len])
  have c2 : iGt (m.which.length : Int) m.need = false := DD (by have := hs.need; omega)
  have pre : ∃ e1, ST (call AK (n + 2)) (Av e0 0 [mendV m um uw us]) h = rsS (call AK (n + 2)) e1 h1 ∧ AB 1 e1 = pt h.next ∧ AB 32 e1 = uw ∧ AB 33 e1 = .int .i64 (m.which.length : Int) ∧ AB 34 e1 = .int .i64 ((0 : Nat) : Int) := by
    unfold ST
    by_cases hv : m.ver = 0
    · have c3 : iEq m.ver 0 = true := Cu hv
      have c4 : iGt (m.which.length : Int) 0 = false := DD (by rw [hs.ver hv]; simp)
      simp only [Ac, Af, Nat.succ_eq_add_one, Nat.zero_add, Nat.reduceAdd, Br, Bh, Bs, Ba, AG, Nat.reduceLT, Nat.reduceEqDiff, if_true, if_false, reduceIte, gD, BM, Bz, bx, AJ, AN, AP, AX, l1, l2, l5, l6, Ai, ln, ls, AZ, AY, c1, c2, c3, c4]
      exact ⟨_, rfl, by simp [AG], by simp [AG], by simp [AG], by simp only [AG, Nat.reduceLT, Nat.reduceEqDiff, if_true, if_false, reduceIte]; rfl⟩
    · have c3 : iEq m.ver 0 = false := Cj hv
      simp only [Ac, Af, Nat.succ_eq_add_one, Nat.zero_add, Nat.reduceAdd, Br, Bh, Bs, Ba, AG, Nat.reduceLT, Nat.reduceEqDiff, if_true, if_false, reduceIte, gD, BM, Bz, bx, AJ, AN, AP, AX, l1, l2, l5, l6, Ai, ln, ls, AZ, AY, c1, c2, c3]
      exact ⟨_, rfl, by simp [AG], by simp [AG], by simp [AG], by simp only [AG, Nat.reduceLT, Nat.reduceEqDiff, if_true, if_false, reduceIte]; rfl⟩
  obtain ⟨e1, p1, p2, p3, p4, p5⟩ := pre
  obtain ⟨e2, h2, q1, x2⟩ := UE (n := n) x1.wf R M1 hs hw p2 p3 p4 p5
  refine ⟨h2, ?_, x1.trans x2⟩
  rw [W4 rfl, XW, p1, YY]
  simp only [Be, BQ, q1, BJ, BB]
  unfold rsE
  simp only [sT, Nat.reduceLT, Nat.reduceEqDiff, if_true, if_false, reduceIte, Ao, Ax]
theorem Gk {n : Nat} {h : Hp} (W : h.Wf) {S : Nat → Prop} {m : MD} {um uw us : Value} (M : h.Md S m um uw us) (hr : RightP m) : ∃ h', call AK (n + 4) 12 [mendV m um uw us] h = .ok (.bool true) h' ∧ h.Ext h' := by
  obtain ⟨h1, bx, R, x1, n1⟩ := Bw W (mendV m um uw us)
  obtain ⟨l0, l1, l2, l3, l4, l5, l6, l7⟩ := An R
  have M1 := M.ext W x1
  have ln := M1.marks.len (g := h1)
  have nb := hr.n1
  have na := hr.n0
  have wb : m.which.length ≤ 255 := by have := hr.sh.need; have := hr.need1; omega
  have c1 : iLt m.st 0 = false := Ek (by have := hr.st0; omega)
  have c2 : iGt m.st 1099511627776 = false := DD (by have := hr.st1; omega)
  have c3 : iLt m.ver 0 = false := Ek (by have := hr.ver0; omega)
  have c4 : iGt m.ver 1099511627776 = false := DD (by have := hr.ver1; omega)
  have c5 : iLt (m.marks.length : Int) 1 = false := Ek (by omega)
  have c6 : iGt (m.marks.length : Int) 255 = false := DD (by omega)
  have c7 : iLt m.need 1 = false := Ek (by have := hr.need0; omega)
  have c8 : iGt m.need (m.marks.length : Int) = false := DD (by have := hr.need1; omega)
  have hal : m.marks.all (fun _ => true) = true := by rw [List.all_eq_true]; exact fun _ _ => rfl
  obtain ⟨h2, k1, x2⟩ := ID (n := n + 2) x1.wf M1 (fun _ => true) (g := 22) (caps := [pt h.next]) (fun i u h2 hi x V => Ov (n := n) (S := S) x.wf (R.ext x1.wf x) V (hr.marks i hi)) nb
  rw [hal] at k1
  have M2 := M1.ext x1.wf x2
  have R2 := R.ext x1.wf x2
  obtain ⟨a0, a1, a2, a3, a4, a5, a6, a7⟩ := An R2
  obtain ⟨h3, k2, x3⟩ := Ij (n := n) x2.wf M2 hr.sh wb
  have M3 := M2.ext x2.wf x3
  have R3 := R2.ext x2.wf x3
  obtain ⟨b0, b1, b2, b3, b4, b5, b6, b7⟩ := An R3
  obtain ⟨h4, k3, x4⟩ := Jh (n := n) x3.wf M3 nb
  have M4 := M3.ext x3.wf x4
  have R4 := R3.ext x3.wf x4
  obtain ⟨d0, d1, d2, d3, d4, d5, d6, d7⟩ := An R4
  obtain ⟨h5, k4, x5⟩ := Ks (n := n) x4.wf M4 nb
  have y4 := ((x1.trans x2).trans x3).trans x4
  rcases hr.ph with ⟨p1, p2, p3⟩ | ⟨p1, p2⟩ | ⟨p1, p2⟩
  · rw [p2] at k3
    rw [p3] at k4
    have f1 : iEq m.ph 1 = true := Cu p1
    refine ⟨h5, ?_, y4.trans x5⟩
    rw [L2 rfl]
    unfold d12
    simp only [Ac, Af, Nat.succ_eq_add_one, Nat.zero_add, Nat.reduceAdd, sT, Nat.reduceLT, Nat.reduceEqDiff, if_true, if_false, reduceIte, gD, bx, AJ, AN, AP, AX, l0, l1, l2, l4, Ai, ln, AZ, AY, c1, c2, c3, c4, c5, c6, c7, c8, Aa, AU, l7, Gg, Ap, Ae, Al, k1, BP, BO, Bool.not_true, a7, k2, b3, f1, b7, k3, Bool.not_false, d7, k4, Ao, Ax]
  · rw [p2] at k3
    have f1 : iEq m.ph 1 = false := Cj (by omega)
    have f2 : iEq m.ph 2 = true := Cu p1
    refine ⟨h4, ?_, y4⟩
    rw [L2 rfl]
    unfold d12
    simp only [Ac, Af, Nat.succ_eq_add_one, Nat.zero_add, Nat.reduceAdd, sT, Nat.reduceLT, Nat.reduceEqDiff, if_true, if_false, reduceIte, gD, bx, AJ, AN, AP, AX, l0, l1, l2, l4, Ai, ln, AZ, AY, c1, c2, c3, c4, c5, c6, c7, c8, Aa, AU, l7, Gg, Ap, Ae, Al, k1, BP, BO, Bool.not_true, a7, k2, b3, f1, f2, b7, k3, Ao, Ax]
  · rw [p2] at k3
    have f1 : iEq m.ph 1 = false := Cj (by omega)
    have f2 : iEq m.ph 2 = false := Cj (by omega)
    have f3 : iEq m.ph 3 = true := Cu p1
    refine ⟨h4, ?_, y4⟩
    rw [L2 rfl]
    unfold d12
    simp only [Ac, Af, Nat.succ_eq_add_one, Nat.zero_add, Nat.reduceAdd, sT, Nat.reduceLT, Nat.reduceEqDiff, if_true, if_false, reduceIte, gD, bx, AJ, AN, AP, AX, l0, l1, l2, l4, Ai, ln, AZ, AY, c1, c2, c3, c4, c5, c6, c7, c8, Aa, AU, l7, Gg, Ap, Ae, Al, k1, BP, BO, Bool.not_true, Bool.not_false, a7, k2, b3, f1, f2, f3, b7, k3, Ao, Ax]
end
end Go.Proofs.Ythcfmklkbakkpaa
set_option linter.unusedVariables false
set_option linter.unusedSimpArgs false
namespace Go.Proofs.Ythcfmklkbakkpaa
noncomputable section
open Go Go.RowKit Go.ChangeShapes
set_option maxRecDepth 100000
section
variable {h0 h : Hp}
theorem Df (x0 : h0.Ext h) {b off n : Nat} {L : List Value} {el : Nat} (r : h.Row b el L) (hb : h0.next ≤ b) (h256 : 256 ≤ b) (v : Value) (hn : (cellsOf v).length = n) (ho : off + n ≤ L.length) (ha : Bj (cellsOf v) = true) :
    ∃ h1, (∀ (F : CallF) (e : Env) (x y : O), x e = .pointer (some ⟨b, off, none⟩) → y e = v → Aj .free (AM n x y) F e h = .ok noRes h1) ∧ h1.Row b el (over L off (cellsOf v)) ∧ h0.Ext h1 ∧ h1.next = h.next ∧ h1.mark = h.mark ∧ ∀ b' el' L', b' ≠ b → h.Row b' el' L' → h1.Row b' el' L' := by
  have rq : h.quiet.Row b el L := r.same rfl
  obtain ⟨h1, s1, s2, s3, s4, s5⟩ := Aw x0.quiet rq hb h256 v hn ho ha
  refine ⟨h.back h1, fun F e x y hx hy => GH (by rw [Ad, hx, hy]; exact s1), s2.same rfl, x0.back2 s3, s4, rfl, fun b' el' L' hne r' => (s5 b' el' L' hne (r'.same rfl)).same rfl⟩
theorem Jl (x0 : h0.Ext h) {b off n : Nat} {L : List Value} {el : Nat} (r : h.Row b el L) (hb : h0.next ≤ b) (h256 : 256 ≤ b) (v : Value) (hn : (cellsOf v).length = n) (ho : off + n ≤ L.length) (ha : Bj (cellsOf v) = true) :
    ∃ h1, (∀ (F : CallF) (e : Env) (x y : O), x e = .pointer (some ⟨b, off, none⟩) → y e = v → FI x (AM n x y) F e h = .ok noRes h1) ∧ h1.Row b el (over L off (cellsOf v)) ∧ h0.Ext h1 ∧ h1.next = h.next ∧ h1.mark = h.mark ∧ ∀ b' el' L', b' ≠ b → h.Row b' el' L' → h1.Row b' el' L' := by
  have W := x0.wf
  have rq : h.quiet.Row b el L := r.same rfl
  have s1 := rq.storeR (n := n) (off := off) W.quiet h256 hn (by omega) ha
  have s2 := rq.wr_self W.quiet (off := off) (vs := cellsOf v) (by omega)
  have s3 := rq.wr_ext x0.quiet hb (off := off) (vs := cellsOf v) (by omega)
  have s4 := rq.wr_next (off := off) (vs := cellsOf v) (by omega)
  have s5 := fun b' el' L' (hne : b' ≠ b) (r' : h.quiet.Row b' el' L') => rq.wr_other W.quiet (off := off) (vs := cellsOf v) (by omega) r' hne
  obtain ⟨cc, _, hw, _⟩ := rq.wr_is (off := off) (vs := cellsOf v) (by omega)
  have hlow : (h.quiet.wr b off (cellsOf v)).low = b := by
    rw [hw]
    show CQ h.next b = b
    have := r.lt W
    rw [B0]; omega
  have hhigh : (h.quiet.wr b off (cellsOf v)).high = b := by
    rw [hw]
    show DK 0 b = b
    rw [Cd]; omega
  refine ⟨h.back (h.quiet.wr b off (cellsOf v)), fun F e x y hx hy => ?_, s2.same rfl, x0.back2 s3, s4, rfl, fun b' el' L' hne r' => (s5 b' el' L' hne (r'.same rfl)).same rfl⟩
  show (match AM n x y F e h.quiet with | .ok v h' => bif HY (blkOf (x e)) h h'.low h'.high then DH h v h' else .no | .no => .no) = _
  rw [Ad, hx, hy, s1]
  show (bif HY (.ok b) h (h.quiet.wr b off (cellsOf v)).low (h.quiet.wr b off (cellsOf v)).high then DH h noRes (h.quiet.wr b off (cellsOf v)) else .no) = _
  rw [hlow, hhigh]
  have : HY (.ok b) h b b = true := by
    show (bif Nat.ble b b then Nat.ble b b else false) = true
    rw [Az.2 (Nat.le_refl b)]; rfl
  rw [this]
  show DH h noRes (h.quiet.wr b off (cellsOf v)) = _
  unfold DH
  simp only [A0]; rfl
theorem bE {F : CallF} {e : Env} {x y : O} {k : C} {a b i j : Nat} (hx : x e = .pointer (some ⟨a, i, none⟩)) (hy : y e = .pointer (some ⟨b, j, none⟩)) (h1 : b ≠ a) : Bi x [y] k F e h = k F e h := by
  unfold Bi
  rw [hx]
  show (bif CI a e [y] then k F e h else .no) = _
  have : CI a e [y] = true := by
    unfold CI
    rw [hy]
    show (bif Nat.beq b a then false else CI a e []) = true
    have n1 : Nat.beq b a = false := by
      cases e : Nat.beq b a
      · rfl
      · exact absurd (A1.1 e) h1
    rw [n1]; rfl
  rw [this]; rfl
theorem U8 {F : CallF} {e : Env} {x y : O} {k : C} {a i : Nat} (hx : x e = .pointer (some ⟨a, i, none⟩)) (hy : y e = noRes) : Bi x [y] k F e h = k F e h := by
  unfold Bi
  rw [hx]
  show (bif CI a e [y] then k F e h else .no) = _
  have : CI a e [y] = true := by
    unfold CI
    rw [hy]; rfl
  rw [this]; rfl
theorem bF {F : CallF} {e : Env} {x y z : O} {k : C} {a b c i j m : Nat} (hx : x e = .pointer (some ⟨a, i, none⟩)) (hy : y e = .pointer (some ⟨b, j, none⟩)) (hz : z e = .pointer (some ⟨c, m, none⟩)) (h1 : b ≠ a) (h2 : c ≠ a) : Bi x [y, z] k F e h = k F e h := by
  have n1 : Nat.beq b a = false := by
    cases e : Nat.beq b a
    · rfl
    · exact absurd (A1.1 e) h1
  have n2 : Nat.beq c a = false := by
    cases e : Nat.beq c a
    · rfl
    · exact absurd (A1.1 e) h2
  unfold Bi
  rw [hx]
  show (bif CI a e [y, z] then k F e h else .no) = _
  have : CI a e [y, z] = true := by
    unfold CI
    rw [hy]
    show (bif Nat.beq b a then false else CI a e [z]) = true
    rw [n1]
    unfold CI
    rw [hz]
    show (bif Nat.beq c a then false else CI a e []) = true
    rw [n2]; rfl
  rw [this]; rfl
theorem Hp.VS.int {S : Nat → Prop} {k : IntKind} {u : Value} {Z : List Int} (V : h.VS S u (ints k Z)) {i : Nat} (hi : i < Z.length) : ∃ b j, Cv 1 u (.int .i64 (i : Int)) h = .ok (.pointer (some ⟨b, j, none⟩)) h ∧ load1 ⟨b, j, none⟩ h = .ok (.int k (Z.getD i 0)) h ∧ S b := by
  rcases V with ⟨h1, h2⟩ | ⟨b, off, c, el, L, h1, h2, h3, h4, h5, h6⟩
  · have := congrArg List.length h2
    rw [BW, List.length_nil] at this; omega
  · rw [BW] at h1 h2 h4 h5
    refine ⟨b, off + i * 1, by rw [h1]; exact B6 hi, ?_, h6⟩
    rw [h3.load1 (by omega)]
    have := congrArg (fun m => m[i]?) h5
    simp only [List.getElem?_take, List.getElem?_drop, if_pos hi] at this
    rw [List.getD_eq_getElem?_getD, Nat.mul_one, this, ← List.getD_eq_getElem?_getD, Fl hi]
theorem D1 {e : Env} {h' : Hp} {g g' : O} {n : Nat} {v : Value} (hv : J1 n (g e) h = .ok v h') : FN [.cN g n, .t g'] e h = .ok (.tuple ⟨[v, g' e]⟩) h := by
  have h1 : E6 e h (.cN g n) = .ok v h' := hv
  show (match E6 e h (.cN g n) with | .ok v _ => forceV v fun v => forceV (g' e) (fun x => Hf h [v, x]) | .no => .no) = _
  rw [h1]
  simp only [BR]; rfl
end
def errL (x : Int × Int × Int) : List Value := [.int .i64 x.1, .int .u8 x.2.1, .int .i64 x.2.2]
def CF (x : Int × Int × Int) : Value := .agg ⟨errL x⟩
def opK (k : Int) : Int := if k = 0 then 4 else if k = 1 then 4 else if k = 2 then 2 else if k = 3 then 1 else 6
def FS (l : List Int) : Int := l.getD (l.length - 1) 0
def BU (m : MD) (i : Nat) : Int × Int × Int :=
  if (m.marks.getD i mm0).kd = 0 then ((i : Int), 4, 0)
  else if (m.marks.getD i mm0).ext = [] then ((i : Int), opK (m.marks.getD i mm0).kd, m.ver)
  else ((i : Int), if m.ver = 0 then 6 else 3, FS (m.marks.getD i mm0).ext)
def Cq (m : MD) (i : Nat) : Bool :=
  if (m.marks.getD i mm0).kd = 0 then true
  else if (m.marks.getD i mm0).ext = [] then
    (if (m.marks.getD i mm0).kd = 2 then decide (0 < m.ver) && !(m.marks.getD i mm0).com else if (m.marks.getD i mm0).kd = 1 then true else decide (m.need ≤ (m.which.length : Int)))
  else true
theorem ZJ : GK.zero = [.int .i64 0, .int .u8 0, .int .i64 0] := by kernel_rfl
theorem ZK : RT.zero = [.int .u8 0, .int .u8 0, .int .u8 0, .int .u8 0, .int .u8 0] := by kernel_rfl
theorem Rz {F : CallF} {e : Env} {h : Hp} {x y z : O} {a b c : Int} (h1 : x e = .int .i64 a) (h2 : y e = .int .u8 b) (h3 : z e = .int .i64 c) : A8 GK.zero [(0, 1, x), (1, 1, y), (2, 1, z)] F e h = .ok (CF (a, b, c)) h := by
  rw [En, ZJ, Bo (hk := by rw [h1]; rfl), h1, Bv, if_pos (show [Value.int .i64 a].length = 1 from rfl), if_pos (by show 0 + 1 ≤ 3; omega), Bo (hk := by rw [h2]; rfl), h2, Bv, if_pos (show [Value.int .u8 b].length = 1 from rfl), if_pos (by show 1 + 1 ≤ 3; omega), Bo (hk := by rw [h3]; rfl), h3, Bv, if_pos (show [Value.int .i64 c].length = 1 from rfl), if_pos (by show 2 + 1 ≤ 3; omega), Cr]; rfl
def YR : Value := .agg ⟨[.int .u8 4, .int .u8 4, .int .u8 2, .int .u8 1, .int .u8 6]⟩
theorem SA {F : CallF} {e : Env} {h : Hp} : A8 RT.zero [(0, 1, (kV (.int .u8 4))), (1, 1, (kV (.int .u8 4))), (2, 1, (kV (.int .u8 2))), (3, 1, (kV (.int .u8 1))), (4, 1, (kV (.int .u8 6)))] F e h = .ok YR h := by
  rw [En, ZK, Bo, Bz, Bv, if_pos (show [Value.int .u8 4].length = 1 from rfl), if_pos (by show 0 + 1 ≤ 5; omega), Bo, Bz, Bv, if_pos (show [Value.int .u8 4].length = 1 from rfl), if_pos (by show 1 + 1 ≤ 5; omega), Bo, Bz, Bv, if_pos (show [Value.int .u8 2].length = 1 from rfl), if_pos (by show 2 + 1 ≤ 5; omega), Bo, Bz, Bv, if_pos (show [Value.int .u8 1].length = 1 from rfl), if_pos (by show 3 + 1 ≤ 5; omega), Bo, Bz, Bv, if_pos (show [Value.int .u8 6].length = 1 from rfl), if_pos (by show 4 + 1 ≤ 5; omega), Cr]; rfl
theorem gj {F : CallF} {e : Env} {h : Hp} {x y : O} {k : Int} (hx : x e = YR) (hy : y e = .int .i64 k) (h0 : 0 ≤ k) (h4 : k ≤ 4) : oAt false 5 1 x y F e h = .ok (.int .u8 (opK k)) h := by
  show atF false 5 1 (x e) (C9 (y e)) h = _
  rw [hx, hy]
  have : k = 0 ∨ k = 1 ∨ k = 2 ∨ k = 3 ∨ k = 4 := by omega
  rcases this with rfl | rfl | rfl | rfl | rfl <;> rfl
theorem Bm {h : Hp} {r : Nat} {x : Int × Int × Int} (R : h.Row r 0 (errL x)) : load1 ⟨r, 0, none⟩ h = .ok (.int .i64 x.1) h ∧ load1 ⟨r, 1, none⟩ h = .ok (.int .u8 x.2.1) h ∧ load1 ⟨r, 2, none⟩ h = .ok (.int .i64 x.2.2) h ∧ loadN 3 ⟨r, 0, none⟩ h = .ok (CF x) h :=
  ⟨R.load1 (off := 0) (by show 0 < 3; omega), R.load1 (off := 1) (by show 1 < 3; omega), R.load1 (off := 2) (by show 2 < 3; omega), R.loadN (off := 0) (n := 3) (by show 0 + 3 ≤ 3; omega)⟩
def waS : C := (As (Ab 0 (AE (AC 28) (AD 0 (AB 6))
(AE (AC 29) (AH (AB 28))
(AE (AC 30) (AS iEq .i64 (AB 29) (kV (.int .i64 0)))
(AE (AC 27) (AF (AB 30))
(AO (AB 27)
(AE (AC 31) (AD 2 (AB 8))
(cDo (AM 1 (AB 31) (kV (.int .i64 0)))
AQ))
(AE (AC 34) (AS iGt .i64 (AB 9) (kV (.int .i64 0)))
(AE (AC 32) (AF (AB 34))
(AO (AB 32)
(BH (AE (AC 35) (AD 2 (AB 6))
(AE (AC 36) (AH (AB 35))
(AE (AC 38) (DF Int.sub .i64 (AB 9) (kV (.int .i64 1)))
(AE (AC 39) (A2 1 (AB 36) (AB 38))
(AE (AC 40) (AH (AB 39))
(AE (AC 41) (AD 1 (AB 8))
(Bi (AB 41) [(AB 35), (AB 39)]
(cDo (FI (AB 41) (AM 1 (AB 41) (kV (.int .u8 3))))
(AE (AC 42) (AD 2 (AB 8))
(cDo (Aj .free (AM 1 (AB 42) (AB 40)))
(AE (AC 43) (AD 1 (AB 2))
(AE (AC 44) (AH (AB 43))
(AE (AC 45) (AS iEq .i64 (AB 44) (kV (.int .i64 0)))
(AO (AB 45)
(AE (AC 46) (AD 1 (AB 8))
(cDo (AM 1 (AB 46) (kV (.int .u8 6)))
AQ))
AQ)))))))))))))))
(AE (AC 48) (AD 0 (AB 6))
(AE (AC 49) (AH (AB 48))
(AE (AC 50) (AS iEq .i64 (AB 49) (kV (.int .i64 2)))
(AE (AC 47) (AF (AB 50))
(AO (AB 47)
(BH (AE (AC 51) (AL 3 (AB 8))
(AE (AC 52) (AD 1 (AB 2))
(AE (AC 53) (AH (AB 52))
(AE (AC 54) (AS iGt .i64 (AB 53) (kV (.int .i64 0)))
(cG (AB 54) true (AC 56) (AD 1 (AB 6))
(cG (AB 54) true (AC 57) (AH (AB 56))
(cG (AB 54) true (AC 58) (BF (AB 57))
(AE (AC 59) (AW (AB 54) (AB 58) (kV (.bool false)))
(Bi (AB 4) [(AB 56)]
(cDo (FI (AB 4) (AM 3 (AB 4) (AB 51)))
(AE (AC 5) (AF (AB 59))
Ak))))))))))))
(AE (AC 61) (AD 0 (AB 6))
(AE (AC 62) (AH (AB 61))
(AE (AC 63) (AS iNe .i64 (AB 62) (kV (.int .i64 1)))
(AE (AC 60) (AF (AB 63))
(AO (AB 60)
(BH (CR (AB 8) (Bi (AB 8) []
(AE (AC 64) (AL 3 (AB 8))
(AE (AC 65) (AL 7 (AB 2))
(AE (AC 66) (Aj .weak (AV 32 [(AB 65)]))
(cDo (Aj .free (AM 3 (AB 4) (AB 64)))
(AE (AC 5) (AF (AB 66))
Ak))))))))
AQ)))))))))))))))))))
(AE (AC 67) (AL 3 (AB 8))
(cDo (AM 3 (AB 4) (AB 67))
(AE (AC 5) (AF (kV (.bool true)))
Ak))))
def Pi : C := (AE (AC 2) (Bd (AB 0))
(AE (AC 4) (Au 3 Dh)
(AE (AC 5) (AF (kV (.bool false)))
(AE (AC 10) (AD 4 (AB 2))
(AE (AC 11) (AH (AB 10))
(AE (AC 13) (A2 3 (AB 11) (AB 1))
(AE (AC 14) (AL 3 (AB 13))
(AE (AC 6) (Au 3 F1)
(cDo (AM 3 (AB 6) (AB 14))
(AE (AC 15) (A8 RT.zero [(0, 1, (kV (.int .u8 4))), (1, 1, (kV (.int .u8 4))), (2, 1, (kV (.int .u8 2))), (3, 1, (kV (.int .u8 1))), (4, 1, (kV (.int .u8 6)))])
(AE (AC 16) (AD 0 (AB 6))
(AE (AC 17) (AH (AB 16))
(AE (AC 18) (oAt false 5 1 (AB 15) (AB 17))
(AE (AC 7) (AF (AB 18))
(AE (AC 21) (AD 1 (AB 2))
(AE (AC 22) (AH (AB 21))
(AE (AC 23) (A8 GK.zero [(0, 1, (AB 1)), (1, 1, (AB 7)), (2, 1, (AB 22))])
(AE (AC 8) (Au 3 Dh)
(cDo (AM 3 (AB 8) (AB 23))
(AE (AC 24) (AD 2 (AB 6))
(AE (AC 25) (AH (AB 24))
(AE (AC 26) (Am (AB 25))
(AE (AC 9) (AF (AB 26))
waS)))))))))))))))))))))))
def d14 : C := Pi
theorem Gz {n : Nat} {args : List Value} {h : Hp} (hl : Nat.ble (Bk args) 320 = true) : call AK (Nat.succ n) 14 args h = Bt [.cN (AB 4) 3, .t (AB 5)] (d14 (call AK n) (Av e0 0 args) h) := by
  have hb : AK.get 14 = some b14 := by kernel_rfl
  rw [BN hb]
  have hd : b14 = ⟨[.cN (AB 4) 3, .t (AB 5)], d14⟩ := by kernel_rfl
  rw [hd, BE hl]
theorem G2 : d14 = Pi := rfl
structure WaI (h g : Hp) (S : Nat → Prop) (m : MD) (um uw us : Value) (i : Nat) (b2 b4 b6 b8 : Nat) (u : Value) (e : Env) : Prop where
  x : h.Ext g
  M : g.Md S m um uw us
  R2 : g.Row b2 0 (mendL m um uw us)
  R4 : g.Row b4 0 [.int .i64 0, .int .u8 0, .int .i64 0]
  R6 : g.Row b6 0 (markL (m.marks.getD i mm0) u)
  R8 : g.Row b8 0 (errL ((i : Int), opK (m.marks.getD i mm0).kd, m.ver))
  V : g.VS (fun b => b < h.next) u (ints .i64 (m.marks.getD i mm0).ext)
  n2 : h.next ≤ b2
  n4 : b2 < b4
  n6 : b4 < b6
  n8 : b6 < b8
  s2 : AB 2 e = pt b2
  s4 : AB 4 e = pt b4
  s6 : AB 6 e = pt b6
  s8 : AB 8 e = pt b8
  s9 : AB 9 e = .int .i64 ((m.marks.getD i mm0).ext.length : Int)
theorem RW {n : Nat} {h : Hp} (W : h.Wf) {S : Nat → Prop} {m : MD} {um uw us : Value} (M : h.Md S m um uw us) {i : Nat} (hi : i < m.marks.length) (k0 : 0 ≤ (m.marks.getD i mm0).kd) (k4 : (m.marks.getD i mm0).kd ≤ 4) :
    ∃ e1 g b2 b4 b6 b8 u, Pi (call AK n) (Av e0 0 [mendV m um uw us, .int .i64 (i : Int)]) h = waS (call AK n) e1 g ∧ WaI h g S m um uw us i b2 b4 b6 b8 u e1 := by
  obtain ⟨h1, bx, R2, x1, n1⟩ := Bw W (mendV m um uw us)
  obtain ⟨h2, al4, R4, x2, n2⟩ := Bq x1.wf (n := 3) FD rfl
  have y2 := x1.trans x2
  have R2a := R2.ext x1.wf x2
  obtain ⟨l0, l1, l2, l3, l4, l5, l6, l7⟩ := An R2a
  obtain ⟨b, u, a1, a2, a3, a4⟩ := (((M.lt W).ext W y2).marks).at hi
  obtain ⟨h3, al6, R6, x3, n3⟩ := Bq x2.wf (n := 3) Fy rfl
  have big := W.big
  obtain ⟨h4, st6, R6b, x4, n4', o4⟩ := Aw x3 R6 (Nat.le_refl _) (by omega) (CP (m.marks.getD i mm0) u) (n := 3) (off := 0) rfl (Nat.le_refl _) (HB a4.one.2.1)
  rw [A5 (by rfl)] at R6b
  have R6b : h4.Row h2.next 0 (markL (m.marks.getD i mm0) u) := R6b
  have y4 := y2.trans x4
  obtain ⟨q0, q1, q2, q3⟩ := CD R6b
  have R2b := R2a.ext x2.wf x4
  obtain ⟨m0, m1, m2, m3, m4, m5, m6, m7⟩ := An R2b
  obtain ⟨h5, al8, R8, x5, n5⟩ := Bq x4.wf (n := 3) FD rfl
  obtain ⟨h6, st8, R8b, x6, n6, o6⟩ := Aw x5 R8 (Nat.le_refl _) (by omega) (CF ((i : Int), opK (m.marks.getD i mm0).kd, m.ver)) (n := 3) (off := 0) rfl (Nat.le_refl _) rfl
  rw [A5 (by rfl)] at R8b
  have y6 := y4.trans x6
  have R6c := R6b.ext x4.wf x6
  obtain ⟨r0, r1, r2, r3⟩ := CD R6c
  have V := ((a4.ext x2.wf x4).ext x4.wf x6).mono (S' := fun b => b < h.next) fun b hb => hb.2
  have ln := V.ilen (g := h6)
  have b78 := fun (F : CallF) (e : Env) => SA (F := F) (e := e) (h := h4)
  have at5 : ∀ (F : CallF) (e : Env), AB 15 e = YR → AB 17 e = .int .i64 (m.marks.getD i mm0).kd → oAt false 5 1 (AB 15) (AB 17) F e h4 = .ok (.int .u8 (opK (m.marks.getD i mm0).kd)) h4 := fun F e e1 e2 => gj e1 e2 k0 k4
  have b34 : ∀ (F : CallF) (e : Env), AB 1 e = .int .i64 (i : Int) → AB 7 e = .int .u8 (opK (m.marks.getD i mm0).kd) → AB 22 e = .int .i64 m.ver → A8 GK.zero [(0, 1, AB 1), (1, 1, AB 7), (2, 1, AB 22)] F e h4 = .ok (CF ((i : Int), opK (m.marks.getD i mm0).kd, m.ver)) h4 := fun F e e1 e2 e3 => Rz e1 e2 e3
  have run : ∃ e1, Pi (call AK n) (Av e0 0 [mendV m um uw us, .int .i64 (i : Int)]) h = waS (call AK n) e1 h6 ∧ AB 2 e1 = pt h.next ∧ AB 4 e1 = pt h1.next ∧ AB 6 e1 = pt h2.next ∧ AB 8 e1 = pt h4.next ∧ AB 9 e1 = .int .i64 ((m.marks.getD i mm0).ext.length : Int) := by
    unfold Pi
    simp only [Ac, Af, Nat.succ_eq_add_one, Nat.zero_add, Nat.reduceAdd, Br, Ck, Bs, Cm, AG, Nat.reduceLT, Nat.reduceEqDiff, if_true, if_false, reduceIte, BM, Bz, bx, al4, AJ, AN, AP, AX, l4, BG, a1, Aa, AU, a2, al6, Ad, st6, b78, q0, at5, m1, b34, al8, st8, r2, Ai, ln]
    exact ⟨_, rfl, by simp [AG], by simp [AG], by simp [AG], by simp [AG], by simp [AG]⟩
  obtain ⟨e1, p1, p2, p4, p6, p8, p9⟩ := run
  have z2 := x2.next
  have z4 := x4.next
  exact ⟨e1, h6, h.next, h1.next, h2.next, h4.next, u, p1, { x := y6, M := M.ext W y6, R2 := R2b.ext x4.wf x6, R4 := (R4.ext x2.wf x4).ext x4.wf x6, R6 := R6c, R8 := R8b, V := V, n2 := Nat.le_refl _, n4 := by omega, n6 := by omega, n8 := by omega, s2 := p2, s4 := p4, s6 := p6, s8 := p8, s9 := p9 }⟩
theorem Dt {h g : Hp} {n : Nat} {b4 : Nat} {e : Env} {x : Int × Int × Int} {c : Bool} (R : g.Row b4 0 (errL x)) (s4 : AB 4 e = pt b4) (s5 : AB 5 e = .bool c) : Bt [.cN (AB 4) 3, .t (AB 5)] (.ret e g) = .ok (.tuple ⟨[CF x, .bool c]⟩) g := by
  rw [Ao, D1 (v := CF x) (h' := g) (by rw [s4, AU]; exact (Bm R).2.2.2), s5]
theorem N8 {n : Nat} {h : Hp} (W : h.Wf) {S : Nat → Prop} {m : MD} {um uw us : Value} (M : h.Md S m um uw us) {i : Nat} (hi : i < m.marks.length) (k0 : 0 ≤ (m.marks.getD i mm0).kd) (k4 : (m.marks.getD i mm0).kd ≤ 4) (kl : (m.marks.getD i mm0).ext.length ≤ 1000000) :
    ∃ h', call AK (n + 2) 14 [mendV m um uw us, .int .i64 (i : Int)] h = .ok (.tuple ⟨[CF (BU m i), .bool (Cq m i)]⟩) h' ∧ h.Ext h' := by
  obtain ⟨e1, g, b2, b4, b6, b8, u, p, I⟩ := RW (n := n + 1) W M hi k0 k4
  have big := W.big
  have i2 := I.n2
  have i4 := I.n4
  have i6 := I.n6
  have i8 := I.n8
  have Wg := I.x.wf
  have s2 := I.s2
  have s4 := I.s4
  have s6 := I.s6
  have s8 := I.s8
  have s9 := I.s9
  obtain ⟨l0, l1, l2, l3, l4, l5, l6, l7⟩ := An I.R2
  obtain ⟨q0, q1, q2, q3⟩ := CD I.R6
  obtain ⟨r0, r1, r2, r3⟩ := Bm I.R8
  have gm := I.x.marked
  have hkd : (m.marks.getD i mm0).kd = 0 ∨ (m.marks.getD i mm0).kd = 1 ∨ (m.marks.getD i mm0).kd = 2 ∨ (m.marks.getD i mm0).kd = 3 ∨ (m.marks.getD i mm0).kd = 4 := by omega
  have hV := I.V
  by_cases c0 : (m.marks.getD i mm0).kd = 0
  · have w1 : BU m i = ((i : Int), 4, 0) := by unfold BU; rw [if_pos c0]
    have w2 : Cq m i = true := by unfold Cq; rw [if_pos c0]
    rw [w1, w2]
    have f0 : iEq (m.marks.getD i mm0).kd 0 = true := Cu c0
    obtain ⟨g1, t1, T1, y1, z1, o1⟩ := Aw I.x I.R8 (by omega) (by omega) (.int .i64 0) (n := 1) (off := 2) rfl (by show 2 + 1 ≤ 3; omega) rfl
    have T1 : g1.Row b8 0 (errL ((i : Int), 4, 0)) := by
      have e : over (errL ((i : Int), opK (m.marks.getD i mm0).kd, m.ver)) 2 (cellsOf (.int .i64 0)) = errL ((i : Int), 4, 0) := by rw [c0]; rfl
      rw [← e]; exact T1
    obtain ⟨_, _, _, v3⟩ := Bm T1
    obtain ⟨g2, t2, T2, y2, z2, o2⟩ := Aw y1 (o1 _ _ _ (by omega) I.R4) (by omega) (by omega) (CF ((i : Int), 4, 0)) (n := 3) (off := 0) rfl (Nat.le_refl _) rfl
    rw [A5 (by rfl)] at T2
    refine ⟨g2, ?_, y2⟩
    rw [Gz rfl, G2, p]
    unfold waS
    simp only [sT, Nat.reduceLT, Nat.reduceEqDiff, if_true, if_false, reduceIte, s6, s8, s4, Nat.zero_add, AJ, AN, AP, AX, q0, AZ, AY, f0, Ad, t1, Aa, AU, v3, t2]
    exact Dt (n := n) (h := h) T2 (by simp only [AG, Nat.reduceLT, Nat.reduceEqDiff, if_true, if_false, reduceIte]; exact s4) (by simp [AG])
  · have f0 : iEq (m.marks.getD i mm0).kd 0 = false := Cj c0
    by_cases ce : (m.marks.getD i mm0).ext = []
    · have f1 : iGt ((m.marks.getD i mm0).ext.length : Int) 0 = false := DD (by rw [ce]; simp)
      have w1 : BU m i = ((i : Int), opK (m.marks.getD i mm0).kd, m.ver) := by unfold BU; rw [if_neg c0, if_pos ce]
      rw [w1]
      by_cases c2 : (m.marks.getD i mm0).kd = 2
      · have f2 : iEq (m.marks.getD i mm0).kd 2 = true := Cu c2
        have w2 : Cq m i = (decide (0 < m.ver) && !(m.marks.getD i mm0).com) := by unfold Cq; rw [if_neg c0, if_pos ce, if_pos c2]
        rw [w2]
        obtain ⟨g2, t2, T2, y2, z2, _, o2⟩ := Jl gm (I.R4.same rfl) (by omega) (by omega) (CF ((i : Int), opK (m.marks.getD i mm0).kd, m.ver)) (n := 3) (off := 0) rfl (Nat.le_refl _) rfl
        rw [A5 (by rfl)] at T2
        have r3m : loadN 3 ⟨b8, 0, none⟩ g.marked = .ok (CF ((i : Int), opK (m.marks.getD i mm0).kd, m.ver)) g.marked := (Bm (I.R8.same (h' := g.marked) rfl)).2.2.2
        have l1m : load1 ⟨b2, 1, none⟩ g.marked = .ok (.int .i64 m.ver) g.marked := (An (I.R2.same (h' := g.marked) rfl)).2.1
        have q1m : load1 ⟨b6, 1, none⟩ g.marked = .ok (.bool (m.marks.getD i mm0).com) g.marked := (CD (I.R6.same (h' := g.marked) rfl)).2.1
        refine ⟨g2, ?_, y2⟩
        rw [Gz rfl, G2, p]
        unfold waS
        by_cases cv : 0 < m.ver
        · have fv : iGt m.ver 0 = true := Ga cv
          have ck : ∀ (k : C) (F : CallF) (e : Env), AB 4 e = pt b4 → AB 56 e = .pointer (some ⟨b6, 1, none⟩) → Bi (AB 4) [AB 56] k F e g.marked = k F e g.marked := fun k F e e1 e2 => bE e1 e2 (by omega)
          rw [decide_eq_true cv]
          cases hc : (m.marks.getD i mm0).com <;> rw [hc] at q1m
          · simp only [sT, Nat.reduceLT, Nat.reduceEqDiff, if_true, if_false, reduceIte, gD, s2, s6, s8, s4, s9, Nat.zero_add, AJ, AN, AP, AX, q0, AZ, AY, f0, f1, f2, Bc, Aa, AU, r3m, l1m, fv, q1m, BP, BO, ck, t2]
            exact Dt (n := n) (h := h) T2 (by simp only [AG, Nat.reduceLT, Nat.reduceEqDiff, if_true, if_false, reduceIte]; exact s4) (by simp only [AG, Nat.reduceLT, Nat.reduceEqDiff, if_true, if_false, reduceIte]; rfl)
          · simp only [sT, Nat.reduceLT, Nat.reduceEqDiff, if_true, if_false, reduceIte, gD, s2, s6, s8, s4, s9, Nat.zero_add, AJ, AN, AP, AX, q0, AZ, AY, f0, f1, f2, Bc, Aa, AU, r3m, l1m, fv, q1m, BP, BO, ck, t2]
            exact Dt (n := n) (h := h) T2 (by simp only [AG, Nat.reduceLT, Nat.reduceEqDiff, if_true, if_false, reduceIte]; exact s4) (by simp only [AG, Nat.reduceLT, Nat.reduceEqDiff, if_true, if_false, reduceIte]; rfl)
        · have fv : iGt m.ver 0 = false := DD cv
          have ck : ∀ (k : C) (F : CallF) (e : Env), AB 4 e = pt b4 → AB 56 e = noRes → Bi (AB 4) [AB 56] k F e g.marked = k F e g.marked := fun k F e e1 e2 => U8 e1 e2
          rw [decide_eq_false cv]
          simp only [sT, Nat.reduceLT, Nat.reduceEqDiff, if_true, if_false, reduceIte, gD, s2, s6, s8, s4, s9, Nat.zero_add, AJ, AN, AP, AX, q0, AZ, AY, f0, f1, f2, Bc, Aa, AU, r3m, l1m, fv, ck, t2]
          exact Dt (n := n) (h := h) T2 (by simp only [AG, Nat.reduceLT, Nat.reduceEqDiff, if_true, if_false, reduceIte]; exact s4) (by simp only [AG, Nat.reduceLT, Nat.reduceEqDiff, if_true, if_false, reduceIte]; rfl)
      · have f2 : iEq (m.marks.getD i mm0).kd 2 = false := Cj c2
        by_cases c1 : (m.marks.getD i mm0).kd = 1
        · have f3 : iNe (m.marks.getD i mm0).kd 1 = false := Dv c1
          have w2 : Cq m i = true := by unfold Cq; rw [if_neg c0, if_pos ce, if_neg c2, if_pos c1]
          rw [w2]
          obtain ⟨g2, t2, T2, y2, z2, o2⟩ := Aw I.x I.R4 (by omega) (by omega) (CF ((i : Int), opK (m.marks.getD i mm0).kd, m.ver)) (n := 3) (off := 0) rfl (Nat.le_refl _) rfl
          rw [A5 (by rfl)] at T2
          refine ⟨g2, ?_, y2⟩
          rw [Gz rfl, G2, p]
          unfold waS
          simp only [sT, Nat.reduceLT, Nat.reduceEqDiff, if_true, if_false, reduceIte, gD, s2, s6, s8, s4, s9, Nat.zero_add, AJ, AN, AP, AX, q0, AZ, AY, f0, f1, f2, f3, Aa, AU, r3, Ad, t2]
          exact Dt (n := n) (h := h) T2 (by simp only [AG, Nat.reduceLT, Nat.reduceEqDiff, if_true, if_false, reduceIte]; exact s4) (by simp [AG])
        · have f3 : iNe (m.marks.getD i mm0).kd 1 = true := F4 c1
          have w2 : Cq m i = decide (m.need ≤ (m.which.length : Int)) := by unfold Cq; rw [if_neg c0, if_pos ce, if_neg c2, if_neg c1]
          rw [w2]
          obtain ⟨gq, kq, xq⟩ := G4 (n := n) gm.quiet.wf (I.M.same (h' := g.marked.quiet) rfl)
          have q : ∀ (F : CallF) (e : Env), F = call AK (n + 1) → AB 65 e = mendV m um uw us → Aj .weak (AV 32 [AB 65]) F e g.marked = .ok (.bool (decide (m.need ≤ (m.which.length : Int)))) (g.marked.back gq) := fun F e hF h1 => by
            subst hF
            refine Qz ?_ xq (Nat.le_refl _)
            rw [Ae, Al, h1]; exact kq
          have yq : h.Ext (g.marked.back gq) := gm.back2 (gm.quiet.trans xq)
          have gb : g.marked.Ext (g.marked.back gq) := Hp.Ext.back xq
          obtain ⟨g2, t2, T2, y2, z2, _, o2⟩ := Df yq ((I.R4.same (h' := g.marked) rfl).ext gm.wf gb) (by omega) (by omega) (CF ((i : Int), opK (m.marks.getD i mm0).kd, m.ver)) (n := 3) (off := 0) rfl (Nat.le_refl _) rfl
          rw [A5 (by rfl)] at T2
          have r3m : loadN 3 ⟨b8, 0, none⟩ g.marked = .ok (CF ((i : Int), opK (m.marks.getD i mm0).kd, m.ver)) g.marked := (Bm (I.R8.same (h' := g.marked) rfl)).2.2.2
          have l7m : loadN 7 ⟨b2, 0, none⟩ g.marked = .ok (mendV m um uw us) g.marked := (An (I.R2.same (h' := g.marked) rfl)).2.2.2.2.2.2.2
          have h8 : b8 < g.marked.mark := I.R8.lt Wg
          refine ⟨g2, ?_, y2⟩
          rw [Gz rfl, G2, p]
          unfold waS
          simp only [sT, Nat.reduceLT, Nat.reduceEqDiff, if_true, if_false, reduceIte, gD, s2, s6, s8, s4, s9, Nat.zero_add, AJ, AN, AP, AX, q0, AZ, AY, f0, f1, f2, f3, Bc, Fh, Dp h8, Eg, Aa, AU, r3m, l7m, q, t2]
          exact Dt (n := n) (h := h) T2 (by simp only [AG, Nat.reduceLT, Nat.reduceEqDiff, if_true, if_false, reduceIte]; exact s4) (by simp [AG])
    · have hpos : 0 < (m.marks.getD i mm0).ext.length := List.length_pos_iff.2 ce
      have f1 : iGt ((m.marks.getD i mm0).ext.length : Int) 0 = true := Ga (by omega)
      have w2 : Cq m i = true := by unfold Cq; rw [if_neg c0, if_neg ce]
      have w1 : BU m i = ((i : Int), if m.ver = 0 then 6 else 3, FS (m.marks.getD i mm0).ext) := by unfold BU; rw [if_neg c0, if_neg ce]
      rw [w1, w2]
      have ar : Lu Int.sub .i64 (.int .i64 ((m.marks.getD i mm0).ext.length : Int)) (.int .i64 1) g.marked = .ok (.int .i64 (((m.marks.getD i mm0).ext.length - 1 : Nat) : Int)) g.marked := by
        have : Int.sub ((m.marks.getD i mm0).ext.length : Int) 1 = (((m.marks.getD i mm0).ext.length - 1 : Nat) : Int) := by show ((m.marks.getD i mm0).ext.length : Int) - 1 = _; omega
        rw [He, this, Cg (by omega)]
      have q2m : load1 ⟨b6, 2, none⟩ g.marked = .ok u g.marked := (CD (I.R6.same (h' := g.marked) rfl)).2.2.1
      have Vm : g.marked.VS (fun b => b < h.next) u (ints .i64 (m.marks.getD i mm0).ext) := hV.same rfl
      obtain ⟨ab, aj, x1, x2, x3⟩ := Vm.int (i := (m.marks.getD i mm0).ext.length - 1) (by omega)
      have x3 : ab < h.next := x3
      have x2 : load1 ⟨ab, aj, none⟩ g.marked = .ok (.int .i64 (FS (m.marks.getD i mm0).ext)) g.marked := x2
      have lnm := Vm.ilen (g := g.marked)
      have ck : ∀ (k : C) (F : CallF) (e : Env), AB 41 e = .pointer (some ⟨b8, 1, none⟩) → AB 35 e = .pointer (some ⟨b6, 2, none⟩) → AB 39 e = .pointer (some ⟨ab, aj, none⟩) → Bi (AB 41) [AB 35, AB 39] k F e g.marked = k F e g.marked := fun k F e e1 e2 e3 => bF e1 e2 e3 (by omega) (by omega)
      obtain ⟨g1, t1, T1, y1, z1, _, o1⟩ := Jl gm (I.R8.same (h' := g.marked) rfl) (by omega) (by omega) (.int .u8 3) (n := 1) (off := 1) rfl (by show 1 + 1 ≤ 3; omega) rfl
      obtain ⟨g2, t2, T2, y2, z2, _, o2⟩ := Df y1 T1 (by omega) (by omega) (.int .i64 (FS (m.marks.getD i mm0).ext)) (n := 1) (off := 2) rfl (by rw [ER (by show 1 + 1 ≤ 3; omega)]; show 2 + 1 ≤ 3; omega) rfl
      have T2 : g2.Row b8 0 (errL ((i : Int), 3, FS (m.marks.getD i mm0).ext)) := T2
      have l1' : load1 ⟨b2, 1, none⟩ g2 = .ok (.int .i64 m.ver) g2 := (An (o2 _ _ _ (by omega) (o1 _ _ _ (by omega) (I.R2.same (h' := g.marked) rfl)))).2.1
      have R4' := o2 _ _ _ (by omega) (o1 _ _ _ (by omega) (I.R4.same (h' := g.marked) rfl))
      by_cases cv : m.ver = 0
      · have fv : iEq m.ver 0 = true := Cu cv
        rw [if_pos cv]
        obtain ⟨g3, t3, T3, y3, z3, o3⟩ := Aw y2 T2 (by omega) (by omega) (.int .u8 6) (n := 1) (off := 1) rfl (by show 1 + 1 ≤ 3; omega) rfl
        have T3 : g3.Row b8 0 (errL ((i : Int), 6, FS (m.marks.getD i mm0).ext)) := T3
        obtain ⟨_, _, _, v3⟩ := Bm T3
        obtain ⟨g4, t4, T4, y4, z4, o4⟩ := Aw y3 (o3 _ _ _ (by omega) R4') (by omega) (by omega) (CF ((i : Int), 6, FS (m.marks.getD i mm0).ext)) (n := 3) (off := 0) rfl (Nat.le_refl _) rfl
        rw [A5 (by rfl)] at T4
        refine ⟨g4, ?_, y4⟩
        rw [Gz rfl, G2, p]
        unfold waS
        simp only [sT, Nat.reduceLT, Nat.reduceEqDiff, if_true, if_false, reduceIte, gD, s2, s6, s8, s4, s9, Nat.zero_add, AJ, AN, AP, AX, q0, AZ, AY, f0, f1, Bc, q2m, E3, ar, BG, x1, x2, ck, t1, t2, l1', fv, Ad, t3, Aa, AU, v3, t4]
        exact Dt (n := n) (h := h) T4 (by simp only [AG, Nat.reduceLT, Nat.reduceEqDiff, if_true, if_false, reduceIte]; exact s4) (by simp [AG])
      · have fv : iEq m.ver 0 = false := Cj cv
        rw [if_neg cv]
        obtain ⟨_, _, _, v3⟩ := Bm T2
        obtain ⟨g4, t4, T4, y4, z4, o4⟩ := Aw y2 R4' (by omega) (by omega) (CF ((i : Int), 3, FS (m.marks.getD i mm0).ext)) (n := 3) (off := 0) rfl (Nat.le_refl _) rfl
        rw [A5 (by rfl)] at T4
        refine ⟨g4, ?_, y4⟩
        rw [Gz rfl, G2, p]
        unfold waS
        simp only [sT, Nat.reduceLT, Nat.reduceEqDiff, if_true, if_false, reduceIte, gD, s2, s6, s8, s4, s9, Nat.zero_add, AJ, AN, AP, AX, q0, AZ, AY, f0, f1, Bc, q2m, E3, ar, BG, x1, x2, ck, t1, t2, l1', fv, Aa, AU, v3, Ad, t4]
        exact Dt (n := n) (h := h) T4 (by simp only [AG, Nat.reduceLT, Nat.reduceEqDiff, if_true, if_false, reduceIte]; exact s4) (by simp [AG])
end
end Go.Proofs.Ythcfmklkbakkpaa
set_option linter.unusedVariables false
set_option linter.unusedSimpArgs false
namespace Go.Proofs.Ythcfmklkbakkpaa
noncomputable section
open Go Go.RowKit Go.ChangeShapes
set_option maxRecDepth 100000
section
variable {h0 h : Hp} {u : Value} {es eb en : Nat} {cs vs : List Value}
theorem J6 (x0 : h0.Ext h) (hs : ∀ k : List Value → R, BL h es u 1 k = k vs) (hlv : lenV u = .ok 1) (hv : vs.length = es) (ha : Bj vs = true) (hm : 2 * (eb + 1) ≤ 70368744177664) :
    ∃ h', FK es eb en A6 u h = .ok (.slice (some ⟨h.next, 0, none⟩) 1 1) h' ∧ h0.Ext h' ∧ h'.Row h.next (en + 1) vs ∧ h'.next = h.next + 1 ∧ (h'.mark = h.mark ∧ h'.low = h.low ∧ h'.high = h.high) ∧ h.Ext h' := by
  have W := x0.wf
  obtain ⟨t1, t2⟩ := HH vs
  refine ⟨h.push (.cells (ofL vs) vs.length (en + 1)), ?_, x0.push _, ⟨ofL vs, by rw [W.push_get, if_pos rfl], t2⟩, rfl, ⟨rfl, rfl, rfl⟩, (Hp.Ext.refl W).push _⟩
  unfold FK Eu
  simp only [hlv, hs, A0, Nat.add_eq, Nat.zero_add]
  have e1 : Nat.ble 1 0 = false := rfl
  have e2 : Nat.ble (Nat.mul (Nat.succ 1) (Nat.succ eb)) J5 = true := Az.2 hm
  simp only [e1, e2, cond_true, ha]
  unfold IJ BL IK
  simp only [List.nil_append, t1]
  unfold FG
  simp only [Bf]
  unfold CU
  rw [A0, Em W]; rfl
theorem IL {n b : Nat} (x0 : h0.Ext h) (hs : ∀ k : List Value → R, BL h es u 1 k = k vs) (hlv : lenV u = .ok 1) (hv : vs.length = es) (hes : 0 < es) (ha : Bj vs = true) (r : h.Row b (en + 1) cs) (hlen : cs.length = n * es) (hb : h0.next ≤ b) (hb2 : 256 ≤ b) (hm : (n + 2) * (eb + 1) ≤ 70368744177664) :
    ∃ h', FK es eb en (.slice (some ⟨b, 0, none⟩) n n) u h = .ok (.slice (some ⟨h.next, 0, none⟩) (n + 1) (n + 1)) h' ∧ h0.Ext h' ∧ h'.Row h.next (en + 1) (cs ++ vs) ∧ h'.next = h.next + 1 ∧ (h'.mark = h.mark ∧ h'.low = CQ h.low b ∧ h'.high = DK h.high b) ∧ ∀ b' el L, b' ≠ b → h.Row b' el L → h'.Row b' el L := by
  have W := x0.wf
  obtain ⟨cc, hcc, hl⟩ := r.rowOf
  obtain ⟨t, h2, h3⟩ := Ep vs cc cs cs.length hl (.inr rfl)
  have h3 : t.Is (cs ++ vs) := by
    have e : cs.drop (cs.length + vs.length) = [] := List.drop_of_length_le (by omega)
    rw [e] at h3
    simpa using h3
  have hlen2 : (cs ++ vs).length = cs.length + vs.length := List.length_append
  have hlt := r.lt W
  have W1 : (h.put b .dead).Wf := W.put hlt _
  have x2 : h0.Ext (h.put b .dead) := x0.put hb hlt _
  refine ⟨(h.put b .dead).push (.cells t (cs.length + vs.length) (en + 1)), ?_, x2.push _, ⟨t, by
    have := W1.push_get (.cells t (cs.length + vs.length) (en + 1)) h.next
    rw [this, if_pos (show h.next = (h.put b .dead).next from rfl), hlen2], h3⟩, rfl, ⟨rfl, rfl, rfl⟩, fun b' el' L' hne r' => ?_⟩
  · unfold FK Eu
    simp only [hlv, hs, A0, Nat.add_eq]
    have e1 : Nat.ble (n + 1) n = false := by
      cases e : Nat.ble (n + 1) n
      · rfl
      · have := Az.1 e; omega
    have e2 : Nat.ble (Nat.mul (Nat.succ (n + 1)) (Nat.succ eb)) J5 = true := Az.2 hm
    rw [e1]
    simp only [e2, cond_true, ha]
    unfold IJ
    have e3 : Nat.beq cs.length (Nat.mul n es) = true := A1.2 hlen
    simp only [hcc, e3, h2]
    unfold FG
    have e4 : NH 0 n es cs.length = true := by
      unfold NH
      cases n with
      | zero => rfl
      | succ m => exact A1.2 (by show 0 + (m + 1) * es = cs.length; omega)
    simp only [hcc, Bf, Nat.add_eq, Nat.beq_refl, cond_true, e4]
    rw [Ja W hb2 hlt]
    unfold CU
    rw [A0, Em W1]; rfl
  · have hb' : b' < h.next := r'.lt W
    obtain ⟨c', hc', hl'⟩ := r'
    refine ⟨c', ?_, hl'⟩
    rw [W1.push_get, if_neg (by show b' ≠ h.next; omega), W.put_get hlt, if_neg hne, hc']
end
theorem SB {F : CallF} {e : Env} {h : Hp} (W : h.Wf) {g : O} {x : Int × Int × Int} (hv : g e = CF x) : Ar 1 (BI GK.zero 1) [(0, 3, g)] F e h = .ok (.slice (some ⟨h.next, 0, none⟩) 1 1) (h.pushRow 0 (errL x)) := by
  have hz : BI GK.zero 1 = [.int .i64 0, .int .u8 0, .int .i64 0] := by kernel_rfl
  have hc : cellsOf (CF x) = errL x := rfl
  rw [hz, DM, Bo (hk := by rw [hv]; rfl), hv, hc, if_pos (show (errL x).length = 3 from rfl), if_pos (show 0 + 3 ≤ [Value.int .i64 0, .int .u8 0, .int .i64 0].length from Nat.le_refl _), Cr, D3 W]; rfl
def GY (l : List (Int × Int × Int)) : List Value := l.flatMap errL
theorem G5 : ∀ l, (GY l).length = l.length * 3
  | [] => rfl
  | x :: l => by
    show (errL x ++ GY l).length = _
    rw [List.length_append, G5 l, List.length_cons]
    show 3 + _ = _; omega
theorem IH : ∀ {l : List (Int × Int × Int)} {i : Nat}, i < l.length → (GY l).drop (i * 3) = errL (l.getD i (0, 0, 0)) ++ GY (l.drop (i + 1))
  | [], _, hi => absurd hi (Nat.not_lt_zero _)
  | x :: l, 0, hi => rfl
  | x :: l, i + 1, hi => by
    have e : (i + 1) * 3 = i * 3 + 3 := by omega
    rw [e]
    show (GY l).drop (i * 3) = _
    rw [IH (l := l) (i := i) (by simpa using hi)]; rfl
def Hp.Errs (h : Hp) (k : Nat) (v : Value) (l : List (Int × Int × Int)) : Prop := (v = A6 ∧ l = []) ∨ ∃ b, v = .slice (some ⟨b, 0, none⟩) l.length l.length ∧ h.Row b 35 (GY l) ∧ k ≤ b
section
variable {h h' : Hp} {k : Nat} {v : Value} {l : List (Int × Int × Int)}
theorem Hp.Errs.ext (o : h.Errs k v l) (W : h.Wf) (x : h.Ext h') : h'.Errs k v l := by
  rcases o with h1 | ⟨b, h1, h2, h3⟩
  · exact .inl h1
  · exact .inr ⟨b, h1, h2.ext W x, h3⟩
theorem Hp.Errs.keep (o : h.Errs k v l) (hk : ∀ b el L, k ≤ b → el = 35 → h.Row b el L → h'.Row b el L) : h'.Errs k v l := by
  rcases o with h1 | ⟨b, h1, h2, h3⟩
  · exact .inl h1
  · exact .inr ⟨b, h1, hk _ _ _ h3 rfl h2, h3⟩
theorem Hp.Errs.len (o : h.Errs k v l) {g : Hp} : lenSR v g = .ok (.int .i64 (l.length : Int)) g := by
  rcases o with ⟨rfl, rfl⟩ | ⟨b, rfl, _⟩ <;> exact B1
theorem Hp.Errs.at (o : h.Errs k v l) {i : Nat} (hi : i < l.length) : ∃ b, Cv 3 v (.int .i64 (i : Int)) h = .ok (.pointer (some ⟨b, i * 3, none⟩)) h ∧ loadN 3 ⟨b, i * 3, none⟩ h = .ok (CF (l.getD i (0, 0, 0))) h := by
  rcases o with ⟨rfl, rfl⟩ | ⟨b, rfl, r, _⟩
  · cases hi
  · have hl := G5 l
    refine ⟨b, ?_, ?_⟩
    · have := B6 (h := h) (n := l.length) (c := l.length) (es := 3) (b := b) (off := 0) (k := .i64) hi
      rwa [Nat.zero_add] at this
    · rw [r.loadN (by omega), IH hi]; rfl
end
def DR (m : MD) (k : Nat) : List (Int × Int × Int) := (List.range k).filterMap fun i => if Cq m i then some (BU m i) else none
def Bp (m : MD) : List (Int × Int × Int) := if m.ph = 1 then DR m m.marks.length else []
theorem Fc (m : MD) (k : Nat) : DR m (k + 1) = DR m k ++ if Cq m k then [BU m k] else [] := by
  unfold DR
  rw [List.range_succ, List.filterMap_append]
  congr 1
  cases hb : Cq m k <;> simp [List.filterMap_cons, hb]
theorem FB (m : MD) : ∀ k, (DR m k).length ≤ k
  | 0 => Nat.le_refl _
  | k + 1 => by
    have := FB m k
    rw [Fc, List.length_append]
    split
    · show _ + 1 ≤ _; omega
    · show _ + 0 ≤ _; omega
def wsB : C := (AE (AC 19) (AS iLt .i64 (AB 18) (AB 17))
(AO (AB 19)
(As (Ab 1 (AE (AC 4) (AF (AB 18))
(AE (AC 22) (AL 7 (AB 1))
(AE (AC 24) (AV 14 [(AB 22), (AB 4)])
(AE (AC 25) (Ah 0 (AB 24))
(AE (AC 26) (Ah 1 (AB 24))
(AE (AC 5) (Au 3 Dh)
(cDo (AM 3 (AB 5) (AB 25))
(AE (AC 6) (AF (AB 26))
(AO (AB 6)
(AE (AC 29) (AL 3 (AB 5))
(AE (AC 30) (Ar 1 (BI GK.zero 1) [(0, 3, (AB 29))])
(AE (AC 31) (Bb 3 24 34 (AB 3) (AB 30))
(AE (AC 3) (AF (AB 31))
AQ))))
AQ))))))))))
(AE (AC 32) (A9 .i64 (At .i64) (AB 18) (kV (.int .i64 1)))
(AE (AC 18) (AF (AB 32))
AQ)))
(A3 0)))
def wsE : C := (AE (AC 2) (AF (AB 3))
Ak)
def wsS : C := (As (Ab 0 (Ay (AE (AC 19) (AS iLt .i64 (AB 18) (AB 17))
(AO (AB 19)
(As (Ab 1 (AE (AC 4) (AF (AB 18))
(AE (AC 22) (AL 7 (AB 1))
(AE (AC 24) (AV 14 [(AB 22), (AB 4)])
(AE (AC 25) (Ah 0 (AB 24))
(AE (AC 26) (Ah 1 (AB 24))
(AE (AC 5) (Au 3 Dh)
(cDo (AM 3 (AB 5) (AB 25))
(AE (AC 6) (AF (AB 26))
(AO (AB 6)
(AE (AC 29) (AL 3 (AB 5))
(AE (AC 30) (Ar 1 (BI GK.zero 1) [(0, 3, (AB 29))])
(AE (AC 31) (Bb 3 24 34 (AB 3) (AB 30))
(AE (AC 3) (AF (AB 31))
AQ))))
AQ))))))))))
(AE (AC 32) (A9 .i64 (At .i64) (AB 18) (kV (.int .i64 1)))
(AE (AC 18) (AF (AB 32))
AQ)))
(A3 0)))))
(AE (AC 2) (AF (AB 3))
Ak))
theorem ZG : wsS = As (Ab 0 (Ay wsB)) wsE := rfl
def d7h : C := (AE (AC 1) (Bd (AB 0))
(AE (AC 2) (AF (kV (.slice none 0 0)))
(AE (AC 7) (AL 7 (AB 1))
(AE (AC 8) (AV 12 [(AB 7)])
(AE (AC 9) (BF (AB 8))
(cG (AB 9) false (AC 11) (AD 3 (AB 1))
(cG (AB 9) false (AC 12) (AH (AB 11))
(cG (AB 9) false (AC 13) (AS iNe .i64 (AB 12) (kV (.int .i64 1)))
(AE (AC 14) (AW (AB 9) (kV (.bool true)) (AB 13))
(AO (AB 14)
(AE (AC 2) (AF (kV (.slice none 0 0)))
Ak)
(AE (AC 3) (AF (kV (.slice none 0 0)))
(AE (AC 15) (AD 4 (AB 1))
(AE (AC 16) (AH (AB 15))
(AE (AC 17) (Am (AB 16))
(AE (AC 18) (AF (kV (.int .i64 0)))
wsS)))))))))))))))
theorem VB : d7 = d7h := rfl
theorem Uu {n : Nat} {h : Hp} (W : h.Wf) {S : Nat → Prop} {m : MD} {um uw us : Value} {r : Nat} (R : h.Row r 0 (mendL m um uw us)) (M : h.Md S m um uw us) (hr : RightP m) {e : Env} (s1 : AB 1 e = pt r) (s3 : AB 3 e = A6) (s17 : AB 17 e = .int .i64 (m.marks.length : Int)) (s18 : AB 18 e = .int .i64 ((0 : Nat) : Int)) :
    ∃ e' h' v, Ay wsB (call AK (n + 2)) e h = .exit 0 e' h' ∧ h.Ext h' ∧ AB 3 e' = v ∧ h'.Errs h.next v (DR m m.marks.length) := by
  have hn1 := hr.n1
  refine B8 (I := fun i e' h' => h.Ext h' ∧ AB 1 e' = pt r ∧ AB 17 e' = .int .i64 (m.marks.length : Int) ∧ AB 18 e' = .int .i64 (i : Int) ∧ i ≤ m.marks.length ∧ ∃ v, AB 3 e' = v ∧ h'.Errs h.next v (DR m i))
    (Q := fun x => ∃ e' h' v, x = .exit 0 e' h' ∧ h.Ext h' ∧ AB 3 e' = v ∧ h'.Errs h.next v (DR m m.marks.length)) m.marks.length (by omega) (fun i e' h' ⟨x, t1, t17, t18, hi, v, t3, O⟩ => ?_) ⟨.refl W, s1, s17, s18, Nat.zero_le _, A6, s3, .inl ⟨rfl, rfl⟩⟩
  by_cases hlt : i < m.marks.length
  · left
    have c1 := GC hlt
    have hm := hr.marks i hlt
    obtain ⟨l0, l1, l2, l3, l4, l5, l6, l7⟩ := An (R.ext W x)
    obtain ⟨h1, k1, x1⟩ := N8 (n := n) x.wf (M.ext W x) hlt hm.lo hm.hi (by have := hm.few; omega)
    obtain ⟨h2, al, Z, x2, n2⟩ := Bq x1.wf (n := 3) FD rfl
    have big := W.big
    have z0 := x.next
    have z1 := x1.next
    obtain ⟨h3, st, Z3, x3, n3, o3⟩ := Aw x2 Z (Nat.le_refl _) (by omega) (CF (BU m i)) (n := 3) (off := 0) rfl (Nat.le_refl _) rfl
    rw [A5 (by rfl)] at Z3
    obtain ⟨_, _, _, v3⟩ := Bm Z3
    have y3 : h'.Ext h3 := x1.trans x3
    cases hb : Cq m i
    · rw [hb] at k1
      have ad := CY (h := h3) (i := i) (by omega)
      have hrun : ∃ e2, wsB (call AK (n + 2)) e' h' = .norm e2 h3 ∧ AB 1 e2 = pt r ∧ AB 17 e2 = .int .i64 (m.marks.length : Int) ∧ AB 18 e2 = .int .i64 ((i + 1 : Nat) : Int) ∧ AB 3 e2 = v := by
        unfold wsB
        simp only [sT, Nat.reduceLT, Nat.reduceEqDiff, if_true, if_false, reduceIte, AZ, AY, t18, t17, c1, Aa, t1, AU, l7, Ap, Ae, Al, k1, B9, CJ, CL, al, Ad, st, Bl, ad]
        exact ⟨_, rfl, by simp only [AG, Nat.reduceLT, Nat.reduceEqDiff, if_true, if_false, reduceIte]; exact t1, by simp only [AG, Nat.reduceLT, Nat.reduceEqDiff, if_true, if_false, reduceIte]; exact t17, by simp [AG], by simp only [AG, Nat.reduceLT, Nat.reduceEqDiff, if_true, if_false, reduceIte]; exact t3⟩
      obtain ⟨e2, p1, p2, p3, p4, p5⟩ := hrun
      refine ⟨hlt, e2, h3, p1, x.trans y3, p2, p3, p4, hlt, v, p5, ?_⟩
      rw [Fc, hb]
      show h3.Errs h.next v (DR m i ++ [])
      rw [List.append_nil]
      exact O.ext x.wf y3
    · rw [hb] at k1
      have bs : ∀ (F : CallF) (e : Env), AB 29 e = CF (BU m i) → Ar 1 (BI GK.zero 1) [(0, 3, AB 29)] F e h3 = .ok (.slice (some ⟨h3.next, 0, none⟩) 1 1) (h3.pushRow 0 (errL (BU m i))) := fun F e he => SB y3.wf he
      have R4 := Hp.Row.new y3.wf 0 (errL (BU m i))
      have x4 := (Hp.Ext.refl y3.wf).pushRow 0 (errL (BU m i))
      have n4 : (h3.pushRow 0 (errL (BU m i))).next = h3.next + 1 := rfl
      generalize h3.pushRow 0 (errL (BU m i)) = h4 at bs R4 x4 n4
      have y4 : h'.Ext h4 := y3.trans x4
      have w4 : h.Ext h4 := x.trans y4
      have hs : ∀ k, BL h4 3 (.slice (some ⟨h3.next, 0, none⟩) 1 1) 1 k = k (errL (BU m i)) := fun k => R4.srcE (es := 3) (off := 0) (n := 1) (by show 0 + 1 * 3 ≤ 3; omega)
      have wl := FB m i
      have z3 := x3.next
      have ap : ∃ h5 v5, FK 3 24 34 v (.slice (some ⟨h3.next, 0, none⟩) 1 1) h4 = .ok v5 h5 ∧ h.Ext h5 ∧ h5.Errs h.next v5 (DR m i ++ [BU m i]) := by
        rcases O.ext x.wf y4 with ⟨rfl, hw⟩ | ⟨b, hv, r5, hb5⟩
        · obtain ⟨h5, a1, a2, a3, a4, a5, a6⟩ := J6 (eb := 24) (en := 34) w4 hs rfl rfl rfl (by omega)
          rw [hw]
          exact ⟨h5, _, a1, a2, .inr ⟨h4.next, rfl, a3, by omega⟩⟩
        · obtain ⟨h5, a1, a2, a3, a4, a5, a6⟩ := IL (eb := 24) (en := 34) w4 hs rfl rfl (by omega) rfl r5 (G5 _) hb5 (by omega) (by omega)
          refine ⟨h5, _, by rw [hv]; exact a1, a2, .inr ⟨h4.next, by rw [List.length_append]; rfl, ?_, by omega⟩⟩
          have : GY (DR m i ++ [BU m i]) = GY (DR m i) ++ errL (BU m i) := by
            unfold GY
            rw [List.flatMap_append]; simp [errL]
          rw [this]; exact a3
      obtain ⟨h5, v5, a1, a2, a3⟩ := ap
      have ad := CY (h := h5) (i := i) (by omega)
      have hrun : ∃ e2, wsB (call AK (n + 2)) e' h' = .norm e2 h5 ∧ AB 1 e2 = pt r ∧ AB 17 e2 = .int .i64 (m.marks.length : Int) ∧ AB 18 e2 = .int .i64 ((i + 1 : Nat) : Int) ∧ AB 3 e2 = v5 := by
        unfold wsB
        simp only [sT, Nat.reduceLT, Nat.reduceEqDiff, if_true, if_false, reduceIte, AZ, AY, t18, t17, c1, Aa, t1, AU, l7, Ap, Ae, Al, k1, B9, CJ, CL, al, Ad, st, v3, bs, CC, t3, a1, Bl, ad]
        exact ⟨_, rfl, by simp only [AG, Nat.reduceLT, Nat.reduceEqDiff, if_true, if_false, reduceIte]; exact t1, by simp only [AG, Nat.reduceLT, Nat.reduceEqDiff, if_true, if_false, reduceIte]; exact t17, by simp [AG], by simp [AG]⟩
      obtain ⟨e2, p1, p2, p3, p4, p5⟩ := hrun
      refine ⟨hlt, e2, h5, p1, a2, p2, p3, p4, hlt, v5, p5, ?_⟩
      rw [Fc, hb]; exact a3
  · right
    have c1 := EP (a := i) (b := m.marks.length) (by omega)
    obtain rfl : i = m.marks.length := by omega
    have hrun : ∃ e2, wsB (call AK (n + 2)) e' h' = .exit 0 e2 h' ∧ AB 3 e2 = v := by
      unfold wsB
      simp only [sT, Nat.reduceLT, Nat.reduceEqDiff, if_true, if_false, reduceIte, AZ, AY, t18, t17, c1]
      exact ⟨_, rfl, by simp only [AG, Nat.reduceLT, Nat.reduceEqDiff, if_true, if_false, reduceIte]; exact t3⟩
    obtain ⟨e2, q1, q2⟩ := hrun
    rw [q1]
    exact ⟨rfl, e2, h', v, rfl, x, q2, O⟩
theorem Lq {n : Nat} {h : Hp} (W : h.Wf) {S : Nat → Prop} {m : MD} {um uw us : Value} (M : h.Md S m um uw us) (hr : RightP m) : ∃ h' v, call AK (n + 5) 7 [mendV m um uw us] h = .ok v h' ∧ h.Ext h' ∧ h'.Errs h.next v (Bp m) := by
  obtain ⟨h1, bx, R, x1, n1⟩ := Bw W (mendV m um uw us)
  obtain ⟨l0, l1, l2, l3, l4, l5, l6, l7⟩ := An R
  have M1 := M.ext W x1
  obtain ⟨h2, k1, x2⟩ := Gk (n := n) x1.wf M1 hr
  have R2 := R.ext x1.wf x2
  have M2 := M1.ext x1.wf x2
  obtain ⟨a0, a1, a2, a3, a4, a5, a6, a7⟩ := An R2
  by_cases hp : m.ph = 1
  · have f1 : iNe m.ph 1 = false := Dv hp
    have ln := M2.marks.len (g := h2)
    have pre : ∃ e1, d7h (call AK (n + 4)) (Av e0 0 [mendV m um uw us]) h = wsS (call AK (n + 4)) e1 h2 ∧ AB 1 e1 = pt h.next ∧ AB 3 e1 = A6 ∧ AB 17 e1 = .int .i64 (m.marks.length : Int) ∧ AB 18 e1 = .int .i64 ((0 : Nat) : Int) := by
      unfold d7h
      simp only [Ac, Af, Nat.succ_eq_add_one, Nat.zero_add, Nat.reduceAdd, Br, Bh, Bs, Ba, AG, Nat.reduceLT, Nat.reduceEqDiff, if_true, if_false, reduceIte, gD, BM, Bz, bx, Aa, AU, l7, Ap, Ae, Al, k1, BP, BO, Bool.not_true, AJ, AN, AP, AX, a3, AZ, AY, f1, a4, Ai, ln]
      exact ⟨_, rfl, by simp [AG], by simp [AG], by simp [AG], by simp only [AG, Nat.reduceLT, Nat.reduceEqDiff, if_true, if_false, reduceIte]; rfl⟩
    obtain ⟨e1, p1, p2, p3, p4, p5⟩ := pre
    obtain ⟨e2, h3, v, q1, x3, q2, q3⟩ := Uu (n := n + 2) x2.wf R2 M2 hr p2 p3 p4 p5
    have z1 := x1.next
    have z2 := x2.next
    refine ⟨h3, v, ?_, (x1.trans x2).trans x3, ?_⟩
    · rw [U6 rfl, VB, p1, ZG]
      simp only [Be, BQ, q1, BJ, BB]
      unfold wsE
      simp only [sT, Nat.reduceLT, Nat.reduceEqDiff, if_true, if_false, reduceIte, q2, Ao, Ax]
    · unfold Bp
      rw [if_pos hp]
      rcases q3 with q3 | ⟨b, q4, q5, q6⟩
      · exact .inl q3
      · exact .inr ⟨b, q4, q5, by omega⟩
  · have f1 : iNe m.ph 1 = true := F4 hp
    refine ⟨h2, A6, ?_, x1.trans x2, .inl ⟨rfl, by unfold Bp; rw [if_neg hp]⟩⟩
    rw [U6 rfl, VB]
    unfold d7h
    simp only [Ac, Af, Nat.succ_eq_add_one, Nat.zero_add, Nat.reduceAdd, sT, Nat.reduceLT, Nat.reduceEqDiff, if_true, if_false, reduceIte, gD, bx, Aa, AU, l7, Ap, Ae, Al, k1, BP, BO, Bool.not_true, AJ, AN, AP, AX, a3, AZ, AY, f1, Ao, Ax]
structure TE where
  life : Int
  seq : Int
  op : Int
  err : Int
  room : Int
def tellL (t : TE) (ui ub : Value) : List Value := [.int .i64 t.life, .int .i64 t.seq, .int .u8 t.op, .int .i64 t.err, ui, ub, .int .i64 t.room]
def Dx (t : TE) (ui ub : Value) : Value := .agg ⟨tellL t ui ub⟩
structure OP where
  idx : Int
  late : Bool
  lost : Bool
  er : Int × Int × Int
  t : TE
def opL (o : OP) (ui ub : Value) : List Value := [.int .i64 o.idx, .bool o.late, .bool o.lost, .int .i64 o.er.1, .int .u8 o.er.2.1, .int .i64 o.er.2.2, .int .i64 o.t.life, .int .i64 o.t.seq, .int .u8 o.t.op, .int .i64 o.t.err, ui, ub, .int .i64 o.t.room]
def opV (o : OP) (ui ub : Value) : Value := .agg ⟨opL o ui ub⟩
def C0 (m : MD) (o : OP) : Int × Int × Int := if o.late then o.er else ((Bp m).find? fun w => decide (w.1 = o.idx)).getD o.er
section
variable {h : Hp} {o : OP} {ui ub : Value} {r : Nat}
theorem DN (R : h.Row r 0 (opL o ui ub)) : load1 ⟨r, 0, none⟩ h = .ok (.int .i64 o.idx) h ∧ load1 ⟨r, 1, none⟩ h = .ok (.bool o.late) h ∧ load1 ⟨r, 2, none⟩ h = .ok (.bool o.lost) h ∧ loadN 3 ⟨r, 3, none⟩ h = .ok (CF o.er) h ∧ load1 ⟨r, 9, none⟩ h = .ok (.int .i64 o.t.err) h ∧ load1 ⟨r, 10, none⟩ h = .ok ui h ∧ load1 ⟨r, 11, none⟩ h = .ok ub h ∧ loadN 7 ⟨r, 6, none⟩ h = .ok (Dx o.t ui ub) h ∧ loadN 13 ⟨r, 0, none⟩ h = .ok (opV o ui ub) h :=
  ⟨R.load1 (off := 0) (by show 0 < 13; omega), R.load1 (off := 1) (by show 1 < 13; omega), R.load1 (off := 2) (by show 2 < 13; omega), R.loadN (off := 3) (n := 3) (by show 3 + 3 ≤ 13; omega), R.load1 (off := 9) (by show 9 < 13; omega), R.load1 (off := 10) (by show 10 < 13; omega), R.load1 (off := 11) (by show 11 < 13; omega), R.loadN (off := 6) (n := 7) (by show 6 + 7 ≤ 13; omega), R.loadN (off := 0) (n := 13) (by show 0 + 13 ≤ 13; omega)⟩
theorem YP (hi : Bn ui = true) (hb : Bn ub = true) : Bj (opL o ui ub) = true := by
  refine Fv fun x hx => ?_
  simp only [opL, List.mem_cons, List.not_mem_nil, or_false] at hx
  rcases hx with rfl | rfl | rfl | rfl | rfl | rfl | rfl | rfl | rfl | rfl | rfl | rfl | rfl <;> first | rfl | exact hi | exact hb
end
def erB : C := (AE (AC 14) (AS iLt .i64 (AB 13) (AB 12))
(AO (AB 14)
(As (Ab 1 (AE (AC 15) (A2 3 (AB 11) (AB 13))
(AE (AC 16) (AL 3 (AB 15))
(AE (AC 6) (Au 3 Dh)
(cDo (AM 3 (AB 6) (AB 16))
(AE (AC 17) (AD 0 (AB 6))
(AE (AC 18) (AH (AB 17))
(AE (AC 19) (AD 0 (AB 3))
(AE (AC 20) (AH (AB 19))
(AE (AC 21) (AS iEq .i64 (AB 18) (AB 20))
(AO (AB 21)
(AE (AC 22) (AL 3 (AB 6))
(cDo (AM 3 (AB 4) (AB 22))
Ak))
AQ)))))))))))
(AE (AC 23) (A9 .i64 (At .i64) (AB 13) (kV (.int .i64 1)))
(AE (AC 13) (AF (AB 23))
AQ)))
(A3 0)))
def erE : C := (AE (AC 24) (AD 3 (AB 3))
(AE (AC 25) (AL 3 (AB 24))
(cDo (AM 3 (AB 4) (AB 25))
Ak)))
def erH : C := (AE (AC 10) (AL 7 (AB 2))
(AE (AC 11) (AV 7 [(AB 10)])
(AE (AC 12) (Am (AB 11))
(AE (AC 13) (AF (kV (.int .i64 0)))
(Ab 0 (Ay (AE (AC 14) (AS iLt .i64 (AB 13) (AB 12))
(AO (AB 14)
(As (Ab 1 (AE (AC 15) (A2 3 (AB 11) (AB 13))
(AE (AC 16) (AL 3 (AB 15))
(AE (AC 6) (Au 3 Dh)
(cDo (AM 3 (AB 6) (AB 16))
(AE (AC 17) (AD 0 (AB 6))
(AE (AC 18) (AH (AB 17))
(AE (AC 19) (AD 0 (AB 3))
(AE (AC 20) (AH (AB 19))
(AE (AC 21) (AS iEq .i64 (AB 18) (AB 20))
(AO (AB 21)
(AE (AC 22) (AL 3 (AB 6))
(cDo (AM 3 (AB 4) (AB 22))
Ak))
AQ)))))))))))
(AE (AC 23) (A9 .i64 (At .i64) (AB 13) (kV (.int .i64 1)))
(AE (AC 13) (AF (AB 23))
AQ)))
(A3 0)))))))))
def Xe : C := (AE (AC 10) (AL 7 (AB 2))
(AE (AC 11) (AV 7 [(AB 10)])
(AE (AC 12) (Am (AB 11))
(AE (AC 13) (AF (kV (.int .i64 0)))
(Ab 0 (Ay erB))))))
theorem Po : erH = Xe := rfl
def d8h : C := (AE (AC 2) (Bd (AB 0))
(AE (AC 3) (Bd (AB 1))
(AE (AC 4) (Au 3 Dh)
(AE (AC 7) (AD 1 (AB 3))
(AE (AC 8) (AH (AB 7))
(AE (AC 9) (BF (AB 8))
(As (AO (AB 9)
erH
AQ)
erE)))))))
def d8 : C := d8h
theorem bD {n : Nat} {args : List Value} {h : Hp} (hl : Nat.ble (Bk args) 320 = true) : call AK (Nat.succ n) 8 args h = Bt [.cN (AB 4) 3] (d8 (call AK n) (Av e0 0 args) h) := by
  have hb : AK.get 8 = some b8 := by kernel_rfl
  rw [BN hb]
  have hd : b8 = ⟨[.cN (AB 4) 3], d8⟩ := by kernel_rfl
  rw [hd, BE hl]
theorem bJ : d8 = d8h := rfl
theorem Sa {F : CallF} {h0 h : Hp} (x0 : h0.Ext h) {k b3 b4 : Nat} {v ui ub : Value} {l : List (Int × Int × Int)} {o : OP} (E : h.Errs k v l) (hl : l.length ≤ 255) (R3 : h.Row b3 0 (opL o ui ub)) (R4 : h.Row b4 0 [.int .i64 0, .int .u8 0, .int .i64 0]) (h34 : b3 < b4) (h4 : h0.next ≤ b4) (h4' : 256 ≤ b4) {e : Env} (s3 : AB 3 e = pt b3) (s4 : AB 4 e = pt b4) (s11 : AB 11 e = v) (s12 : AB 12 e = .int .i64 (l.length : Int)) (s13 : AB 13 e = .int .i64 ((0 : Nat) : Int)) :
    ∃ e' h', h0.Ext h' ∧ AB 3 e' = pt b3 ∧ AB 4 e' = pt b4 ∧ h'.Row b3 0 (opL o ui ub) ∧ ((∃ w, l.find? (fun w => decide (w.1 = o.idx)) = some w ∧ Ay erB F e h = .ret e' h' ∧ h'.Row b4 0 (errL w)) ∨ (l.find? (fun w => decide (w.1 = o.idx)) = none ∧ Ay erB F e h = .exit 0 e' h' ∧ h'.Row b4 0 [.int .i64 0, .int .u8 0, .int .i64 0])) := by
  refine B8 (I := fun i e' h' => h.Ext h' ∧ AB 3 e' = pt b3 ∧ AB 4 e' = pt b4 ∧ AB 11 e' = v ∧ AB 12 e' = .int .i64 (l.length : Int) ∧ AB 13 e' = .int .i64 (i : Int) ∧ i ≤ l.length ∧ l.find? (fun w => decide (w.1 = o.idx)) = (l.drop i).find? (fun w => decide (w.1 = o.idx)))
    (Q := fun x => ∃ e' h', h0.Ext h' ∧ AB 3 e' = pt b3 ∧ AB 4 e' = pt b4 ∧ h'.Row b3 0 (opL o ui ub) ∧ ((∃ w, l.find? (fun w => decide (w.1 = o.idx)) = some w ∧ x = .ret e' h' ∧ h'.Row b4 0 (errL w)) ∨ (l.find? (fun w => decide (w.1 = o.idx)) = none ∧ x = .exit 0 e' h' ∧ h'.Row b4 0 [.int .i64 0, .int .u8 0, .int .i64 0]))) l.length (by omega) (fun i e' h' ⟨x, t3, t4, t11, t12, t13, hi, hf⟩ => ?_) ⟨.refl x0.wf, s3, s4, s11, s12, s13, Nat.zero_le _, rfl⟩
  have W := x0.wf
  have R3' := R3.ext W x
  have R4' := R4.ext W x
  by_cases hlt : i < l.length
  · have c1 := GC hlt
    obtain ⟨b, a1, a2⟩ := (E.ext W x).at hlt
    obtain ⟨h1, al, Z, x1, n1⟩ := Bq x.wf (n := 3) FD rfl
    have big := x.wf.big
    obtain ⟨h2, st, Z2, x2, n2, o2⟩ := Aw x1 Z (Nat.le_refl _) big (CF (l.getD i (0, 0, 0))) (n := 3) (off := 0) rfl (Nat.le_refl _) rfl
    rw [A5 (by rfl)] at Z2
    obtain ⟨z0, z1, z2, z3⟩ := Bm Z2
    have R3b := R3'.ext x.wf x2
    have R4b := R4'.ext x.wf x2
    obtain ⟨q0, _⟩ := DN R3b
    have hdr : l.drop i = l.getD i (0, 0, 0) :: l.drop (i + 1) := by
      rw [List.drop_eq_getElem_cons hlt, List.getD_eq_getElem?_getD, List.getElem?_eq_getElem hlt]; rfl
    rw [hdr, List.find?_cons] at hf
    by_cases hc : (l.getD i (0, 0, 0)).1 = o.idx
    · right
      rw [decide_eq_true hc] at hf
      have f1 : iEq (l.getD i (0, 0, 0)).1 o.idx = true := Cu hc
      obtain ⟨h3, st3, Z3, x3, n3, o3⟩ := Aw (x0.trans (x.trans x2)) R4b h4 h4' (CF (l.getD i (0, 0, 0))) (n := 3) (off := 0) rfl (Nat.le_refl _) rfl
      rw [A5 (by rfl)] at Z3
      have hrun : ∃ e2, erB F e' h' = .ret e2 h3 ∧ AB 3 e2 = pt b3 ∧ AB 4 e2 = pt b4 := by
        unfold erB
        simp only [sT, Nat.reduceLT, Nat.reduceEqDiff, if_true, if_false, reduceIte, AZ, AY, t13, t12, c1, BG, t11, a1, Aa, AU, a2, al, Ad, st, AJ, AN, Nat.zero_add, AP, AX, z0, t3, q0, f1, z3, t4, st3]
        exact ⟨_, rfl, by simp only [AG, Nat.reduceLT, Nat.reduceEqDiff, if_true, if_false, reduceIte]; exact t3, by simp only [AG, Nat.reduceLT, Nat.reduceEqDiff, if_true, if_false, reduceIte]; exact t4⟩
      obtain ⟨e2, q1, q2, q3⟩ := hrun
      rw [q1]
      exact ⟨rfl, e2, h3, x3, q2, q3, o3 _ _ _ (by omega) R3b, .inl ⟨_, hf, rfl, Z3⟩⟩
    · left
      rw [decide_eq_false hc] at hf
      have f1 : iEq (l.getD i (0, 0, 0)).1 o.idx = false := Cj hc
      have ad := CY (h := h2) (i := i) (by omega)
      have hrun : ∃ e2, erB F e' h' = .norm e2 h2 ∧ AB 3 e2 = pt b3 ∧ AB 4 e2 = pt b4 ∧ AB 11 e2 = v ∧ AB 12 e2 = .int .i64 (l.length : Int) ∧ AB 13 e2 = .int .i64 ((i + 1 : Nat) : Int) := by
        unfold erB
        simp only [sT, Nat.reduceLT, Nat.reduceEqDiff, if_true, if_false, reduceIte, AZ, AY, t13, t12, c1, BG, t11, a1, Aa, AU, a2, al, Ad, st, AJ, AN, Nat.zero_add, AP, AX, z0, t3, q0, f1, Bl, ad]
        exact ⟨_, rfl, by simp only [AG, Nat.reduceLT, Nat.reduceEqDiff, if_true, if_false, reduceIte]; exact t3, by simp only [AG, Nat.reduceLT, Nat.reduceEqDiff, if_true, if_false, reduceIte]; exact t4, by simp only [AG, Nat.reduceLT, Nat.reduceEqDiff, if_true, if_false, reduceIte]; exact t11, by simp only [AG, Nat.reduceLT, Nat.reduceEqDiff, if_true, if_false, reduceIte]; exact t12, by simp [AG]⟩
      obtain ⟨e2, q1, q2, q3, q4, q5, q6⟩ := hrun
      exact ⟨hlt, e2, h2, q1, x.trans x2, q2, q3, q4, q5, q6, hlt, hf⟩
  · right
    have c1 := EP (a := i) (b := l.length) (by omega)
    have hrun : ∃ e2, erB F e' h' = .exit 0 e2 h' ∧ AB 3 e2 = pt b3 ∧ AB 4 e2 = pt b4 := by
      unfold erB
      simp only [sT, Nat.reduceLT, Nat.reduceEqDiff, if_true, if_false, reduceIte, AZ, AY, t13, t12, c1]
      exact ⟨_, rfl, by simp only [AG, Nat.reduceLT, Nat.reduceEqDiff, if_true, if_false, reduceIte]; exact t3, by simp only [AG, Nat.reduceLT, Nat.reduceEqDiff, if_true, if_false, reduceIte]; exact t4⟩
    obtain ⟨e2, q1, q2, q3⟩ := hrun
    rw [q1]
    rw [List.drop_of_length_le (by omega)] at hf
    exact ⟨rfl, e2, h', x0.trans x, q2, q3, R3', .inr ⟨hf, rfl, R4'⟩⟩
theorem OI {n : Nat} {h : Hp} (W : h.Wf) {S : Nat → Prop} {m : MD} {um uw us ui ub : Value} {o : OP} (M : h.Md S m um uw us) (hr : RightP m) : ∃ h', call AK (n + 6) 8 [mendV m um uw us, opV o ui ub] h = .ok (CF (C0 m o)) h' ∧ h.Ext h' := by
  obtain ⟨h1, bx, R2, x1, n1⟩ := Bw W (mendV m um uw us)
  obtain ⟨h2, by_, R3, x2, n2⟩ := Bw x1.wf (opV o ui ub)
  have R3 : h2.Row h1.next 0 (opL o ui ub) := R3
  obtain ⟨h3, al4, R4, x3, n3⟩ := Bq x2.wf (n := 3) FD rfl
  have big := W.big
  have y3 := (x1.trans x2).trans x3
  have z1 := x1.next
  have z2 := x2.next
  obtain ⟨q0, q1, _⟩ := DN (R3.ext x2.wf x3)
  obtain ⟨_, _, _, _, _, _, _, l7⟩ := An ((R2.ext x1.wf x2).ext x2.wf x3)
  have hE : ∃ h' e', h.Ext h' ∧ h'.Row h2.next 0 (errL (C0 m o)) ∧ d8h (call AK (n + 5)) (Av e0 0 [mendV m um uw us, opV o ui ub]) h = .ret e' h' ∧ AB 4 e' = pt h2.next := by
    cases hL : o.late
    · rw [hL] at q1
      obtain ⟨h4, v, k4, x4, E⟩ := Lq (n := n) y3.wf (M.ext W y3) hr
      have hlen : (Bp m).length ≤ 255 := by
        unfold Bp
        split
        · have := FB m m.marks.length
          have := hr.n1
          omega
        · simp
      have pre : ∃ e1, Xe (call AK (n + 5)) (Env.set 9 (.bool true) (Env.set 8 (.bool false) (Env.set 7 (.pointer (some ⟨h1.next, 1, none⟩)) (Env.set 4 (pt h2.next) (Env.set 3 (pt h1.next) (Env.set 2 (pt h.next) (Env.set 1 (opV o ui ub) (Env.set 0 (mendV m um uw us) e0)))))))) h3 = Cb 0 (Ay erB (call AK (n + 5)) e1 h4) ∧ AB 3 e1 = pt h1.next ∧ AB 4 e1 = pt h2.next ∧ AB 11 e1 = v ∧ AB 12 e1 = .int .i64 ((Bp m).length : Int) ∧ AB 13 e1 = .int .i64 ((0 : Nat) : Int) := by
        unfold Xe
        simp only [Br, Bs, AG, Nat.reduceLT, Nat.reduceEqDiff, if_true, if_false, reduceIte, BM, Bz, Aa, AU, l7, Ap, Ae, Al, k4, Ai, E.len, BQ]
        exact ⟨_, rfl, by simp [AG], by simp [AG], by simp [AG], by simp [AG], by simp only [AG, Nat.reduceLT, Nat.reduceEqDiff, if_true, if_false, reduceIte]; rfl⟩
      obtain ⟨e1, p1, p3, p4, p11, p12, p13⟩ := pre
      have z3 := x4.next
      obtain ⟨e2, h5, y5, r3, r4, R5, r5⟩ := Sa (F := call AK (n + 5)) (y3.trans x4) E hlen ((R3.ext x2.wf x3).ext x3.wf x4) (R4.ext x3.wf x4) (by omega) (by omega) (by omega) p3 p4 p11 p12 p13
      rcases r5 with ⟨w, f1, f2, f3⟩ | ⟨f1, f2, f3⟩
      · have hp : C0 m o = w := by unfold C0; rw [hL]; simp only [Bool.false_eq_true, if_false]; rw [f1]; rfl
        rw [hp]
        refine ⟨h5, e2, y5, f3, ?_, r4⟩
        unfold d8h
        rw [Po]
        simp only [Ac, Af, Nat.succ_eq_add_one, Nat.zero_add, Nat.reduceAdd, Br, Bh, Be, Bs, B3, AG, Nat.reduceLT, Nat.reduceEqDiff, if_true, if_false, reduceIte, bx, by_, al4, AJ, AN, AP, AX, q1, BP, BO, Bool.not_false, p1, f2, C2, Ds]
      · have hp : C0 m o = o.er := by unfold C0; rw [hL]; simp only [Bool.false_eq_true, if_false]; rw [f1]; rfl
        rw [hp]
        obtain ⟨_, _, _, v3, _⟩ := DN R5
        obtain ⟨h6, st, Z6, y6, n6, o6⟩ := Aw y5 f3 (by omega) (by omega) (CF o.er) (n := 3) (off := 0) rfl (Nat.le_refl _) rfl
        rw [A5 (by rfl)] at Z6
        have fin : ∃ e3, erE (call AK (n + 5)) e2 h5 = .ret e3 h6 ∧ AB 4 e3 = pt h2.next := by
          unfold erE
          simp only [sT, Nat.reduceLT, Nat.reduceEqDiff, if_true, if_false, reduceIte, r3, r4, AJ, AN, Nat.zero_add, Aa, AU, v3, Ad, st]
          exact ⟨_, rfl, by simp only [AG, Nat.reduceLT, Nat.reduceEqDiff, if_true, if_false, reduceIte]; exact r4⟩
        obtain ⟨e3, w1, w2⟩ := fin
        refine ⟨h6, e3, y6, Z6, ?_, w2⟩
        unfold d8h
        rw [Po]
        simp only [Ac, Af, Nat.succ_eq_add_one, Nat.zero_add, Nat.reduceAdd, Br, Bh, Be, Bs, B3, AG, Nat.reduceLT, Nat.reduceEqDiff, if_true, if_false, reduceIte, bx, by_, al4, AJ, AN, AP, AX, q1, BP, BO, Bool.not_false, p1, f2, BJ, BB, w1]
    · rw [hL] at q1
      have hp : C0 m o = o.er := by unfold C0; rw [hL]; rfl
      rw [hp]
      obtain ⟨_, _, _, v3, _⟩ := DN (R3.ext x2.wf x3)
      obtain ⟨h6, st, Z6, y6, n6, o6⟩ := Aw y3 R4 (by omega) (by omega) (CF o.er) (n := 3) (off := 0) rfl (Nat.le_refl _) rfl
      rw [A5 (by rfl)] at Z6
      have fin : ∃ e3, d8h (call AK (n + 5)) (Av e0 0 [mendV m um uw us, opV o ui ub]) h = .ret e3 h6 ∧ AB 4 e3 = pt h2.next := by
        unfold d8h erE
        simp only [Ac, Af, Nat.succ_eq_add_one, Nat.zero_add, Nat.reduceAdd, sT, Nat.reduceLT, Nat.reduceEqDiff, if_true, if_false, reduceIte, bx, by_, al4, AJ, AN, AP, AX, q1, BP, BO, Bool.not_true, Aa, AU, v3, Ad, st]
        exact ⟨_, rfl, by simp [AG]⟩
      obtain ⟨e3, w1, w2⟩ := fin
      exact ⟨h6, e3, y6, Z6, w1, w2⟩
  obtain ⟨h', e', y, Z, q, s4⟩ := hE
  refine ⟨h', ?_, y⟩
  rw [bD rfl, bJ, q, Ao, Da (v := CF (C0 m o)) (h' := h') (by rw [s4, AU]; exact (Bm Z).2.2.2)]
end
end Go.Proofs.Ythcfmklkbakkpaa
